/- StorePlays: for every input the law returns true: what a store tells of any acts, one behind the other, which pages it has, and which super counts on its disk. No condition. -/
import Derived.Test.YtchcmklelmlbgaaGreatStorePlaysI
import Derived.Lib.MinMax
namespace Go.Proofs.YtchcmklelmlbgaaGreat.StorePlays
open Go.ChangeShapes Go.WideShapes Go.ChangeAt Go.RowKit Go.Joins
open Go.ChangeMaps (open_string shut_string)
open Go.Proofs.YtchcmklelmlbgaaGreat.Sto
open Go.Proofs.YtchcmklelmlbgaaGreat.Sup (Gb gv gcell gthree srightF UpN up_new srightF_new newN_any)
open Go.Proofs.YtchcmklelmlbgaaGreat.Sec (symbolic_any)
open Go.Proofs.YtchcmklelmlbgaaGreat.Geom (lo hi pagesOf right)
open Go.Proofs.YtchcmklelmlbgaaGreat.Disk (St DAt new)
set_option linter.unusedVariables false
set_option maxRecDepth 100000
set_option maxHeartbeats 4000000 in
theorem walk (ga gd gl : Int) (A : Option Addr) (l : List Ac) (c : Nat) (k : Int) (w : World) (ha0 : -9223372036854775808 ≤ ga) (ha1 : ga ≤ 9223372036854775807) (hd0 : -9223372036854775808 ≤ gd) (hd1 : gd ≤ 9223372036854775807) (hg0 : -9223372036854775808 ≤ gl) (hg1 : gl ≤ 9223372036854775807) (hr : Acs w (fun j => j < w.heap.size) A l) (hlc : l.length ≤ c) (hcm : c ≤ maxLen) (hk0 : -9223372036854775808 ≤ k) (hk1 : k ≤ 9223372036854775807) :
    Calls Tryz.prog 5 #[gv ga gd gl, .slice A l.length c, .int .i64 k] w fun e w' => e = .returned (.bool true) ∧ Below w.heap.size w w' := by
  have hG : Gb ga gd gl := ⟨ha0, ha1, hd0, hd1, hg0, hg1⟩
  clear hlc hcm ha0 ha1 hd0 hd1 hg0 hg1
  obtain ⟨wA, hwA⟩ : ∃ q, q = w.alloc (.cells #[.int .i64 ga, .int .i64 gd, .int .i64 gl] 23) := ⟨_, rfl⟩
  have F := Lib.hid (show Blk wA w.heap.size (gcell ga gd gl) from by rw [hwA]; exact Blk.new w (gcell ga gd gl) 23)
  have hltF := F.out.lt
  have b0 : Below w.heap.size w wA := by rw [hwA]; exact b1alloc w _
  have HWA := Lib.hid hwA
  obtain ⟨m0, m1, m2⟩ := gthree F.out
  have HL := Lib.hid (slight_any _ A l c ga gd gl wA hG (hr.on b0))
  have hal := Lib.hid (fun W => alive_any W)
  have HG := Lib.hid hG
  have HR := Lib.hid hr
  have HS := Lib.hid (fun W => Geom.rsize_any ga gd gl W hG.a0 hG.a1 hG.d0 hG.d1 hG.g0 hG.g1)
  have HRi := Lib.hid (fun W => Geom.rright_any ga gd gl W hG.a0 hG.a1 hG.d0 hG.d1 hG.g0 hG.g1)
  have hsb := Geom.size_bd ga gd gl
  obtain ⟨sz, hsz⟩ : ∃ z, z = Geom.sizeOf ga gd gl := ⟨_, rfl⟩
  rw [← hsz] at HS hsb
  obtain ⟨n, hn⟩ : ∃ n : Nat, (n : Int) = max sz 1 := ⟨(max sz 1).toNat, by omega⟩
  have HNw := Lib.hid (fun W => newN_any n (max sz 1) hn.symm (by omega) (by omega) W)
  have Hsz := Lib.hid hsz
  have Hn := Lib.hid hn
  have Hkb := Lib.hid (And.intro hk0 hk1)
  clear hwA hk0 hk1 hG hr hsz hn hsb
  go_enter Tryz.func5, Tryz.ntmps5
  go_upto_region 1 with (fail)
  rw [← HWA.out]
  go_upto_if 26 with (go_at_call 8; refine HL.out.mono ?_; rintro e w1 ⟨⟨B, rfl, hB⟩, b1⟩)
  have HB := Lib.hid hB
  have HB1 := Lib.hid b1
  have M1 := F.out.on b1
  clear hB m0 m1 m2 b1
  cases B with
  | false =>
    go_wp2_with (go_at_call 10; refine (hal.out _).mono ?_; rintro e w9 ⟨rfl, b9⟩)
    go_ret
    exact ⟨rfl, bt b0 (bt HB1.out b9)⟩
  | true =>
  have HSL := Lib.hid (HB.out rfl)
  obtain ⟨m0, m1, m2⟩ := gthree M1
  clear HB M1
  cases hri : right ga gd gl with
  | false =>
    rw [hri] at HRi
    have HF1 := Lib.hid (fun W g fp gS (h : DAt W g fp (new n)) => show Calls Tryz.prog 14 #[.pointer (some ⟨g, 0, none⟩), .pointer (some ⟨gS, 0, none⟩), gv ga gd gl] W fun e w' => e = .returned (.tuple #[.pointer none, .int .i64 2]) ∧ Below W.heap.size W w' from by
      have e2 : srightF (new n) ga gd gl = 2 := by unfold srightF; rw [if_neg (by rw [hri]; simp)]
      have h := format_wrong g fp (new n) gS ga gd gl W HG.out h (by rw [e2]; decide)
      rw [e2] at h
      exact h)
    have tF1 : True := trivial
    clear hri HSL
    go_wp2_with (first
      | (go_at_call 12; refine (HS.out _).mono ?_; rintro e w3 ⟨rfl, b3⟩; have c3 := bt HB1.out b3)
      | (go_at_call 11; refine (HNw.out _).mono ?_; rintro e w4 ⟨g, fp, rfl, hD, hfp, b4⟩; have c4 := bt c3 b4)
      | (go_at_call 13; refine (symbolic_any _).mono ?_; rintro e w5 ⟨gS, bS, rfl, hS, hgS, hbS, b5⟩; have c5 := bt c4 b5; have H5 := Here.start hD hfp b4 hS hgS hbS b5; have Hown := Lib.hid (show ∀ j ∈ bS :: gS :: fp, wA.heap.size ≤ j from fun j hj => by (have hs1 := c4.size; have hs3 := c3.size; simp only [List.mem_cons] at hj; rcases hj with e | e | e; (omega); (omega); (exact Nat.le_trans hs3 (hfp j e)))); clear m0 m1 m2; obtain ⟨m0, m1, m2⟩ := gthree (F.out.on c5))
      | (go_at_call 14; (have _t := tF1); refine (HF1.out _ g fp gS H5.both.disk).mono ?_; clear _t tF1; rintro e w6 ⟨rfl, b6⟩; have c6 := bt c5 b6; clear m0 m1 m2; obtain ⟨m0, m1, m2⟩ := gthree (F.out.on c6))
      | (go_at_call 14; refine (formatD_nil _ ga gd gl _).mono ?_; rintro e w7 ⟨rfl, b7⟩; have c7 := bt c6 b7; clear m0 m1 m2; obtain ⟨m0, m1, m2⟩ := gthree (F.out.on c7))
      | (go_at_call 17; refine (openS_nil _ ga gd gl _).mono ?_; rintro e w8 ⟨rfl, b8⟩; have c8 := bt c7 b8; clear m0 m1 m2; obtain ⟨m0, m1, m2⟩ := gthree (F.out.on c8))
      | (go_at_call 9; refine (HRi.out _).mono ?_; rintro e w9 ⟨rfl, b9⟩; have c9 := bt c8 b9)
      | (go_at_call 10; refine (hal.out _).mono ?_; rintro e w10 ⟨rfl, b10⟩))
    go_ret
    exact ⟨rfl, bt b0 (bt c9 b10)⟩
  | true =>
  rw [hri] at HRi
  have hy := Geom.right_yes hri
  have hsg := Sup.size_ge hri
  have hn' : (n : Int) = Geom.sizeOf ga gd gl := by rw [Hn.out, Hsz.out]; omega
  have hszb := Geom.size_bd ga gd gl
  obtain ⟨P, hP⟩ : ∃ P : Nat, (P : Int) = pagesOf ga gd gl := ⟨(pagesOf ga gd gl).toNat, by have := Geom.pagesOf_bd ga gd gl; omega⟩
  have hP0 : 0 < P := by have := pages_pos hri; omega
  have hPb := Geom.pagesOf_bd ga gd gl
  have HFm := Lib.hid (fun W g fp gS bS (h : Both W g fp (new n) gS bS []) hb ho => format_law (w0 := wA) (t := 0) (m := P) HG.out h (up_new n) hri hn' hP (by simp) (by simp [new, Disk.St.sz]) (by omega) hb ho)
  have HNr := Lib.hid (fun W => rnew_any ga gd gl W P HG.out hP.symm (by omega) hP0)
  obtain ⟨y1, hy1⟩ : ∃ y, y = RS.new P := ⟨_, rfl⟩
  rw [show y0 P = y1 from hy1.symm] at HNr
  rw [← hy1] at HFm
  have HGr := Lib.hid (And.intro hri hn')
  have tF1 : True := trivial
  clear hy1 hri hy hsg hn' hszb hP hP0 hPb
  go_upto_region 12 with (first
      | (go_at_call 12; refine (HS.out _).mono ?_; rintro e w3 ⟨rfl, b3⟩; have c3 := bt HB1.out b3)
      | (go_at_call 11; refine (HNw.out _).mono ?_; rintro e w4 ⟨g, fp, rfl, hD, hfp, b4⟩; have c4 := bt c3 b4)
      | (go_at_call 13; refine (symbolic_any _).mono ?_; rintro e w5 ⟨gS, bS, rfl, hS, hgS, hbS, b5⟩; have c5 := bt c4 b5; have H5 := Here.start hD hfp b4 hS hgS hbS b5; have Hown := Lib.hid (show ∀ j ∈ bS :: gS :: fp, wA.heap.size ≤ j from fun j hj => by (have hs1 := c4.size; have hs3 := c3.size; simp only [List.mem_cons] at hj; rcases hj with e | e | e; (omega); (omega); (exact Nat.le_trans hs3 (hfp j e)))); clear m0 m1 m2; obtain ⟨m0, m1, m2⟩ := gthree (F.out.on c5))
      | (go_at_call 14; (have _t := tF1); refine (HFm.out _ g fp gS bS H5.both c5 Hown.out).mono ?_; clear _t tF1; rintro e w6 ⟨X, R, L, fp6, rfl, H6, _, _, _, _, _⟩; clear m0 m1 m2; obtain ⟨m0, m1, m2⟩ := gthree (F.out.below H6.bel hltF))
      | (go_at_call 14; refine (formatD_nil _ ga gd gl _).mono ?_; rintro e w7 ⟨rfl, b7⟩; have H7 := H6.on b7; clear m0 m1 m2; obtain ⟨m0, m1, m2⟩ := gthree (F.out.below H7.bel hltF))
      | (go_at_call 17; refine (openS_nil _ ga gd gl _).mono ?_; rintro e w8 ⟨rfl, b8⟩; have H8 := H7.on b8; clear m0 m1 m2; obtain ⟨m0, m1, m2⟩ := gthree (F.out.below H8.bel hltF))
      | (go_at_call 9; refine (HRi.out _).mono ?_; rintro e w9 ⟨rfl, b9⟩; have H9 := H8.on b9; clear m0 m1 m2; obtain ⟨m0, m1, m2⟩ := gthree (F.out.below H9.bel hltF)))
  go_upto_region 13 with (go_at_call 23; refine (HNr.out _).mono ?_; rintro e w10 ⟨RA, cA, rfl, hRA, hRw, b10⟩; have H10 := H9.on b10)
  obtain ⟨S, hS0⟩ : ∃ S, S = w10.heap.size := ⟨_, rfl⟩
  obtain ⟨wB, hwB⟩ : ∃ q, q = w10.alloc (.cells #[.int .i64 ga, .int .i64 gd, .int .i64 gl, .slice (some ⟨RA, 0, none⟩) y1.pages.length cA, .int .u64 (y1.gen.toNat : Int), .int .u64 (y1.life.toNat : Int), .int .i64 y1.base, .int .u64 (y1.began.toNat : Int), .int .i64 (y1.seq : Int), .bool y1.due] 56) := ⟨_, rfl⟩
  have HPL := Lib.hid (show PL wA wB X R L g fp6 gS bS ga gd gl n y1 (0 + 1) S y1 (some ⟨RA, 0, none⟩) cA from by
    have bB : Below w10.heap.size w10 wB := by rw [hwB]; exact b1alloc w10 _
    refine ⟨H10.on bB, by rw [hwB, hS0]; exact Blk.new w10 (rcl ga gd gl y1 (some ⟨RA, 0, none⟩) cA) 56, (hRw.imp (fun j hj o => ⟨H9.offNew o, by omega⟩)).on bB, by rw [hS0]; exact H10.offNew (Nat.le_refl _), by rw [hS0]; exact H10.bel.size⟩)
  rw [← hS0, ← hwB]
  clear hwB hS0 H6 H7 H8 H9 H10 hRw b10 b7 b8 b9 c3 c4 c5 b3 b4 b5 H5 Hown hfp hD hS hgS hbS m0 m1 m2
  obtain ⟨z0, z1, z2, z3, z4, z5, z6, z7, z8, z9⟩ := ten HPL.out.blk
  go_upto_region 15 with (go_at_call 24; refine (HPL.out.like HG.out HGr.out.1 HGr.out.2 (by omega)).mono ?_; rintro e w11 ⟨rfl, b11⟩; have H11 := Lib.hid (HPL.out.on b11))
  clear HPL b11 z0 z1 z2 z3 z4 z5 z6 z7 z8 z9
  go_wp2_with fail
  go_loopw [10, 17] (fun xv i wr => ∃ (q X2 R2 L2 : Nat) (fp2 : List Nat) (y : RS) (A2 : Option Addr) (c2 : Nat), q ≤ l.length ∧ i = .int .i64 (q : Int) ∧ xv = .pointer (some ⟨X2, 0, none⟩) ∧ PL wA wr X2 R2 L2 g fp2 gS bS ga gd gl n y (q + 1) S y A2 c2) (fun _ i _ => l.length - (intOf i).toNat)
  case atStart => exact ⟨0, X, R, L, fp6, y1, _, _, by omega, rfl, rfl, H11.out⟩
  case round =>
    obtain ⟨q, X2, R2, L2, fp2, y, A2, c2, hq, rfl, rfl, hPL⟩ := hrel
    obtain ⟨wo, hwo⟩ : ∃ wo, wo = wr := ⟨_, rfl⟩
    subst hwo
    have HPL := Lib.hid hPL
    have h20 := HSL.out.1
    clear hPL
    by_cases hlt : q < l.length
    · have hkn : (q : Int) < (l.length : Int) := by omega
      obtain ⟨bA, off, Ai, ci, rfl, hbA, hQA, hx⟩ := HR.out.get hlt
      have HX := Lib.hid (fun W (bW : Below w.heap.size w W) => show W.cell? ⟨bA, off + q * 3, none⟩ = some (.int .i64 l[q].kind) ∧ Wal.TxAt W (fun j => j < w.heap.size) bA (off + q * 3 + 1) l[q].tx Ai ci from ⟨(World.cell?_of_block (bW.block _ hbA)).trans hx.c, hx.t.keep (Keep.of_below bW []) (fun j _ _ => by simp) hbA hQA⟩)
      have HLt := Lib.hid (HSL.out.2.2 q hlt)
      obtain ⟨x, hx0⟩ : ∃ x, x = l[q] := ⟨_, rfl⟩
      rw [← hx0] at HX HLt
      have Hx := Lib.hid (HX.out wo (bt b0 HPL.out.sh.bel))
      clear hx hx0
      have y0' := Hx.out.1
      have HbA := Lib.hid (And.intro (show bA < wo.heap.size from Nat.lt_of_lt_of_le hbA (bt b0 HPL.out.sh.bel).size) hQA)
      obtain ⟨kd, hkd⟩ : ∃ kd, kd = x.kind := ⟨_, rfl⟩
      rw [← hkd] at y0'
      have Hlt := Lib.hid hlt
      have Hkd := Lib.hid hkd
      clear hkd hbA hQA
      by_cases hk0 : kd = 0
      · subst hk0
        have HC := Lib.hid (fun W (bW : Below wo.heap.size wo W) => HPL.out.rcommit HG.out HGr.out.1 (by omega) Ai x.tx.pages ci x.tx.gen (Hx.out.2.pgs.imp (fun j hj hq => Nat.lt_of_lt_of_le hq b0.size)) (by have := (HLt.out.pages x.tx (by simp)).1; omega) W bW)
        obtain ⟨yn, hyn⟩ : ∃ yn, yn = y.commit ga gd gl x.tx.pages x.tx.gen := ⟨_, rfl⟩
        rw [← hyn] at HC
        obtain ⟨y2, er⟩ := yn
        simp only at HC
        have Hyn := Lib.hid hyn
        clear hyn
        go_upto_region 29 with (fail)
        have cz : Below wo.heap.size wo wo.drew := (Below.refl _ _).drew
        have Hbd := Lib.hid (show bA < wA.heap.size ∧ wA.heap.size ≤ wo.heap.size from ⟨Nat.lt_of_lt_of_le HbA.out.2 b0.size, HPL.out.sh.bel.size⟩)
        have HKS := Lib.hid (fun W (bW : Below wo.heap.size wo W) => show (fun W : World => W.cell? ⟨S, 0, none⟩ = some (.int .i64 ga) ∧ W.cell? ⟨S, 1, none⟩ = some (.int .i64 gd) ∧ W.cell? ⟨S, 2, none⟩ = some (.int .i64 gl) ∧ W.cell? ⟨S, 3, none⟩ = some (.slice A2 y.pages.length c2) ∧ W.cell? ⟨S, 4, none⟩ = some (.int .u64 (y.gen.toNat : Int)) ∧ W.cell? ⟨S, 5, none⟩ = some (.int .u64 (y.life.toNat : Int)) ∧ W.cell? ⟨S, 6, none⟩ = some (.int .i64 y.base) ∧ W.cell? ⟨S, 7, none⟩ = some (.int .u64 (y.began.toNat : Int)) ∧ W.cell? ⟨S, 8, none⟩ = some (.int .i64 (y.seq : Int)) ∧ W.cell? ⟨S, 9, none⟩ = some (.bool y.due) ∧ W.cell? ⟨bA, off + q * 3 + 1, none⟩ = some (.slice Ai x.tx.pages.length ci) ∧ W.cell? ⟨bA, off + q * 3 + 1 + 1, none⟩ = some (.int .u64 (x.tx.gen.toNat : Int))) W from by
          obtain ⟨z0, z1, z2, z3, z4, z5, z6, z7, z8, z9⟩ := ten (HPL.out.blk.on bW)
          exact ⟨z0, z1, z2, z3, z4, z5, z6, z7, z8, z9, (World.cell?_of_block (bW.block _ HbA.out.1)).trans Hx.out.2.c0, (World.cell?_of_block (bW.block _ HbA.out.1)).trans Hx.out.2.c1⟩)
        have HKT := Lib.hid (fun W (bW : Below wo.heap.size wo W) T (hT : wo.heap.size ≤ T) v0 v1 v2 v3 v4 v5 v6 v7 v8 v9 => show (fun W : World => W.cell? ⟨S, 0, none⟩ = some (.int .i64 ga) ∧ W.cell? ⟨S, 1, none⟩ = some (.int .i64 gd) ∧ W.cell? ⟨S, 2, none⟩ = some (.int .i64 gl) ∧ W.cell? ⟨S, 3, none⟩ = some (.slice A2 y.pages.length c2) ∧ W.cell? ⟨S, 4, none⟩ = some (.int .u64 (y.gen.toNat : Int)) ∧ W.cell? ⟨S, 5, none⟩ = some (.int .u64 (y.life.toNat : Int)) ∧ W.cell? ⟨S, 6, none⟩ = some (.int .i64 y.base) ∧ W.cell? ⟨S, 7, none⟩ = some (.int .u64 (y.began.toNat : Int)) ∧ W.cell? ⟨S, 8, none⟩ = some (.int .i64 (y.seq : Int)) ∧ W.cell? ⟨S, 9, none⟩ = some (.bool y.due) ∧ W.cell? ⟨bA, off + q * 3 + 1, none⟩ = some (.slice Ai x.tx.pages.length ci) ∧ W.cell? ⟨bA, off + q * 3 + 1 + 1, none⟩ = some (.int .u64 (x.tx.gen.toNat : Int))) (set10 W T v0 v1 v2 v3 v4 v5 v6 v7 v8 v9) from by
          have k10 := set10_keep (fp := [T]) (Keep.refl _ W) (X := T) (by simp) v0 v1 v2 v3 v4 v5 v6 v7 v8 v9
          obtain ⟨z0, z1, z2, z3, z4, z5, z6, z7, z8, z9⟩ := ten ((HPL.out.blk.on bW).keepK k10 (by have := HPL.out.blk.lt; simp; omega))
          have hb2 : bA < W.heap.size ∧ bA ∉ [T] := ⟨Nat.lt_of_lt_of_le HbA.out.1 bW.size, by have := HbA.out.1; simp; omega⟩
          exact ⟨z0, z1, z2, z3, z4, z5, z6, z7, z8, z9, ((World.cell?_of_block (k10.block hb2.1 hb2.2)).trans (World.cell?_of_block (bW.block _ HbA.out.1))).trans Hx.out.2.c0, ((World.cell?_of_block (k10.block hb2.1 hb2.2)).trans (World.cell?_of_block (bW.block _ HbA.out.1))).trans Hx.out.2.c1⟩)
        have hS0 := HKS.out _ cz
        have hS1 := HKS.out ((wo.alloc (.cells #[.int .i64 0, .int .i64 0, .int .i64 0, .slice none 0 0, .int .u64 0, .int .u64 0, .int .i64 0, .int .u64 0, .int .i64 0, .bool false] 56)).drew) (b1alloc wo _).drew
        go_region_held3 (fun W : World => W.cell? ⟨S, 0, none⟩ = some (.int .i64 ga) ∧ W.cell? ⟨S, 1, none⟩ = some (.int .i64 gd) ∧ W.cell? ⟨S, 2, none⟩ = some (.int .i64 gl) ∧ W.cell? ⟨S, 3, none⟩ = some (.slice A2 y.pages.length c2) ∧ W.cell? ⟨S, 4, none⟩ = some (.int .u64 (y.gen.toNat : Int)) ∧ W.cell? ⟨S, 5, none⟩ = some (.int .u64 (y.life.toNat : Int)) ∧ W.cell? ⟨S, 6, none⟩ = some (.int .i64 y.base) ∧ W.cell? ⟨S, 7, none⟩ = some (.int .u64 (y.began.toNat : Int)) ∧ W.cell? ⟨S, 8, none⟩ = some (.int .i64 (y.seq : Int)) ∧ W.cell? ⟨S, 9, none⟩ = some (.bool y.due) ∧ W.cell? ⟨bA, off + q * 3 + 1, none⟩ = some (.slice Ai x.tx.pages.length ci) ∧ W.cell? ⟨bA, off + q * 3 + 1 + 1, none⟩ = some (.int .u64 (x.tx.gen.toNat : Int))) (first | with_reducible exact hS0 | with_reducible exact hS1 | with_reducible exact hS3 | with_reducible exact hS4 | with_reducible exact hS5 | with_reducible exact hS6) ((go_at_call 25; refine (HC.out _ (by first | exact cz | exact (b1alloc wo _).drew)).mono ?_; rintro e w3 ⟨A3, c3, rfl, h3, b3⟩; have b6 : Below wo.heap.size wo w3 := (by first | exact bt cz b3 | exact bt (b1alloc wo _).drew b3); have hZ2 := Blk.new w3 [.int .i64 0, .int .i64 0, .int .i64 0, .slice none 0 0, .int .u64 0, .int .u64 0, .int .i64 0, .int .u64 0, .int .i64 0, .bool false] 56; have fr2 := hZ2.free; have lr2 := hZ2.lt; obtain ⟨r0, r1, r2, r3, r4, r5, r6, r7, r8, r9⟩ := ten hZ2; (first | (have hZ1 := (show Blk w3 wo.heap.size [.int .i64 0, .int .i64 0, .int .i64 0, .slice none 0 0, .int .u64 0, .int .u64 0, .int .i64 0, .int .u64 0, .int .i64 0, .bool false] from (show Blk ((wo.alloc (.cells #[.int .i64 0, .int .i64 0, .int .i64 0, .slice none 0 0, .int .u64 0, .int .u64 0, .int .i64 0, .int .u64 0, .int .i64 0, .bool false] 56)).drew) wo.heap.size _ from Blk.new wo [.int .i64 0, .int .i64 0, .int .i64 0, .slice none 0 0, .int .u64 0, .int .u64 0, .int .i64 0, .int .u64 0, .int .i64 0, .bool false] 56).on b3); have HZ1 := Lib.hid hZ1; have fr1 := hZ1.free; have lr1 := hZ1.lt; obtain ⟨s0, s1, s2, s3, s4, s5, s6, s7, s8, s9⟩ := ten hZ1; clear hZ1) | skip); have HZ2 := Lib.hid hZ2; have H3 := Lib.hid h3; clear hZ2 h3; have hS3 := HKS.out _ b6; have hS4 := HKS.out _ (bt b6 (b1alloc w3 (.cells #[.int .i64 0, .int .i64 0, .int .i64 0, .slice none 0 0, .int .u64 0, .int .u64 0, .int .i64 0, .int .u64 0, .int .i64 0, .bool false] 56))); have hS5 := (show (fun W : World => W.cell? ⟨S, 0, none⟩ = some (.int .i64 ga) ∧ W.cell? ⟨S, 1, none⟩ = some (.int .i64 gd) ∧ W.cell? ⟨S, 2, none⟩ = some (.int .i64 gl) ∧ W.cell? ⟨S, 3, none⟩ = some (.slice A2 y.pages.length c2) ∧ W.cell? ⟨S, 4, none⟩ = some (.int .u64 (y.gen.toNat : Int)) ∧ W.cell? ⟨S, 5, none⟩ = some (.int .u64 (y.life.toNat : Int)) ∧ W.cell? ⟨S, 6, none⟩ = some (.int .i64 y.base) ∧ W.cell? ⟨S, 7, none⟩ = some (.int .u64 (y.began.toNat : Int)) ∧ W.cell? ⟨S, 8, none⟩ = some (.int .i64 (y.seq : Int)) ∧ W.cell? ⟨S, 9, none⟩ = some (.bool y.due) ∧ W.cell? ⟨bA, off + q * 3 + 1, none⟩ = some (.slice Ai x.tx.pages.length ci) ∧ W.cell? ⟨bA, off + q * 3 + 1 + 1, none⟩ = some (.int .u64 (x.tx.gen.toNat : Int))) (((((((((((w3).setCell ⟨wo.heap.size, 0, none⟩ (.int .i64 ga)).setCell ⟨wo.heap.size, 1, none⟩ (.int .i64 gd)).setCell ⟨wo.heap.size, 2, none⟩ (.int .i64 gl)).setCell ⟨wo.heap.size, 3, none⟩ (.slice A3 y2.pages.length c3)).setCell ⟨wo.heap.size, 4, none⟩ (.int .u64 (y2.gen.toNat : Int))).setCell ⟨wo.heap.size, 5, none⟩ (.int .u64 (y2.life.toNat : Int))).setCell ⟨wo.heap.size, 6, none⟩ (.int .i64 y2.base)).setCell ⟨wo.heap.size, 7, none⟩ (.int .u64 (y2.began.toNat : Int))).setCell ⟨wo.heap.size, 8, none⟩ (.int .i64 (y2.seq : Int))).setCell ⟨wo.heap.size, 9, none⟩ (.bool y2.due)) from HKT.out w3 b6 wo.heap.size (Nat.le_refl _) (.int .i64 ga) (.int .i64 gd) (.int .i64 gl) (.slice A3 y2.pages.length c3) (.int .u64 (y2.gen.toNat : Int)) (.int .u64 (y2.life.toNat : Int)) (.int .i64 y2.base) (.int .u64 (y2.began.toNat : Int)) (.int .i64 (y2.seq : Int)) (.bool y2.due)); have hS6 := HKS.out _ (bt b6 (b1alloc w3 (.cells #[.int .i64 ga, .int .i64 gd, .int .i64 gl, .slice A3 y2.pages.length c3, .int .u64 (y2.gen.toNat : Int), .int .u64 (y2.life.toNat : Int), .int .i64 y2.base, .int .u64 (y2.began.toNat : Int), .int .i64 (y2.seq : Int), .bool y2.due] 56)))))
        all_goals first
          | (have f4 := set10_blk HZ1.out (.int .i64 ga) (.int .i64 gd) (.int .i64 gl) (.slice A3 y2.pages.length c3) (.int .u64 (y2.gen.toNat : Int)) (.int .u64 (y2.life.toNat : Int)) (.int .i64 y2.base) (.int .u64 (y2.began.toNat : Int)) (.int .i64 (y2.seq : Int)) (.bool y2.due)
             have k4 := set10_keep (fp := [wo.heap.size]) (Keep.refl _ w3) (X := wo.heap.size) (by simp) (.int .i64 ga) (.int .i64 gd) (.int .i64 gl) (.slice A3 y2.pages.length c3) (.int .u64 (y2.gen.toNat : Int)) (.int .u64 (y2.life.toNat : Int)) (.int .i64 y2.base) (.int .u64 (y2.began.toNat : Int)) (.int .i64 (y2.seq : Int)) (.bool y2.due)
             have bW := set10_below b6 (Nat.le_refl _) (.int .i64 ga) (.int .i64 gd) (.int .i64 gl) (.slice A3 y2.pages.length c3) (.int .u64 (y2.gen.toNat : Int)) (.int .u64 (y2.life.toNat : Int)) (.int .i64 y2.base) (.int .u64 (y2.began.toNat : Int)) (.int .i64 (y2.seq : Int)) (.bool y2.due)
             have rW := (H3.out.keep k4 (fun j hj _ e => by rw [List.mem_singleton] at e; have := hj.2; simp at this; omega)).imp (Q' := fun j => Off X2 R2 L2 bS gS fp2 j ∧ j ≠ S) (fun j _ o => o.1)
             obtain ⟨w4, hw4⟩ : ∃ W, W = ((((((((((w3).setCell ⟨wo.heap.size, 0, none⟩ (.int .i64 ga)).setCell ⟨wo.heap.size, 1, none⟩ (.int .i64 gd)).setCell ⟨wo.heap.size, 2, none⟩ (.int .i64 gl)).setCell ⟨wo.heap.size, 3, none⟩ (.slice A3 y2.pages.length c3)).setCell ⟨wo.heap.size, 4, none⟩ (.int .u64 (y2.gen.toNat : Int))).setCell ⟨wo.heap.size, 5, none⟩ (.int .u64 (y2.life.toNat : Int))).setCell ⟨wo.heap.size, 6, none⟩ (.int .i64 y2.base)).setCell ⟨wo.heap.size, 7, none⟩ (.int .u64 (y2.began.toNat : Int))).setCell ⟨wo.heap.size, 8, none⟩ (.int .i64 (y2.seq : Int))).setCell ⟨wo.heap.size, 9, none⟩ (.bool y2.due) := ⟨_, rfl⟩
             unfold set10 at f4 bW rW
             rw [← hw4] at f4 bW rW ⊢
             obtain ⟨S2, hS2⟩ : ∃ s, s = wo.heap.size := ⟨_, rfl⟩
             rw [← hS2] at f4 ⊢
             have F4 := Lib.hid f4
             have R4 := Lib.hid rW
             have B4 := Lib.hid bW
             clear f4 rW bW k4 hw4 hS2 HZ1 s0 s1 s2 s3 s4 s5 s6 s7 s8 s9 fr1 lr1)
          | (have f4 := Blk.new w3 [.int .i64 ga, .int .i64 gd, .int .i64 gl, .slice A3 y2.pages.length c3, .int .u64 (y2.gen.toNat : Int), .int .u64 (y2.life.toNat : Int), .int .i64 y2.base, .int .u64 (y2.began.toNat : Int), .int .i64 (y2.seq : Int), .bool y2.due] 56
             have bW := bt b6 (b1alloc w3 (.cells #[.int .i64 ga, .int .i64 gd, .int .i64 gl, .slice A3 y2.pages.length c3, .int .u64 (y2.gen.toNat : Int), .int .u64 (y2.life.toNat : Int), .int .i64 y2.base, .int .u64 (y2.began.toNat : Int), .int .i64 (y2.seq : Int), .bool y2.due] 56))
             have rW := (H3.out.imp (Q' := fun j => Off X2 R2 L2 bS gS fp2 j ∧ j ≠ S) (fun j _ o => o.1)).on (b1alloc w3 (.cells #[.int .i64 ga, .int .i64 gd, .int .i64 gl, .slice A3 y2.pages.length c3, .int .u64 (y2.gen.toNat : Int), .int .u64 (y2.life.toNat : Int), .int .i64 y2.base, .int .u64 (y2.began.toNat : Int), .int .i64 (y2.seq : Int), .bool y2.due] 56))
             obtain ⟨w4, hw4⟩ : ∃ W, W = w3.alloc (.cells #[.int .i64 ga, .int .i64 gd, .int .i64 gl, .slice A3 y2.pages.length c3, .int .u64 (y2.gen.toNat : Int), .int .u64 (y2.life.toNat : Int), .int .i64 y2.base, .int .u64 (y2.began.toNat : Int), .int .i64 (y2.seq : Int), .bool y2.due] 56) := ⟨_, rfl⟩
             rw [← hw4] at f4 bW rW ⊢
             obtain ⟨S2, hS2⟩ : ∃ s, s = w3.heap.size := ⟨_, rfl⟩
             rw [← hS2] at f4 ⊢
             have F4 := Lib.hid f4
             have R4 := Lib.hid rW
             have B4 := Lib.hid bW
             clear f4 rW bW hw4 hS2)
        all_goals
          clear r0 r1 r2 r3 r4 r5 r6 r7 r8 r9 fr2 lr2 hS0 hS1 hS3 hS4 hS5 hS6 HKS HKT b6 b3 cz HZ2 H3
          have H4 := Lib.hid (HPL.out.on B4.out)
          obtain ⟨s0, s1, s2, s3, s4, s5, s6, s7, s8, s9⟩ := ten F4.out
          obtain ⟨z0, z1, z2, z3, z4, z5, z6, z7, z8, z9⟩ := ten H4.out.blk
          have frS := H4.out.blk.free
          have ltS := H4.out.blk.lt
          go_upto_region 31 with (fail)
          have h5 := H4.out.put (set10_keep (fp := [S]) (Keep.refl _ w4) (X := S) (by simp) (.int .i64 ga) (.int .i64 gd) (.int .i64 gl) (.slice A3 y2.pages.length c3) (.int .u64 (y2.gen.toNat : Int)) (.int .u64 (y2.life.toNat : Int)) (.int .i64 y2.base) (.int .u64 (y2.began.toNat : Int)) (.int .i64 (y2.seq : Int)) (.bool y2.due)) (set10_blk H4.out.blk (.int .i64 ga) (.int .i64 gd) (.int .i64 gl) (.slice A3 y2.pages.length c3) (.int .u64 (y2.gen.toNat : Int)) (.int .u64 (y2.life.toNat : Int)) (.int .i64 y2.base) (.int .u64 (y2.began.toNat : Int)) (.int .i64 (y2.seq : Int)) (.bool y2.due)) R4.out
          obtain ⟨w5, hw5⟩ : ∃ W, W = ((((((((((w4).setCell ⟨S, 0, none⟩ (.int .i64 ga)).setCell ⟨S, 1, none⟩ (.int .i64 gd)).setCell ⟨S, 2, none⟩ (.int .i64 gl)).setCell ⟨S, 3, none⟩ (.slice A3 y2.pages.length c3)).setCell ⟨S, 4, none⟩ (.int .u64 (y2.gen.toNat : Int))).setCell ⟨S, 5, none⟩ (.int .u64 (y2.life.toNat : Int))).setCell ⟨S, 6, none⟩ (.int .i64 y2.base)).setCell ⟨S, 7, none⟩ (.int .u64 (y2.began.toNat : Int))).setCell ⟨S, 8, none⟩ (.int .i64 (y2.seq : Int))).setCell ⟨S, 9, none⟩ (.bool y2.due) := ⟨_, rfl⟩
          unfold set10 at h5
          rw [← hw5] at h5 ⊢
          have H5 := Lib.hid h5
          clear h5 hw5 s0 s1 s2 s3 s4 s5 s6 s7 s8 s9 z0 z1 z2 z3 z4 z5 z6 z7 z8 z9 frS ltS
          have hx7 := (HLt.out.pages x.tx (by simp)).1
          have HCm := Lib.hid (fun W (bW : Below w5.heap.size w5 W) => show Calls Tryz.prog 15 #[.pointer (some ⟨X2, 0, none⟩), .slice Ai x.tx.pages.length ci, .int .u64 (x.tx.gen.toNat : Int)] W fun e w' => e = .returned (.int .i64 er) ∧ SHT wA W X2 R2 L2 g fp2 gS bS ga gd gl n y2 (q + 1 + 1) w' from by
            have h := (H5.out.on bW).sh.commit HG.out HGr.out.1 HGr.out.2 (by omega) (fun j => j < wA.heap.size) Ai x.tx.pages ci x.tx.gen ((HX.out W (bt b0 (H5.out.on bW).sh.bel)).2.pgs.imp (fun j _ hj => Nat.lt_of_lt_of_le hj b0.size)) (fun j hj _ => H5.out.sh.off hj) (by omega)
            rw [← Hyn.out] at h
            exact h)
          have cz5 : Below w5.heap.size w5 w5.drew := (Below.refl _ _).drew
          have HKT := Lib.hid (fun W (bW : Below w.heap.size w W) => show (fun W : World => W.cell? ⟨bA, off + q * 3 + 1, none⟩ = some (.slice Ai x.tx.pages.length ci) ∧ W.cell? ⟨bA, off + q * 3 + 1 + 1, none⟩ = some (.int .u64 (x.tx.gen.toNat : Int))) W from ⟨(HX.out W bW).2.c0, (HX.out W bW).2.c1⟩)
          have hS0 := HKT.out _ (bt b0 (H5.out.on cz5).sh.bel)
          clear hx7
          go_region_held3 (fun W : World => W.cell? ⟨bA, off + q * 3 + 1, none⟩ = some (.slice Ai x.tx.pages.length ci) ∧ W.cell? ⟨bA, off + q * 3 + 1 + 1, none⟩ = some (.int .u64 (x.tx.gen.toNat : Int))) (first | with_reducible exact hS0 | with_reducible exact hS7) ((go_at_call 15; refine (HCm.out _ cz5).mono ?_; rintro e w7 ⟨rfl, h7⟩; obtain ⟨L7, fp7, h7⟩ := (H5.out.on cz5).turn h7; have hS7 := HKT.out _ (bt b0 h7.sh.bel); have H7 := Lib.hid h7; clear h7))
          clear hS0 HKT cz5 HCm
          obtain ⟨z0, z1, z2, z3, z4, z5, z6, z7, z8, z9⟩ := ten H7.out.blk
          have HLk := Lib.hid (H7.out.like HG.out HGr.out.1 HGr.out.2 (by omega))
          go_wp2_with (go_at_call 24; refine HLk.out.mono ?_; rintro e w8 ⟨rfl, b8⟩; have H8 := Lib.hid (H7.out.on b8))
          case roundEnd =>
            have h1 := Hlt.out
            exact ⟨⟨q + 1, X2, R2, L7, fp7, y2, A3, c3, h1, rfl, rfl, H8.out⟩, by simp only [intOf]; omega⟩
      · by_cases hk1 : kd = 1
        · subst hk1
          obtain ⟨y2, hy2⟩ : ∃ y2, y2 = y.renew gl := ⟨_, rfl⟩
          have HRn := Lib.hid (HPL.out.rrenew HGr.out.1 (by omega))
          rw [← hy2] at HRn
          have Hy2 := Lib.hid hy2
          obtain ⟨z0, z1, z2, z3, z4, z5, z6, z7, z8, z9⟩ := ten HPL.out.blk
          clear hy2 hk0
          go_upto_region 35 with (go_at_call 26; refine (HRn.out _).mono ?_; rintro e w3 ⟨rfl, b3⟩; have H3 := Lib.hid (HPL.out.on b3); clear z0 z1 z2 z3 z4 z5 z6 z7 z8 z9; obtain ⟨z0, z1, z2, z3, z4, z5, z6, z7, z8, z9⟩ := ten H3.out.blk; have frS := H3.out.blk.free; have ltS := H3.out.blk.lt)
          have h5 := H3.out.put (q' := y2) (A' := A2) (c' := c2) (set10_keep (fp := [S]) (Keep.refl _ w3) (X := S) (by simp) (.int .i64 ga) (.int .i64 gd) (.int .i64 gl) (.slice A2 y2.pages.length c2) (.int .u64 (y2.gen.toNat : Int)) (.int .u64 (y2.life.toNat : Int)) (.int .i64 y2.base) (.int .u64 (y2.began.toNat : Int)) (.int .i64 (y2.seq : Int)) (.bool y2.due)) (set10_blk H3.out.blk (.int .i64 ga) (.int .i64 gd) (.int .i64 gl) (.slice A2 y2.pages.length c2) (.int .u64 (y2.gen.toNat : Int)) (.int .u64 (y2.life.toNat : Int)) (.int .i64 y2.base) (.int .u64 (y2.began.toNat : Int)) (.int .i64 (y2.seq : Int)) (.bool y2.due)) (by rw [Hy2.out]; exact H3.out.rw)
          obtain ⟨w5, hw5⟩ : ∃ W, W = ((((((((((w3).setCell ⟨S, 0, none⟩ (.int .i64 ga)).setCell ⟨S, 1, none⟩ (.int .i64 gd)).setCell ⟨S, 2, none⟩ (.int .i64 gl)).setCell ⟨S, 3, none⟩ (.slice A2 y2.pages.length c2)).setCell ⟨S, 4, none⟩ (.int .u64 (y2.gen.toNat : Int))).setCell ⟨S, 5, none⟩ (.int .u64 (y2.life.toNat : Int))).setCell ⟨S, 6, none⟩ (.int .i64 y2.base)).setCell ⟨S, 7, none⟩ (.int .u64 (y2.began.toNat : Int))).setCell ⟨S, 8, none⟩ (.int .i64 (y2.seq : Int))).setCell ⟨S, 9, none⟩ (.bool y2.due) := ⟨_, rfl⟩
          unfold set10 at h5
          rw [← hw5] at h5 ⊢
          have H5 := Lib.hid h5
          have HRx := Lib.hid (show Calls Tryz.prog 16 #[.pointer (some ⟨X2, 0, none⟩)] w5 fun e w' => e = .returned (.int .i64 0) ∧ SHT wA w5 X2 R2 L2 g fp2 gS bS ga gd gl n y2 (q + 1 + 1) w' from by rw [Hy2.out]; exact H5.out.sh.renew HG.out HGr.out.1 HGr.out.2 (by omega))
          clear h5 hw5 z0 z1 z2 z3 z4 z5 z6 z7 z8 z9 frS ltS
          go_upto_region 37 with (go_at_call 16; refine HRx.out.mono ?_; rintro e w7 ⟨rfl, h7⟩; obtain ⟨L7, fp7, h7⟩ := H5.out.turn h7; have H7 := Lib.hid h7; clear h7)
          obtain ⟨z0, z1, z2, z3, z4, z5, z6, z7, z8, z9⟩ := ten H7.out.blk
          have HLk := Lib.hid (H7.out.like HG.out HGr.out.1 HGr.out.2 (by omega))
          go_wp2_with (go_at_call 24; refine HLk.out.mono ?_; rintro e w8 ⟨rfl, b8⟩; have H8 := Lib.hid (H7.out.on b8))
          case roundEnd =>
            have h1 := Hlt.out
            exact ⟨⟨q + 1, X2, R2, L7, fp7, y2, A2, c2, h1, rfl, rfl, H8.out⟩, by simp only [intOf]; omega⟩
        · have t0 : (kd == 0) = false := beq_no hk0
          have t1 : (kd == 1) = false := beq_no hk1
          have HOp := Lib.hid (HPL.out.sh.opens HG.out HGr.out.1 HGr.out.2 (by omega))
          obtain ⟨y8, hy8⟩ : ∃ y8, y8 = y.isDue := ⟨_, rfl⟩
          rw [← hy8] at HOp
          have Hy8 := Lib.hid hy8
          obtain ⟨m0, m1, m2⟩ := gthree (F.out.below HPL.out.sh.bel hltF)
          clear hy8 hk0 hk1
          go_upto_region 23 with (go_at_call 17; refine HOp.out.mono ?_; rintro e w8 ⟨X8, R8, rfl, h8, b8, x8, r8⟩; have H8 := Lib.hid (HPL.out.anew h8 b8 x8 r8); clear h8)
          clear m0 m1 m2
          obtain ⟨z0, z1, z2, z3, z4, z5, z6, z7, z8, z9⟩ := ten H8.out.blk
          have frS := H8.out.blk.free
          have ltS := H8.out.blk.lt
          go_upto_region 24 with (fail)
          have h9 := H8.out.put (q' := y8) (A' := A2) (c' := c2) (show Keep [S] w8 (w8.setCell ⟨S, 9, none⟩ (.bool true)) from (Keep.refl _ _).set (.inl (by simp)) _) (by rw [Hy8.out]; exact H8.out.blk.set (k := 9) (.bool true)) (by rw [Hy8.out]; exact H8.out.rw)
          obtain ⟨w9, hw9⟩ : ∃ W, W = w8.setCell ⟨S, 9, none⟩ (.bool true) := ⟨_, rfl⟩
          rw [← hw9] at h9 ⊢
          have H9 := Lib.hid h9
          have y9 := (HX.out w9 (bt b0 h9.sh.bel)).1
          rw [← Hkd.out] at y9
          clear h9 hw9 z0 z1 z2 z3 z4 z5 z6 z7 z8 z9 frS ltS y0'
          by_cases hk3 : kd = 3
          · subst hk3
            obtain ⟨y2, hy2⟩ : ∃ y2, y2 = y8.renew gl := ⟨_, rfl⟩
            have HRn := Lib.hid (H9.out.rrenew HGr.out.1 (by omega))
            rw [← hy2] at HRn
            have Hy2 := Lib.hid hy2
            obtain ⟨z0, z1, z2, z3, z4, z5, z6, z7, z8, z9⟩ := ten H9.out.blk
            clear hy2
            go_upto_region 26 with (go_at_call 26; refine (HRn.out _).mono ?_; rintro e w3 ⟨rfl, b3⟩; have H3 := Lib.hid (H9.out.on b3); clear z0 z1 z2 z3 z4 z5 z6 z7 z8 z9; obtain ⟨z0, z1, z2, z3, z4, z5, z6, z7, z8, z9⟩ := ten H3.out.blk; have frS := H3.out.blk.free; have ltS := H3.out.blk.lt)
            have h5 := H3.out.put (q' := y2) (A' := A2) (c' := c2) (set10_keep (fp := [S]) (Keep.refl _ w3) (X := S) (by simp) (.int .i64 ga) (.int .i64 gd) (.int .i64 gl) (.slice A2 y2.pages.length c2) (.int .u64 (y2.gen.toNat : Int)) (.int .u64 (y2.life.toNat : Int)) (.int .i64 y2.base) (.int .u64 (y2.began.toNat : Int)) (.int .i64 (y2.seq : Int)) (.bool y2.due)) (set10_blk H3.out.blk (.int .i64 ga) (.int .i64 gd) (.int .i64 gl) (.slice A2 y2.pages.length c2) (.int .u64 (y2.gen.toNat : Int)) (.int .u64 (y2.life.toNat : Int)) (.int .i64 y2.base) (.int .u64 (y2.began.toNat : Int)) (.int .i64 (y2.seq : Int)) (.bool y2.due)) (by rw [Hy2.out]; exact H3.out.rw)
            obtain ⟨w5, hw5⟩ : ∃ W, W = ((((((((((w3).setCell ⟨S, 0, none⟩ (.int .i64 ga)).setCell ⟨S, 1, none⟩ (.int .i64 gd)).setCell ⟨S, 2, none⟩ (.int .i64 gl)).setCell ⟨S, 3, none⟩ (.slice A2 y2.pages.length c2)).setCell ⟨S, 4, none⟩ (.int .u64 (y2.gen.toNat : Int))).setCell ⟨S, 5, none⟩ (.int .u64 (y2.life.toNat : Int))).setCell ⟨S, 6, none⟩ (.int .i64 y2.base)).setCell ⟨S, 7, none⟩ (.int .u64 (y2.began.toNat : Int))).setCell ⟨S, 8, none⟩ (.int .i64 (y2.seq : Int))).setCell ⟨S, 9, none⟩ (.bool y2.due) := ⟨_, rfl⟩
            unfold set10 at h5
            rw [← hw5] at h5 ⊢
            have H5 := Lib.hid h5
            have HRx := Lib.hid (show Calls Tryz.prog 16 #[.pointer (some ⟨X8, 0, none⟩)] w5 fun e w' => e = .returned (.int .i64 0) ∧ SHT wA w5 X8 R8 X8 g fp2 gS bS ga gd gl n y2 (q + 1 + 1) w' from by rw [Hy2.out]; exact H5.out.sh.renew HG.out HGr.out.1 HGr.out.2 (by omega))
            clear h5 hw5 z0 z1 z2 z3 z4 z5 z6 z7 z8 z9 frS ltS
            go_upto_region 37 with (go_at_call 16; refine HRx.out.mono ?_; rintro e w7 ⟨rfl, h7⟩; obtain ⟨L7, fp7, h7⟩ := H5.out.turn h7; have H7 := Lib.hid h7; clear h7)
            obtain ⟨z0, z1, z2, z3, z4, z5, z6, z7, z8, z9⟩ := ten H7.out.blk
            have HLk := Lib.hid (H7.out.like HG.out HGr.out.1 HGr.out.2 (by omega))
            go_wp2_with (go_at_call 24; refine HLk.out.mono ?_; rintro e w8 ⟨rfl, b8⟩; have H8 := Lib.hid (H7.out.on b8))
            case roundEnd =>
              have h1 := Hlt.out
              exact ⟨⟨q + 1, X8, R8, L7, fp7, y2, A2, c2, h1, rfl, rfl, H8.out⟩, by simp only [intOf]; omega⟩
          · have t3 : (kd == 3) = false := beq_no hk3
            obtain ⟨z0, z1, z2, z3, z4, z5, z6, z7, z8, z9⟩ := ten H9.out.blk
            have HLk := Lib.hid (H9.out.like HG.out HGr.out.1 HGr.out.2 (by omega))
            clear hk3
            go_wp2_with (go_at_call 24; refine HLk.out.mono ?_; rintro e w10 ⟨rfl, b10⟩; have H10 := Lib.hid ((H9.out.on b10).mono (Nat.le_succ _)))
            case roundEnd =>
              have h1 := Hlt.out
              exact ⟨⟨q + 1, X8, R8, X8, fp2, y8, A2, c2, h1, rfl, rfl, H10.out⟩, by simp only [intOf]; omega⟩
    · obtain rfl : q = l.length := by omega
      have hkn : ¬ (l.length : Int) < (l.length : Int) := by omega
      have H := HPL
      obtain ⟨z0, z1, z2, z3, z4, z5, z6, z7, z8, z9⟩ := ten HPL.out.blk
      by_cases hin : 0 ≤ k ∧ k < (y.pages.length : Int)
      · obtain ⟨kn, rfl⟩ : ∃ kn : Nat, k = (kn : Int) := ⟨k.toNat, by omega⟩
        have hkl : kn < y.pages.length := by omega
        have HPg := Lib.hid (HPL.out.sh.page kn hkl)
        obtain ⟨pg, hpg⟩ : ∃ p, p = y.pages[kn] := ⟨_, rfl⟩
        rw [← hpg] at HPg
        have t2 : (kn : Int) < (y.pages.length : Int) := by omega
        have t3 : (0 : Int) ≤ (kn : Int) := by omega
        have HK := Lib.hid (fun W (bW : Below wo.heap.size wo W) => ten (HPL.out.blk.on bW))
        have Hnl := Lib.hid (HPL.out.sh.nums HGr.out.1)
        clear hpg hin hkl z0 z1 z2 z3 z4 z5 z6 z7 z8 z9
        go_wp2_with (first
          | (go_at_call 27; refine HPg.out.mono ?_; rintro e w7 ⟨A7, c7, rfl, o7, b7⟩; obtain ⟨z0, z1, z2, z3, z4, z5, z6, z7, z8, z9⟩ := HK.out _ b7)
          | (go_at_call 10; refine (hal.out _).mono ?_; rintro e w14 ⟨rfl, b14⟩))
        go_ret
        exact ⟨rfl, bt b0 (bt HPL.out.sh.bel (bt b7 b14))⟩
      · have HPg := Lib.hid (HPL.out.sh.pageOut k (by omega))
        by_cases hk0 : k < 0
        · have t2 : ¬ (0 : Int) ≤ k := by omega
          clear hin hk0
          go_wp2_with (first
            | (go_at_call 27; refine HPg.out.mono ?_; rintro e w7 ⟨rfl, rfl⟩)
            | (go_at_call 10; refine (hal.out _).mono ?_; rintro e w14 ⟨rfl, b14⟩))
          go_ret
          exact ⟨rfl, bt b0 (bt HPL.out.sh.bel b14)⟩
        · have t2 : (0 : Int) ≤ k := by omega
          have t3 : ¬ k < (y.pages.length : Int) := by omega
          clear hin hk0
          go_wp2_with (first
            | (go_at_call 27; refine HPg.out.mono ?_; rintro e w7 ⟨rfl, rfl⟩)
            | (go_at_call 10; refine (hal.out _).mono ?_; rintro e w14 ⟨rfl, b14⟩))
          go_ret
          exact ⟨rfl, bt b0 (bt HPL.out.sh.bel b14)⟩
set_option maxRecDepth 100000 in
theorem lifted (os : Os) (started : os.Started) (H : Type) (enc : TypeId × Value → H) :
    ReturnsInHanded {} Tryz.checked os 5 .any (Rows.storePlaysSpec.pre6 enc Tryz.prog Tryz.f5 Rows.storePlaysRow.domain false) (Rows.storePlaysSpec.post enc Tryz.prog Tryz.f5 false true false false) := by
  refine returnsInHanded_of_change (C := Tryz.checked) own started (by kernel_rfl) Tryz.func5
    (ChangeSpec.witness6 (enc := enc) (C := Tryz.checked) false ⟨#[], #[.agg #[.int .i64 0, .int .i64 0, .int .i64 0], .slice none 0 0, .int .i64 0], []⟩ 8 (by kernel_rfl) (by kernel_rfl) (by kernel_rfl) (by kernel_rfl)) ?_
  intro W base args ds gs before hval0 hW hcnd _
  have hval : ∀ (j : Nat) t v, Tryz.f5.params[j]? = some t → args[j]? = some v → Value.okWide Tryz.prog W .any base t v := hval0
  have hW' := hW
  obtain ⟨p, q, hA0, hV, rfl, hfz, hnd⟩ := hW
  have hA : DataW.TrodAll enc Tryz.prog W 0 (fun _ => true) true Tryz.f5.params.toList args.toList ds p := hA0
  rw [Tryz.params5] at hA hval
  obtain ⟨v0, vs0, d0, ds0, p0, q0, hargs, rfl, rfl, h0, r0⟩ := trodAll_cons hA
  obtain ⟨v1, vs1, d1, ds1, p1, q1, rfl, rfl, rfl, h1, r1⟩ := trodAll_cons r0
  obtain ⟨v2, vs2, d2, ds2, p2, q2, rfl, rfl, rfl, h2, r2⟩ := trodAll_cons r1
  obtain ⟨rfl, rfl, rfl⟩ := trodAll_nil r2
  obtain rfl : args = #[v0, v1, v2] := by cases args; simp_all
  obtain ⟨rfl, rfl⟩ := trodVars_none hV
  have k0 := h0
  have lt0 := places_lt k0
  obtain ⟨c0a, c0b, c0c, y0a, y0b, y0c, m0, rfl, _, _, hy0a, hy0b, hy0c⟩ := open_agg3 Tryz.underlying23 (by kernel_rfl) (by kernel_rfl) (hval 0 23 v0 rfl rfl) h0
  obtain ⟨n0a, e0a, _, w0a⟩ := DataW.trod_int Tryz.underlying3 hy0a
  simp only [List.cons.injEq, and_true] at e0a
  subst e0a
  obtain ⟨n0b, e0b, _, w0b⟩ := DataW.trod_int Tryz.underlying3 hy0b
  simp only [List.cons.injEq, and_true] at e0b
  subst e0b
  obtain ⟨n0c, e0c, _, w0c⟩ := DataW.trod_int Tryz.underlying3 hy0c
  simp only [List.cons.injEq, and_true] at e0c
  subst e0c
  have k1 := h1
  have lt1 := places_lt k1
  obtain ⟨a1, len1, cap1, rfl⟩ := okWide_slice Tryz.underlying24 (hval 1 24 v1 rfl rfl)
  obtain ⟨fuel1, hf1⟩ := h1
  obtain ⟨l1, rfl, rr1, rc1, rm1⟩ := sacts_of hf1
  have k2 := h2
  have lt2 := places_lt k2
  obtain ⟨n2, rfl, _, _, w2⟩ := open_int Tryz.underlying3 (hval 2 3 v2 rfl rfl) h2
  clear hA0 hval0
  refine (walk n0a n0b n0c a1 l1 cap1 n2 W (wfi w0a).1 (wfi w0a).2 (wfi w0b).1 (wfi w0b).2 (wfi w0c).1 (wfi w0c).2 rr1 rc1 rm1 (wfi w2).1 (wfi w2).2).mono fun e W' ⟨he, bel⟩ => ?_
  subst he
  exact ⟨_, rfl, _, _, _, [], _, [], hW', trodAll_mk1 (shut_bool Tryz.underlying4 _), (trodAll_cons_mk (Below.trod laidOut (by kernel_rfl) (of_decide_eq_true (by kernel_rfl)) k0 bel lt0) (trodAll_cons_mk (Below.trod laidOut (by kernel_rfl) (of_decide_eq_true (by kernel_rfl)) k1 bel lt1) (trodAll_cons_mk (Below.trod laidOut (by kernel_rfl) (of_decide_eq_true (by kernel_rfl)) k2 bel lt2) trodAll_mk0))), rfl, bel.frame _, fun h => by cases h⟩
theorem proved : Rows.StorePlaysSaid :=
  OpenClaim.holds_of_wide 5 Tryz.f5 rfl rfl rfl rfl rfl rfl rfl ⟨rfl, rfl, rfl, rfl, rfl⟩ rfl rfl rfl rfl rfl (by kernel_rfl) Tryz.func5 (by kernel_rfl)
    (of_decide_eq_true (by kernel_rfl)) (by unfold Func.isWrapper; first | (rw [if_pos (by decide +kernel)]; kernel_rfl) | (rw [if_neg (by decide +kernel)]; exact ⟨rfl, rfl⟩))
    (fun os started H enc _ => lifted os started H enc)
#print axioms proved
end Go.Proofs.YtchcmklelmlbgaaGreat.StorePlays
