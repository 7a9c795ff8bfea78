/- StoreAnew: for every input the law returns true: a disk that was used is, once it was formatted anew, as one that never was. No condition. -/
import Derived.Test.YtchcmklelmlbgaaGreatStoreAnewH
namespace Go.Proofs.YtchcmklelmlbgaaGreat.StoreAnew
open Go.ChangeShapes Go.WideShapes Go.ChangeAt Go.RowKit Go.Joins
open Go.ChangeMaps (open_string shut_string)
open Go.Proofs.YtchcmklelmlbgaaGreat.Sto
open Go.Proofs.YtchcmklelmlbgaaGreat.Sup (Gb gv gcell gthree srightF UpN up_new srightF_new newN_any)
open Go.Proofs.YtchcmklelmlbgaaGreat.Sec (symbolic_any)
open Go.Proofs.YtchcmklelmlbgaaGreat.Geom (lo hi pagesOf right)
open Go.Proofs.YtchcmklelmlbgaaGreat.Disk (St DAt new)
set_option linter.unusedVariables false
set_option maxRecDepth 100000
theorem _root_.Go.Proofs.YtchcmklelmlbgaaGreat.Sto.SH.lens {w0 w : World} {X R L g : Nat} {fp : List Nat} {gS bS : Nat} {ga gd gl : Int} {n : Nat} {y : RS} {t : Nat} (h : SH w0 w X R L g fp gS bS ga gd gl n y t) : y.pages.length ≤ 85 ∧ ∀ b ∈ y.pages, b.length ≤ 479 := by
  obtain ⟨z, s, l, h1, h2, _⟩ := h
  obtain ⟨zo, e1, _⟩ := h2.zok
  have hpb := Geom.pagesOf_bd ga gd gl
  have hzl := zo.len
  rw [e1]
  exact ⟨by omega, h2.pageLen⟩
set_option maxHeartbeats 4000000 in
theorem walk (ga gd gl : Int) (A : Option Addr) (l : List Ac) (c : Nat) (A9 : Option Addr) (l9 : List Ac) (c9 : Nat) (w : World) (ha0 : -9223372036854775808 ≤ ga) (ha1 : ga ≤ 9223372036854775807) (hd0 : -9223372036854775808 ≤ gd) (hd1 : gd ≤ 9223372036854775807) (hg0 : -9223372036854775808 ≤ gl) (hg1 : gl ≤ 9223372036854775807) (hr : Acs w (fun j => j < w.heap.size) A l) (hlc : l.length ≤ c) (hcm : c ≤ maxLen) (hr9 : Acs w (fun j => j < w.heap.size) A9 l9) (hlc9 : l9.length ≤ c9) (hcm9 : c9 ≤ maxLen) :
    Calls Tryz.prog 3 #[gv ga gd gl, .slice A l.length c, .slice A9 l9.length c9] w fun e w' => e = .returned (.bool true) ∧ Below w.heap.size w w' := by
  have hG : Gb ga gd gl := ⟨ha0, ha1, hd0, hd1, hg0, hg1⟩
  clear hlc hcm hlc9 hcm9 ha0 ha1 hd0 hd1 hg0 hg1
  obtain ⟨wA, hwA⟩ : ∃ q, q = w.alloc (.cells #[.int .i64 ga, .int .i64 gd, .int .i64 gl] 23) := ⟨_, rfl⟩
  have F := Lib.hid (show Blk wA w.heap.size (gcell ga gd gl) from by rw [hwA]; exact Blk.new w (gcell ga gd gl) 23)
  have hltF := F.out.lt
  have b0 : Below w.heap.size w wA := by rw [hwA]; exact b1alloc w _
  have HWA := Lib.hid hwA
  obtain ⟨m0, m1, m2⟩ := gthree F.out
  have HL := Lib.hid (slight_any _ A l c ga gd gl wA hG (hr.on b0))
  have HL9 := Lib.hid (fun W (bW : Below w.heap.size w W) => slight_any _ A9 l9 c9 ga gd gl W hG (hr9.on bW))
  have hal := Lib.hid (fun W => alive_any W)
  have HRi := Lib.hid (fun W => Geom.rright_any ga gd gl W hG.a0 hG.a1 hG.d0 hG.d1 hG.g0 hG.g1)
  have HS := Lib.hid (fun W => Geom.rsize_any ga gd gl W hG.a0 hG.a1 hG.d0 hG.d1 hG.g0 hG.g1)
  have HR := Lib.hid hr
  have HR9 := Lib.hid hr9
  have HG := Lib.hid hG
  clear hwA hG hr hr9
  have tL1 : True := trivial
  go_enter Tryz.func3, Tryz.ntmps3
  go_upto_region 1 with (fail)
  rw [← HWA.out]
  go_upto_if 38 with (first
    | (go_at_call 8; (have _t := tL1); refine HL.out.mono ?_; clear _t tL1; rintro e w1 ⟨⟨B, rfl, hB⟩, b1⟩; have HB := Lib.hid hB; have HB1 := Lib.hid b1; clear m0 m1 m2; obtain ⟨m0, m1, m2⟩ := gthree (F.out.on b1); clear hB b1)
    | (go_at_call 8; refine (HL9.out _ (bt b0 HB1.out)).mono ?_; rintro e w2 ⟨⟨B2, rfl, hB2⟩, b2⟩; have HB2 := Lib.hid hB2; have HB12 := Lib.hid (bt HB1.out b2); clear m0 m1 m2; obtain ⟨m0, m1, m2⟩ := gthree (F.out.on HB12.out); clear hB2 b2)
    | (go_at_call 9; refine (HRi.out _).mono ?_; rintro e w3 ⟨rfl, b3⟩; have HB3 := Lib.hid (bt HB12.out b3); clear m0 m1 m2; obtain ⟨m0, m1, m2⟩ := gthree (F.out.on HB3.out); clear b3))
  rotate_left
  · go_wp2_with (go_at_call 10; refine (hal.out _).mono ?_; rintro e w9 ⟨rfl, b9⟩)
    go_ret
    exact ⟨rfl, bt b0 (bt HB12.out b9)⟩
  · go_wp2_with (go_at_call 10; refine (hal.out _).mono ?_; rintro e w9 ⟨rfl, b9⟩)
    go_ret
    exact ⟨rfl, bt b0 (bt HB1.out b9)⟩
  rename_i eB eB2
  have HSL := Lib.hid (HB.out eB)
  have HSL2 := Lib.hid (HB2.out eB2)
  clear HB HB2 eB eB2 HL HL9 HB1 HB12
  cases hri : right ga gd gl with
  | false =>
    go_wp2_with (go_at_call 10; refine (hal.out _).mono ?_; rintro e w9 ⟨rfl, b9⟩)
    go_ret
    exact ⟨rfl, bt b0 (bt HB3.out b9)⟩
  | true =>
  have hy := Geom.right_yes hri
  have hsz := Sup.size_ge hri
  have hszb := Geom.size_bd ga gd gl
  obtain ⟨n, hn⟩ : ∃ n : Nat, (n : Int) = Geom.sizeOf ga gd gl := ⟨(Geom.sizeOf ga gd gl).toNat, by omega⟩
  rw [← hn] at HS
  obtain ⟨P, hP⟩ : ∃ P : Nat, (P : Int) = pagesOf ga gd gl := ⟨(pagesOf ga gd gl).toNat, by have := Geom.pagesOf_bd ga gd gl; omega⟩
  have hPb := Geom.pagesOf_bd ga gd gl
  obtain ⟨y1, hy1⟩ : ∃ y, y = RS.new P := ⟨_, rfl⟩
  have HFm := Lib.hid (fun W g fp gS bS (h : Both W g fp (new n) gS bS []) hb ho => format_law (w0 := wA) (t := 0) (m := P) HG.out h (up_new n) hri hn hP (by simp) (by simp [new, Disk.St.sz]) (by omega) hb ho)
  have HFa := Lib.hid (fun W X R L gA fp gS bS y t gB fB (h : L1 wA W X R L gA fp gS bS ga gd gl n y t gB fB) (ht : t ≤ 100) => h.format HG.out hri hn hP ht)
  have HFb := Lib.hid (fun W X R L gA fp gS bS y t gB fB (h : A1 wA W X R L gA fp gS bS ga gd gl n y t gB fB) (ht : t ≤ 100) (ht1 : 1 ≤ t) => h.format HG.out hri hn hP ht ht1 (by omega))
  rw [← hy1] at HFm HFa HFb
  have HNw := Lib.hid (fun W => newN_any n (n : Int) rfl (by omega) (by omega) W)
  have HGr := Lib.hid (And.intro hri hn)
  clear hy1 hri hy hsz hszb hn hP hPb
  have tD1 : True := trivial
  have tF1 : True := trivial
  go_upto_region 9 with (first
      | (go_at_call 12; (have _t := tD1); refine (HS.out _).mono ?_; rintro e w4 ⟨rfl, b4⟩; have HB4 := Lib.hid (bt HB3.out b4); clear m0 m1 m2; obtain ⟨m0, m1, m2⟩ := gthree (F.out.on HB4.out); clear b4)
      | (go_at_call 11; (have _t := tD1); refine (HNw.out _).mono ?_; clear _t tD1; rintro e w5 ⟨gA, fA, rfl, hD, hfA, b5⟩; have HD := Lib.hid hD; have HfA := Lib.hid hfA; have HB5 := Lib.hid (bt HB4.out b5); have Hb5 := Lib.hid b5; clear m0 m1 m2; obtain ⟨m0, m1, m2⟩ := gthree (F.out.on HB5.out); clear b5 hD hfA)
      | (go_at_call 12; refine (HS.out _).mono ?_; rintro e w6 ⟨rfl, b6⟩; have HB6 := Lib.hid b6; clear b6)
      | (go_at_call 11; refine (HNw.out _).mono ?_; rintro e w7 ⟨gB, fB, rfl, hE, hfB, b7⟩; have HE := Lib.hid hE; have HfB := Lib.hid (show ∀ j ∈ fB, w5.heap.size ≤ j from fun j hj => Nat.le_trans HB6.out.size (hfB j hj)); have HB7 := Lib.hid (bt HB6.out b7); clear b7 hE hfB)
      | (go_at_call 13; refine (symbolic_any _).mono ?_; rintro e w8 ⟨gS, bS, rfl, hS, hgS, hbS, b8⟩; have H8 := Lib.hid (Here.start HD.out HfA.out Hb5.out hS (Nat.le_trans HB7.out.size hgS) (Nat.le_trans HB7.out.size hbS) (bt HB7.out b8)); have HSb := Lib.hid (And.intro hbS hgS); have HB8 := Lib.hid b8; have c8 := bt HB5.out (bt HB7.out b8); have Hc8 := Lib.hid c8; have Hown := Lib.hid (show ∀ j ∈ bS :: gS :: fA, wA.heap.size ≤ j from fun j hj => by (have hs1 := HB5.out.size; have hs2 := HB7.out.size; have hs3 := HB4.out.size; simp only [List.mem_cons] at hj; rcases hj with e | e | e; (omega); (omega); (exact Nat.le_trans hs3 (HfA.out j e)))); clear m0 m1 m2; obtain ⟨m0, m1, m2⟩ := gthree (F.out.on c8); clear c8 hS hgS hbS b8)
      | (go_at_call 14; refine (HFm.out _ gA fA gS bS H8.out.both Hc8.out Hown.out).mono ?_; rintro e w9 ⟨X, R, L, fp9, rfl, H9, k9, f9, x9, r9, l9'⟩; have HL1 := Lib.hid (L1.start HD.out HE.out HB5.out HB7.out HB8.out HfB.out HSb.out.1 HSb.out.2 H9 k9 f9 x9 r9 l9'); clear H9 k9 f9 x9 r9 l9'))
  clear m0 m1 m2 HD HE HfA HfB H8 HSb Hown
  go_wp2_with fail
  go_loopw [14] (fun i wr => ∃ (q L2 : Nat) (fp2 : List Nat) (y : RS), q ≤ l.length ∧ i = .int .i64 (q : Int) ∧ L1 wA wr X R L2 gA fp2 gS bS ga gd gl n y (q + 1) gB fB) (fun i _ => l.length - (intOf i).toNat)
  case atStart => exact ⟨0, L, fp9, y1, by omega, rfl, HL1.out⟩
  case round =>
    obtain ⟨q, L2, fp2, y, hq, rfl, hL1⟩ := hrel
    obtain ⟨wo, hwo⟩ : ∃ wo, wo = wr := ⟨_, rfl⟩
    subst hwo
    have HL2 := Lib.hid hL1
    have h20 := HSL.out.1
    clear hL1
    by_cases hlt : q < l.length
    · have hkn : (q : Int) < (l.length : Int) := by omega
      obtain ⟨bA, off, Ai, ci, rfl, hbA, hQA, hx⟩ := HR.out.get hlt
      have HX := Lib.hid (fun W (bW : Below w.heap.size w W) => show W.cell? ⟨bA, off + q * 3, none⟩ = some (.int .i64 l[q].kind) ∧ Wal.TxAt W (fun j => j < w.heap.size) bA (off + q * 3 + 1) l[q].tx Ai ci from ⟨(World.cell?_of_block (bW.block _ hbA)).trans hx.c, hx.t.keep (Keep.of_below bW []) (fun j _ _ => by simp) hbA hQA⟩)
      have HLt := Lib.hid (HSL.out.2.2 q hlt)
      obtain ⟨x, hx0⟩ : ∃ x, x = l[q] := ⟨_, rfl⟩
      rw [← hx0] at HX HLt
      have y0' := (HX.out wo (bt b0 HL2.out.sh.bel)).1
      obtain ⟨kd, hkd⟩ : ∃ kd, kd = x.kind := ⟨_, rfl⟩
      rw [← hkd] at y0'
      have Hlt := Lib.hid hlt
      clear hx hx0 hkd hbA hQA
      by_cases hk0 : kd = 0
      · subst hk0
        obtain ⟨y2, hy2⟩ : ∃ y2, y2 = (y.commit ga gd gl x.tx.pages x.tx.gen).1 := ⟨_, rfl⟩
        have hx7 := (HLt.out.pages x.tx (by simp)).1
        have HCm := Lib.hid (fun W (bW : Below wo.heap.size wo W) => show Calls Tryz.prog 15 #[.pointer (some ⟨X, 0, none⟩), .slice Ai x.tx.pages.length ci, .int .u64 (x.tx.gen.toNat : Int)] W fun e w' => e = .returned (.int .i64 (y.commit ga gd gl x.tx.pages x.tx.gen).2) ∧ SHT wA W X R L2 gA fp2 gS bS ga gd gl n y2 (q + 1 + 1) w' from by
          have h := (HL2.out.on bW).sh.commit HG.out HGr.out.1 HGr.out.2 (by omega) (fun j => j < wA.heap.size) Ai x.tx.pages ci x.tx.gen ((HX.out W (bt b0 (HL2.out.on bW).sh.bel)).2.pgs.imp (fun j _ hj => Nat.lt_of_lt_of_le hj b0.size)) (fun j hj _ => HL2.out.sh.off hj) (by omega)
          rw [← hy2] at h
          exact h)
        go_upto_region 13 with (fail)
        have cz5 : Below wo.heap.size wo wo.drew := (Below.refl _ _).drew
        have HKT := Lib.hid (fun W (bW : Below w.heap.size w W) => show (fun W : World => W.cell? ⟨bA, off + q * 3 + 1, none⟩ = some (.slice Ai x.tx.pages.length ci) ∧ W.cell? ⟨bA, off + q * 3 + 1 + 1, none⟩ = some (.int .u64 (x.tx.gen.toNat : Int))) W from ⟨(HX.out W bW).2.c0, (HX.out W bW).2.c1⟩)
        have hS0 := HKT.out _ (bt b0 (HL2.out.on cz5).sh.bel)
        clear hx7 hy2
        go_region_held3 (fun W : World => W.cell? ⟨bA, off + q * 3 + 1, none⟩ = some (.slice Ai x.tx.pages.length ci) ∧ W.cell? ⟨bA, off + q * 3 + 1 + 1, none⟩ = some (.int .u64 (x.tx.gen.toNat : Int))) (first | with_reducible exact hS0 | with_reducible exact hS7) ((go_at_call 15; refine (HCm.out _ cz5).mono ?_; rintro e w7 ⟨rfl, h7⟩; obtain ⟨L7, fp7, h7⟩ := (HL2.out.on cz5).turn h7; have hS7 := HKT.out _ (bt b0 h7.sh.bel); have H7 := Lib.hid h7; clear h7))
        clear hS0 HKT cz5 HCm
        go_wp2_with fail
        case roundEnd =>
          have h1 := Hlt.out
          exact ⟨⟨q + 1, L7, fp7, y2, h1, rfl, H7.out⟩, by simp only [intOf]; omega⟩
      · have t0 : (kd == 0) = false := beq_no hk0
        have HRx := Lib.hid (HL2.out.sh.renew HG.out HGr.out.1 HGr.out.2 (by omega))
        clear hk0
        go_wp2_with (go_at_call 16; refine HRx.out.mono ?_; rintro e w7 ⟨rfl, h7⟩; obtain ⟨L7, fp7, h7⟩ := HL2.out.turn h7; have H7 := Lib.hid h7; clear h7)
        case roundEnd =>
          have h1 := Hlt.out
          exact ⟨⟨q + 1, L7, fp7, _, h1, rfl, H7.out⟩, by simp only [intOf]; omega⟩
    · obtain rfl : q = l.length := by omega
      have hkn : ¬ (l.length : Int) < (l.length : Int) := by omega
      obtain ⟨m0, m1, m2⟩ := gthree (F.out.below HL2.out.sh.bel hltF)
      have tG1 : True := trivial
      go_upto_region 19 with (first
        | (go_at_call 14; (have _t := tG1); refine (HFa.out _ X R L2 gA fp2 gS bS y (l.length + 1) gB fB HL2.out (by omega)).mono ?_; clear _t tG1; rintro e w10 ⟨Xa, Ra, La, fa, rfl, h10⟩; have H10 := Lib.hid h10; clear m0 m1 m2; obtain ⟨m0, m1, m2⟩ := gthree (F.out.below h10.bel hltF); clear h10)
        | (go_at_call 14; refine (HFb.out _ Xa Ra La gA fa gS bS y1 (l.length + 1 + 1) gB fB H10.out (by omega) (by omega)).mono ?_; rintro e w11 ⟨Xb, Rb, Lb, fb, rfl, h11⟩; have H11 := Lib.hid h11; clear h11))
      clear m0 m1 m2 H10 HL2 HL1 HFa HFb HFm HNw
      go_wp2_with fail
      go_loopw [19] (fun i wr2 => ∃ (q La2 Lb2 : Nat) (fa2 fb2 : List Nat) (y : RS), q ≤ l9.length ∧ i = .int .i64 (q : Int) ∧ TW wA wr2 n ga gd gl gS bS Xa Ra La2 gA fa2 Xb Rb Lb2 gB fb2 y y (l.length + 3 + 2 * q)) (fun i _ => l9.length + 1 - (intOf i).toNat)
      case atStart => exact ⟨0, La, Lb, fa, fb, y1, by omega, rfl, H11.out⟩
      case round =>
        obtain ⟨q, La2, Lb2, fa2, fb2, y, hq, rfl, hTW⟩ := hrel
        obtain ⟨wp, hwp⟩ : ∃ wp, wp = wr := ⟨_, rfl⟩
        subst hwp
        have HTW := Lib.hid hTW
        have hq9 := HSL2.out.1
        have hqn : (q : Int) ≤ (l9.length : Int) := by omega
        have HOa := Lib.hid (hTW.sh.opens HG.out HGr.out.1 HGr.out.2 (by omega))
        have HOb := Lib.hid (fun W (h : TW wA W n ga gd gl gS bS Xa Ra La2 gA fa2 Xb Rb Lb2 gB fb2 y y (l.length + 3 + 2 * q)) => h.symm.sh.opens HG.out HGr.out.1 HGr.out.2 (by omega))
        obtain ⟨m0, m1, m2⟩ := gthree (F.out.below hTW.bel hltF)
        have hlens := hTW.sh.lens
        obtain ⟨y8, hy8⟩ : ∃ y8, y8 = y.isDue := ⟨_, rfl⟩
        rw [← hy8] at HOa HOb
        have e8 : y8.pages = y.pages := by rw [hy8]; rfl
        rw [← e8] at hlens
        have HRw := Lib.hid (fun W A B ca cb (hA : Rws W W.heap.size A y8.pages) (hB : Rws W W.heap.size B y8.pages) => R20.rows_any A B y8.pages y8.pages y8.pages.length y8.pages.length ca cb W hA hB rfl rfl (by have := hlens.1; omega) (fun b hb => by have := hlens.2 b hb; omega) (fun b hb => by have := hlens.2 b hb; omega))
        rw [decide_eq_true (rfl : y8.pages = y8.pages)] at HRw
        have tO1 : True := trivial
        have tP1 : True := trivial
        have tN1 : True := trivial
        have tE1 : True := trivial
        clear hTW hy8 e8 hlens
        go_upto_region 26 with (first
          | (go_at_call 17; (have _t := tO1); refine HOa.out.mono ?_; clear _t tO1; rintro e w12 ⟨X8, R8, rfl, h12, b12, _, _⟩; have H12 := Lib.hid h12; have HT12 := Lib.hid (HTW.out.on b12); clear m0 m1 m2; obtain ⟨m0, m1, m2⟩ := gthree (F.out.below HT12.out.bel hltF); clear h12 b12)
          | (go_at_call 17; refine (HOb.out _ HT12.out).mono ?_; rintro e w13 ⟨X9, R9, rfl, h13, b13, _, _⟩; have H13 := Lib.hid h13; have H12b := Lib.hid (H12.out.on b13); have HT13 := Lib.hid (HT12.out.on b13); clear h13 b13)
          | (go_at_call 19; (have _t := tP1); refine (H12b.out.pages HGr.out.1).mono ?_; clear _t tP1; rintro e w14 ⟨A14, c14, rfl, r14, b14⟩; have R14 := Lib.hid r14; have H13b := Lib.hid (H13.out.on b14); have B14 := Lib.hid b14; clear r14 b14)
          | (go_at_call 19; refine (H13b.out.pages HGr.out.1).mono ?_; rintro e w15 ⟨A15, c15, rfl, r15, b15⟩; have R15 := Lib.hid r15; have R14b := Lib.hid (R14.out.on b15); have B15 := Lib.hid b15; clear r15 b15)
          | (go_at_call 18; refine (HRw.out _ A14 A15 c14 c15 R14b.out R15.out).mono ?_; rintro e w16 ⟨rfl, b16⟩; have HT16 := Lib.hid (((HT13.out.on B14.out).on B15.out).on b16); have H12c := Lib.hid (((H12b.out.on B14.out).on B15.out).on b16); have H13c := Lib.hid ((H13b.out.on B15.out).on b16); clear b16)
          | (go_at_call 20; (have _t := tN1); refine (H12c.out.gen).mono ?_; clear _t tN1; rintro e w17 ⟨rfl, rfl⟩)
          | (go_at_call 20; refine (H13c.out.gen).mono ?_; rintro e w17 ⟨rfl, rfl⟩)
          | (go_at_call 21; (have _t := tE1); refine (H12c.out.life).mono ?_; clear _t tE1; rintro e w17 ⟨rfl, rfl⟩)
          | (go_at_call 21; refine (H13c.out.life).mono ?_; rintro e w17 ⟨rfl, rfl⟩))
        clear m0 m1 m2 HOa HOb HRw
        by_cases hqe : q = l9.length
        · have t9 : ((q : Int) == (l9.length : Int)) = true := by rw [hqe]; simp
          clear hqe
          go_wp2_with (go_at_call 10; refine (hal.out _).mono ?_; rintro e w20 ⟨rfl, b20⟩)
          go_ret
          exact ⟨rfl, bt b0 (bt HT16.out.bel b20)⟩
        · have hlt : q < l9.length := by omega
          have t9 : ((q : Int) == (l9.length : Int)) = false := beq_no (by omega)
          have hkn : (q : Int) < (l9.length : Int) := by omega
          clear hqe hqn
          obtain ⟨bA, off, Ai, ci, rfl, hbA, hQA, hx⟩ := HR9.out.get hlt
          have HX := Lib.hid (fun W (bW : Below w.heap.size w W) => show W.cell? ⟨bA, off + q * 3, none⟩ = some (.int .i64 l9[q].kind) ∧ Wal.TxAt W (fun j => j < w.heap.size) bA (off + q * 3 + 1) l9[q].tx Ai ci from ⟨(World.cell?_of_block (bW.block _ hbA)).trans hx.c, hx.t.keep (Keep.of_below bW []) (fun j _ _ => by simp) hbA hQA⟩)
          have HLt := Lib.hid (HSL2.out.2.2 q hlt)
          obtain ⟨x, hx0⟩ : ∃ x, x = l9[q] := ⟨_, rfl⟩
          rw [← hx0] at HX HLt
          have y0' := (HX.out _ (bt b0 HT16.out.bel)).1
          obtain ⟨kd, hkd⟩ : ∃ kd, kd = x.kind := ⟨_, rfl⟩
          rw [← hkd] at y0'
          have Hlt := Lib.hid hlt
          clear hx hx0 hkd hbA hQA
          by_cases hk0 : kd = 0
          · subst hk0
            have hx7 := (HLt.out.pages x.tx (by simp)).1
            obtain ⟨yn, hyn⟩ : ∃ yn, yn = y.commit ga gd gl x.tx.pages x.tx.gen := ⟨_, rfl⟩
            have HCa := Lib.hid (fun W (bW : Below w16.heap.size w16 W) => show Calls Tryz.prog 15 #[.pointer (some ⟨Xa, 0, none⟩), .slice Ai x.tx.pages.length ci, .int .u64 (x.tx.gen.toNat : Int)] W fun e w' => e = .returned (.int .i64 yn.2) ∧ TWT wA n ga gd gl gS bS Xa Ra gA Xb Rb Lb2 gB fb2 yn.1 y (l.length + 3 + 2 * q + 1) w' from by
              have h := (HT16.out.on bW).commit HG.out HGr.out.1 HGr.out.2 (by omega) Ai x.tx.pages ci x.tx.gen ((HX.out W (bt b0 (HT16.out.on bW).bel)).2.pgs.imp (fun j _ hj => Nat.lt_of_lt_of_le hj b0.size)) (by omega)
              rw [← hyn] at h
              exact h)
            have HCb := Lib.hid (fun W La3 fa3 (h : TW wA W n ga gd gl gS bS Xa Ra La3 gA fa3 Xb Rb Lb2 gB fb2 yn.1 y (l.length + 3 + 2 * q + 1)) => show Calls Tryz.prog 15 #[.pointer (some ⟨Xb, 0, none⟩), .slice Ai x.tx.pages.length ci, .int .u64 (x.tx.gen.toNat : Int)] W fun e w' => e = .returned (.int .i64 yn.2) ∧ TWT wA n ga gd gl gS bS Xb Rb gB Xa Ra La3 gA fa3 yn.1 yn.1 (l.length + 3 + 2 * q + 1 + 1) w' from by
              have h2 := h.symm.commit HG.out HGr.out.1 HGr.out.2 (by omega) Ai x.tx.pages ci x.tx.gen ((HX.out W (bt b0 h.bel)).2.pgs.imp (fun j _ hj => Nat.lt_of_lt_of_le hj b0.size)) (by omega)
              rw [← hyn] at h2
              exact h2)
            obtain ⟨y2, er⟩ := yn
            simp only at HCa HCb
            clear hyn hx7
            go_upto_region 31 with (fail)
            have cz5 : Below w16.heap.size w16 w16.drew := (Below.refl _ _).drew
            have HKT := Lib.hid (fun W (bW : Below w.heap.size w W) => show (fun W : World => W.cell? ⟨bA, off + q * 3 + 1, none⟩ = some (.slice Ai x.tx.pages.length ci) ∧ W.cell? ⟨bA, off + q * 3 + 1 + 1, none⟩ = some (.int .u64 (x.tx.gen.toNat : Int))) W from ⟨(HX.out W bW).2.c0, (HX.out W bW).2.c1⟩)
            have hS0 := HKT.out _ (bt b0 (HT16.out.on cz5).bel)
            have tC1 : True := trivial
            go_region_held3 (fun W : World => W.cell? ⟨bA, off + q * 3 + 1, none⟩ = some (.slice Ai x.tx.pages.length ci) ∧ W.cell? ⟨bA, off + q * 3 + 1 + 1, none⟩ = some (.int .u64 (x.tx.gen.toNat : Int))) (first | with_reducible exact hS0 | with_reducible exact hS7 | with_reducible exact hS8) ((first
              | (go_at_call 15; (have _t := tC1); refine (HCa.out _ cz5).mono ?_; clear _t tC1; rintro e w17 ⟨rfl, h17⟩; obtain ⟨La3, fa3, h17⟩ := h17; have hS7 := HKT.out _ (bt b0 h17.bel); have H17 := Lib.hid h17; clear h17)
              | (go_at_call 15; refine (HCb.out _ La3 fa3 H17.out).mono ?_; rintro e w18 ⟨rfl, h18⟩; obtain ⟨Lb3, fb3, h18⟩ := h18; have hS8 := HKT.out _ (bt b0 h18.bel); have H18 := Lib.hid h18.symm; clear h18)))
            clear hS0 HKT cz5 HCa HCb
            go_wp2_with fail
            case roundEnd =>
              have h1 := Hlt.out
              exact ⟨⟨q + 1, La3, Lb3, fa3, fb3, y2, h1, rfl, H18.out⟩, by simp only [intOf]; omega⟩
          · have t0 : (kd != 0) = true := bne_yes hk0
            have HRa := Lib.hid (HT16.out.renew HG.out HGr.out.1 HGr.out.2 (by omega))
            have HRb := Lib.hid (fun W La3 fa3 (h : TW wA W n ga gd gl gS bS Xa Ra La3 gA fa3 Xb Rb Lb2 gB fb2 (y.renew gl) y (l.length + 3 + 2 * q + 1)) => h.symm.renew HG.out HGr.out.1 HGr.out.2 (by omega))
            have tC1 : True := trivial
            clear hk0
            go_wp2_with (first
              | (go_at_call 16; (have _t := tC1); refine HRa.out.mono ?_; clear _t tC1; rintro e w17 ⟨rfl, h17⟩; obtain ⟨La3, fa3, h17⟩ := h17; have H17 := Lib.hid h17; clear h17)
              | (go_at_call 16; refine (HRb.out _ La3 fa3 H17.out).mono ?_; rintro e w18 ⟨rfl, h18⟩; obtain ⟨Lb3, fb3, h18⟩ := h18; have H18 := Lib.hid h18.symm; clear h18))
            case roundEnd =>
              have h1 := Hlt.out
              exact ⟨⟨q + 1, La3, Lb3, fa3, fb3, _, h1, rfl, H18.out⟩, by simp only [intOf]; omega⟩
set_option maxRecDepth 100000 in
theorem lifted (os : Os) (started : os.Started) (H : Type) (enc : TypeId × Value → H) :
    ReturnsInHanded {} Tryz.checked os 3 .any (Rows.storeAnewSpec.pre6 enc Tryz.prog Tryz.f3 Rows.storeAnewRow.domain false) (Rows.storeAnewSpec.post enc Tryz.prog Tryz.f3 false true false false) := by
  refine returnsInHanded_of_change (C := Tryz.checked) own started (by kernel_rfl) Tryz.func3
    (ChangeSpec.witness6 (enc := enc) (C := Tryz.checked) false ⟨#[], #[.agg #[.int .i64 0, .int .i64 0, .int .i64 0], .slice none 0 0, .slice none 0 0], []⟩ 8 (by kernel_rfl) (by kernel_rfl) (by kernel_rfl) (by kernel_rfl)) ?_
  intro W base args ds gs before hval0 hW hcnd _
  have hval : ∀ (j : Nat) t v, Tryz.f3.params[j]? = some t → args[j]? = some v → Value.okWide Tryz.prog W .any base t v := hval0
  have hW' := hW
  obtain ⟨p, q, hA0, hV, rfl, hfz, hnd⟩ := hW
  have hA : DataW.TrodAll enc Tryz.prog W 0 (fun _ => true) true Tryz.f3.params.toList args.toList ds p := hA0
  rw [Tryz.params3] at hA hval
  obtain ⟨v0, vs0, d0, ds0, p0, q0, hargs, rfl, rfl, h0, r0⟩ := trodAll_cons hA
  obtain ⟨v1, vs1, d1, ds1, p1, q1, rfl, rfl, rfl, h1, r1⟩ := trodAll_cons r0
  obtain ⟨v2, vs2, d2, ds2, p2, q2, rfl, rfl, rfl, h2, r2⟩ := trodAll_cons r1
  obtain ⟨rfl, rfl, rfl⟩ := trodAll_nil r2
  obtain rfl : args = #[v0, v1, v2] := by cases args; simp_all
  obtain ⟨rfl, rfl⟩ := trodVars_none hV
  have k0 := h0
  have lt0 := places_lt k0
  obtain ⟨c0a, c0b, c0c, y0a, y0b, y0c, m0, rfl, _, _, hy0a, hy0b, hy0c⟩ := open_agg3 Tryz.underlying23 (by kernel_rfl) (by kernel_rfl) (hval 0 23 v0 rfl rfl) h0
  obtain ⟨n0a, e0a, _, w0a⟩ := DataW.trod_int Tryz.underlying3 hy0a
  simp only [List.cons.injEq, and_true] at e0a
  subst e0a
  obtain ⟨n0b, e0b, _, w0b⟩ := DataW.trod_int Tryz.underlying3 hy0b
  simp only [List.cons.injEq, and_true] at e0b
  subst e0b
  obtain ⟨n0c, e0c, _, w0c⟩ := DataW.trod_int Tryz.underlying3 hy0c
  simp only [List.cons.injEq, and_true] at e0c
  subst e0c
  have k1 := h1
  have lt1 := places_lt k1
  obtain ⟨a1, len1, cap1, rfl⟩ := okWide_slice Tryz.underlying24 (hval 1 24 v1 rfl rfl)
  obtain ⟨fuel1, hf1⟩ := h1
  obtain ⟨l1, rfl, rr1, rc1, rm1⟩ := sacts_of hf1
  have k2 := h2
  have lt2 := places_lt k2
  obtain ⟨a2, len2, cap2, rfl⟩ := okWide_slice Tryz.underlying24 (hval 2 24 v2 rfl rfl)
  obtain ⟨fuel2, hf2⟩ := h2
  obtain ⟨l2, rfl, rr2, rc2, rm2⟩ := sacts_of hf2
  clear hA0 hval0
  refine (walk n0a n0b n0c a1 l1 cap1 a2 l2 cap2 W (wfi w0a).1 (wfi w0a).2 (wfi w0b).1 (wfi w0b).2 (wfi w0c).1 (wfi w0c).2 rr1 rc1 rm1 rr2 rc2 rm2).mono fun e W' ⟨he, bel⟩ => ?_
  subst he
  exact ⟨_, rfl, _, _, _, [], _, [], hW', trodAll_mk1 (shut_bool Tryz.underlying4 _), (trodAll_cons_mk (Below.trod laidOut (by kernel_rfl) (of_decide_eq_true (by kernel_rfl)) k0 bel lt0) (trodAll_cons_mk (Below.trod laidOut (by kernel_rfl) (of_decide_eq_true (by kernel_rfl)) k1 bel lt1) (trodAll_cons_mk (Below.trod laidOut (by kernel_rfl) (of_decide_eq_true (by kernel_rfl)) k2 bel lt2) trodAll_mk0))), rfl, bel.frame _, fun h => by cases h⟩
theorem proved : Rows.StoreAnewSaid :=
  OpenClaim.holds_of_wide 3 Tryz.f3 rfl rfl rfl rfl rfl rfl rfl ⟨rfl, rfl, rfl, rfl, rfl⟩ rfl rfl rfl rfl rfl (by kernel_rfl) Tryz.func3 (by kernel_rfl)
    (of_decide_eq_true (by kernel_rfl)) (by unfold Func.isWrapper; first | (rw [if_pos (by decide +kernel)]; kernel_rfl) | (rw [if_neg (by decide +kernel)]; exact ⟨rfl, rfl⟩))
    (fun os started H enc _ => lifted os started H enc)
#print axioms proved
end Go.Proofs.YtchcmklelmlbgaaGreat.StoreAnew
