/- SnapWrites: for every input the law returns true: what stands behind any pages that are written, or why they are not, and that they are read. No condition. -/
import Derived.Test.YtmpmibcdpkolkaaSnapWritesF
import Derived.Lib.MinMax
namespace Go.Proofs.Ytmpmibcdpkolkaa.SnapWrites
open Go.ChangeShapes Go.WideShapes Go.ChangeAt Go.RowKit Go.Joins
open Go.ChangeMaps (open_string shut_string)
open Go.Proofs.Ytmpmibcdpkolkaa.Sup (Gb gv gcell srightF gthree newN_any UpN up_new srightF_new srightF_no size_ge)
open Go.Proofs.Ytmpmibcdpkolkaa.Snap
open Go.Proofs.Ytmpmibcdpkolkaa.Geom (lo hi pagesOf areaAt)
open Go.Proofs.Ytmpmibcdpkolkaa.Disk (St DAt)
open Go.Proofs.Ytmpmibcdpkolkaa.Sec (symbolic_any RetX five5x X)
set_option linter.unusedVariables false
set_option maxRecDepth 100000
set_option maxHeartbeats 4000000 in
theorem walk (ga gd gl : Int) (life : UInt64) (A : Option Addr) (pages : List (List UInt8)) (c : Nat) (w : World) (ha0 : -9223372036854775808 ≤ ga) (ha1 : ga ≤ 9223372036854775807) (hd0 : -9223372036854775808 ≤ gd) (hd1 : gd ≤ 9223372036854775807) (hg0 : -9223372036854775808 ≤ gl) (hg1 : gl ≤ 9223372036854775807)
    (hr : Rws w w.heap.size A pages) (hc : pages.length ≤ c) (hcm : c ≤ maxLen) :
    Calls Try.prog 4 #[gv ga gd gl, .int .u64 (life.toNat : Int), .slice A pages.length c] w fun e w' => e = .returned (.bool true) ∧ Below w.heap.size w w' := by
  have hG : Gb ga gd gl := ⟨ha0, ha1, hd0, hd1, hg0, hg1⟩
  have FG := Blk.new w (gcell ga gd gl) 23
  have bw := b1alloc w (.cells (gcell ga gd gl).toArray 23)
  obtain ⟨z0, z1, z2⟩ := gthree FG
  have HA := Lib.hid FG
  have HLi := Lib.hid (fun W (bW : Below w.heap.size w W) => light_any ga gd gl A pages pages.length c W hG (hr.on bW) rfl (Nat.le_trans hc hcm))
  clear hc hcm FG
  cases hlight : lightB ga gd gl pages with
  | false =>
    rw [hlight] at HLi
    clear hlight
    go_enter Try.func4, Try.ntmps4
    go_wp2_with (first
      | (go_at_call 29; refine (HLi.out _ bw).mono ?_; rintro e w2 ⟨rfl, b2⟩)
      | (go_at_call 30; refine (alive_any _).mono ?_; rintro e w8 ⟨rfl, b8⟩))
    go_ret
    exact ⟨rfl, bt bw (bt b2 b8)⟩
  | true =>
  rw [hlight] at HLi
  obtain ⟨hl30, hl40, hl600⟩ := light_of hlight
  have hpb := Geom.pagesOf_bd ga gd gl
  have hsb := Geom.size_bd ga gd gl
  have HSz := Lib.hid (fun W => Geom.rsize_any ga gd gl W hG.a0 hG.a1 hG.d0 hG.d1 hG.g0 hG.g1)
  have HPg := Lib.hid (fun W => Geom.rpages_any ga gd gl W hG.a0 hG.a1 hG.d0 hG.d1 hG.g0 hG.g1)
  have HE := Lib.hid (fun W => empty_any ga gd gl W hG)
  have HOk := Lib.hid (fun W (bW : Below w.heap.size w W) => rright_any ga gd gl A pages pages.length c W hG (hr.on bW) rfl (by omega))
  obtain ⟨z, hz⟩ : ∃ z, z = Geom.sizeOf ga gd gl := ⟨_, rfl⟩
  rw [← hz] at HSz
  obtain ⟨N, hN⟩ : ∃ N : Nat, pagesOf ga gd gl = (N : Int) := ⟨_, (Int.toNat_of_nonneg hpb.1).symm⟩
  rw [hN] at HPg HE
  simp only [Int.toNat_natCast] at HE
  have tD : True := trivial
  have tW : True := trivial
  have tNN : ((N : Int) != (N : Int)) = false := bne_no rfl
  cases hok : okB ga gd gl pages with
  | false =>
    rw [hok] at HOk
    obtain ⟨n, hn1, hn2, hnz, hW⟩ : ∃ n : Nat, 1 ≤ n ∧ n ≤ 1024 ∧ max z 1 = (n : Int) ∧ ∀ g fp gS W, DAt W g fp (Disk.new n) → Below w.heap.size w W → Calls Try.prog 31 #[.pointer (some ⟨g, 0, none⟩), .pointer (some ⟨gS, 0, none⟩), gv ga gd gl, .int .u64 (life.toNat : Int), .slice A pages.length c] W fun e w' => e = .returned (.int .i64 2) ∧ Below W.heap.size W w' := by
      by_cases hq : Geom.right ga gd gl = true
      · have hsg := size_ge hq
        refine ⟨z.toNat, by omega, by omega, by omega, fun g fp gS W hD bW => ?_⟩
        have r0 : srightF (Disk.new z.toNat) ga gd gl = 0 := srightF_new (n := z.toNat) hq rfl (by omega)
        refine write_range g fp _ gS ga gd gl life A pages c W hG hD r0 (hr.on bW) (by omega) ?_
        unfold okB at hok
        rw [hq, Bool.true_and] at hok
        rcases (Bool.and_eq_false_iff.1 hok) with h | h
        · right
          rw [List.all_eq_false] at h
          obtain ⟨b, hb, hlen⟩ := h
          obtain ⟨j, hj, rfl⟩ := List.mem_iff_getElem.1 hb
          exact longB_yes hj (by simpa using hlen)
        · exact .inl (of_decide_eq_false h)
      · have hz0 : z = 0 := by rw [hz]; unfold Geom.sizeOf; rw [if_neg hq]
        refine ⟨1, by omega, by omega, by omega, fun g fp gS W hD bW => ?_⟩
        have := write_wrong g fp (Disk.new 1) gS ga gd gl life A pages.length c W hG hD (by rw [srightF_no hq]; decide)
        rwa [srightF_no hq] at this
    have HN := Lib.hid (fun W => newN_any n (n : Int) rfl hn1 hn2 W)
    have HW := Lib.hid hW
    clear hW hok hz hlight hN hpb hsb hl30 hl600
    go_enter Try.func4, Try.ntmps4
    go_wp2_with (first
      | (go_at_call 29; refine (HLi.out _ bw).mono ?_; rintro e w1 ⟨rfl, b1⟩; have bw1 := bt bw b1; clear z0 z1 z2; obtain ⟨z0, z1, z2⟩ := gthree (HA.out.on b1))
      | (go_at_call 13; refine (HSz.out _).mono ?_; rintro e w2 ⟨rfl, b2⟩)
      | (go_at_call 12; refine (HN.out _).mono ?_; rintro e w3 ⟨g, fp, rfl, hD, hfp, b3⟩; have bs := bt b2 b3; have hfp' := fun j hj => Nat.le_trans b2.size (hfp j hj))
      | (go_at_call 14; refine (symbolic_any _).mono ?_; rintro e w4 ⟨gS, bS, rfl, hS, hgS, hbS, b4⟩; have H4 := Here.start hD hfp' bs hS hgS hbS b4; have FG4 := (HA.out.on b1).below H4.bel (HA.out.on b1).lt; clear z0 z1 z2; obtain ⟨z0, z1, z2⟩ := gthree FG4)
      | (go_at_call 31; refine (HW.out _ _ _ _ H4.both.disk (bt bw1 H4.bel)).mono ?_; rintro e w5 ⟨rfl, b5⟩; have H5 := H4.on b5; have FG5 := FG4.on b5; clear z0 z1 z2; obtain ⟨z0, z1, z2⟩ := gthree FG5))
    have cz : Below w5.heap.size w5 w5.drew := (Below.refl _ _).drew
    go_region_held3 (fun w' => (w'.cell? ⟨w.heap.size, 0, none⟩ = some (.int .i64 ga) ∧ w'.cell? ⟨w.heap.size, 1, none⟩ = some (.int .i64 gd) ∧ w'.cell? ⟨w.heap.size, 2, none⟩ = some (.int .i64 gl))) (first | with_reducible exact gthree (FG5.on cz) | with_reducible exact gthree (FG5.on c1) | with_reducible exact gthree (FG5.on c2) | with_reducible exact gthree (FG5.on c3) | with_reducible exact gthree (FG5.on c4)) (first
        | (go_at_call 31; have _t := tD; refine (writeD_nil _ _ _ _ _ _ _ _ _).mono ?_; rintro e x1 ⟨rfl, t1⟩; have c1 := bt cz t1; clear tD)
        | (go_at_call 31; refine (writeS_nil _ _ _ _ _ _ _ _ _).mono ?_; rintro e x2 ⟨rfl, t2⟩; have c2 := bt c1 t2)
        | (go_at_call 32; refine (HE.out _).mono ?_; rintro e x3 ⟨A3, d3, rfl, _, t3⟩; have c3 := bt c2 t3)
        | (go_at_call 33; refine (HPg.out _).mono ?_; rintro e x4 ⟨rfl, t4⟩; have c4 := bt c3 t4))
    have H6 := H5.on c4
    have FG6 := FG5.on c4
    clear z0 z1 z2
    obtain ⟨z0, z1, z2⟩ := gthree FG6
    go_wp2_with (first
      | (go_at_call 34; refine (HOk.out _ (bt bw1 H6.bel)).mono ?_; rintro e w7 ⟨rfl, b7⟩; have H7 := H6.on b7)
      | (go_at_call 30; refine (alive_any _).mono ?_; rintro e w8 ⟨rfl, b8⟩))
    go_ret
    exact ⟨rfl, bt (bt bw1 H7.bel) b8⟩
  | true =>
    rw [hok] at HOk
    have hq : Geom.right ga gd gl = true := by simp [okB] at hok; exact hok.2.1
    have hsg := size_ge hq
    obtain ⟨n, hn⟩ : ∃ n : Nat, (n : Int) = Geom.sizeOf ga gd gl := ⟨z.toNat, by omega⟩
    obtain ⟨hP, _, hlong⟩ := ok_of hn hok
    have hn7 : 7 ≤ n ∧ n ≤ 238 := by omega
    rw [hz, ← hn] at HSz
    have hmx : max (n : Int) 1 = (n : Int) := by omega
    have HN := Lib.hid (fun W => newN_any n (n : Int) rfl (by omega) (by omega) W)
    have r0 : srightF (Disk.new n) ga gd gl = 0 := srightF_new (n := n) hq rfl hn
    have hq0 : (Disk.new n).sz = 0 := rfl
    have hlen := hP.len
    have hlN : pages.length = N := by omega
    obtain ⟨u1, u2, u3, u4, u5, u6⟩ := hP.up life [] (up_new n)
    obtain ⟨lm1, lm2⟩ := Enc.enf_lim (pItems ga gd gl life 0 pages) [] (Disk.new n)
    rw [show Enc.enf (pItems ga gd gl life 0 pages) [] (Disk.new n) = snapF ga gd gl life pages [] (Disk.new n) from rfl, pItems_len] at lm1 lm2
    simp only [List.length_nil] at lm1
    have hW := fun g fp gS bS W (bW : Below w.heap.size w W) h hQ => write_any g fp (Disk.new n) gS bS [] ga gd gl life (fun j => j < w.heap.size) A pages c W hG h (by simp) (by omega) r0 ((hr.below bW).rw bW.size) hQ hlen hlong
    obtain ⟨V, hV⟩ : ∃ V, V = snapF ga gd gl life pages [] (Disk.new n) := ⟨_, rfl⟩
    rw [← hV] at u1 u2 u3 u4 u5 u6 lm1 lm2 hW
    rw [u1] at hW
    have rV : srightF V.2.1 ga gd gl = 0 := srightF_new (n := n) hq u2.size hn
    have hrds := fun k (hk : k < pages.length) => rdAt_good u2 hP hk (u4 k hk)
    obtain ⟨hyes, hbad⟩ := snapR_some hrds
    have hRd := fun g fp gS bS W h => read_any g fp V.2.1 gS bS V.1 ga gd gl life W hG h (by omega) (by omega) rV u2.down N hN.symm
    have hBd := fun g fp gS bS W h => bad_any g fp V.2.1 gS bS V.1 ga gd gl life W hG h (by omega) (by omega) rV u2.down N hN.symm
    rw [← hlN, hyes] at hRd
    rw [← hlN, hbad] at hBd
    have hKA := fun (k : Nat) (hk : k < pages.length) g fp W h => Disk.kept_any g fp V.2.1 (areaAt ga gd gl life.toNat k) W h
    have hDA := fun (k : Nat) (hk : k < pages.length) gS bS A c W hS hr hc hcm => Sec.decode_sym (areaAt ga gd gl life.toNat k) gS bS V.1 A (Disk.kept V.2.1.all (areaAt ga gd gl life.toNat k).toNat) _ c W hS (by omega) (by have := hP.place life hk; omega) (by have := hP.place life hk; omega) rfl hr (by have := (u4 k hk).len; omega) hc hcm
    have hArA := fun (k : Nat) (hk : k < pages.length) W => Geom.rarea_any ga gd gl life _ (by rfl) (k : Int) W hG.a0 hG.a1 hG.d0 hG.d1 hG.g0 hG.g1 (show Geom.lo ≤ (k : Int) by unfold Geom.lo; omega) (show (k : Int) ≤ Geom.hi by unfold Geom.hi; omega)
    have hSame : ∀ (k : Nat) (hk : k < pages.length) (x : X), x = px life k pages[k] → ∀ A B c d W, Rd W W.heap.size A (x.body.map e8) → Rd W W.heap.size B (pages[k].map e8) → Calls Try.prog 26 #[.agg #[.int .i64 x.kind, .int .u64 (x.life.toNat : Int), .int .i64 x.seq, .int .u64 (x.gen.toNat : Int), .slice A x.body.length c], .agg #[.int .i64 3, .int .u64 (life.toNat : Int), .int .i64 (k : Int), .int .u64 0, .slice B pages[k].length d]] W fun e w' => e = .returned (.bool true) ∧ Below W.heap.size W w' := by
      intro k hk x hx A B c d W h3 h4
      subst hx
      have hb := hl600 _ (List.getElem_mem hk)
      have := Sec.rsame_any (px life k pages[k]) (px life k pages[k]) A B c d W h3 h4 (by show pages[k].length ≤ _; omega) (by show pages[k].length ≤ _; omega)
      rw [show Sec.same (px life k pages[k]) (px life k pages[k]) = true by simp [Sec.same]] at this
      exact this
    have HR := Lib.hid (fun W (bW : Below w.heap.size w W) => hr.below bW)
    have HW := Lib.hid hW
    have HRd := Lib.hid hRd
    have HBd := Lib.hid hBd
    have HKA := Lib.hid hKA
    have HDA := Lib.hid hDA
    have HArA := Lib.hid hArA
    have HSame := Lib.hid hSame
    have HU4 := Lib.hid u4
    have HKp := Lib.hid (fun (k : Nat) (hk : k < pages.length) => u2.keptAt (hP.place life hk).1 (hP.place life hk).2.1)
    have Hlen := Lib.hid (And.intro hl600 hlN)
    clear hW hRd hBd hKA hDA hArA hSame u1 u2 u3 u4 u5 u6 lm1 lm2 hV hrds hyes hbad rV r0 hq0 hlen hlN hok hP hn hz hlight hN hpb hsb hl30 hl600 hlong hsg hr
    go_enter Try.func4, Try.ntmps4
    go_wp2_with (first
      | (go_at_call 29; refine (HLi.out _ bw).mono ?_; rintro e w1 ⟨rfl, b1⟩; have bw1 := bt bw b1; clear z0 z1 z2; obtain ⟨z0, z1, z2⟩ := gthree (HA.out.on b1))
      | (go_at_call 13; refine (HSz.out _).mono ?_; rintro e w2 ⟨rfl, b2⟩)
      | (go_at_call 12; refine (HN.out _).mono ?_; rintro e w3 ⟨g, fp, rfl, hD, hfp, b3⟩; have bs := bt b2 b3; have hfp' := fun j hj => Nat.le_trans b2.size (hfp j hj))
      | (go_at_call 14; refine (symbolic_any _).mono ?_; rintro e w4 ⟨gS, bS, rfl, hS, hgS, hbS, b4⟩; have H4 := Here.start hD hfp' bs hS hgS hbS b4; have FG4 := (HA.out.on b1).below H4.bel (HA.out.on b1).lt; clear z0 z1 z2; obtain ⟨z0, z1, z2⟩ := gthree FG4)
      | (go_at_call 31; refine (HW.out _ _ _ _ _ (bt bw1 H4.bel) H4.both (fun j hj _ e => by have := H4.own j e; have := bw1.size; omega)).mono ?_; rintro e w5 ⟨rfl, T5⟩; obtain ⟨fp5, H5, K5, F5⟩ := H4.turn T5; have FG5 := (HA.out.on b1).below H5.bel (HA.out.on b1).lt; clear z0 z1 z2; obtain ⟨z0, z1, z2⟩ := gthree FG5))
    have cz : Below w5.heap.size w5 w5.drew := (Below.refl _ _).drew
    go_region_held3 (fun w' => (w'.cell? ⟨w.heap.size, 0, none⟩ = some (.int .i64 ga) ∧ w'.cell? ⟨w.heap.size, 1, none⟩ = some (.int .i64 gd) ∧ w'.cell? ⟨w.heap.size, 2, none⟩ = some (.int .i64 gl))) (first | with_reducible exact gthree (FG5.on cz) | with_reducible exact gthree (FG5.on c1) | with_reducible exact gthree (FG5.on c2) | with_reducible exact gthree (FG5.on c3) | with_reducible exact gthree (FG5.on c4)) (first
        | (go_at_call 31; have _t := tD; refine (writeD_nil _ _ _ _ _ _ _ _ _).mono ?_; rintro e x1 ⟨rfl, t1⟩; have c1 := bt cz t1; clear tD)
        | (go_at_call 31; refine (writeS_nil _ _ _ _ _ _ _ _ _).mono ?_; rintro e x2 ⟨rfl, t2⟩; have c2 := bt c1 t2)
        | (go_at_call 32; refine (HE.out _).mono ?_; rintro e x3 ⟨A3, d3, rfl, _, t3⟩; have c3 := bt c2 t3)
        | (go_at_call 33; refine (HPg.out _).mono ?_; rintro e x4 ⟨rfl, t4⟩; have c4 := bt c3 t4))
    have H6 := H5.on c4
    have FG6 := FG5.on c4
    clear z0 z1 z2 c1 c2 c3 cz t1 t2 t3 tNN
    obtain ⟨z0, z1, z2⟩ := gthree FG6
    go_wp2_with (go_at_call 34; refine (HOk.out _ (bt bw1 H6.bel)).mono ?_; rintro e w7 ⟨rfl, b7⟩; have H7 := H6.on b7; have FG7 := FG6.on b7; clear z0 z1 z2)
    have H0 := Lib.hid H7
    have hlA1 := FG7.lt
    go_loopw [11, 13] (fun i _ wr => ∃ k : Nat, k ≤ pages.length ∧ i = .int .i64 (k : Int) ∧ Here w1 wr g fp5 V.2.1 gS bS V.1 ∧ Blk wr w.heap.size (gcell ga gd gl)) (fun i _ _ => pages.length - (intOf i).toNat)
    case atStart => exact ⟨0, by omega, rfl, H7, FG7⟩
    case round =>
      obtain ⟨k, hk, rfl, HB, FB⟩ := hrel
      clear H7 FG7 H6 FG6 H5 FG5 H4 FG4
      have bWr := bt bw1 HB.bel
      obtain ⟨z0, z1, z2⟩ := gthree FB
      by_cases hlt : k < pages.length
      · have hkm : (k : Int) < (pages.length : Int) := Int.ofNat_lt.2 hlt
        have hk1 : k + 1 ≤ pages.length := hlt
        have hms : pages.length - (k + 1) < pages.length - k := by omega
        have hwk := wrap_up (k := k) (by omega)
        obtain ⟨b, off, Ak, ck, rfl, hb, hck, hrk, _, _⟩ := (HR.out wr bWr).get hlt
        have hb1 : b < wr.heap.size := Nat.lt_of_lt_of_le hb bWr.size
        have hAr := HArA.out k hlt
        have hK := HKA.out k hlt
        rw [HKp.out k hlt] at hK
        have hD := HDA.out k hlt
        rw [(HU4.out k hlt).dec] at hD
        have hSm := HSame.out k hlt
        obtain ⟨x, hx⟩ : ∃ x, x = px life k pages[k] := ⟨_, rfl⟩
        have hSm := hSm x hx
        rw [← hx] at hD
        obtain ⟨p, hp⟩ : ∃ p, p = areaAt ga gd gl life.toNat k := ⟨_, rfl⟩
        rw [← hp] at hAr hK hD
        obtain ⟨bb, hbb⟩ : ∃ b, b = Disk.kept V.2.1.all p.toNat := ⟨_, rfl⟩
        rw [← hbb] at hK hD
        obtain ⟨y, hy⟩ : ∃ y, y = pages[k] := ⟨_, rfl⟩
        rw [← hy] at hSm hck hrk
        have HAr := Lib.hid hAr
        have HK := Lib.hid hK
        have HD := Lib.hid hD
        have HSm := Lib.hid hSm
        clear hAr hK hD hSm hx hp hbb hy
        go_wp2_with (first
          | (go_at_call 35; refine (HAr.out _).mono ?_; rintro e w8 ⟨rfl, b8⟩; have H8 := HB.on b8)
          | (go_at_call 23; refine (HK.out _ _ _ H8.both.disk).mono ?_; rintro e w9 ⟨v, rfl, nk, b9⟩; obtain ⟨A9, c9, rfl, hc9, hm9, rd9⟩ := nk.rdN (fp := []) (by simp); have H9 := H8.on b9)
          | (go_at_call 22; refine (HD.out _ _ _ _ _ H9.both.sym rd9.rd hc9 hm9).mono ?_; rintro e w10 ⟨⟨A10, d10, rfl, own10⟩, b10⟩; unfold Sec.xv; have F10 := Blk.new w10 [.int .i64 x.kind, .int .u64 (x.life.toNat : Int), .int .i64 x.seq, .int .u64 (x.gen.toNat : Int), .slice A10 x.body.length d10] 43; have ba := b1alloc w10 (.cells ([.int .i64 x.kind, .int .u64 (x.life.toNat : Int), .int .i64 x.seq, .int .u64 (x.gen.toNat : Int), .slice A10 x.body.length d10] : List Value).toArray 43); have H10 := H9.on (bt b10 ba); have b810 := bt (bt (bt b8 b9) b10) ba; have rd10 := (Rd.own own10).on ba; clear z0 z1 z2))
        obtain ⟨w11, hw11⟩ : ∃ q, q = w10.alloc (.cells ([.int .i64 x.kind, .int .u64 (x.life.toNat : Int), .int .i64 x.seq, .int .u64 (x.gen.toNat : Int), .slice A10 x.body.length d10] : List Value).toArray 43) := ⟨_, rfl⟩
        have e11 : w10.alloc (.cells #[.int .i64 x.kind, .int .u64 (x.life.toNat : Int), .int .i64 x.seq, .int .u64 (x.gen.toNat : Int), .slice A10 x.body.length d10] 43) = w11 := hw11.symm
        rw [← hw11] at F10 H10 b810 rd10
        rw [e11]
        clear hw11 e11 ba
        have F11 := FB.on b810
        have hck11 := ((b810.cell (p := ⟨b, off + k, none⟩) hb1).trans hck)
        have hb11 : b < w11.heap.size := Nat.lt_of_lt_of_le hb1 b810.size
        have hlX := F10.lt
        obtain ⟨i0, i1, i2, i3, i4⟩ := five5x F10
        have hRk := fun W (bW : Below w11.heap.size w11 W) => (hrk.below ((bt b810 bW).mono bWr.size)).more (Nat.le_trans bWr.size (bt b810 bW).size)
        clear hb hlA1
        go_wp2_with fail
        refine region_inb (by kernel_rfl) (by kernel_rfl) ?_
        have inbNe := InB.some
        have inbW := @wrap_small
        have inbU := IntKind.wrap_u8'
        repeat (refine wpQuiet_step (fun K hK => ?_); go_simp; first | (refine hK _ ?_; clear hK K) | (apply Exists.intro; refine ⟨?_, hK _ ?_⟩; (· (intro w' hw'; first | (go_at_call 36; refine (rsector_any life (k : Int) Ak y.length ck _).mono ?_; rintro e w1 ⟨rfl, b1⟩; exact ⟨rfl, hw'.on b1⟩) | (go_at_call 26; refine (HSm.out A10 Ak d10 ck _ (rd10.on hw'.below) (hRk _ hw'.below)).mono ?_; rintro e w1 ⟨rfl, b1⟩; exact ⟨rfl, hw'.on b1⟩) | (have hcw := hw'.cell; go_simp; exact rfl))); clear hK K))
        refine wpQuiet_nil ?_
        intro wq hq
        clear inbNe inbW inbU
        go_wp2_with fail
        case roundEnd => exact ⟨⟨k + 1, hk1, by rw [hwk]; rfl, H10.on hq.below, F11.on hq.below⟩, by rw [hwk]; exact hms⟩
      · have hkn : ¬ (k : Int) < (pages.length : Int) := fun h => hlt (Int.ofNat_lt.1 h)
        clear hlA1
        go_wp2_with (first
          | (go_at_call 37; refine (HRd.out _ _ _ _ _ HB.both).mono ?_; rintro e w8 ⟨⟨A8, c8, rfl, or8⟩, b8⟩; have H8 := HB.on b8; clear z0 z1 z2; obtain ⟨z0, z1, z2⟩ := gthree (FB.on b8))
          | (go_at_call 38; refine (HBd.out _ _ _ _ _ H8.both).mono ?_; rintro e w9 ⟨⟨A9, c9, rfl, _⟩, b9⟩; have H9 := H8.on b9; have or9 := or8.on b9)
          | (go_at_call 39; refine (R20.rows_any _ _ pages pages _ _ _ _ _ (or9.rws rfl) (((HR.out _ (bt bw1 H9.bel))).more (bt bw1 H9.bel).size) rfl rfl (by have := Hlen.out.2; omega) or9.short (fun x hx => by have := Hlen.out.1 x hx; omega)).mono ?_; rw [decide_eq_true (rfl : pages = pages)]; rintro e w10 ⟨rfl, b10⟩)
          | (go_at_call 30; refine (alive_any _).mono ?_; rintro e w11 ⟨rfl, b11⟩))
        go_ret
        exact ⟨rfl, bt (bt bw1 (bt H9.bel b10)) b11⟩
set_option maxRecDepth 100000 in
theorem lifted (os : Os) (started : os.Started) (H : Type) (enc : TypeId × Value → H) :
    ReturnsInHanded {} Try.checked os 4 .any (Rows.snapWritesSpec.pre6 enc Try.prog Try.f4 Rows.snapWritesRow.domain false) (Rows.snapWritesSpec.post enc Try.prog Try.f4 false true false false) := by
  refine returnsInHanded_of_change (C := Try.checked) own started (by kernel_rfl) Try.func4
    (ChangeSpec.witness6 (enc := enc) (C := Try.checked) false ⟨#[], #[.agg #[.int .i64 0, .int .i64 0, .int .i64 0], .int .u64 0, .slice none 0 0], []⟩ 8 (by kernel_rfl) (by kernel_rfl) (by kernel_rfl) (by kernel_rfl)) ?_
  intro W base args ds gs before hval0 hW hcnd _
  have hval : ∀ (j : Nat) t v, Try.f4.params[j]? = some t → args[j]? = some v → Value.okWide Try.prog W .any base t v := hval0
  have hW' := hW
  obtain ⟨p, q, hA0, hV, rfl, hfz, hnd⟩ := hW
  have hA : DataW.TrodAll enc Try.prog W 0 (fun _ => true) true Try.f4.params.toList args.toList ds p := hA0
  rw [Try.params4] at hA hval
  obtain ⟨v0, vs0, d0, ds0, p0, q0, hargs, rfl, rfl, h0, r0⟩ := trodAll_cons hA
  obtain ⟨v1, vs1, d1, ds1, p1, q1, rfl, rfl, rfl, h1, r1⟩ := trodAll_cons r0
  obtain ⟨v2, vs2, d2, ds2, p2, q2, rfl, rfl, rfl, h2, r2⟩ := trodAll_cons r1
  obtain ⟨rfl, rfl, rfl⟩ := trodAll_nil r2
  obtain rfl : args = #[v0, v1, v2] := by cases args; simp_all
  obtain ⟨rfl, rfl⟩ := trodVars_none hV
  have k0 := h0
  have lt0 := places_lt k0
  obtain ⟨c0a, c0b, c0c, y0a, y0b, y0c, m0, rfl, _, _, hy0a, hy0b, hy0c⟩ := open_agg3 Try.underlying23 (by kernel_rfl) (by kernel_rfl) (hval 0 23 v0 rfl rfl) h0
  obtain ⟨n0a, e0a, _, w0a⟩ := DataW.trod_int Try.underlying3 hy0a
  simp only [List.cons.injEq, and_true] at e0a
  subst e0a
  obtain ⟨n0b, e0b, _, w0b⟩ := DataW.trod_int Try.underlying3 hy0b
  simp only [List.cons.injEq, and_true] at e0b
  subst e0b
  obtain ⟨n0c, e0c, _, w0c⟩ := DataW.trod_int Try.underlying3 hy0c
  simp only [List.cons.injEq, and_true] at e0c
  subst e0c
  have k1 := h1
  have lt1 := places_lt k1
  obtain ⟨n1, rfl, _, _, w1⟩ := open_int Try.underlying24 (hval 1 24 v1 rfl rfl) h1
  obtain ⟨x1, rfl⟩ := wf64 w1
  have k2 := h2
  have lt2 := places_lt k2
  obtain ⟨a2, len2, cap2, rfl⟩ := okWide_slice Try.underlying55 (hval 2 55 v2 rfl rfl)
  obtain ⟨fuel2, hf2⟩ := h2
  obtain ⟨l2, rfl, rr2, rc2, rm2⟩ := rows_of hf2
  clear hA0 hval0
  refine (walk n0a n0b n0c x1 a2 l2 cap2 W (wfi w0a).1 (wfi w0a).2 (wfi w0b).1 (wfi w0b).2 (wfi w0c).1 (wfi w0c).2 rr2 rc2 rm2).mono fun e W' ⟨he, bel⟩ => ?_
  subst he
  exact ⟨_, rfl, _, _, _, [], _, [], hW', trodAll_mk1 (shut_bool Try.underlying4 _), (trodAll_cons_mk (Below.trod laidOut (by kernel_rfl) (of_decide_eq_true (by kernel_rfl)) k0 bel lt0) (trodAll_cons_mk (Below.trod laidOut (by kernel_rfl) (of_decide_eq_true (by kernel_rfl)) k1 bel lt1) (trodAll_cons_mk (Below.trod laidOut (by kernel_rfl) (of_decide_eq_true (by kernel_rfl)) k2 bel lt2) trodAll_mk0))), rfl, bel.frame _, fun h => by cases h⟩

theorem proved : Rows.SnapWritesSaid :=
  OpenClaim.holds_of_wide 4 Try.f4 rfl rfl rfl rfl rfl rfl rfl ⟨rfl, rfl, rfl, rfl, rfl⟩ rfl rfl rfl rfl rfl (by kernel_rfl) Try.func4 (by kernel_rfl)
    (of_decide_eq_true (by kernel_rfl)) (by unfold Func.isWrapper; first | (rw [if_pos (by decide +kernel)]; kernel_rfl) | (rw [if_neg (by decide +kernel)]; exact ⟨rfl, rfl⟩))
    (fun os started H enc _ => lifted os started H enc)
#print axioms proved
end Go.Proofs.Ytmpmibcdpkolkaa.SnapWrites
