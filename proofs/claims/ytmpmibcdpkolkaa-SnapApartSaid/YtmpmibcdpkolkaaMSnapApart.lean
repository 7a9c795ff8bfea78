/- SnapApart: for every input the law returns true: whatever the power does while the pages of the next life are written, those of the one ahead are read as they were. No condition. -/
import Derived.Test.YtmpmibcdpkolkaaSnapApartF
import Derived.Lib.MinMax
namespace Go.Proofs.Ytmpmibcdpkolkaa.SnapApart
open Go.ChangeShapes Go.WideShapes Go.ChangeAt Go.RowKit Go.Joins
open Go.ChangeMaps (open_string shut_string)
open Go.Proofs.Ytmpmibcdpkolkaa.Sup (Gb gv gcell srightF gthree newN_any UpN up_new srightF_new srightF_no size_ge)
open Go.Proofs.Ytmpmibcdpkolkaa.Snap
open Go.Proofs.Ytmpmibcdpkolkaa.Geom (lo hi pagesOf areaAt)
open Go.Proofs.Ytmpmibcdpkolkaa.Disk (St DAt)
open Go.Proofs.Ytmpmibcdpkolkaa.Sec (symbolic_any RetX five5x X)
set_option linter.unusedVariables false
set_option maxRecDepth 100000
theorem litL (w : World) (fp : List Nat) (hf : ∀ j ∈ fp, j < w.heap.size) (xs : List Value) (t : TypeId) : RdN (w.alloc (.cells xs.toArray t)) fp (some ⟨w.heap.size, 0, none⟩) xs := fun _ =>
  ⟨w.heap.size, 0, rfl, by simp, fun e => by have := hf _ e; omega, fun i hi => by rw [World.cell?_alloc_new, Nat.zero_add]; simp⟩
set_option maxHeartbeats 4000000 in
theorem walk (ga gd gl : Int) (life : UInt64) (A : Option Addr) (a : List (List UInt8)) (c : Nat) (B : Option Addr) (b : List (List UInt8)) (d : Nat) (fuse at_ : Int) (w : World) (ha0 : -9223372036854775808 ≤ ga) (ha1 : ga ≤ 9223372036854775807) (hd0 : -9223372036854775808 ≤ gd) (hd1 : gd ≤ 9223372036854775807) (hg0 : -9223372036854775808 ≤ gl) (hg1 : gl ≤ 9223372036854775807)
    (hra : Rws w w.heap.size A a) (hc : a.length ≤ c) (hcm : c ≤ maxLen) (hrb : Rws w w.heap.size B b) (hd : b.length ≤ d) (hdm : d ≤ maxLen) (hf0 : -9223372036854775808 ≤ fuse) (hf1 : fuse ≤ 9223372036854775807) (ht0 : -9223372036854775808 ≤ at_) (ht1 : at_ ≤ 9223372036854775807) :
    Calls Try.prog 5 #[gv ga gd gl, .int .u64 (life.toNat : Int), .slice A a.length c, .slice B b.length d, .int .i64 fuse, .int .i64 at_] w fun e w' => e = .returned (.bool true) ∧ Below w.heap.size w w' := by
  have hG : Gb ga gd gl := ⟨ha0, ha1, hd0, hd1, hg0, hg1⟩
  have FG := Blk.new w (gcell ga gd gl) 23
  have bw := b1alloc w (.cells (gcell ga gd gl).toArray 23)
  obtain ⟨z0, z1, z2⟩ := gthree FG
  have HA := Lib.hid FG
  have HLa := Lib.hid (fun W (bW : Below w.heap.size w W) => light_any ga gd gl A a a.length c W hG (hra.on bW) rfl (Nat.le_trans hc hcm))
  have HLb := Lib.hid (fun W (bW : Below w.heap.size w W) => light_any ga gd gl B b b.length d W hG (hrb.on bW) rfl (Nat.le_trans hd hdm))
  have HOa := Lib.hid (fun (h : a.length ≤ 40) W (bW : Below w.heap.size w W) => rright_any ga gd gl A a a.length c W hG (hra.on bW) rfl (by omega))
  have HOb := Lib.hid (fun (h : b.length ≤ 40) W (bW : Below w.heap.size w W) => rright_any ga gd gl B b b.length d W hG (hrb.on bW) rfl (by omega))
  have tL : True := trivial
  have tR : True := trivial
  clear hc hcm hd hdm FG
  cases hla : lightB ga gd gl a with
  | false =>
    rw [hla] at HLa
    clear hla HLb HOa HOb
    go_enter Try.func5, Try.ntmps5
    go_wp2_with (first
      | (go_at_call 29; have _t := tL; refine (HLa.out _ bw).mono ?_; rintro e w1 ⟨rfl, b1⟩; have bx1 := b1; clear tL; clear z0 z1 z2; obtain ⟨z0, z1, z2⟩ := gthree (HA.out.on bx1))
      | (go_at_call 30; refine (alive_any _).mono ?_; rintro e w9 ⟨rfl, b9⟩))
    go_ret
    exact ⟨rfl, bt (bt bw bx1) b9⟩
  | true =>
  rw [hla] at HLa
  obtain ⟨hl30, hla40, hla600⟩ := light_of hla
  cases hlb : lightB ga gd gl b with
  | false =>
    rw [hlb] at HLb
    clear hla hlb HOa HOb
    go_enter Try.func5, Try.ntmps5
    go_wp2_with (first
      | (go_at_call 29; have _t := tL; refine (HLa.out _ bw).mono ?_; rintro e w1 ⟨rfl, b1⟩; have bx1 := b1; clear tL; clear z0 z1 z2; obtain ⟨z0, z1, z2⟩ := gthree (HA.out.on bx1))
      | (go_at_call 29; refine (HLb.out _ (bt bw bx1)).mono ?_; rintro e w2 ⟨rfl, b2⟩; have bx2 := bt bx1 b2; clear z0 z1 z2; obtain ⟨z0, z1, z2⟩ := gthree (HA.out.on bx2))
      | (go_at_call 30; refine (alive_any _).mono ?_; rintro e w9 ⟨rfl, b9⟩))
    go_ret
    exact ⟨rfl, bt (bt bw bx2) b9⟩
  | true =>
  rw [hlb] at HLb
  obtain ⟨_, hlb40, hlb600⟩ := light_of hlb
  have HOa := Lib.hid (HOa.out hla40)
  have HOb := Lib.hid (HOb.out hlb40)
  cases hoa : okB ga gd gl a with
  | false =>
    rw [hoa] at HOa
    clear hla hlb hoa HOb
    go_enter Try.func5, Try.ntmps5
    go_wp2_with (first
      | (go_at_call 29; have _t := tL; refine (HLa.out _ bw).mono ?_; rintro e w1 ⟨rfl, b1⟩; have bx1 := b1; clear tL; clear z0 z1 z2; obtain ⟨z0, z1, z2⟩ := gthree (HA.out.on bx1))
      | (go_at_call 29; refine (HLb.out _ (bt bw bx1)).mono ?_; rintro e w2 ⟨rfl, b2⟩; have bx2 := bt bx1 b2; clear z0 z1 z2; obtain ⟨z0, z1, z2⟩ := gthree (HA.out.on bx2))
      | (go_at_call 34; have _t := tR; refine (HOa.out _ (bt bw bx2)).mono ?_; rintro e w3 ⟨rfl, b3⟩; have bx3 := bt bx2 b3; clear tR; clear z0 z1 z2; obtain ⟨z0, z1, z2⟩ := gthree (HA.out.on bx3))
      | (go_at_call 30; refine (alive_any _).mono ?_; rintro e w9 ⟨rfl, b9⟩))
    go_ret
    exact ⟨rfl, bt (bt bw bx3) b9⟩
  | true =>
  rw [hoa] at HOa
  cases hob : okB ga gd gl b with
  | false =>
    rw [hob] at HOb
    clear hla hlb hoa hob
    go_enter Try.func5, Try.ntmps5
    go_wp2_with (first
      | (go_at_call 29; have _t := tL; refine (HLa.out _ bw).mono ?_; rintro e w1 ⟨rfl, b1⟩; have bx1 := b1; clear tL; clear z0 z1 z2; obtain ⟨z0, z1, z2⟩ := gthree (HA.out.on bx1))
      | (go_at_call 29; refine (HLb.out _ (bt bw bx1)).mono ?_; rintro e w2 ⟨rfl, b2⟩; have bx2 := bt bx1 b2; clear z0 z1 z2; obtain ⟨z0, z1, z2⟩ := gthree (HA.out.on bx2))
      | (go_at_call 34; have _t := tR; refine (HOa.out _ (bt bw bx2)).mono ?_; rintro e w3 ⟨rfl, b3⟩; have bx3 := bt bx2 b3; clear tR; clear z0 z1 z2; obtain ⟨z0, z1, z2⟩ := gthree (HA.out.on bx3))
      | (go_at_call 34; refine (HOb.out _ (bt bw bx3)).mono ?_; rintro e w4 ⟨rfl, b4⟩; have bx4 := bt bx3 b4; clear z0 z1 z2; obtain ⟨z0, z1, z2⟩ := gthree (HA.out.on bx4))
      | (go_at_call 30; refine (alive_any _).mono ?_; rintro e w9 ⟨rfl, b9⟩))
    go_ret
    exact ⟨rfl, bt (bt bw bx4) b9⟩
  | true =>
  rw [hob] at HOb
  by_cases hlf : life.toNat = 18446744073709551615
  · have t1 := beq_yes (show (life.toNat : Int) = 18446744073709551615 by omega)
    clear hla hlb hoa hob hlf
    go_enter Try.func5, Try.ntmps5
    go_wp2_with (first
      | (go_at_call 29; have _t := tL; refine (HLa.out _ bw).mono ?_; rintro e w1 ⟨rfl, b1⟩; have bx1 := b1; clear tL; clear z0 z1 z2; obtain ⟨z0, z1, z2⟩ := gthree (HA.out.on bx1))
      | (go_at_call 29; refine (HLb.out _ (bt bw bx1)).mono ?_; rintro e w2 ⟨rfl, b2⟩; have bx2 := bt bx1 b2; clear z0 z1 z2; obtain ⟨z0, z1, z2⟩ := gthree (HA.out.on bx2))
      | (go_at_call 34; have _t := tR; refine (HOa.out _ (bt bw bx2)).mono ?_; rintro e w3 ⟨rfl, b3⟩; have bx3 := bt bx2 b3; clear tR; clear z0 z1 z2; obtain ⟨z0, z1, z2⟩ := gthree (HA.out.on bx3))
      | (go_at_call 34; refine (HOb.out _ (bt bw bx3)).mono ?_; rintro e w4 ⟨rfl, b4⟩; have bx4 := bt bx3 b4; clear z0 z1 z2; obtain ⟨z0, z1, z2⟩ := gthree (HA.out.on bx4))
      | (go_at_call 30; refine (alive_any _).mono ?_; rintro e w9 ⟨rfl, b9⟩))
    go_ret
    exact ⟨rfl, bt (bt bw bx4) b9⟩
  have t1 := beq_no (show (life.toNat : Int) ≠ 18446744073709551615 by omega)
  have hq : Geom.right ga gd gl = true := by simp [okB] at hoa; exact hoa.2.1
  have hsg := size_ge hq
  have hsb := Geom.size_bd ga gd gl
  have hpb := Geom.pagesOf_bd ga gd gl
  obtain ⟨n, hn⟩ : ∃ n : Nat, (n : Int) = Geom.sizeOf ga gd gl := ⟨(Geom.sizeOf ga gd gl).toNat, by omega⟩
  obtain ⟨hPa, _, hsa⟩ := ok_of hn hoa
  obtain ⟨hPb, _, hsb2⟩ := ok_of hn hob
  have hn7 : 7 ≤ n ∧ n ≤ 238 := by omega
  have HSz := Lib.hid (fun W => Geom.rsize_any ga gd gl W hG.a0 hG.a1 hG.d0 hG.d1 hG.g0 hG.g1)
  rw [← hn] at HSz
  have HN := Lib.hid (fun W => newN_any n (n : Int) rfl (by omega) (by omega) W)
  have htm : -9223372036854775808 ≤ at_.tmod 5 ∧ at_.tmod 5 ≤ 9223372036854775807 := by
    have h5 := Int.tmod_lt_of_pos at_ (show (0 : Int) < 5 by omega)
    have h6 : -5 < at_.tmod 5 := by
      rcases Int.le_total 0 at_ with h | h
      · have := Int.tmod_nonneg 5 h; omega
      · have h7 : (-at_).tmod 5 = -(at_.tmod 5) := Int.neg_tmod ..
        have := Int.tmod_lt_of_pos (-at_) (show (0 : Int) < 5 by omega)
        omega
    omega
  have hlt64 := life.toNat_lt
  have hln : ((life + 1).toNat : Int) = (life.toNat : Int) + 1 := by
    have h1 : (life + 1).toNat = (life.toNat + 1) % 18446744073709551616 := by simp [UInt64.toNat_add]
    have h2 : life.toNat < 18446744073709551616 := life.toNat_lt
    omega
  have hwr : IntKind.u64.wrap ((life.toNat : Int) + 1) = ((life + 1).toNat : Int) := by rw [hln]; exact IntWalk.u64_in _ (by omega)
  have hla := hPa.len
  have hlb := hPb.len
  have hq0 : (Disk.new n).sz = 0 := rfl
  obtain ⟨V1, e1⟩ : ∃ V, V = snapF ga gd gl life a [] (Disk.new n) := ⟨_, rfl⟩
  obtain ⟨sA, eA⟩ : ∃ V, V = Disk.arm V1.2.1 fuse := ⟨_, rfl⟩
  obtain ⟨V2, e2⟩ : ∃ V, V = snapF ga gd gl (life + 1) b V1.1 sA := ⟨_, rfl⟩
  obtain ⟨s3, e3⟩ : ∃ V, V = Disk.restart V2.2.1 [at_, 1] (at_.tmod 5) at_ := ⟨_, rfl⟩
  obtain ⟨c1, c2, c3, c4, c5, c6⟩ := crash hPa hPb hlf fuse [at_, 1] (at_.tmod 5) at_ e1 eA e2 e3
  obtain ⟨l1, q1⟩ := Enc.enf_lim (pItems ga gd gl life 0 a) [] (Disk.new n)
  rw [show Enc.enf (pItems ga gd gl life 0 a) [] (Disk.new n) = snapF ga gd gl life a [] (Disk.new n) from rfl, pItems_len, ← e1] at l1 q1
  obtain ⟨l2, q2⟩ := Enc.enf_lim (pItems ga gd gl (life + 1) 0 b) V1.1 sA
  rw [show Enc.enf (pItems ga gd gl (life + 1) 0 b) V1.1 sA = snapF ga gd gl (life + 1) b V1.1 sA from rfl, pItems_len, ← e2] at l2 q2
  have q3 := Disk.sz_restart V2.2.1 [at_, 1] (at_.tmod 5) at_
  rw [← e3] at q3
  have qA : sA.sz = V1.2.1.sz := by rw [eA]; rfl
  simp only [List.length_nil] at l1
  have r0 : srightF (Disk.new n) ga gd gl = 0 := srightF_new (n := n) hq rfl hn
  have rA : srightF sA ga gd gl = 0 := srightF_new (n := n) hq c3 hn
  have r3 : srightF s3 ga gd gl = 0 := srightF_new (n := n) hq c4.size hn
  have hW1 := fun g fp gS bS W (bW : Below w.heap.size w W) h hQ => write_any g fp (Disk.new n) gS bS [] ga gd gl life (fun j => j < w.heap.size) A a c W hG h (by simp) (by omega) r0 ((hra.below bW).rw bW.size) hQ hla hsa
  rw [← e1, c1] at hW1
  have hAr := fun g fp W h => Disk.arm_any g fp V1.2.1 fuse W h hf0 hf1
  rw [← eA] at hAr
  have hW2 := fun g fp gS bS W (bW : Below w.heap.size w W) h hQ => write_any g fp sA gS bS V1.1 ga gd gl (life + 1) (fun j => j < w.heap.size) B b d W hG h (by omega) (by omega) rA ((hrb.below bW).rw bW.size) hQ hlb hsb2
  rw [← e2] at hW2
  have hRe := fun g fp K W hD hr => Disk.restart_any g fp V2.2.1 [at_, 1] K 2 2 (at_.tmod 5) at_ W hD (by omega) rfl hr (by simp) htm.1 htm.2 ht0 ht1
  rw [← e3] at hRe
  have hR1 := fun g fp gS bS W h => read_any g fp s3 gS bS V2.1 ga gd gl life W hG h (by omega) (by omega) r3 c4.down a.length hla
  rw [c5] at hR1
  have hR2 := fun g fp gS bS W h => read_any g fp s3 gS bS V2.1 ga gd gl (life + 1) W hG h (by omega) (by omega) r3 c4.down b.length hlb
  obtain ⟨n1, en1⟩ : ∃ n1, n1 = life + 1 := ⟨_, rfl⟩
  rw [← en1] at hW2 hR2 hwr c6
  obtain ⟨O, hO⟩ : ∃ O, O = snapR V2.1 s3 ga gd gl n1 b.length := ⟨_, rfl⟩
  rw [← hO] at hR2 c6
  have HW1 := Lib.hid hW1
  have HAr := Lib.hid hAr
  have HW2 := Lib.hid hW2
  have HRe := Lib.hid hRe
  have HR1 := Lib.hid hR1
  have hla2 : a.length ≤ 1000 := by omega
  have hlb2 : b.length ≤ 1000 := by omega
  have HRa := Lib.hid (fun W (bW : Below w.heap.size w W) => (hra.below bW).more bW.size)
  have HRb := Lib.hid (fun W (bW : Below w.heap.size w W) => (hrb.below bW).more bW.size)
  have hsha : ∀ x ∈ a, x.length ≤ 1000000 := fun x hx => by have := hla600 x hx; omega
  have hshb : ∀ x ∈ b, x.length ≤ 1000000 := fun x hx => by have := hlb600 x hx; omega
  have tW : True := trivial
  have tA : True := trivial
  have tB : True := trivial
  have tRd : True := trivial
  clear hW1 hAr hW2 hRe hR1 hO en1 e1 eA e2 e3 c1 c2 c3 c4 c5 l1 q1 l2 q2 q3 qA r0 rA r3 hla hlb hq0 hln hlt64 htm hPa hPb hsa hsb2 hn hsg hsb hpb hl30 hoa hob hra hrb hlf hla600 hlb600
  rcases c6 with rfl | ⟨hv, rfl⟩
  · have HR2 := Lib.hid hR2
    clear hR2
    by_cases hv : V2.2.2 = 0
    · have t2 := bne_no hv
      clear hv
      go_enter Try.func5, Try.ntmps5
      go_wp2_with (first
        | (go_at_call 29; have _t := tL; refine (HLa.out _ bw).mono ?_; rintro e w1 ⟨rfl, b1⟩; have bx1 := b1; clear tL; clear z0 z1 z2; obtain ⟨z0, z1, z2⟩ := gthree (HA.out.on bx1))
        | (go_at_call 29; refine (HLb.out _ (bt bw bx1)).mono ?_; rintro e w2 ⟨rfl, b2⟩; have bx2 := bt bx1 b2; clear z0 z1 z2; obtain ⟨z0, z1, z2⟩ := gthree (HA.out.on bx2))
        | (go_at_call 34; have _t := tR; refine (HOa.out _ (bt bw bx2)).mono ?_; rintro e w3 ⟨rfl, b3⟩; have bx3 := bt bx2 b3; clear tR; clear z0 z1 z2; obtain ⟨z0, z1, z2⟩ := gthree (HA.out.on bx3))
        | (go_at_call 34; refine (HOb.out _ (bt bw bx3)).mono ?_; rintro e w4 ⟨rfl, b4⟩; have bx4 := bt bx3 b4; clear z0 z1 z2; obtain ⟨z0, z1, z2⟩ := gthree (HA.out.on bx4))
        | (go_at_call 13; refine (HSz.out _).mono ?_; rintro e w5 ⟨rfl, b5⟩)
        | (go_at_call 12; refine (HN.out _).mono ?_; rintro e w6 ⟨g, fp, rfl, hD, hfp, b6⟩; have bs := bt b5 b6; have hfp' := fun j hj => Nat.le_trans b5.size (hfp j hj))
        | (go_at_call 14; refine (symbolic_any _).mono ?_; rintro e w7 ⟨gS, bS, rfl, hS, hgS, hbS, b7⟩; have H7 := Here.start hD hfp' bs hS hgS hbS b7; have bw4 := bt bw bx4; have FG4 := HA.out.on bx4; have ltG := FG4.lt; have F7 := FG4.below H7.bel ltG; clear z0 z1 z2; obtain ⟨z0, z1, z2⟩ := gthree F7)
        | (go_at_call 31; have _t := tW; refine (HW1.out _ _ _ _ _ (bt bw4 H7.bel) H7.both (fun j hj _ e => by have := H7.own j e; have := bw4.size; omega)).mono ?_; rintro e w8 ⟨rfl, T8⟩; obtain ⟨fp8, H8, _, _⟩ := H7.turn T8; have F8 := FG4.below H8.bel ltG; clear tW; clear z0 z1 z2; obtain ⟨z0, z1, z2⟩ := gthree F8)
        | (go_at_call 40; refine (HAr.out _ _ _ H8.both.disk).mono ?_; rintro e w9 ⟨rfl, hD9, k9⟩; have H9 := H8.armed hD9 k9; have F9 := FG4.below H9.bel ltG; clear z0 z1 z2; obtain ⟨z0, z1, z2⟩ := gthree F9)
        | (go_at_call 31; refine (HW2.out _ _ _ _ _ (bt bw4 H9.bel) H9.both (fun j hj _ e => by have := H9.own j e; have := bw4.size; omega)).mono ?_; rintro e w10 ⟨rfl, T10⟩; obtain ⟨fp10, H10, _, _⟩ := H9.turn T10; have F10 := FG4.below H10.bel ltG; clear z0 z1 z2; obtain ⟨z0, z1, z2⟩ := gthree F10)
        | (go_at_call 41; refine (HRe.out g fp10 _ _ (H10.on (b1alloc _ _)).both.disk (litL w10 fp10 H10.both.disk.lt [.int .i64 at_, .int .i64 1] _)).mono ?_; rintro e w11 ⟨rfl, fp11, hD11, k11, f11⟩; have H11 := (H10.on (b1alloc w10 (.cells #[.int .i64 at_, .int .i64 1] 3))).moved hD11 k11 f11; have F11 := FG4.below H11.bel ltG; clear z0 z1 z2; obtain ⟨z0, z1, z2⟩ := gthree F11)
        | (go_at_call 37; have _t := tRd; refine (HR1.out _ _ _ _ _ H11.both).mono ?_; rintro e w12 ⟨⟨A12, c12, rfl, or12⟩, b12⟩; have H12 := H11.on b12; have F12 := F11.on b12; clear tRd; clear z0 z1 z2; obtain ⟨z0, z1, z2⟩ := gthree F12)
        | (go_at_call 39; have _t := tA; refine (R20.rows_any _ _ a a _ _ _ _ _ (or12.rws rfl) (HRa.out _ (bt bw4 H12.bel)) rfl rfl hla2 or12.short hsha).mono ?_; rw [decide_eq_true (rfl : a = a)]; rintro e w13 ⟨rfl, b13⟩; have H13 := H12.on b13; have F13 := F12.on b13; clear tA; clear z0 z1 z2; obtain ⟨z0, z1, z2⟩ := gthree F13)
        | (go_at_call 37; refine (HR2.out _ _ _ _ _ H13.both).mono ?_; rintro e w14 ⟨⟨A14, c14, rfl, or14⟩, b14⟩; have H14 := H13.on b14)
        | (go_at_call 39; have _t := tB; refine (R20.rows_any _ _ b b _ _ _ _ _ (or14.rws rfl) (HRb.out _ (bt bw4 H14.bel)) rfl rfl hlb2 or14.short hshb).mono ?_; rw [decide_eq_true (rfl : b = b)]; rintro e w15 ⟨rfl, b15⟩; have H15 := H14.on b15; have or15 := or14.on b15; clear tB)
        | (go_at_call 39; refine (R20.rows_any _ _ b b _ _ _ _ _ (or15.rws rfl) (HRb.out _ (bt bw4 H15.bel)) rfl rfl hlb2 or15.short hshb).mono ?_; rw [decide_eq_true (rfl : b = b)]; rintro e w16 ⟨rfl, b16⟩; have H16 := H15.on b16)
        | (go_at_call 30; refine (alive_any _).mono ?_; rintro e w17 ⟨rfl, b17⟩))
      go_ret
      exact ⟨rfl, bt (bt bw4 H16.bel) b17⟩
    · have t2 := bne_yes hv
      clear hv
      go_enter Try.func5, Try.ntmps5
      go_wp2_with (first
        | (go_at_call 29; have _t := tL; refine (HLa.out _ bw).mono ?_; rintro e w1 ⟨rfl, b1⟩; have bx1 := b1; clear tL; clear z0 z1 z2; obtain ⟨z0, z1, z2⟩ := gthree (HA.out.on bx1))
        | (go_at_call 29; refine (HLb.out _ (bt bw bx1)).mono ?_; rintro e w2 ⟨rfl, b2⟩; have bx2 := bt bx1 b2; clear z0 z1 z2; obtain ⟨z0, z1, z2⟩ := gthree (HA.out.on bx2))
        | (go_at_call 34; have _t := tR; refine (HOa.out _ (bt bw bx2)).mono ?_; rintro e w3 ⟨rfl, b3⟩; have bx3 := bt bx2 b3; clear tR; clear z0 z1 z2; obtain ⟨z0, z1, z2⟩ := gthree (HA.out.on bx3))
        | (go_at_call 34; refine (HOb.out _ (bt bw bx3)).mono ?_; rintro e w4 ⟨rfl, b4⟩; have bx4 := bt bx3 b4; clear z0 z1 z2; obtain ⟨z0, z1, z2⟩ := gthree (HA.out.on bx4))
        | (go_at_call 13; refine (HSz.out _).mono ?_; rintro e w5 ⟨rfl, b5⟩)
        | (go_at_call 12; refine (HN.out _).mono ?_; rintro e w6 ⟨g, fp, rfl, hD, hfp, b6⟩; have bs := bt b5 b6; have hfp' := fun j hj => Nat.le_trans b5.size (hfp j hj))
        | (go_at_call 14; refine (symbolic_any _).mono ?_; rintro e w7 ⟨gS, bS, rfl, hS, hgS, hbS, b7⟩; have H7 := Here.start hD hfp' bs hS hgS hbS b7; have bw4 := bt bw bx4; have FG4 := HA.out.on bx4; have ltG := FG4.lt; have F7 := FG4.below H7.bel ltG; clear z0 z1 z2; obtain ⟨z0, z1, z2⟩ := gthree F7)
        | (go_at_call 31; have _t := tW; refine (HW1.out _ _ _ _ _ (bt bw4 H7.bel) H7.both (fun j hj _ e => by have := H7.own j e; have := bw4.size; omega)).mono ?_; rintro e w8 ⟨rfl, T8⟩; obtain ⟨fp8, H8, _, _⟩ := H7.turn T8; have F8 := FG4.below H8.bel ltG; clear tW; clear z0 z1 z2; obtain ⟨z0, z1, z2⟩ := gthree F8)
        | (go_at_call 40; refine (HAr.out _ _ _ H8.both.disk).mono ?_; rintro e w9 ⟨rfl, hD9, k9⟩; have H9 := H8.armed hD9 k9; have F9 := FG4.below H9.bel ltG; clear z0 z1 z2; obtain ⟨z0, z1, z2⟩ := gthree F9)
        | (go_at_call 31; refine (HW2.out _ _ _ _ _ (bt bw4 H9.bel) H9.both (fun j hj _ e => by have := H9.own j e; have := bw4.size; omega)).mono ?_; rintro e w10 ⟨rfl, T10⟩; obtain ⟨fp10, H10, _, _⟩ := H9.turn T10; have F10 := FG4.below H10.bel ltG; clear z0 z1 z2; obtain ⟨z0, z1, z2⟩ := gthree F10)
        | (go_at_call 41; refine (HRe.out g fp10 _ _ (H10.on (b1alloc _ _)).both.disk (litL w10 fp10 H10.both.disk.lt [.int .i64 at_, .int .i64 1] _)).mono ?_; rintro e w11 ⟨rfl, fp11, hD11, k11, f11⟩; have H11 := (H10.on (b1alloc w10 (.cells #[.int .i64 at_, .int .i64 1] 3))).moved hD11 k11 f11; have F11 := FG4.below H11.bel ltG; clear z0 z1 z2; obtain ⟨z0, z1, z2⟩ := gthree F11)
        | (go_at_call 37; have _t := tRd; refine (HR1.out _ _ _ _ _ H11.both).mono ?_; rintro e w12 ⟨⟨A12, c12, rfl, or12⟩, b12⟩; have H12 := H11.on b12; have F12 := F11.on b12; clear tRd; clear z0 z1 z2; obtain ⟨z0, z1, z2⟩ := gthree F12)
        | (go_at_call 39; have _t := tA; refine (R20.rows_any _ _ a a _ _ _ _ _ (or12.rws rfl) (HRa.out _ (bt bw4 H12.bel)) rfl rfl hla2 or12.short hsha).mono ?_; rw [decide_eq_true (rfl : a = a)]; rintro e w13 ⟨rfl, b13⟩; have H13 := H12.on b13; have F13 := F12.on b13; clear tA; clear z0 z1 z2; obtain ⟨z0, z1, z2⟩ := gthree F13)
        | (go_at_call 37; refine (HR2.out _ _ _ _ _ H13.both).mono ?_; rintro e w14 ⟨⟨A14, c14, rfl, or14⟩, b14⟩; have H14 := H13.on b14)
        | (go_at_call 39; refine (R20.rows_any _ _ b b _ _ _ _ _ (or14.rws rfl) (HRb.out _ (bt bw4 H14.bel)) rfl rfl hlb2 or14.short hshb).mono ?_; rw [decide_eq_true (rfl : b = b)]; rintro e w15 ⟨rfl, b15⟩; have H15 := H14.on b15)
        | (go_at_call 30; refine (alive_any _).mono ?_; rintro e w17 ⟨rfl, b17⟩))
      go_ret
      exact ⟨rfl, bt (bt bw4 H15.bel) b17⟩
  · have HR2 := Lib.hid hR2
    have t2 := bne_yes hv
    clear hv hR2
    go_enter Try.func5, Try.ntmps5
    go_wp2_with (first
      | (go_at_call 29; have _t := tL; refine (HLa.out _ bw).mono ?_; rintro e w1 ⟨rfl, b1⟩; have bx1 := b1; clear tL; clear z0 z1 z2; obtain ⟨z0, z1, z2⟩ := gthree (HA.out.on bx1))
      | (go_at_call 29; refine (HLb.out _ (bt bw bx1)).mono ?_; rintro e w2 ⟨rfl, b2⟩; have bx2 := bt bx1 b2; clear z0 z1 z2; obtain ⟨z0, z1, z2⟩ := gthree (HA.out.on bx2))
      | (go_at_call 34; have _t := tR; refine (HOa.out _ (bt bw bx2)).mono ?_; rintro e w3 ⟨rfl, b3⟩; have bx3 := bt bx2 b3; clear tR; clear z0 z1 z2; obtain ⟨z0, z1, z2⟩ := gthree (HA.out.on bx3))
      | (go_at_call 34; refine (HOb.out _ (bt bw bx3)).mono ?_; rintro e w4 ⟨rfl, b4⟩; have bx4 := bt bx3 b4; clear z0 z1 z2; obtain ⟨z0, z1, z2⟩ := gthree (HA.out.on bx4))
      | (go_at_call 13; refine (HSz.out _).mono ?_; rintro e w5 ⟨rfl, b5⟩)
      | (go_at_call 12; refine (HN.out _).mono ?_; rintro e w6 ⟨g, fp, rfl, hD, hfp, b6⟩; have bs := bt b5 b6; have hfp' := fun j hj => Nat.le_trans b5.size (hfp j hj))
      | (go_at_call 14; refine (symbolic_any _).mono ?_; rintro e w7 ⟨gS, bS, rfl, hS, hgS, hbS, b7⟩; have H7 := Here.start hD hfp' bs hS hgS hbS b7; have bw4 := bt bw bx4; have FG4 := HA.out.on bx4; have ltG := FG4.lt; have F7 := FG4.below H7.bel ltG; clear z0 z1 z2; obtain ⟨z0, z1, z2⟩ := gthree F7)
      | (go_at_call 31; have _t := tW; refine (HW1.out _ _ _ _ _ (bt bw4 H7.bel) H7.both (fun j hj _ e => by have := H7.own j e; have := bw4.size; omega)).mono ?_; rintro e w8 ⟨rfl, T8⟩; obtain ⟨fp8, H8, _, _⟩ := H7.turn T8; have F8 := FG4.below H8.bel ltG; clear tW; clear z0 z1 z2; obtain ⟨z0, z1, z2⟩ := gthree F8)
      | (go_at_call 40; refine (HAr.out _ _ _ H8.both.disk).mono ?_; rintro e w9 ⟨rfl, hD9, k9⟩; have H9 := H8.armed hD9 k9; have F9 := FG4.below H9.bel ltG; clear z0 z1 z2; obtain ⟨z0, z1, z2⟩ := gthree F9)
      | (go_at_call 31; refine (HW2.out _ _ _ _ _ (bt bw4 H9.bel) H9.both (fun j hj _ e => by have := H9.own j e; have := bw4.size; omega)).mono ?_; rintro e w10 ⟨rfl, T10⟩; obtain ⟨fp10, H10, _, _⟩ := H9.turn T10; have F10 := FG4.below H10.bel ltG; clear z0 z1 z2; obtain ⟨z0, z1, z2⟩ := gthree F10)
      | (go_at_call 41; refine (HRe.out g fp10 _ _ (H10.on (b1alloc _ _)).both.disk (litL w10 fp10 H10.both.disk.lt [.int .i64 at_, .int .i64 1] _)).mono ?_; rintro e w11 ⟨rfl, fp11, hD11, k11, f11⟩; have H11 := (H10.on (b1alloc w10 (.cells #[.int .i64 at_, .int .i64 1] 3))).moved hD11 k11 f11; have F11 := FG4.below H11.bel ltG; clear z0 z1 z2; obtain ⟨z0, z1, z2⟩ := gthree F11)
      | (go_at_call 37; have _t := tRd; refine (HR1.out _ _ _ _ _ H11.both).mono ?_; rintro e w12 ⟨⟨A12, c12, rfl, or12⟩, b12⟩; have H12 := H11.on b12; have F12 := F11.on b12; clear tRd; clear z0 z1 z2; obtain ⟨z0, z1, z2⟩ := gthree F12)
      | (go_at_call 39; have _t := tA; refine (R20.rows_any _ _ a a _ _ _ _ _ (or12.rws rfl) (HRa.out _ (bt bw4 H12.bel)) rfl rfl hla2 or12.short hsha).mono ?_; rw [decide_eq_true (rfl : a = a)]; rintro e w13 ⟨rfl, b13⟩; have H13 := H12.on b13; have F13 := F12.on b13; clear tA; clear z0 z1 z2; obtain ⟨z0, z1, z2⟩ := gthree F13)
      | (go_at_call 37; refine (HR2.out _ _ _ _ _ H13.both).mono ?_; rintro e w14 ⟨rfl, b14⟩; have H14 := H13.on b14)
      | (go_at_call 30; refine (alive_any _).mono ?_; rintro e w17 ⟨rfl, b17⟩))
    go_ret
    exact ⟨rfl, bt (bt bw4 H14.bel) b17⟩
set_option maxRecDepth 100000 in
theorem lifted (os : Os) (started : os.Started) (H : Type) (enc : TypeId × Value → H) :
    ReturnsInHanded {} Try.checked os 5 .any (Rows.snapApartSpec.pre6 enc Try.prog Try.f5 Rows.snapApartRow.domain false) (Rows.snapApartSpec.post enc Try.prog Try.f5 false true false false) := by
  refine returnsInHanded_of_change (C := Try.checked) own started (by kernel_rfl) Try.func5
    (ChangeSpec.witness6 (enc := enc) (C := Try.checked) false ⟨#[], #[.agg #[.int .i64 0, .int .i64 0, .int .i64 0], .int .u64 0, .slice none 0 0, .slice none 0 0, .int .i64 0, .int .i64 0], []⟩ 8 (by kernel_rfl) (by kernel_rfl) (by kernel_rfl) (by kernel_rfl)) ?_
  intro W base args ds gs before hval0 hW hcnd _
  have hval : ∀ (j : Nat) t v, Try.f5.params[j]? = some t → args[j]? = some v → Value.okWide Try.prog W .any base t v := hval0
  have hW' := hW
  obtain ⟨p, q, hA0, hV, rfl, hfz, hnd⟩ := hW
  have hA : DataW.TrodAll enc Try.prog W 0 (fun _ => true) true Try.f5.params.toList args.toList ds p := hA0
  rw [Try.params5] at hA hval
  obtain ⟨v0, vs0, d0, ds0, p0, q0, hargs, rfl, rfl, h0, r0⟩ := trodAll_cons hA
  obtain ⟨v1, vs1, d1, ds1, p1, q1, rfl, rfl, rfl, h1, r1⟩ := trodAll_cons r0
  obtain ⟨v2, vs2, d2, ds2, p2, q2, rfl, rfl, rfl, h2, r2⟩ := trodAll_cons r1
  obtain ⟨v3, vs3, d3, ds3, p3, q3, rfl, rfl, rfl, h3, r3⟩ := trodAll_cons r2
  obtain ⟨v4, vs4, d4, ds4, p4, q4, rfl, rfl, rfl, h4, r4⟩ := trodAll_cons r3
  obtain ⟨v5, vs5, d5, ds5, p5, q5, rfl, rfl, rfl, h5, r5⟩ := trodAll_cons r4
  obtain ⟨rfl, rfl, rfl⟩ := trodAll_nil r5
  obtain rfl : args = #[v0, v1, v2, v3, v4, v5] := by cases args; simp_all
  obtain ⟨rfl, rfl⟩ := trodVars_none hV
  have k0 := h0
  have lt0 := places_lt k0
  obtain ⟨c0a, c0b, c0c, y0a, y0b, y0c, m0, rfl, _, _, hy0a, hy0b, hy0c⟩ := open_agg3 Try.underlying23 (by kernel_rfl) (by kernel_rfl) (hval 0 23 v0 rfl rfl) h0
  obtain ⟨n0a, e0a, _, w0a⟩ := DataW.trod_int Try.underlying3 hy0a
  simp only [List.cons.injEq, and_true] at e0a
  subst e0a
  obtain ⟨n0b, e0b, _, w0b⟩ := DataW.trod_int Try.underlying3 hy0b
  simp only [List.cons.injEq, and_true] at e0b
  subst e0b
  obtain ⟨n0c, e0c, _, w0c⟩ := DataW.trod_int Try.underlying3 hy0c
  simp only [List.cons.injEq, and_true] at e0c
  subst e0c
  have k1 := h1
  have lt1 := places_lt k1
  obtain ⟨n1, rfl, _, _, w1⟩ := open_int Try.underlying24 (hval 1 24 v1 rfl rfl) h1
  obtain ⟨x1, rfl⟩ := wf64 w1
  have k2 := h2
  have lt2 := places_lt k2
  obtain ⟨a2, len2, cap2, rfl⟩ := okWide_slice Try.underlying55 (hval 2 55 v2 rfl rfl)
  obtain ⟨fuel2, hf2⟩ := h2
  obtain ⟨l2, rfl, rr2, rc2, rm2⟩ := rows_of hf2
  have k3 := h3
  have lt3 := places_lt k3
  obtain ⟨a3, len3, cap3, rfl⟩ := okWide_slice Try.underlying55 (hval 3 55 v3 rfl rfl)
  obtain ⟨fuel3, hf3⟩ := h3
  obtain ⟨l3, rfl, rr3, rc3, rm3⟩ := rows_of hf3
  have k4 := h4
  have lt4 := places_lt k4
  obtain ⟨n4, rfl, _, _, w4⟩ := open_int Try.underlying3 (hval 4 3 v4 rfl rfl) h4
  have k5 := h5
  have lt5 := places_lt k5
  obtain ⟨n5, rfl, _, _, w5⟩ := open_int Try.underlying3 (hval 5 3 v5 rfl rfl) h5
  clear hA0 hval0
  refine (walk n0a n0b n0c x1 a2 l2 cap2 a3 l3 cap3 n4 n5 W (wfi w0a).1 (wfi w0a).2 (wfi w0b).1 (wfi w0b).2 (wfi w0c).1 (wfi w0c).2 rr2 rc2 rm2 rr3 rc3 rm3 (wfi w4).1 (wfi w4).2 (wfi w5).1 (wfi w5).2).mono fun e W' ⟨he, bel⟩ => ?_
  subst he
  exact ⟨_, rfl, _, _, _, [], _, [], hW', trodAll_mk1 (shut_bool Try.underlying4 _), (trodAll_cons_mk (Below.trod laidOut (by kernel_rfl) (of_decide_eq_true (by kernel_rfl)) k0 bel lt0) (trodAll_cons_mk (Below.trod laidOut (by kernel_rfl) (of_decide_eq_true (by kernel_rfl)) k1 bel lt1) (trodAll_cons_mk (Below.trod laidOut (by kernel_rfl) (of_decide_eq_true (by kernel_rfl)) k2 bel lt2) (trodAll_cons_mk (Below.trod laidOut (by kernel_rfl) (of_decide_eq_true (by kernel_rfl)) k3 bel lt3) (trodAll_cons_mk (Below.trod laidOut (by kernel_rfl) (of_decide_eq_true (by kernel_rfl)) k4 bel lt4) (trodAll_cons_mk (Below.trod laidOut (by kernel_rfl) (of_decide_eq_true (by kernel_rfl)) k5 bel lt5) trodAll_mk0)))))), rfl, bel.frame _, fun h => by cases h⟩

theorem proved : Rows.SnapApartSaid :=
  OpenClaim.holds_of_wide 5 Try.f5 rfl rfl rfl rfl rfl rfl rfl ⟨rfl, rfl, rfl, rfl, rfl⟩ rfl rfl rfl rfl rfl (by kernel_rfl) Try.func5 (by kernel_rfl)
    (of_decide_eq_true (by kernel_rfl)) (by unfold Func.isWrapper; first | (rw [if_pos (by decide +kernel)]; kernel_rfl) | (rw [if_neg (by decide +kernel)]; exact ⟨rfl, rfl⟩))
    (fun os started H enc _ => lifted os started H enc)
#print axioms proved
end Go.Proofs.Ytmpmibcdpkolkaa.SnapApart
