/- RootPuts: for every input the law returns true: what stands behind any root that is put, and erased, and which one is read. No condition. -/
import Derived.Test.YtkapamolligmkaaRtL1
import Derived.Test.YtkapamolligmkaaOpen
namespace Go.Proofs.Ytkapamolligmkaa.RootPuts
open Go.ChangeShapes Go.WideShapes Go.ChangeAt Go.RowKit Go.Joins
open Go.ChangeMaps (open_string shut_string)
open Go.Proofs.Ytkapamolligmkaa.Rt
open Go.Proofs.Ytkapamolligmkaa.Sec (symbolic_any RetX five5x)
set_option linter.unusedVariables false
set_option maxRecDepth 100000
set_option maxHeartbeats 4000000 in
theorem walk (gen other : UInt64) (A : Option Addr) (key : List UInt8) (c : Nat) (w : World) (hr : Rd w w.heap.size A (key.map e8)) (hc : key.length ≤ c) (hcm : c ≤ maxLen) :
    Calls Try.prog 3 #[.int .u64 (gen.toNat : Int), .int .u64 (other.toNat : Int), .slice A key.length c] w fun e w' => e = .returned (.bool true) ∧ Below w.heap.size w w' := by
  by_cases h1 : 100 < key.length
  · go_enter Try.func3, Try.ntmps3
    go_wp2_with (go_at_call 6; refine (alive_any _).mono ?_; rintro e w' ⟨rfl, hw⟩)
    go_ret
    exact ⟨rfl, hw⟩
  by_cases h2 : key.length = 32
  rotate_left
  · have t2 := bne_yes (show (key.length : Int) ≠ 32 by omega)
    have hBl : Rt.blank (Disk.new 2) gen = (true, 0) := by rw [up_new.blank]; rfl
    have HB := Lib.hid (fun g fp W h => blank_any g fp (Disk.new 2) gen W h (by decide))
    rw [hBl] at HB
    clear hBl
    have tP : True := trivial
    have tQ : True := trivial
    go_enter Try.func3, Try.ntmps3
    go_wp2_with (first
      | (go_at_call 7; refine (new2_any w).mono ?_; rintro e w1 ⟨g, fp, rfl, hD, hfp, b1⟩)
      | (go_at_call 8; refine (symbolic_any _).mono ?_; rintro e w2 ⟨gS, bS, rfl, hS, hgS, hbS, b2⟩; have H2 := Here.start hD hfp b1 hS hgS hbS b2)
      | (go_at_call 9; have _t := tP; refine (put_form g gS _ A _ c _ h2).mono ?_; rintro e w3 ⟨rfl, rfl⟩; clear tP)
      | (go_at_call 10; refine (getD_nil _ _ _).mono ?_; rintro e w4 ⟨rfl, b4⟩; have H4 := H2.on b4)
      | (go_at_call 9; have _t := tQ; refine (putD_nil _ _ A _ c _).mono ?_; rintro e w3 ⟨rfl, rfl⟩; clear tQ)
      | (go_at_call 9; refine (putS_nil g _ A _ c _).mono ?_; rintro e w3 ⟨rfl, rfl⟩)
      | (go_at_call 11; refine (erase_nil _ _).mono ?_; rintro e w3 ⟨rfl, rfl⟩)
      | (go_at_call 12; refine (HB.out _ _ _ H4.both.disk).mono ?_; rintro e w5 ⟨rfl, b5⟩; have H5 := H4.on b5)
      | (go_at_call 6; refine (alive_any _).mono ?_; rintro e w6 ⟨rfl, b6⟩; have H6 := H5.on b6))
    go_ret
    exact ⟨rfl, H6.bel⟩
  have hnew : (Disk.new 2).sz = 0 := rfl
  obtain ⟨q1, q2, q3⟩ := up_new.wr gen (bOf_len [] gen key)
  have hz := wr_sz (Disk.new 2) gen (bOf [] gen key)
  have hll : (lOf [] gen key).length ≤ 1000000 := by unfold lOf Sec.sumAfter; simp
  have hst : Disk.kept (wr (Disk.new 2) gen (bOf [] gen key)).1.all (place gen).toNat = bOf [] gen key := by rw [q3]; exact kept_after _ _ _
  have hgd : Rt.Good (lOf [] gen key) (place gen) (xOf gen key) (bOf [] gen key) := bOf_good [] h2
  have hP := fun g fp gS bS A c W h hr => put_any g fp (Disk.new 2) gS bS [] gen key A c W h (by simp) (by omega) h2 hr
  obtain ⟨x, hx⟩ : ∃ x, x = xOf gen key := ⟨_, rfl⟩
  obtain ⟨b, hb⟩ : ∃ b, b = bOf [] gen key := ⟨_, rfl⟩
  obtain ⟨R, hR⟩ : ∃ R, R = wr (Disk.new 2) gen b := ⟨_, rfl⟩
  obtain ⟨L, hL⟩ : ∃ L, L = lOf [] gen key := ⟨_, rfl⟩
  rw [← hb, ← hR] at q1 q2 hP hz hst
  rw [← hL] at hP hll hgd
  rw [← hb, ← hx] at hgd
  rw [q1] at hP
  have hbl : b.length = 512 := hgd.len
  have hKept := fun g fp W h => Disk.kept_any g fp R.1 (place gen) W h
  rw [q2.keptAt gen, hst] at hKept
  have hDec := fun gS bS A c W hS hr hc hcm => Sec.decode_sym (place gen) gS bS L A b _ c W hS hll (by have := place_ok gen; omega) (by have := place_ok gen; omega) rfl hr (by omega) hc hcm
  rw [hgd.dec] at hDec
  have hSame : ∀ A B c d W, Rd W W.heap.size A (x.body.map e8) → Rd W W.heap.size B (key.map e8) → Calls Try.prog 15 #[.agg #[.int .i64 x.kind, .int .u64 (x.life.toNat : Int), .int .i64 x.seq, .int .u64 (x.gen.toNat : Int), .slice A x.body.length c], .agg #[.int .i64 1, .int .u64 0, .int .i64 0, .int .u64 (gen.toNat : Int), .slice B key.length d]] W fun e w' => e = .returned (.bool true) ∧ Below W.heap.size W w' := by
    intro A B c d W h3 h4
    subst hx
    have := Sec.rsame_any (xOf gen key) (xOf gen key) A B c d W h3 h4 (by show key.length ≤ _; omega) (by show key.length ≤ _; omega)
    rw [show Sec.same (xOf gen key) (xOf gen key) = true by simp [Sec.same]] at this
    exact this
  have hGet := fun g fp gS bS W h => get_any g fp R.1 gS bS L other W h hll (by omega)
  obtain ⟨e1, e2, e3⟩ := q2.wr gen Disk.zero512_len
  have hEr := fun g fp W h => erase_any g fp R.1 gen W h (by omega)
  obtain ⟨R2, hR2⟩ : ∃ R2, R2 = wr R.1 gen Disk.zero512 := ⟨_, rfl⟩
  have hz2 := wr_sz R.1 gen Disk.zero512
  rw [← hR2] at e1 e2 e3 hEr hz2
  have HE1 := Lib.hid e1
  have hst2 : Disk.kept R2.1.all (place gen).toNat = Disk.zero512 := by rw [e3]; exact kept_after _ _ _
  have hBl := fun g fp W h => blank_any g fp R2.1 gen W h (by omega)
  rw [e2.blank, hst2, show Sec.blankB Disk.zero512 = true from decide_eq_true rfl] at hBl
  have hKept2 := fun g fp W h => Disk.kept_any g fp R2.1 (place gen) W h
  rw [e2.keptAt gen, hst2] at hKept2
  have hRb := fun A c W hr => Sec.rblank_any A Disk.zero512 _ c W rfl hr (by rw [Disk.zero512_len]; omega)
  rw [show Sec.blankB Disk.zero512 = true from decide_eq_true rfl] at hRb
  have hKK := fun A B c d W h3 h4 => R1.same_any A B key key key.length key.length c d W rfl rfl h3 h4 (by omega) (by omega)
  rw [R1.sameB_self] at hKK
  obtain ⟨z, hz'⟩ : ∃ z, z = Disk.zero512 := ⟨_, rfl⟩
  rw [← hz'] at hKept2 hRb
  have hgk : other = gen → got L R.1 other = (key, 0) := by
    rintro rfl
    rw [q2.got_good (by rw [hst]; exact hgd), hx, isRoot_own h2]; rfl
  have hgo : other ≠ gen → got L R.1 other = ([], 11) := by
    intro hne
    by_cases hpl : (place other).toNat = (place gen).toNat
    · have hpe : place other = place gen := by have := place_ok gen; have := place_ok other; omega
      rw [q2.got_good (x := x) (by rw [hpl, hst, hpe]; exact hgd), hx, isRoot_other hne]; rfl
    · exact q2.got_zero (by rw [hR, hb, q3, kept_beside _ _ (fun e => hpl e.symm)]; rfl)
  have hlk := h2
  have hpl : (gen.toNat : Int) % 2 = (gen.toNat : Int).tmod 2 := by rw [Int.tmod_eq_emod_of_nonneg (by omega)]
  have hpw : IntKind.i64.wrap ((gen.toNat : Int) % 2) = place gen := wrap_small (by omega) (by omega)
  have T2 := bne_no (show (key.length : Int) = 32 by omega)
  rw [← h2] at hP
  rw [show place gen = (gen.toNat : Int) % 2 from rfl] at hKept hDec hKept2
  have HP := Lib.hid hP
  have HKept := Lib.hid hKept
  have HDec := Lib.hid hDec
  have HSame := Lib.hid hSame
  have HEr := Lib.hid hEr
  have HBl := Lib.hid hBl
  have HKept2 := Lib.hid hKept2
  have HRb := Lib.hid hRb
  have HKK := Lib.hid hKK
  have HH2 := Lib.hid h2
  have tP : True := trivial
  have tQ : True := trivial
  have tK : True := trivial
  have tD : True := trivial
  clear q1 q2 q3 hst hP hKept hDec hSame hEr hBl hKept2 hRb e1 e2 e3 hst2 hR hL hx hb hR2 hgd hlk hKK hz' h2 hbl
  by_cases ho : other = gen
  · have hgk := hgk ho
    rw [hgk] at hGet
    have HGet := Lib.hid hGet
    subst ho
    clear hgk hgo hGet
    go_enter Try.func3, Try.ntmps3
    go_wp2_with (first
      | (go_at_call 7; refine (new2_any w).mono ?_; rintro e w1 ⟨g, fp, rfl, hD, hfp, b1⟩)
      | (go_at_call 8; refine (symbolic_any _).mono ?_; rintro e w2 ⟨gS, bS, rfl, hS, hgS, hbS, b2⟩; have H2 := Here.start hD hfp b1 hS hgS hbS b2)
      | (go_at_call 9; have _t := tP; refine (HP.out _ _ _ _ A c _ H2.both (H2.rd hr)).mono ?_; rintro e w3 ⟨rfl, T3⟩; obtain ⟨fp3, H3, _, _⟩ := H2.turn T3; clear tP)
      | (go_at_call 10; have _t := tQ; refine (getD_nil _ _ _).mono ?_; rintro e w4 ⟨rfl, b4⟩; have H4 := H3.on b4)
      | (go_at_call 9; have _t := tQ; refine (putD_nil _ _ A _ c _).mono ?_; rintro e w3 ⟨rfl, rfl⟩; clear tQ)
      | (go_at_call 9; refine (putS_nil g _ A _ c _).mono ?_; rintro e w3 ⟨rfl, rfl⟩)
      | (go_at_call 11; have _t := tK; refine (erase_nil _ _).mono ?_; rintro e w3 ⟨rfl, rfl⟩; clear tK)
      | (go_at_call 14; have _t := tD; refine (HKept.out _ _ _ H4.both.disk).mono ?_; rintro e w5 ⟨v5, rfl, n5, b5⟩; obtain ⟨A5, c5, rfl, hc5, hm5, rd5⟩ := n5.rdN (fp := []) (by simp); have H5 := H4.on b5; clear hpl hpw)
      | (go_at_call 13; refine (HDec.out _ _ _ _ _ H5.both.sym rd5.rd hc5 hm5).mono ?_; rintro e w6 ⟨⟨A6, c6, rfl, own6⟩, b6⟩; unfold Sec.xv; have H6 := H5.on b6; clear tD))
    have B7 := Blk.new w6 [.int .i64 x.kind, .int .u64 (x.life.toNat : Int), .int .i64 x.seq, .int .u64 (x.gen.toNat : Int), .slice A6 x.body.length c6] 38
    have b7 := b1alloc w6 (.cells #[.int .i64 x.kind, .int .u64 (x.life.toNat : Int), .int .i64 x.seq, .int .u64 (x.gen.toNat : Int), .slice A6 x.body.length c6] 38)
    obtain ⟨w7, hw7⟩ : ∃ w7, w7 = w6.alloc (.cells #[.int .i64 x.kind, .int .u64 (x.life.toNat : Int), .int .i64 x.seq, .int .u64 (x.gen.toNat : Int), .slice A6 x.body.length c6] 38) := ⟨_, rfl⟩
    obtain ⟨h, hh⟩ : ∃ h, h = w6.heap.size := ⟨_, rfl⟩
    rw [← hw7] at B7 b7 ⊢
    rw [← hh] at B7 ⊢
    have H7 := H6.on b7
    have rd7 := (Rd.own own6).on b7
    have kd7 := H7.rd hr
    have c0 : Below w7.heap.size w7 w7.drew := (Below.refl _ _).drew
    clear hw7 hh b7 own6 b6 b5
    go_region_held3 (fun w' => w'.cell? ⟨h, 0, none⟩ = some (.int .i64 x.kind) ∧ w'.cell? ⟨h, 1, none⟩ = some (.int .u64 (x.life.toNat : Int)) ∧ w'.cell? ⟨h, 2, none⟩ = some (.int .i64 x.seq) ∧ w'.cell? ⟨h, 3, none⟩ = some (.int .u64 (x.gen.toNat : Int)) ∧ w'.cell? ⟨h, 4, none⟩ = some (.slice A6 x.body.length c6)) (first | exact five5x (B7.on c0) | exact five5x (B7.on c8) | exact five5x (B7.on c9)) (first
      | (go_at_call 16; refine (rsector_any _ A _ c _).mono ?_; rintro e x8 ⟨rfl, y8⟩; have c8 := bt c0 y8; have rd8 := rd7.on c8; have kd8 := kd7.on c8)
      | (go_at_call 15; refine (HSame.out A6 A c6 c _ rd8 kd8).mono ?_; rintro e x9 ⟨rfl, y9⟩; have c9 := bt c8 y9))
    have H9 := H7.on c9
    clear c8 c9 y8 y9 rd8 kd8 rd7 kd7 c0 B7
    have tE : True := trivial
    go_wp2_with (first
      | (go_at_call 10; refine (HGet.out _ _ _ _ _ H9.both).mono ?_; rintro e w10 ⟨⟨A10, c10, rfl, hc10, hm10, rd10⟩, b10⟩; have H10 := H9.on b10)
      | (go_at_call 17; refine (HKK.out _ A _ c _ (rd10 [] (by simp)).rd (H10.rd hr)).mono ?_; rintro e w11 ⟨rfl, b11⟩; have H11 := H10.on b11)
      | (go_at_call 11; refine (HEr.out _ _ _ H11.both.disk).mono ?_; rintro e w12 d12; obtain ⟨rfl, fp12, H12, _, _⟩ := H11.did d12; rw [HE1.out])
      | (go_at_call 12; refine (HBl.out _ _ _ H12.both.disk).mono ?_; rintro e w13 ⟨rfl, b13⟩; have H13 := H12.on b13)
      | (go_at_call 14; refine (HKept2.out _ _ _ H13.both.disk).mono ?_; rintro e w14 ⟨v14, rfl, n14, b14⟩; obtain ⟨A14, c14, rfl, hc14, hm14, rd14⟩ := n14.rdN (fp := []) (by simp); have H14 := H13.on b14)
      | (go_at_call 18; refine (HRb.out _ _ _ rd14.rd).mono ?_; rintro e w15 ⟨rfl, rfl⟩)
      | (go_at_call 6; refine (alive_any _).mono ?_; rintro e w16 ⟨rfl, b16⟩; have H16 := H14.on b16))
    go_ret
    exact ⟨rfl, H16.bel⟩
  · have hgo := hgo ho
    rw [hgo] at hGet
    have HGet := Lib.hid hGet
    have hne1 := beq_no (show (other.toNat : Int) ≠ (gen.toNat : Int) from fun e => ho (UInt64.toNat_inj.1 (by omega)))
    have hne2 := bne_yes (show (other.toNat : Int) ≠ (gen.toNat : Int) from fun e => ho (UInt64.toNat_inj.1 (by omega)))
    clear hgk hgo hGet ho
    go_enter Try.func3, Try.ntmps3
    go_wp2_with (first
      | (go_at_call 7; refine (new2_any w).mono ?_; rintro e w1 ⟨g, fp, rfl, hD, hfp, b1⟩)
      | (go_at_call 8; refine (symbolic_any _).mono ?_; rintro e w2 ⟨gS, bS, rfl, hS, hgS, hbS, b2⟩; have H2 := Here.start hD hfp b1 hS hgS hbS b2)
      | (go_at_call 9; have _t := tP; refine (HP.out _ _ _ _ A c _ H2.both (H2.rd hr)).mono ?_; rintro e w3 ⟨rfl, T3⟩; obtain ⟨fp3, H3, _, _⟩ := H2.turn T3; clear tP)
      | (go_at_call 10; have _t := tQ; refine (getD_nil _ _ _).mono ?_; rintro e w4 ⟨rfl, b4⟩; have H4 := H3.on b4)
      | (go_at_call 9; have _t := tQ; refine (putD_nil _ _ A _ c _).mono ?_; rintro e w3 ⟨rfl, rfl⟩; clear tQ)
      | (go_at_call 9; refine (putS_nil g _ A _ c _).mono ?_; rintro e w3 ⟨rfl, rfl⟩)
      | (go_at_call 11; have _t := tK; refine (erase_nil _ _).mono ?_; rintro e w3 ⟨rfl, rfl⟩; clear tK)
      | (go_at_call 14; have _t := tD; refine (HKept.out _ _ _ H4.both.disk).mono ?_; rintro e w5 ⟨v5, rfl, n5, b5⟩; obtain ⟨A5, c5, rfl, hc5, hm5, rd5⟩ := n5.rdN (fp := []) (by simp); have H5 := H4.on b5; clear hpl hpw)
      | (go_at_call 13; refine (HDec.out _ _ _ _ _ H5.both.sym rd5.rd hc5 hm5).mono ?_; rintro e w6 ⟨⟨A6, c6, rfl, own6⟩, b6⟩; unfold Sec.xv; have H6 := H5.on b6; clear tD))
    have B7 := Blk.new w6 [.int .i64 x.kind, .int .u64 (x.life.toNat : Int), .int .i64 x.seq, .int .u64 (x.gen.toNat : Int), .slice A6 x.body.length c6] 38
    have b7 := b1alloc w6 (.cells #[.int .i64 x.kind, .int .u64 (x.life.toNat : Int), .int .i64 x.seq, .int .u64 (x.gen.toNat : Int), .slice A6 x.body.length c6] 38)
    obtain ⟨w7, hw7⟩ : ∃ w7, w7 = w6.alloc (.cells #[.int .i64 x.kind, .int .u64 (x.life.toNat : Int), .int .i64 x.seq, .int .u64 (x.gen.toNat : Int), .slice A6 x.body.length c6] 38) := ⟨_, rfl⟩
    obtain ⟨h, hh⟩ : ∃ h, h = w6.heap.size := ⟨_, rfl⟩
    rw [← hw7] at B7 b7 ⊢
    rw [← hh] at B7 ⊢
    have H7 := H6.on b7
    have rd7 := (Rd.own own6).on b7
    have kd7 := H7.rd hr
    have c0 : Below w7.heap.size w7 w7.drew := (Below.refl _ _).drew
    clear hw7 hh b7 own6 b6 b5
    go_region_held3 (fun w' => w'.cell? ⟨h, 0, none⟩ = some (.int .i64 x.kind) ∧ w'.cell? ⟨h, 1, none⟩ = some (.int .u64 (x.life.toNat : Int)) ∧ w'.cell? ⟨h, 2, none⟩ = some (.int .i64 x.seq) ∧ w'.cell? ⟨h, 3, none⟩ = some (.int .u64 (x.gen.toNat : Int)) ∧ w'.cell? ⟨h, 4, none⟩ = some (.slice A6 x.body.length c6)) (first | exact five5x (B7.on c0) | exact five5x (B7.on c8) | exact five5x (B7.on c9)) (first
      | (go_at_call 16; refine (rsector_any _ A _ c _).mono ?_; rintro e x8 ⟨rfl, y8⟩; have c8 := bt c0 y8; have rd8 := rd7.on c8; have kd8 := kd7.on c8)
      | (go_at_call 15; refine (HSame.out A6 A c6 c _ rd8 kd8).mono ?_; rintro e x9 ⟨rfl, y9⟩; have c9 := bt c8 y9))
    have H9 := H7.on c9
    clear c8 c9 y8 y9 rd8 kd8 rd7 kd7 c0 B7
    have tE : True := trivial
    go_wp2_with (first
      | (go_at_call 10; refine (HGet.out _ _ _ _ _ H9.both).mono ?_; rintro e w10 ⟨⟨A10, c10, rfl, hc10, hm10, rd10⟩, b10⟩; have H11 := H9.on b10)
      | (go_at_call 11; refine (HEr.out _ _ _ H11.both.disk).mono ?_; rintro e w12 d12; obtain ⟨rfl, fp12, H12, _, _⟩ := H11.did d12; rw [HE1.out])
      | (go_at_call 12; refine (HBl.out _ _ _ H12.both.disk).mono ?_; rintro e w13 ⟨rfl, b13⟩; have H13 := H12.on b13)
      | (go_at_call 14; refine (HKept2.out _ _ _ H13.both.disk).mono ?_; rintro e w14 ⟨v14, rfl, n14, b14⟩; obtain ⟨A14, c14, rfl, hc14, hm14, rd14⟩ := n14.rdN (fp := []) (by simp); have H14 := H13.on b14)
      | (go_at_call 18; refine (HRb.out _ _ _ rd14.rd).mono ?_; rintro e w15 ⟨rfl, rfl⟩)
      | (go_at_call 6; refine (alive_any _).mono ?_; rintro e w16 ⟨rfl, b16⟩; have H16 := H14.on b16))
    go_ret
    exact ⟨rfl, H16.bel⟩

set_option maxRecDepth 100000 in
theorem lifted (os : Os) (started : os.Started) (H : Type) (enc : TypeId × Value → H) :
    ReturnsInHanded {} Try.checked os 3 .any (Rows.rootPutsSpec.pre6 enc Try.prog Try.f3 Rows.rootPutsRow.domain false) (Rows.rootPutsSpec.post enc Try.prog Try.f3 false true false false) := by
  refine returnsInHanded_of_change (C := Try.checked) own started (by kernel_rfl) Try.func3
    (ChangeSpec.witness6 (enc := enc) (C := Try.checked) false ⟨#[], #[.int .u64 0, .int .u64 0, .slice none 0 0], []⟩ 8 (by kernel_rfl) (by kernel_rfl) (by kernel_rfl) (by kernel_rfl)) ?_
  intro W base args ds gs before hval0 hW hcnd _
  have hval : ∀ (j : Nat) t v, Try.f3.params[j]? = some t → args[j]? = some v → Value.okWide Try.prog W .any base t v := hval0
  have hW' := hW
  obtain ⟨p, q, hA0, hV, rfl, hfz, hnd⟩ := hW
  have hA : DataW.TrodAll enc Try.prog W 0 (fun _ => true) true Try.f3.params.toList args.toList ds p := hA0
  rw [Try.params3] at hA hval
  obtain ⟨v0, vs0, d0, ds0, p0, q0, hargs, rfl, rfl, h0, r0⟩ := trodAll_cons hA
  obtain ⟨v1, vs1, d1, ds1, p1, q1, rfl, rfl, rfl, h1, r1⟩ := trodAll_cons r0
  obtain ⟨v2, vs2, d2, ds2, p2, q2, rfl, rfl, rfl, h2, r2⟩ := trodAll_cons r1
  obtain ⟨rfl, rfl, rfl⟩ := trodAll_nil r2
  obtain rfl : args = #[v0, v1, v2] := by cases args; simp_all
  obtain ⟨rfl, rfl⟩ := trodVars_none hV
  have k0 := h0
  have lt0 := places_lt k0
  obtain ⟨n0, rfl, _, _, w0⟩ := open_int Try.underlying22 (hval 0 22 v0 rfl rfl) h0
  obtain ⟨x0, rfl⟩ := wf64 w0
  have k1 := h1
  have lt1 := places_lt k1
  obtain ⟨n1, rfl, _, _, w1⟩ := open_int Try.underlying22 (hval 1 22 v1 rfl rfl) h1
  obtain ⟨x1, rfl⟩ := wf64 w1
  have k2 := h2
  have lt2 := places_lt k2
  obtain ⟨a2, len2, cap2, rfl⟩ := okWide_slice Try.underlying23 (hval 2 23 v2 rfl rfl)
  obtain ⟨fuel2, hf2⟩ := h2
  obtain ⟨l2, rfl, rr2, rc2, rm2⟩ := bytes_of rfl Try.underlying23 Try.underlying5 (by kernel_rfl) hf2
  clear hA0 hval0
  refine (walk x0 x1 a2 l2 cap2 W rr2 rc2 rm2).mono fun e W' ⟨he, bel⟩ => ?_
  subst he
  exact ⟨_, rfl, _, _, _, [], _, [], hW', trodAll_mk1 (shut_bool Try.underlying4 _), (trodAll_cons_mk (Below.trod laidOut (by kernel_rfl) (of_decide_eq_true (by kernel_rfl)) k0 bel lt0) (trodAll_cons_mk (Below.trod laidOut (by kernel_rfl) (of_decide_eq_true (by kernel_rfl)) k1 bel lt1) (trodAll_cons_mk (Below.trod laidOut (by kernel_rfl) (of_decide_eq_true (by kernel_rfl)) k2 bel lt2) trodAll_mk0))), rfl, bel.frame _, fun h => by cases h⟩

theorem proved : Rows.RootPutsSaid :=
  OpenClaim.holds_of_wide 3 Try.f3 rfl rfl rfl rfl rfl rfl rfl ⟨rfl, rfl, rfl, rfl, rfl⟩ rfl rfl rfl rfl rfl (by kernel_rfl) Try.func3 (by kernel_rfl)
    (of_decide_eq_true (by kernel_rfl)) (by unfold Func.isWrapper; first | (rw [if_pos (by decide +kernel)]; kernel_rfl) | (rw [if_neg (by decide +kernel)]; exact ⟨rfl, rfl⟩))
    (fun os started H enc _ => lifted os started H enc)
#print axioms proved
end Go.Proofs.Ytkapamolligmkaa.RootPuts
