/- SnapReads: for every input the law returns true: which pages are not there, of any sectors in their places. No condition. -/
import Derived.Test.YtmpmibcdpkolkaaSnapReadsF
import Derived.Lib.MinMax
namespace Go.Proofs.Ytmpmibcdpkolkaa.SnapReads
open Go.ChangeShapes Go.WideShapes Go.ChangeAt Go.RowKit Go.Joins
open Go.ChangeMaps (open_string shut_string)
open Go.Proofs.Ytmpmibcdpkolkaa.Sup (Gb gv gcell srightF gthree newN_any UpN up_new srightF_new srightF_no size_ge stp_yes stp_no bytesAt bytesAt_len)
open Go.Proofs.Ytmpmibcdpkolkaa.Snap
open Go.Proofs.Ytmpmibcdpkolkaa.Geom (lo hi pagesOf areaAt)
open Go.Proofs.Ytmpmibcdpkolkaa.Disk (St DAt)
open Go.Proofs.Ytmpmibcdpkolkaa.Sec (symbolic_any RetX five5x X rightF text sumOf sumAfter)
set_option linter.unusedVariables false
set_option maxRecDepth 100000
theorem sec5 {w w' : World} {b o : Nat} {v0 v1 v2 v3 v4 : Value} (hb : b < w.heap.size) (h : Below w.heap.size w w') (c0 : w.cell? ⟨b, o, none⟩ = some v0) (c1 : w.cell? ⟨b, o + 1, none⟩ = some v1) (c2 : w.cell? ⟨b, o + 2, none⟩ = some v2) (c3 : w.cell? ⟨b, o + 3, none⟩ = some v3) (c4 : w.cell? ⟨b, o + 4, none⟩ = some v4) :
    w'.cell? ⟨b, o, none⟩ = some v0 ∧ w'.cell? ⟨b, o + 1, none⟩ = some v1 ∧ w'.cell? ⟨b, o + 2, none⟩ = some v2 ∧ w'.cell? ⟨b, o + 3, none⟩ = some v3 ∧ w'.cell? ⟨b, o + 4, none⟩ = some v4 :=
  ⟨(h.cell (p := ⟨b, _, none⟩) hb).trans c0, (h.cell (p := ⟨b, _, none⟩) hb).trans c1, (h.cell (p := ⟨b, _, none⟩) hb).trans c2, (h.cell (p := ⟨b, _, none⟩) hb).trans c3, (h.cell (p := ⟨b, _, none⟩) hb).trans c4⟩
theorem sec5k {w w' : World} {fp : List Nat} {b o : Nat} {v0 v1 v2 v3 v4 : Value} (hb : b < w.heap.size) (hn : b ∉ fp) (h : Keep fp w w') (c0 : w.cell? ⟨b, o, none⟩ = some v0) (c1 : w.cell? ⟨b, o + 1, none⟩ = some v1) (c2 : w.cell? ⟨b, o + 2, none⟩ = some v2) (c3 : w.cell? ⟨b, o + 3, none⟩ = some v3) (c4 : w.cell? ⟨b, o + 4, none⟩ = some v4) :
    w'.cell? ⟨b, o, none⟩ = some v0 ∧ w'.cell? ⟨b, o + 1, none⟩ = some v1 ∧ w'.cell? ⟨b, o + 2, none⟩ = some v2 ∧ w'.cell? ⟨b, o + 3, none⟩ = some v3 ∧ w'.cell? ⟨b, o + 4, none⟩ = some v4 := by
  have e := fun o => World.cell?_of_block (a := ⟨b, o, none⟩) (h.block hb hn)
  exact ⟨(e _).trans c0, (e _).trans c1, (e _).trans c2, (e _).trans c3, (e _).trans c4⟩
theorem not_turn {w1 : World} {gS bS : Nat} {fp fp' : List Nat} {base : Nat} {e : TypeId} {v : Value} {j : Nat} {xs : List Value} (hown : w1.ownsRow base e 1 v j xs) (hnot : ∀ r, v.ownBlock = some r → r ∉ gS :: bS :: fp) (f : Fresh w1 fp fp') : ∀ r, v.ownBlock = some r → r ∉ gS :: bS :: fp' := fun r hr hm => by
  have h0 := hnot r hr
  rcases List.mem_cons.1 hm with e | hm
  · exact h0 (by rw [e]; simp)
  rcases List.mem_cons.1 hm with e | hm
  · exact h0 (by rw [e]; simp)
  · exact f.out (hown.lt r hr).2 (fun hm => h0 (by simp [hm])) hm
theorem grow_want {w2 X w9 : World} {g : Nat} {fp : List Nat} {s : St} {gS bS : Nat} {L : List (List UInt8)} {e : TypeId} {v v9 : Value} {j m : Nat} {xs ys : List Value} {tmp : Obj} (H : Here w2 X g fp s gS bS L) (hown : X.ownsRow w2.heap.size e 1 v j xs) (hnot : ∀ r, v.ownBlock = some r → r ∉ gS :: bS :: fp)
    (own9 : w9.ownsRow w2.heap.size e 1 v9 m ys) (hg : (X.alloc tmp).grownBy w9 v.ownBlock) (hat : v9.ownBlock = v.ownBlock ∨ v9.ownBlock = some (X.alloc tmp).heap.size) : Here w2 w9 g fp s gS bS L ∧ ∀ r, v9.ownBlock = some r → r ∉ gS :: bS :: fp := by
  refine ⟨(H.on (b1alloc X tmp)).row hg (fun r e => ⟨own_block hown e, hnot r e⟩), fun r hr => ?_⟩
  rcases hat with h | h
  · exact hnot r (h ▸ hr)
  · rw [h] at hr
    injection hr with hr
    subst hr
    have h1 := H.both.sym.lt
    intro hm
    have hsz : (X.alloc tmp).heap.size = X.heap.size + 1 := by simp
    rcases List.mem_cons.1 hm with e | hm
    · omega
    rcases List.mem_cons.1 hm with e | hm
    · omega
    · have := H.both.disk.lt _ hm; omega
set_option maxHeartbeats 4000000 in
theorem walk (ga gd gl : Int) (life : UInt64) (A : Option Addr) (l : List X) (c : Nat) (w : World) (ha0 : -9223372036854775808 ≤ ga) (ha1 : ga ≤ 9223372036854775807) (hd0 : -9223372036854775808 ≤ gd) (hd1 : gd ≤ 9223372036854775807) (hg0 : -9223372036854775808 ≤ gl) (hg1 : gl ≤ 9223372036854775807)
    (hr : Secs w w.heap.size A l) (hc : l.length ≤ c) (hcm : c ≤ maxLen) :
    Calls Try.prog 7 #[gv ga gd gl, .int .u64 (life.toNat : Int), .slice A l.length c] w fun e w' => e = .returned (.bool true) ∧ Below w.heap.size w w' := by
  have hG : Gb ga gd gl := ⟨ha0, ha1, hd0, hd1, hg0, hg1⟩
  have FG := Blk.new w (gcell ga gd gl) 23
  have bw := b1alloc w (.cells (gcell ga gd gl).toArray 23)
  obtain ⟨z0, z1, z2⟩ := gthree FG
  have HA := Lib.hid FG
  have HRg := Lib.hid (fun W => Geom.rright_any ga gd gl W hG.a0 hG.a1 hG.d0 hG.d1 hG.g0 hG.g1)
  have HPg := Lib.hid (fun W => Geom.rpages_any ga gd gl W hG.a0 hG.a1 hG.d0 hG.d1 hG.g0 hG.g1)
  have HSz := Lib.hid (fun W => Geom.rsize_any ga gd gl W hG.a0 hG.a1 hG.d0 hG.d1 hG.g0 hG.g1)
  have hpb := Geom.pagesOf_bd ga gd gl
  have hsb := Geom.size_bd ga gd gl
  obtain ⟨N, hN⟩ : ∃ N : Nat, pagesOf ga gd gl = (N : Int) := ⟨_, (Int.toNat_of_nonneg hpb.1).symm⟩
  rw [hN] at HPg
  have tR : True := trivial
  clear hc hcm FG
  cases hq : Geom.right ga gd gl with
  | false =>
    rw [hq] at HRg
    clear hq hN hpb hsb
    go_enter Try.func7, Try.ntmps7
    go_wp2_with (first
      | (go_at_call 19; refine (HRg.out _).mono ?_; rintro e w1 ⟨rfl, b1⟩)
      | (go_at_call 30; refine (alive_any _).mono ?_; rintro e w8 ⟨rfl, b8⟩))
    go_ret
    exact ⟨rfl, bt (bt bw b1) b8⟩
  | true =>
  rw [hq] at HRg
  by_cases h30 : N ≤ 30
  rotate_left
  · have t1 : (30 : Int) < (N : Int) := by omega
    clear hq hN hpb hsb h30
    go_enter Try.func7, Try.ntmps7
    go_wp2_with (first
      | (go_at_call 19; refine (HRg.out _).mono ?_; rintro e w1 ⟨rfl, b1⟩; clear z0 z1 z2; obtain ⟨z0, z1, z2⟩ := gthree (HA.out.on b1))
      | (go_at_call 33; refine (HPg.out _).mono ?_; rintro e w2 ⟨rfl, b2⟩)
      | (go_at_call 30; refine (alive_any _).mono ?_; rintro e w8 ⟨rfl, b8⟩))
    go_ret
    exact ⟨rfl, bt (bt (bt bw b1) b2) b8⟩
  have t1 : ¬ (30 : Int) < (N : Int) := by omega
  by_cases h40 : l.length ≤ 40
  rotate_left
  · have t2 : (40 : Int) < (l.length : Int) := by omega
    clear hq hN hpb hsb h30 h40
    go_enter Try.func7, Try.ntmps7
    go_wp2_with (first
      | (go_at_call 19; refine (HRg.out _).mono ?_; rintro e w1 ⟨rfl, b1⟩; clear z0 z1 z2; obtain ⟨z0, z1, z2⟩ := gthree (HA.out.on b1))
      | (go_at_call 33; refine (HPg.out _).mono ?_; rintro e w2 ⟨rfl, b2⟩)
      | (go_at_call 30; refine (alive_any _).mono ?_; rintro e w8 ⟨rfl, b8⟩))
    go_ret
    exact ⟨rfl, bt (bt (bt bw b1) b2) b8⟩
  have t2 : ¬ (40 : Int) < (l.length : Int) := by omega
  have hsg := size_ge hq
  obtain ⟨n, hn⟩ : ∃ n : Nat, (n : Int) = Geom.sizeOf ga gd gl := ⟨(Geom.sizeOf ga gd gl).toNat, by omega⟩
  have hn7 : 7 ≤ n ∧ n ≤ 238 := by omega
  rw [← hn] at HSz
  have HN := Lib.hid (fun W => newN_any n (n : Int) rfl (by omega) (by omega) W)
  have HQ := Lib.hid (fun k hk => qs_inv hn hN.symm life l k hk)
  have hqN := HQ.out N (Nat.le_refl _)
  have hbadL := hqN.badL hn hN.symm
  have hres := hqN.snapR hn hN.symm
  have r3 : srightF (qs ga gd gl life l n N).2 ga gd gl = 0 := srightF_new (n := n) hq hqN.up.size hn
  have hRd := fun g fp gS bS W h => read_any g fp (qs ga gd gl life l n N).2 gS bS (qs ga gd gl life l n N).1 ga gd gl life W hG h (by have := hqN.len; omega) (by have := hqN.sz; omega) r3 hqN.up.down N hN.symm
  have hBd := fun g fp gS bS W h => bad_any g fp (qs ga gd gl life l n N).2 gS bS (qs ga gd gl life l n N).1 ga gd gl life W hG h (by have := hqN.len; omega) (by have := hqN.sz; omega) r3 hqN.up.down N hN.symm
  rw [hbadL] at hBd
  have HAr := Lib.hid (fun (k : Nat) (hk : k < N) W => Geom.rarea_any ga gd gl life _ (by rfl) (k : Int) W hG.a0 hG.a1 hG.d0 hG.d1 hG.g0 hG.g1 (show Geom.lo ≤ (k : Int) by unfold Geom.lo; omega) (show (k : Int) ≤ Geom.hi by unfold Geom.hi; omega))
  have HR := Lib.hid (fun W (bW : Below w.heap.size w W) => hr.below bW)
  obtain ⟨O, hO⟩ : ∃ O, O = snapR (qs ga gd gl life l n N).1 (qs ga gd gl life l n N).2 ga gd gl life N := ⟨_, rfl⟩
  rw [← hO] at hRd hres
  have hwl := wants_len ga gd gl life l N
  have HRd := Lib.hid hRd
  have HBd := Lib.hid hBd
  have Hres := Lib.hid hres
  have HN0 := Lib.hid hN
  obtain ⟨i0, hi0, hz0, hz1, hz2⟩ := info_parts infoI
  clear hRd hBd hres hO hqN hbadL r3 hq hN hpb hsb hsg hn hr
  go_enter Try.func7, Try.ntmps7
  go_wp2_with (first
    | (go_at_call 19; refine (HRg.out _).mono ?_; rintro e w1 ⟨rfl, b1⟩; clear z0 z1 z2; obtain ⟨z0, z1, z2⟩ := gthree (HA.out.on b1))
    | (go_at_call 33; have _t := tR; refine (HPg.out _).mono ?_; rintro e w2 ⟨rfl, b2⟩; have bx2 := bt b1 b2; have bw2 := bt bw bx2; have FG2 := HA.out.on bx2; have ltG := FG2.lt; clear tR; clear z0 z1 z2; obtain ⟨z0, z1, z2⟩ := gthree FG2)
    | (go_at_call 13; refine (HSz.out _).mono ?_; rintro e w5 ⟨rfl, b5⟩)
    | (go_at_call 12; refine (HN.out _).mono ?_; rintro e w6 ⟨g, fp, rfl, hD, hfp, b6⟩; have bs := bt b5 b6; have hfp' := fun j hj => Nat.le_trans b5.size (hfp j hj))
    | (go_at_call 14; refine (symbolic_any _).mono ?_; rintro e w7 ⟨gS, bS, rfl, hS, hgS, hbS, b7⟩; have H7 := Here.start hD hfp' bs hS hgS hbS b7; clear z0 z1 z2))
  go_loopw [10, 11] (fun o i wr => ∃ k : Nat, k ≤ N ∧ i = .int .i64 (k : Int) ∧ ∃ fp', Here w2 wr g fp' (qs ga gd gl life l n k).2 gS bS (qs ga gd gl life l n k).1 ∧ wr.ownsRow w2.heap.size 3 1 o (wants ga gd gl life l k).length ((wants ga gd gl life l k).map (Value.int .i64)) ∧ ∀ r, o.ownBlock = some r → r ∉ gS :: bS :: fp') (fun _ i _ => N - (intOf i).toNat)
  case atStart => exact ⟨0, by omega, rfl, fp, H7, own_nil _ _ _ _, fun r e => by cases e⟩
  case round =>
    obtain ⟨k, hk, rfl, fp', HB, hown, hnot⟩ := hrel
    clear H7
    have bWr := bt bw2 HB.bel
    have FGr := FG2.below HB.bel ltG
    obtain ⟨z0, z1, z2⟩ := gthree FGr
    have hwkl := wants_len ga gd gl life l k
    by_cases hlt : k < N
    · have hkm : (k : Int) < (N : Int) := Int.ofNat_lt.2 hlt
      have hk1 : k + 1 ≤ N := hlt
      have hms : N - (k + 1) < N - k := by omega
      have hk9 : k ≤ 1000000000 := by omega
      have hA1 : (wants ga gd gl life l k).length + 1 ≤ maxLen := by unfold maxLen; omega
      have hA2 : ((wants ga gd gl life l k).length + 1) * 8 ≤ 140737488355328 := by omega
      by_cases hll : k < l.length
      · have hkl : (k : Int) < (l.length : Int) := Int.ofNat_lt.2 hll
        obtain ⟨b, off, Ak, ck, rfl, hb, hs⟩ := (HR.out wr bWr).get hll
        have hb1 : b < wr.heap.size := Nat.lt_of_lt_of_le hb bWr.size
        have hpl := HQ.out k hk
        have hqs := qs_at (ga := ga) (gd := gd) (gl := gl) (life := life) (n := n) hll
        have hisL : isL ga gd gl life l k = (decide (rightF (areaAt ga gd gl life.toNat k) l[k] = 0) && isX life k l[k]) := by unfold isL; rw [dif_pos hll]
        obtain ⟨x, hx⟩ : ∃ x, x = l[k] := ⟨_, rfl⟩
        obtain ⟨p, hp⟩ : ∃ p, p = areaAt ga gd gl life.toNat k := ⟨_, rfl⟩
        rw [← hx] at hs hqs hisL
        rw [← hp] at hqs hisL
        have HArk := Lib.hid (HAr.out k hlt)
        rw [← hp] at HArk
        obtain ⟨c0, c1, c2, c3, c4, hrd, _, _⟩ := hs
        have hRx := fun W (bW : Below wr.heap.size wr W) => (hrd.below (bW.mono bWr.size)).more (Nat.le_trans bWr.size bW.size)
        by_cases hrt : rightF p x = 0
        · skip
          have Hqs := Lib.hid (hqs.trans (stp_yes hrt))
          have hEn := fun A c W hS hr => Sec.encode_sym p gS bS (qs ga gd gl life l n k).1 x A c W hS (by have := hpl.len; omega) hr hrt
          have hPu := fun fp W A c h hr => Disk.put_any g fp (qs ga gd gl life l n k).2 p A 512 c (bytesAt (qs ga gd gl life l n k) p x) W h (by have := hpl.sz; omega) (bytesAt_len (qs ga gd gl life l n k) p x).symm hr
          have hbyt : text p x ++ sumOf (qs ga gd gl life l n k).1 (text p x) = bytesAt (qs ga gd gl life l n k) p x := rfl
          rw [hbyt] at hEn
          obtain ⟨by_, hby⟩ : ∃ b, b = bytesAt (qs ga gd gl life l n k) p x := ⟨_, rfl⟩
          rw [← hby] at hEn hPu Hqs
          rw [decide_eq_true hrt, Bool.true_and] at hisL
          have HEn := Lib.hid hEn
          have HPu := Lib.hid hPu
          have HisL := Lib.hid hisL
          clear hqs hx hp hrt hll hEn hPu hbyt hby hisL hpl
          go_wp2_with (first
            | (go_at_call 33; refine (HPg.out _).mono ?_; rintro e w8 ⟨rfl, b8⟩; have H8 := HB.on b8; have own8 := own_on hown b8; have FG8 := FGr.on b8; clear z0 z1 z2; obtain ⟨z0, z1, z2⟩ := gthree FG8)
            | (go_at_call 35; refine (HArk.out _).mono ?_; rintro e w9 ⟨rfl, b9⟩; have H9 := H8.on b9; have own9 := own_on own8 b9; have b89 := bt b8 b9; clear z0 z1 z2))
          have hb9 : b < w9.heap.size := Nat.lt_of_lt_of_le hb1 b89.size
          have d0 := (b89.cell (p := ⟨b, off + k * 5, none⟩) hb1).trans c0
          have d1 := (b89.cell (p := ⟨b, off + k * 5 + 1, none⟩) hb1).trans c1
          have d2 := (b89.cell (p := ⟨b, off + k * 5 + 2, none⟩) hb1).trans c2
          have d3 := (b89.cell (p := ⟨b, off + k * 5 + 3, none⟩) hb1).trans c3
          have d4 := (b89.cell (p := ⟨b, off + k * 5 + 4, none⟩) hb1).trans c4
          have hbn : b ∉ bS :: fp' := fun e => by have h1 := HB.own b e; have h2 := bw2.size; omega
          have hbn1 : b ∉ [bS] := fun e => hbn (by rw [List.mem_singleton] at e; rw [e]; simp)
          clear c0 c1 c2 c3 c4
          have cz : Below w9.heap.size w9 w9.drew := (Below.refl _ _).drew
          go_region_held3 (fun w' => w'.cell? ⟨b, off + k * 5, none⟩ = some (.int .i64 x.kind) ∧ w'.cell? ⟨b, off + k * 5 + 1, none⟩ = some (.int .u64 (x.life.toNat : Int)) ∧ w'.cell? ⟨b, off + k * 5 + 2, none⟩ = some (.int .i64 x.seq) ∧ w'.cell? ⟨b, off + k * 5 + 3, none⟩ = some (.int .u64 (x.gen.toNat : Int)) ∧ w'.cell? ⟨b, off + k * 5 + 4, none⟩ = some (.slice Ak x.body.length ck)) (first | with_reducible exact sec5 hb9 cz d0 d1 d2 d3 d4 | with_reducible exact e10) (first
            | (go_at_call 42; refine (HEn.out Ak ck _ ((H9.on cz).both.sym) (hRx _ (bt b89 cz))).mono ?_; rintro e w10 ⟨A10, d10, rfl, own10, k10, s10⟩; have e10 := sec5k hb9 hbn1 k10 d0 d1 d2 d3 d4))
          have H10 := (H9.on cz).summed s10 k10
          have ow10 := own_keep (own_on own9 cz) k10 (fun r hr e => hnot r hr (by rw [List.mem_singleton] at e; rw [e]; simp))
          have hb10 : b < w10.heap.size := Nat.lt_of_lt_of_le hb9 k10.size
          obtain ⟨f0, f1, f2, f3, f4⟩ := e10
          clear d0 d1 d2 d3 d4
          cases hi : isX life k x with
          | true =>
            have Hno := Lib.hid (wants_yes (ga := ga) (gd := gd) (gl := gl) (life := life) (l := l) (k := k) (by rw [HisL.out]; exact hi))
            go_wp2_with (first
              | (go_at_call 43; refine (HPu.out _ _ _ _ H10.both.disk (Rd.own own10)).mono ?_; rintro e w11 d11; obtain ⟨rfl, fp11, H11, k11, f11⟩ := H10.did d11; have ow11 := own_keep ow10 k11 (fun r hr e => hnot r hr (List.mem_cons_of_mem _ e)); have hn11 := not_turn ow10 hnot f11; obtain ⟨g0, g1, g2, g3, g4⟩ := sec5k hb10 hbn k11 f0 f1 f2 f3 f4; clear f0 f1 f2 f3 f4)
              | (go_at_call 47; refine (ris_any x Ak ck k life _).mono ?_; rintro e w12 ⟨rfl, b12⟩; rw [hi]; have H12 := H11.on b12; have ow12 := own_on ow11 b12))
            case roundEnd => exact ⟨⟨k + 1, hk1, by first | rfl | (rw [wrap_up hk9]; rfl), fp11, by rw [Hqs.out]; exact H12, by rw [Hno.out]; exact ow12, hn11⟩, by first | exact hms | (rw [wrap_up hk9]; exact hms)⟩
          | false =>
            have Hno := Lib.hid (wants_no (ga := ga) (gd := gd) (gl := gl) (life := life) (l := l) (k := k) (by rw [HisL.out]; exact hi))
            go_wp2_with (first
              | (go_at_call 43; refine (HPu.out _ _ _ _ H10.both.disk (Rd.own own10)).mono ?_; rintro e w11 d11; obtain ⟨rfl, fp11, H11, k11, f11⟩ := H10.did d11; have ow11 := own_keep ow10 k11 (fun r hr e => hnot r hr (List.mem_cons_of_mem _ e)); have hn11 := not_turn ow10 hnot f11; obtain ⟨g0, g1, g2, g3, g4⟩ := sec5k hb10 hbn k11 f0 f1 f2 f3 f4; clear f0 f1 f2 f3 f4)
              | (go_at_call 47; refine (ris_any x Ak ck k life _).mono ?_; rintro e w12 ⟨rfl, b12⟩; rw [hi]; have H12 := H11.on b12; have ow12 := own_on ow11 b12)
              | (refine wpList_append_rd _ rfl _ _ _ rfl w2.heap.size 3 i0 _ 1 8 Try.underlying63 hi0 hz0 hz1 hz2 rfl Nat.zero_lt_one _ (wants ga gd gl life l k).length _ rfl (ow12.alloc _) (w12.heap.size + 1) (some ⟨w12.heap.size, 0, none⟩) 1 1 [.int .i64 (k : Int)] rfl rfl (Rd.lit w12 _ _ _ _ rfl (Nat.lt_succ_self _)) (one_int _ _) hA1 hA2 (le_alloc H12.bel.size _) ?_; intro v20 w20 own20 hg20 hat20))
            case roundEnd =>
              obtain ⟨H20, hn20⟩ := grow_want H12 ow12 hn11 own20 hg20 hat20
              exact ⟨⟨k + 1, hk1, by first | rfl | (rw [wrap_up hk9]; rfl), fp11, by rw [Hqs.out]; exact H20, by rw [Hno.out, List.length_append, List.map_append]; exact own20, hn20⟩, by first | exact hms | (rw [wrap_up hk9]; exact hms)⟩
        · have Hqs := Lib.hid (hqs.trans (stp_no hrt))
          have Hno := Lib.hid (wants_no (ga := ga) (gd := gd) (gl := gl) (life := life) (l := l) (k := k) (by rw [hisL, decide_eq_false hrt, Bool.false_and]))
          have HEn := Lib.hid (fun g A c W => Sec.encode_bad p g x A c W hrt)
          obtain ⟨F, hF⟩ : ∃ F, F = rightF p x := ⟨_, rfl⟩
          rw [← hF] at HEn hrt
          have t5 := beq_no hrt
          clear hqs hisL hx hp hrt hF hrd hll
          go_wp2_with (first
            | (go_at_call 33; refine (HPg.out _).mono ?_; rintro e w8 ⟨rfl, b8⟩; have H8 := HB.on b8; have own8 := own_on hown b8; have FG8 := FGr.on b8; clear z0 z1 z2; obtain ⟨z0, z1, z2⟩ := gthree FG8)
            | (go_at_call 35; refine (HArk.out _).mono ?_; rintro e w9 ⟨rfl, b9⟩; have H9 := H8.on b9; have own9 := own_on own8 b9; have b89 := bt b8 b9; clear z0 z1 z2))
          have hb9 : b < w9.heap.size := Nat.lt_of_lt_of_le hb1 b89.size
          have d0 := (b89.cell (p := ⟨b, off + k * 5, none⟩) hb1).trans c0
          have d1 := (b89.cell (p := ⟨b, off + k * 5 + 1, none⟩) hb1).trans c1
          have d2 := (b89.cell (p := ⟨b, off + k * 5 + 2, none⟩) hb1).trans c2
          have d3 := (b89.cell (p := ⟨b, off + k * 5 + 3, none⟩) hb1).trans c3
          have d4 := (b89.cell (p := ⟨b, off + k * 5 + 4, none⟩) hb1).trans c4
          clear c0 c1 c2 c3 c4
          have cz : Below w9.heap.size w9 w9.drew := (Below.refl _ _).drew
          go_region_held3 (fun w' => w'.cell? ⟨b, off + k * 5, none⟩ = some (.int .i64 x.kind) ∧ w'.cell? ⟨b, off + k * 5 + 1, none⟩ = some (.int .u64 (x.life.toNat : Int)) ∧ w'.cell? ⟨b, off + k * 5 + 2, none⟩ = some (.int .i64 x.seq) ∧ w'.cell? ⟨b, off + k * 5 + 3, none⟩ = some (.int .u64 (x.gen.toNat : Int)) ∧ w'.cell? ⟨b, off + k * 5 + 4, none⟩ = some (.slice Ak x.body.length ck)) (first | with_reducible exact sec5 hb9 cz d0 d1 d2 d3 d4 | with_reducible exact sec5 hb9 c10 d0 d1 d2 d3 d4) (first
            | (go_at_call 42; refine (HEn.out _ _ _ _).mono ?_; rintro e w10 ⟨rfl, b10⟩; have c10 := bt cz b10))
          have H10 := H9.on c10
          have own10 := own_on own9 c10
          clear d0 d1 d2 d3 d4
          go_wp2_with (refine wpList_append_rd _ rfl _ _ _ rfl w2.heap.size 3 i0 _ 1 8 Try.underlying63 hi0 hz0 hz1 hz2 rfl Nat.zero_lt_one _ (wants ga gd gl life l k).length _ rfl (own10.alloc _) (w10.heap.size + 1) (some ⟨w10.heap.size, 0, none⟩) 1 1 [.int .i64 (k : Int)] rfl rfl (Rd.lit w10 _ _ _ _ rfl (Nat.lt_succ_self _)) (one_int _ _) hA1 hA2 (le_alloc H10.bel.size _) ?_; intro v20 w20 own20 hg20 hat20)
          case roundEnd =>
            obtain ⟨H20, hn20⟩ := grow_want H10 own10 hnot own20 hg20 hat20
            exact ⟨⟨k + 1, hk1, by first | rfl | (rw [wrap_up hk9]; rfl), fp', by rw [Hqs.out]; exact H20, by rw [Hno.out, List.length_append, List.map_append]; exact own20, hn20⟩, by first | exact hms | (rw [wrap_up hk9]; exact hms)⟩
      · have hkl : ¬ (k : Int) < (l.length : Int) := fun h => hll (Int.ofNat_lt.1 h)
        have Hno := Lib.hid (wants_no (ga := ga) (gd := gd) (gl := gl) (life := life) (l := l) (k := k) (by unfold isL; rw [dif_neg hll]))
        have Hqs := Lib.hid (qs_past (ga := ga) (gd := gd) (gl := gl) (life := life) (n := n) hll)
        clear hll
        go_wp2_with (first
          | (go_at_call 33; refine (HPg.out _).mono ?_; rintro e w8 ⟨rfl, b8⟩; have H8 := HB.on b8; have own8 := own_on hown b8; have FG8 := FGr.on b8; clear z0 z1 z2; obtain ⟨z0, z1, z2⟩ := gthree FG8)
          | (refine wpList_append_rd _ rfl _ _ _ rfl w2.heap.size 3 i0 _ 1 8 Try.underlying63 hi0 hz0 hz1 hz2 rfl Nat.zero_lt_one _ (wants ga gd gl life l k).length _ rfl (own8.alloc _) (w8.heap.size + 1) (some ⟨w8.heap.size, 0, none⟩) 1 1 [.int .i64 (k : Int)] rfl rfl (Rd.lit w8 _ _ _ _ rfl (Nat.lt_succ_self _)) (one_int _ _) hA1 hA2 (le_alloc H8.bel.size _) ?_; intro v20 w20 own20 hg20 hat20))
        case roundEnd =>
          obtain ⟨H20, hn20⟩ := grow_want H8 own8 hnot own20 hg20 hat20
          exact ⟨⟨k + 1, hk1, by first | rfl | (rw [wrap_up hk9]; rfl), fp', by rw [Hqs.out]; exact H20, by rw [Hno.out, List.length_append, List.map_append]; exact own20, hn20⟩, by first | exact hms | (rw [wrap_up hk9]; exact hms)⟩
    · have hkn : ¬ (k : Int) < (N : Int) := fun h => hlt (Int.ofNat_lt.1 h)
      have hkN : k = N := by omega
      subst hkN
      obtain ⟨A5, c5, rfl⟩ := own_form hown
      have tE : True := trivial
      have tBd : True := trivial
      rcases Hres.out with ⟨hw0, r, rfl, hrl⟩ | ⟨hw0, rfl⟩
      · have tw : ¬ (0 : Int) < ((wants ga gd gl life l k).length : Int) := by omega
        have t6 := beq_yes (show (r.length : Int) = (k : Int) by rw [hrl])
        have Hw0 := Lib.hid hw0
        clear hw0 hrl
        go_wp2_with (first
          | (go_at_call 33; have _t := tE; refine (HPg.out _).mono ?_; rintro e w8 ⟨rfl, b8⟩; have H8 := HB.on b8; have own8 := own_on hown b8; have FG8 := FGr.on b8; clear tE; clear z0 z1 z2; obtain ⟨z0, z1, z2⟩ := gthree FG8)
          | (go_at_call 38; have _t := tBd; refine (HBd.out _ _ _ _ _ H8.both).mono ?_; rintro e w9 ⟨⟨A9, c9, rfl, ow9⟩, b9⟩; have H9 := H8.on b9; have own9 := own_on own8 b9; have FG9 := FG8.on b9; have r9 := Rd.own ow9; clear tBd; clear z0 z1 z2; obtain ⟨z0, z1, z2⟩ := gthree FG9)
          | (go_at_call 37; refine (HRd.out _ _ _ _ _ H9.both).mono ?_; rintro e w10 ⟨⟨A10, c10, rfl, _⟩, b10⟩; have H10 := H9.on b10; have own10 := own_on own9 b10; have FG10 := FG9.on b10; have r10 := r9.on b10; clear z0 z1 z2; obtain ⟨z0, z1, z2⟩ := gthree FG10)
          | (go_at_call 38; refine (badD_nil _ _ _ _ _ _).mono ?_; rintro e w11 ⟨rfl, b11⟩; have H11 := H10.on b11; have own11 := own_on own10 b11; have FG11 := FG10.on b11; have r11 := r10.on b11; clear z0 z1 z2; obtain ⟨z0, z1, z2⟩ := gthree FG11)
          | (go_at_call 48; refine (R20.ints_same _ _ (wants ga gd gl life l k) _ _ _ _ _ r11 (Rd.own own11) rfl rfl (Nat.le_trans hwl (Nat.le_trans h30 (by decide)))).mono ?_; rintro e w12 ⟨rfl, b12⟩; have H12 := H11.on b12; have FG12 := FG11.on b12; clear z0 z1 z2; obtain ⟨z0, z1, z2⟩ := gthree FG12)
          | (go_at_call 33; refine (HPg.out _).mono ?_; rintro e w13 ⟨rfl, b13⟩; have H13 := H12.on b13)
          | (go_at_call 30; refine (alive_any _).mono ?_; rintro e w14 ⟨rfl, b14⟩))
        go_ret
        exact ⟨rfl, bt (bt bw2 H13.bel) b14⟩
      · have tw : (0 : Int) < ((wants ga gd gl life l k).length : Int) := by omega
        have Hw0 := Lib.hid hw0
        clear hw0
        go_wp2_with (first
          | (go_at_call 33; have _t := tE; refine (HPg.out _).mono ?_; rintro e w8 ⟨rfl, b8⟩; have H8 := HB.on b8; have own8 := own_on hown b8; have FG8 := FGr.on b8; clear tE; clear z0 z1 z2; obtain ⟨z0, z1, z2⟩ := gthree FG8)
          | (go_at_call 38; have _t := tBd; refine (HBd.out _ _ _ _ _ H8.both).mono ?_; rintro e w9 ⟨⟨A9, c9, rfl, ow9⟩, b9⟩; have H9 := H8.on b9; have own9 := own_on own8 b9; have FG9 := FG8.on b9; have r9 := Rd.own ow9; clear tBd; clear z0 z1 z2; obtain ⟨z0, z1, z2⟩ := gthree FG9)
          | (go_at_call 37; refine (HRd.out _ _ _ _ _ H9.both).mono ?_; rintro e w10 ⟨rfl, b10⟩; have H10 := H9.on b10; have own10 := own_on own9 b10; have FG10 := FG9.on b10; have r10 := r9.on b10; clear z0 z1 z2; obtain ⟨z0, z1, z2⟩ := gthree FG10)
          | (go_at_call 38; refine (badD_nil _ _ _ _ _ _).mono ?_; rintro e w11 ⟨rfl, b11⟩; have H11 := H10.on b11; have own11 := own_on own10 b11; have FG11 := FG10.on b11; have r11 := r10.on b11; clear z0 z1 z2; obtain ⟨z0, z1, z2⟩ := gthree FG11)
          | (go_at_call 48; refine (R20.ints_same _ _ (wants ga gd gl life l k) _ _ _ _ _ r11 (Rd.own own11) rfl rfl (Nat.le_trans hwl (Nat.le_trans h30 (by decide)))).mono ?_; rintro e w12 ⟨rfl, b12⟩; have H12 := H11.on b12; have FG12 := FG11.on b12; clear z0 z1 z2; obtain ⟨z0, z1, z2⟩ := gthree FG12)
          | (go_at_call 30; refine (alive_any _).mono ?_; rintro e w14 ⟨rfl, b14⟩))
        go_ret
        exact ⟨rfl, bt (bt bw2 H12.bel) b14⟩
set_option maxRecDepth 100000 in
theorem lifted (os : Os) (started : os.Started) (H : Type) (enc : TypeId × Value → H) :
    ReturnsInHanded {} Try.checked os 7 .any (Rows.snapReadsSpec.pre6 enc Try.prog Try.f7 Rows.snapReadsRow.domain false) (Rows.snapReadsSpec.post enc Try.prog Try.f7 false true false false) := by
  refine returnsInHanded_of_change (C := Try.checked) own started (by kernel_rfl) Try.func7
    (ChangeSpec.witness6 (enc := enc) (C := Try.checked) false ⟨#[], #[.agg #[.int .i64 0, .int .i64 0, .int .i64 0], .int .u64 0, .slice none 0 0], []⟩ 8 (by kernel_rfl) (by kernel_rfl) (by kernel_rfl) (by kernel_rfl)) ?_
  intro W base args ds gs before hval0 hW hcnd _
  have hval : ∀ (j : Nat) t v, Try.f7.params[j]? = some t → args[j]? = some v → Value.okWide Try.prog W .any base t v := hval0
  have hW' := hW
  obtain ⟨p, q, hA0, hV, rfl, hfz, hnd⟩ := hW
  have hA : DataW.TrodAll enc Try.prog W 0 (fun _ => true) true Try.f7.params.toList args.toList ds p := hA0
  rw [Try.params7] at hA hval
  obtain ⟨v0, vs0, d0, ds0, p0, q0, hargs, rfl, rfl, h0, r0⟩ := trodAll_cons hA
  obtain ⟨v1, vs1, d1, ds1, p1, q1, rfl, rfl, rfl, h1, r1⟩ := trodAll_cons r0
  obtain ⟨v2, vs2, d2, ds2, p2, q2, rfl, rfl, rfl, h2, r2⟩ := trodAll_cons r1
  obtain ⟨rfl, rfl, rfl⟩ := trodAll_nil r2
  obtain rfl : args = #[v0, v1, v2] := by cases args; simp_all
  obtain ⟨rfl, rfl⟩ := trodVars_none hV
  have k0 := h0
  have lt0 := places_lt k0
  obtain ⟨c0a, c0b, c0c, y0a, y0b, y0c, m0, rfl, _, _, hy0a, hy0b, hy0c⟩ := open_agg3 Try.underlying23 (by kernel_rfl) (by kernel_rfl) (hval 0 23 v0 rfl rfl) h0
  obtain ⟨n0a, e0a, _, w0a⟩ := DataW.trod_int Try.underlying3 hy0a
  simp only [List.cons.injEq, and_true] at e0a
  subst e0a
  obtain ⟨n0b, e0b, _, w0b⟩ := DataW.trod_int Try.underlying3 hy0b
  simp only [List.cons.injEq, and_true] at e0b
  subst e0b
  obtain ⟨n0c, e0c, _, w0c⟩ := DataW.trod_int Try.underlying3 hy0c
  simp only [List.cons.injEq, and_true] at e0c
  subst e0c
  have k1 := h1
  have lt1 := places_lt k1
  obtain ⟨n1, rfl, _, _, w1⟩ := open_int Try.underlying24 (hval 1 24 v1 rfl rfl) h1
  obtain ⟨x1, rfl⟩ := wf64 w1
  have k2 := h2
  have lt2 := places_lt k2
  obtain ⟨a2, len2, cap2, rfl⟩ := okWide_slice Try.underlying71 (hval 2 71 v2 rfl rfl)
  obtain ⟨fuel2, hf2⟩ := h2
  obtain ⟨l2, rfl, rr2, rc2, rm2⟩ := sectors_of hf2
  clear hA0 hval0
  refine (walk n0a n0b n0c x1 a2 l2 cap2 W (wfi w0a).1 (wfi w0a).2 (wfi w0b).1 (wfi w0b).2 (wfi w0c).1 (wfi w0c).2 rr2 rc2 rm2).mono fun e W' ⟨he, bel⟩ => ?_
  subst he
  exact ⟨_, rfl, _, _, _, [], _, [], hW', trodAll_mk1 (shut_bool Try.underlying4 _), (trodAll_cons_mk (Below.trod laidOut (by kernel_rfl) (of_decide_eq_true (by kernel_rfl)) k0 bel lt0) (trodAll_cons_mk (Below.trod laidOut (by kernel_rfl) (of_decide_eq_true (by kernel_rfl)) k1 bel lt1) (trodAll_cons_mk (Below.trod laidOut (by kernel_rfl) (of_decide_eq_true (by kernel_rfl)) k2 bel lt2) trodAll_mk0))), rfl, bel.frame _, fun h => by cases h⟩

theorem proved : Rows.SnapReadsSaid :=
  OpenClaim.holds_of_wide 7 Try.f7 rfl rfl rfl rfl rfl rfl rfl ⟨rfl, rfl, rfl, rfl, rfl⟩ rfl rfl rfl rfl rfl (by kernel_rfl) Try.func7 (by kernel_rfl)
    (of_decide_eq_true (by kernel_rfl)) (by unfold Func.isWrapper; first | (rw [if_pos (by decide +kernel)]; kernel_rfl) | (rw [if_neg (by decide +kernel)]; exact ⟨rfl, rfl⟩))
    (fun os started H enc _ => lifted os started H enc)
#print axioms proved
end Go.Proofs.Ytmpmibcdpkolkaa.SnapReads
