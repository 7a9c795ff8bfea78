/- WalAppends: for every input the law returns true: what any transactions are told, one behind the other, where their sectors stand, how many writes and flushes they take, and that they are read back. No condition. -/
import Derived.Test.YtmpmibcdpkolkaaWalAppendsH
import Derived.Test.YtmpmibcdpkolkaaWalAppendsG
import Derived.Lib.MinMax
import Derived.Deep.RegionHeld3
import Derived.Deep.RegionLaw
import Derived.Deep.DeepCutAuto
namespace Go.Proofs.Ytmpmibcdpkolkaa.WalAppends
open Go.ChangeShapes Go.WideShapes Go.ChangeAt Go.RowKit Go.Joins
open Go.ChangeMaps (open_string shut_string)
open Go.Proofs.Ytmpmibcdpkolkaa.Sup (Gb gv gcell gthree newN_any UpN up_new)
open Go.Proofs.Ytmpmibcdpkolkaa.Wal
open Go.Proofs.Ytmpmibcdpkolkaa.Geom (lo hi pagesOf right)
open Go.Proofs.Ytmpmibcdpkolkaa.Disk (St DAt)
open Go.Proofs.Ytmpmibcdpkolkaa.Sec (symbolic_any RetX five5x X X0 rightF text sumOf sumAfter)
set_option linter.unusedVariables false
set_option maxRecDepth 100000
attribute [local irreducible] wpQuiet
/-- what is owned stays, while other blocks are turned -/
theorem own_kp {w w' : World} {base : Nat} {e : TypeId} {z n : Nat} {v : Value} {xs : List Value} {fp : List Nat} (h : w.ownsRow base e z v n xs) (k : Keep fp w w') (hn : ∀ r, v.ownBlock = some r → r ∉ fp) : w'.ownsRow base e z v n xs :=
  Wal.own_keep h (fun j cs e _ hh => k.block (lt_of_block hh) (hn j e))
set_option maxHeartbeats 8000000 in
theorem walk (ga gd gl : Int) (life : UInt64) (base : Int) (A : Option Addr) (l : List Tx) (c : Nat) (w : World) (ha0 : -9223372036854775808 ≤ ga) (ha1 : ga ≤ 9223372036854775807) (hd0 : -9223372036854775808 ≤ gd) (hd1 : gd ≤ 9223372036854775807) (hg0 : -9223372036854775808 ≤ gl) (hg1 : gl ≤ 9223372036854775807)
    (hb0 : -9223372036854775808 ≤ base) (hb1 : base ≤ 9223372036854775807) (hr : Txs w (fun j => j < w.heap.size) A l) (hc : l.length ≤ c) (hcm : c ≤ maxLen) :
    Calls Try.prog 10 #[gv ga gd gl, .int .u64 (life.toNat : Int), .int .i64 base, .slice A l.length c] w fun e w' => e = .returned (.bool true) ∧ Below w.heap.size w w' := by
  have hG : Gb ga gd gl := ⟨ha0, ha1, hd0, hd1, hg0, hg1⟩
  have FG := Blk.new w (gcell ga gd gl) 23
  have bw := b1alloc w (.cells (gcell ga gd gl).toArray 23)
  obtain ⟨z0, z1, z2⟩ := gthree FG
  have HA := Lib.hid FG
  have lA := FG.lt
  have HRg := Lib.hid (fun W => Geom.rright_any ga gd gl W hG.a0 hG.a1 hG.d0 hG.d1 hG.g0 hG.g1)
  have HSz := Lib.hid (fun W => Geom.rsize_any ga gd gl W hG.a0 hG.a1 hG.d0 hG.d1 hG.g0 hG.g1)
  have HLi := Lib.hid (fun W (b : Below w.heap.size w W) => light_any (fun j => j < w.heap.size) A l c ga gd gl W (hr.on b))
  have HFi := Lib.hid (fun W => fits_any ga gd gl l.length W hG)
  have HFr := Lib.hid (fun W => rfits_any ga gd gl l.length W hG)
  obtain ⟨B, hB⟩ : ∃ B, B = fitsB ga gd gl l.length := ⟨_, rfl⟩
  rw [← hB] at HFi HFr
  have HBB := Lib.hid hB
  have HR := Lib.hid hr
  have tS : True := trivial
  clear hc hcm FG ha0 ha1 hd0 hd1 hg0 hg1 hr hB
  go_enter Try.func10, Try.ntmps10
  go_upto_if 33 with (first
    | (go_at_call 54; refine (HLi.out _ bw).mono ?_; rintro e w0 ⟨⟨BL, rfl, hBL⟩, bL⟩; have FG0 := HA.out.on bL; have bw0 := bt bw bL; clear z0 z1 z2; obtain ⟨z0, z1, z2⟩ := gthree FG0))
  cases BL with
  | false =>
    go_wp2_with (first
      | (go_at_call 49; refine (alive_any _).mono ?_; rintro e w8 ⟨rfl, b8⟩))
    go_ret
    exact ⟨rfl, bt bw0 b8⟩
  | true =>
  have HL := Lib.hid (hBL rfl)
  clear hBL HLi
  by_cases hok : right ga gd gl = true ∧ 0 ≤ base ∧ base ≤ 1073741824
  rotate_left
  · skip
    have hsb := Geom.size_bd ga gd gl
    obtain ⟨n, hn⟩ : ∃ n : Nat, (n : Int) = max (Geom.sizeOf ga gd gl) 1 := ⟨(max (Geom.sizeOf ga gd gl) 1).toNat, by omega⟩
    have hn7 : 1 ≤ n ∧ n ≤ 300 := by omega
    have hwr : wrightF (Disk.new n) ga gd gl base = 2 := by
      unfold wrightF
      rw [if_neg (fun h => hok ⟨h.1, h.2.2.1, h.2.2.2⟩)]
    have HN := Lib.hid (fun W => newN_any n (n : Int) rfl (by omega) (by omega) W)
    have hNw := fun g fp gS W h => new_wrong g fp (Disk.new n) gS ga gd gl life base W hG h (by rw [hwr]; decide)
    rw [hwr] at hNw
    have HNw := Lib.hid hNw
    have HNn := Lib.hid (fun gS W => newD_nil gS ga gd gl life base W)
    have HSn := Lib.hid (fun g W => scanS_nil g ga gd gl life base W)
    have HSz2 := Lib.hid (fun W => (HSz.out W))
    obtain ⟨z, hz⟩ : ∃ z, z = Geom.sizeOf ga gd gl := ⟨_, rfl⟩
    rw [← hz] at hn HSz HSz2
    have Hok := Lib.hid hok
    clear hwr hNw hsb hn7 hok hz
    obtain ⟨q, hq⟩ : ∃ q, q = right ga gd gl := ⟨_, rfl⟩
    rw [← hq] at HRg
    have Hq := Lib.hid hq
    clear hq
    go_upto_region 8 with (first
      | (go_at_call 13; refine (HSz.out _).mono ?_; rintro e w5 ⟨rfl, b5⟩)
      | (go_at_call 12; rw [← hn]; refine (HN.out _).mono ?_; rintro e w6 ⟨g, fp, rfl, hD, hfp, b6⟩; have bs := bt b5 b6; have hfp' := fun j hj => Nat.le_trans b5.size (hfp j hj))
      | (go_at_call 14; refine (symbolic_any _).mono ?_; rintro e w7 ⟨gS, bS, rfl, hS, hgS, hbS, b7⟩; have H7 := Here.start hD hfp' bs hS hgS hbS b7; clear z0 z1 z2; obtain ⟨z0, z1, z2⟩ := gthree (FG0.on H7.bel)))
    go_upto_region 8 with (first
      | (go_at_call 55; have _t := tS; refine (HNw.out _ _ _ _ H7.both.disk).mono ?_; rintro e w8 ⟨rfl, b8⟩; have H8 := H7.on b8; clear z0 z1 z2; obtain ⟨z0, z1, z2⟩ := gthree (FG0.on H8.bel); clear tS)
      | (go_at_call 55; refine (HNn.out _ _).mono ?_; rintro e w9 ⟨rfl, b9⟩; have H9 := H8.on b9; clear z0 z1 z2; obtain ⟨z0, z1, z2⟩ := gthree (FG0.on H9.bel))
      | (go_at_call 50; refine (HSn.out _ _).mono ?_; rintro e w10 ⟨rfl, b10⟩; have H10 := H9.on b10; clear z0 z1 z2; obtain ⟨z0, z1, z2⟩ := gthree (FG0.on H10.bel); have lG10 := (FG0.on H10.bel).lt))
    refine region_inb (by kernel_rfl) (by kernel_rfl) ?_
    have inbNe := InB.some
    have inbW := @wrap_small
    have inbU := IntKind.wrap_u8'
    repeat (refine wpQuiet_step (fun K hK => ?_); go_simp; first | (refine hK _ ?_; clear hK K) | (apply Exists.intro; refine ⟨?_, hK _ ?_⟩; (· (intro w' hw'; first | (go_at_call 56; refine (HFi.out _).mono ?_; rintro e w1 ⟨rfl, b1⟩; exact ⟨rfl, hw'.on b1⟩) | (go_at_call 57; refine (HFr.out _).mono ?_; rintro e w1 ⟨rfl, b1⟩; exact ⟨rfl, hw'.on b1⟩) | (have hcw := hw'.cell; go_simp; exact rfl))); clear hK K))
    refine wpQuiet_nil ?_
    intro wq hq
    clear inbNe inbW inbU
    have H11 := H10.on hq.below
    clear z0 z1 z2
    have FG11 := FG0.on H11.bel
    obtain ⟨z0, z1, z2⟩ := gthree FG11
    have lG11 := FG11.lt
    have hsp : q = false ∨ (q = true ∧ base < 0) ∨ (q = true ∧ ¬ base < 0 ∧ 1073741824 < base) := by
      cases hq2 : q with
      | false => exact .inl rfl
      | true =>
        have h1 : right ga gd gl = true := by rw [← Hq.out]; exact hq2
        by_cases h2 : base < 0
        · exact .inr (.inl ⟨rfl, h2⟩)
        · exact .inr (.inr ⟨rfl, h2, Int.lt_of_not_ge (fun h3 => Hok.out ⟨h1, by omega, h3⟩)⟩)
    go_upto_region 10 with (fail)
    rcases hsp with rfl | ⟨rfl, h2⟩ | ⟨rfl, h2, h3⟩
    all_goals
      go_wp2_with (first
        | (go_at_call 19; refine (HRg.out _).mono ?_; rintro e w12 ⟨rfl, b12⟩)
        | (go_at_call 49; refine (alive_any _).mono ?_; rintro e w13 ⟨rfl, b13⟩))
      go_ret
      exact ⟨rfl, bt bw0 (bt H11.bel (bt b12 b13))⟩
  · skip
    obtain ⟨hrt, hb0', hb1'⟩ := hok
    have hy := Geom.right_yes hrt
    have hsb := Geom.size_bd ga gd gl
    have hlz := log_size hrt
    have hg16 : gl ≤ 16 := by
      by_cases h : gl ≤ 16
      · exact h
      · exact absurd ⟨by omega, hy.2.2.2.2.2⟩ HL.out.log
    obtain ⟨n, hn⟩ : ∃ n : Nat, (n : Int) = Geom.sizeOf ga gd gl := ⟨(Geom.sizeOf ga gd gl).toNat, by omega⟩
    have hn7 : 4 ≤ n ∧ n ≤ 300 := by omega
    rw [← hn] at HSz
    rw [hrt] at HRg
    have hmax : max (n : Int) 1 = (n : Int) := by omega
    have hw0 : wrightF (Disk.new n) ga gd gl base = 0 := wright_new hrt hn hb0' hb1' rfl
    have HN := Lib.hid (fun W => newN_any n (n : Int) rfl (by omega) (by omega) W)
    have HNw := Lib.hid (fun g fp gS W h => new_any g fp (Disk.new n) gS ga gd gl life base W hG h hw0)
    have HNn := Lib.hid (fun gS W => newD_nil gS ga gd gl life base W)
    have HSn := Lib.hid (fun g W => scanS_nil g ga gd gl life base W)
    have Hhn := Lib.hid hn
    have Hrt := Lib.hid hrt
    have Hy := Lib.hid hy
    have Hb := Lib.hid (And.intro hb0' hb1')
    have hbn : ¬ base < 0 := by omega
    have hbm : ¬ 1073741824 < base := by omega
    have H16 := Lib.hid hg16
    clear hw0 hsb hlz hn hn7 hrt hy hb0' hb1' hg16 hb0 hb1
    go_upto_region 8 with (first
      | (go_at_call 13; refine (HSz.out _).mono ?_; rintro e w5 ⟨rfl, b5⟩)
      | (go_at_call 12; refine (HN.out _).mono ?_; rintro e w6 ⟨g, fp, rfl, hD, hfp, b6⟩; have bs := bt b5 b6; have hfp' := fun j hj => Nat.le_trans b5.size (hfp j hj))
      | (go_at_call 14; refine (symbolic_any _).mono ?_; rintro e w7 ⟨gS, bS, rfl, hS, hgS, hbS, b7⟩; have H7 := Here.start hD hfp' bs hS hgS hbS b7; clear z0 z1 z2; obtain ⟨z0, z1, z2⟩ := gthree (FG0.on H7.bel))
      | (go_at_call 55; have _t := tS; refine (HNw.out _ _ _ _ H7.both.disk).mono ?_; rintro e w8 ⟨rfl, hLA, b8⟩; have H8 := HereL.start H7 rfl hLA b8; clear z0 z1 z2; obtain ⟨z0, z1, z2⟩ := gthree (FG0.on H8.bel); clear tS)
      | (go_at_call 55; refine (HNn.out _ _).mono ?_; rintro e w9 ⟨rfl, b9⟩; have H9 := H8.on b9; clear z0 z1 z2; obtain ⟨z0, z1, z2⟩ := gthree (FG0.on H9.bel))
      | (go_at_call 50; refine (HSn.out _ _).mono ?_; rintro e w10 ⟨rfl, b10⟩; have H10 := H9.on b10; clear z0 z1 z2; obtain ⟨z0, z1, z2⟩ := gthree (FG0.on H10.bel); have lG10 := (FG0.on H10.bel).lt))
    refine region_inb (by kernel_rfl) (by kernel_rfl) ?_
    have inbNe := InB.some
    have inbW := @wrap_small
    have inbU := IntKind.wrap_u8'
    repeat (refine wpQuiet_step (fun K hK => ?_); go_simp; first | (refine hK _ ?_; clear hK K) | (apply Exists.intro; refine ⟨?_, hK _ ?_⟩; (· (intro w' hw'; first | (go_at_call 56; refine (HFi.out _).mono ?_; rintro e w1 ⟨rfl, b1⟩; exact ⟨rfl, hw'.on b1⟩) | (go_at_call 57; refine (HFr.out _).mono ?_; rintro e w1 ⟨rfl, b1⟩; exact ⟨rfl, hw'.on b1⟩) | (have hcw := hw'.cell; go_simp; exact rfl))); clear hK K))
    refine wpQuiet_nil ?_
    intro wq hq
    clear inbNe inbW inbU
    have H11 := H10.on hq.below
    clear z0 z1 z2
    have FG11 := FG0.on H11.bel
    obtain ⟨z0, z1, z2⟩ := gthree FG11
    have lG11 := FG11.lt
    go_upto_region 17 with (first
      | (go_at_call 19; refine (HRg.out _).mono ?_; rintro e w12 ⟨rfl, b12⟩; have H12 := H11.on b12))
    have hst0 := AInv.start ga gd gl base life n l (by have := Hy.out; omega)
    have Hst0 := Lib.hid hst0
    obtain ⟨N, hN⟩ : ∃ N, N = l.length := ⟨_, rfl⟩
    have HN := Lib.hid hN
    have hN20 : N ≤ 20 := by rw [hN]; exact HL.out.len
    rw [← hN]
    have lG12 := (FG0.on H12.bel).lt
    clear hN hst0 hbn hbm z0 z1 z2
    go_loopw [18, 19, 20, 21, 26] (fun vq vc vo i v26 wr => ∃ k : Nat, k ≤ N ∧ i = .int .i64 (k : Int) ∧ ∃ q : Nat, vq = .int .i64 (q : Int) ∧ ∃ st : St, vc = .int .i64 (st.calls : Int) ∧ ∃ (sm : List (List UInt8)) (fp' : List Nat), HereL w0 wr g fp' st gS bS sm (w7.heap.size + 1) ga gd gl life base q ∧ ∃ (m : Nat) (es : List Er), wr.ownsRow w0.heap.size 104 2 vo m (es.flatMap Er.cells) ∧ (∀ r, vo.ownBlock = some r → r ∉ gS :: bS :: fp' ∧ r ≠ w7.heap.size + 1) ∧ Hid (∃ ts : List Tx, AInv ga gd gl base life n l k ts sm st ∧ q = (allSecs life 0 ts).length ∧ m = ts.length ∧ es.map Er.x = ts ∧ ∀ e ∈ es, ErOk w (fun j => j < w.heap.size) e)) (fun _ _ _ i _ _ => N - (intOf i).toNat)
    case atStart => exact ⟨0, Nat.zero_le _, rfl, 0, rfl, Disk.new n, rfl, [], fp, H12, 0, [], own_nil _ _ _ _, fun r e => (by cases e), Lib.hid ⟨[], Hst0.out, rfl, rfl, rfl, fun e h => (by cases h)⟩⟩
    case round =>
      obtain ⟨k, hk, rfl, q, rfl, st, rfl, sm, fp', HB, m, es, hown, hnot, hid⟩ := hrel
      clear H12
      have bWr := bt bw0 HB.bel
      have FGr := FG0.on HB.bel
      obtain ⟨z0, z1, z2⟩ := gthree FGr
      have lFr := FGr.lt
      obtain ⟨Ao, co, rfl⟩ := own_form hown
      by_cases hlt : k < N
      · have hkm : (k : Int) < (N : Int) := by omega
        have hge : ¬ (N : Int) ≤ (k : Int) := by omega
        have hll : k < l.length := by have := HN.out; omega
        obtain ⟨b, off, Ai, ci, rfl, hb, hT⟩ := HR.out.get hll
        have hxm : l[k] ∈ l := List.getElem_mem hll
        obtain ⟨x, hx⟩ : ∃ x, x = l[k] := ⟨_, rfl⟩
        rw [← hx] at hT hxm
        have hxp := HL.out.pages x hxm
        have c0 := (bWr.cell (p := ⟨b, off + k * 2, none⟩) hb).trans hT.c0
        have c1 := (bWr.cell (p := ⟨b, off + k * 2 + 1, none⟩) hb).trans hT.c1
        have hb1 : b < wr.heap.size := Nat.lt_of_lt_of_le hb bWr.size
        have hq64 : q ≤ 1000 := by
          obtain ⟨ts, h1, h2, _⟩ := hid.out
          have := h1.len; have := Hy.out; omega
        have hPg : ∀ W, Below wr.heap.size wr W → Pgs W (fun j => j < w.heap.size) Ai x.pages := fun W bW => (hT.pgs.on bWr).on bW
        have HWy := Lib.hid (fun W (bW : Below wr.heap.size wr W) => why_any (fun j => j < w.heap.size) Ai x ci ga gd gl q W hG (hPg W bW) (by omega) (by omega) (by have := Hy.out; omega) (by have := Hy.out; omega))
        obtain ⟨F, hF⟩ : ∃ F, F = whyF ga gd gl q x.pages := ⟨_, rfl⟩
        rw [← hF] at HWy
        have HF := Lib.hid hF
        have HPg := Lib.hid hPg
        have Hxm := Lib.hid hxm
        have Hxp := Lib.hid hxp
        have Hok := Lib.hid (show ErOk w (fun j => j < w.heap.size) ⟨Ai, ci, x⟩ from ⟨hT.pgs, hT.cap, hT.max⟩)
        have hAN := fun W (h : LAt W (w7.heap.size + 1) g gS ga gd gl life base q) (bW : Below wr.heap.size wr W) (hf : whyF ga gd gl q x.pages ≠ 0) => append_no (w7.heap.size + 1) g gS ga gd gl life base q _ Ai x.pages ci x.gen W hG h (HPg.out W bW) (by omega) (by omega) (by have := Hy.out; omega) (by have := Hy.out; omega) hf
        rw [← hF] at hAN
        have HAN := Lib.hid hAN
        have Hq64 := Lib.hid hq64
        clear hF hPg hxm hxp hT hx hAN
        go_upto_region 19 with (fail)
        refine region_inb (by kernel_rfl) (by kernel_rfl) ?_
        have inbNe := InB.some
        have inbW := @wrap_small
        have inbU := IntKind.wrap_u8'
        repeat (refine wpQuiet_step (fun K hK => ?_); go_simp; first | (refine hK _ ?_; clear hK K) | (apply Exists.intro; refine ⟨?_, hK _ ?_⟩; (· (intro w' hw'; first | (go_at_call 58; refine (HWy.out _ hw'.below).mono ?_; rintro e w1 ⟨rfl, b1⟩; exact ⟨rfl, hw'.on b1⟩) | (have hcw := hw'.cell; go_simp; exact rfl))); clear hK K))
        refine wpQuiet_nil ?_
        intro wq hq
        clear inbNe inbW inbU
        have H1 := HB.on hq.below
        have ow1 := own_on hown hq.below
        have bW1 := hq.below
        have d0 := (bW1.cell (p := ⟨b, off + k * 2, none⟩) hb1).trans c0
        have d1 := (bW1.cell (p := ⟨b, off + k * 2 + 1, none⟩) hb1).trans c1
        have hbq : b < wq.heap.size := Nat.lt_of_lt_of_le hb1 bW1.size
        have cz : Below wq.heap.size wq wq.drew := (Below.refl _ _).drew
        have f0 := (cz.cell (p := ⟨b, off + k * 2, none⟩) hbq).trans d0
        have f1 := (cz.cell (p := ⟨b, off + k * 2 + 1, none⟩) hbq).trans d1
        clear c0 c1 z0 z1 z2
        by_cases hF0 : F = 0
        rotate_left
        · have t5 := bne_no (show F = F from rfl)
          have t6 := beq_no hF0
          have HF0 := Lib.hid hF0
          clear hF0
          go_upto_region 20 with (fail)
          go_region_held3 (fun W' => W'.cell? ⟨b, off + k * 2, none⟩ = some (.slice Ai x.pages.length ci) ∧ W'.cell? ⟨b, off + k * 2 + 1, none⟩ = some (.int .u64 (x.gen.toNat : Int))) (first | with_reducible exact ⟨f0, f1⟩ | with_reducible exact ⟨e0, e1⟩) (first
            | (go_at_call 59; refine (HAN.out _ ((H1.on cz).lat) (bt bW1 cz) HF0.out).mono ?_; rintro e w2 ⟨rfl, b2⟩; have bX := bt cz b2; have e0 := (bX.cell (p := ⟨b, off + k * 2, none⟩) hbq).trans d0; have e1 := (bX.cell (p := ⟨b, off + k * 2 + 1, none⟩) hbq).trans d1))
          have HX := H1.on bX
          have owX := own_on ow1 bX
          have hgy := Hy.out
          obtain ⟨B1, hB1⟩ : ∃ B1, B1 = base % gl := ⟨_, rfl⟩
          obtain ⟨P0, hP0⟩ : ∃ P0, P0 = (base + (q : Int)) % gl := ⟨_, rfl⟩
          have hne : ¬ gl = 0 := by omega
          have hB0 := Int.emod_nonneg base hne
          have hB2 := Int.emod_lt_of_pos base (show 0 < gl by omega)
          have hP1 := Int.emod_nonneg (base + (q : Int)) hne
          have hP2 := Int.emod_lt_of_pos (base + (q : Int)) (show 0 < gl by omega)
          have ht1 : base.tmod gl = B1 := by rw [hB1]; exact Int.tmod_eq_emod_of_nonneg (by omega)
          have ht2 : (B1 + (q : Int)).tmod gl = P0 := by rw [Int.tmod_eq_emod_of_nonneg (by omega), hB1, hP0, Int.emod_add_emod]
          have hw1 : IntKind.i64.wrap B1 = B1 := wrap_small (by omega) (by omega)
          have hw2 : IntKind.i64.wrap (B1 + (q : Int)) = B1 + q := wrap_small (by omega) (by omega)
          have hw3 : IntKind.i64.wrap P0 = P0 := wrap_small (by omega) (by omega)
          have hw5 : IntKind.i64.wrap (gl - (q : Int)) = gl - q := wrap_small (by omega) (by omega)
          have hNx := fun W h => next_any (w7.heap.size + 1) g gS ga gd gl life base q W h (by omega) Hb.out.1 Hb.out.2 (by omega) (by omega)
          rw [← hP0] at hNx
          have HNx := Lib.hid hNx
          have HRo := Lib.hid (fun W h => room_any (w7.heap.size + 1) g gS ga gd gl life base q W h (by omega) (by omega) (by omega))
          have HSq := Lib.hid (fun W h => seq_any (w7.heap.size + 1) g gS ga gd gl life base q W h)
          have HCa := Lib.hid (fun W h => Disk.calls_any g fp' st W h)
          have FGx := FG0.on HX.bel
          obtain ⟨z0, z1, z2⟩ := gthree FGx
          have lGx := FGx.lt
          clear hgy hB1 hP0 hB0 hB2 hP1 hP2 hNx
          go_upto_region 34 with (fail)
          refine region_inb (by kernel_rfl) (by kernel_rfl) ?_
          have inbNe := InB.some
          have inbW := @wrap_small
          have inbU := IntKind.wrap_u8'
          repeat (refine wpQuiet_step (fun K hK => ?_); go_simp; first | (refine hK _ ?_; clear hK K) | (apply Exists.intro; refine ⟨?_, hK _ ?_⟩; (· (intro w' hw'; first | (go_at_call 61; refine (HCa.out _ ((HX.on hw'.below).both.disk)).mono ?_; rintro e w1 ⟨rfl, rfl⟩; exact ⟨rfl, hw'⟩) | (go_at_call 62; refine (HSq.out _ ((HX.on hw'.below).lat)).mono ?_; rintro e w1 ⟨rfl, rfl⟩; exact ⟨rfl, hw'⟩) | (go_at_call 63; refine (HRo.out _ ((HX.on hw'.below).lat)).mono ?_; rintro e w1 ⟨rfl, b1⟩; exact ⟨rfl, hw'.on b1⟩) | (go_at_call 64; refine (HNx.out _ ((HX.on hw'.below).lat)).mono ?_; rintro e w1 ⟨rfl, b1⟩; exact ⟨rfl, hw'.on b1⟩) | (have hcw := hw'.cell; go_simp; exact rfl))); clear hK K))
          refine wpQuiet_nil ?_
          intro wq hq
          clear inbNe inbW inbU
          have H9 := HX.on hq.below
          have ow9 := own_on owX hq.below
          go_wp2
          refine ⟨⟨k + 1, by omega, by go_num, q, rfl, st, rfl, sm, fp', H9, m, es, ow9, hnot, ?_⟩, by simp only [intOf]; omega⟩
          obtain ⟨ts, i1, i2⟩ := hid.out
          exact Lib.hid ⟨ts, i1.more, i2⟩
        · skip
          subst hF0
          have hw := HF.out.symm
          obtain ⟨ts, i1, i2, i3, i4, i5⟩ := hid.out
          have hw' := hw
          rw [i2] at hw'
          obtain ⟨v0, i1', hlen', hcal'⟩ := i1.append Hrt.out Hb.out.1 Hhn.out hw' Hxm.out
          rw [← i2] at v0 i1' hlen' hcal'
          obtain ⟨y1, y2, y3⟩ := whyF_zero hw
          have hAp := fun W (h : HereL w0 W g fp' st gS bS sm (w7.heap.size + 1) ga gd gl life base q) (bW : Below wr.heap.size wr W) => append_any g fp' st gS bS sm (w7.heap.size + 1) ga gd gl life base q (fun j => j < w.heap.size) Ai x.pages ci x.gen W hG h.both h.lat h.nL (by have := i1.sums; omega) (by have := i1.size; omega) Hb.out.1 Hb.out.2 (HPg.out W bW) (h.notQ bw0.size) y1 y2 y3
          obtain ⟨V, hV⟩ : ∃ V, V = putF ga gd gl base life q x.gen x.pages sm st := ⟨_, rfl⟩
          rw [← hV] at v0 i1' hcal' hAp
          rw [v0] at hAp
          rw [if_pos rfl] at hAp
          have HAp := Lib.hid hAp
          have HDec := Lib.hid (fun j (h : j < (tSecs life q x).length) => (show (Disk.keptAt V.2.1 (pl ga gd gl base (q + j))).length = 512 ∧ Sec.decode (Sec.ckS V.1 (Disk.keptAt V.2.1 (pl ga gd gl base (q + j)))) (pl ga gd gl base (q + j)) (Disk.keptAt V.2.1 (pl ga gd gl base (q + j))) = ((tSecs life q x)[j], 0) from by
            have hs := allSecs_snoc life ts 0 x
            rw [Nat.zero_add, ← i2] at hs
            have hl : q + j < (allSecs life 0 (ts ++ [x])).length := by rw [hs, List.length_append, ← i2]; omega
            obtain ⟨d1, d2⟩ := i1'.dec Hrt.out Hb.out.1 Hhn.out (q + j) hl
            have he : (allSecs life 0 (ts ++ [x]))[q + j]? = (tSecs life q x)[j]? := by rw [hs, List.getElem?_append_right (by rw [← i2]; omega), ← i2, Nat.add_sub_cancel_left]
            rw [List.getElem?_eq_getElem hl, List.getElem?_eq_getElem h] at he
            exact ⟨d1, d2.trans (by rw [Option.some.inj he])⟩))
          have Hi1b := Lib.hid (show V.1.length ≤ 1000000 by have := i1'.sums; omega)
          have Hi1 := Lib.hid i1'
          have Hlen := Lib.hid hlen'
          have Hcal := Lib.hid hcal'
          have Hi := Lib.hid (And.intro i2 (And.intro i3 (And.intro i4 i5)))
          have Hcb := Lib.hid (show st.calls ≤ 100000 by have := i1.size; unfold Disk.St.sz at this; omega)
          have Hy1 := Lib.hid y1
          have hbn : b ∉ (w7.heap.size + 1) :: bS :: fp' := fun e => by have := HB.own b e; have := bw0.size; omega
          have hSe := fun W (bW : Below wr.heap.size wr W) (W2 : World) (hp : Pgs W2 (fun j => j < w.heap.size) Ai x.pages) => rsectors_any (fun j => j < w.heap.size) Ai x ci life q W2 hp (by have := Hxp.out.1; omega) (by omega) (fun p hp => by
            obtain ⟨j, hj, rfl⟩ := List.mem_iff_getElem.1 hp
            have h1 := badB_of y1 hj
            have h2 := Geom.pagesOf_bd ga gd gl
            have h3 := Hxp.out.2 _ (List.getElem_mem hj)
            exact ⟨h1.1, by omega, by omega⟩)
          have HSe := Lib.hid (hSe wr (Below.refl _ _))
          obtain ⟨nn, hnn⟩ : ∃ nn, nn = x.pages.length := ⟨_, rfl⟩
          have HNN := Lib.hid hnn
          have hn20 : nn ≤ 20 := by rw [hnn]; exact Hxp.out.1
          clear hw hw' i1 i2 i3 i4 i5 v0 i1' hlen' hcal' y1 y2 y3 hAp hV hSe hnn
          go_upto_region 20 with (fail)
          go_region_held3 (fun W' => W'.cell? ⟨b, off + k * 2, none⟩ = some (.slice Ai x.pages.length ci) ∧ W'.cell? ⟨b, off + k * 2 + 1, none⟩ = some (.int .u64 (x.gen.toNat : Int))) (first | with_reducible exact ⟨f0, f1⟩ | with_reducible exact ⟨e0, e1⟩) (first
            | (go_at_call 59; refine (HAp.out _ (H1.on cz) (bt bW1 cz)).mono ?_; rintro e w2 ⟨rfl, T2⟩; obtain ⟨fp2, H2, K2, F2⟩ := (H1.on cz).turn2 T2; have e0 := (World.cell?_of_block (a := ⟨b, off + k * 2, none⟩) (K2.block hbq hbn)).trans f0; have e1 := (World.cell?_of_block (a := ⟨b, off + k * 2 + 1, none⟩) (K2.block hbq hbn)).trans f1))
          have bw2 := H2.bel
          have ow2 := WalAppends.own_kp (own_on ow1 cz) K2 (fun r hr e => by
            rcases List.mem_cons.1 e with e | e
            · exact (hnot r hr).2 e
            · exact (hnot r hr).1 (List.mem_cons_of_mem _ e))
          have hnot2 : ∀ r, (Value.slice Ao m co).ownBlock = some r → r ∉ gS :: bS :: fp2 ∧ r ≠ w7.heap.size + 1 := fun r hr => ⟨fun hm => by
            have h0 := (hnot r hr).1
            rcases List.mem_cons.1 hm with e | hm
            · exact h0 (by rw [e]; simp)
            rcases List.mem_cons.1 hm with e | hm
            · exact h0 (by rw [e]; simp)
            · exact F2.out (((own_on ow1 cz).lt r hr).2) (fun hm => h0 (by simp [hm])) hm, (hnot r hr).2⟩
          have hb2 : b < w2.heap.size := Nat.lt_of_lt_of_le hbq K2.size
          obtain ⟨g0, g1⟩ := (show w2.cell? ⟨b, off + k * 2, none⟩ = some (.slice Ai x.pages.length ci) ∧ w2.cell? ⟨b, off + k * 2 + 1, none⟩ = some (.int .u64 (x.gen.toNat : Int)) from ⟨e0, e1⟩)
          have hpg2 : Pgs w2 (fun j => j < w.heap.size) Ai x.pages := (Hok.out.pgs).on (bt bw0 H2.bel)
          have HSe2 := Lib.hid (fun W (bW : Below w2.heap.size w2 W) => HSe.out W (hpg2.on bW))
          clear f0 f1 d0 d1
          go_upto_region 24 with (first
            | (go_at_call 60; refine (HSe2.out _ (Below.refl _ _)).mono ?_; rintro e w4 ⟨⟨A4, c4, rfl, hS4⟩, b4⟩))
          have HS4 := Lib.hid hS4
          have hbe4 := bt bw2 b4
          have H4 := H2.on b4
          have FG4 := FG0.on hbe4
          go_wp2_with fail
          go_loopw [24, 26] (fun vj v26 wr2 => ∃ j : Nat, j ≤ x.pages.length + 1 ∧ vj = .int .i64 (j : Int) ∧ Below w4.heap.size w4 wr2) (fun vj _ _ => x.pages.length + 1 - (intOf vj).toNat)
          case atStart => exact ⟨0, Nat.zero_le _, rfl, Below.refl _ _⟩
          case round =>
            obtain ⟨j, hj, rfl, bel2⟩ := hrel
            have H5 := H4.on bel2
            have FG5 := FG4.on bel2
            obtain ⟨z0, z1, z2⟩ := gthree FG5
            have lG5 := FG5.lt
            by_cases hjt : j < x.pages.length + 1
            · have hjm : (j : Int) < (x.pages.length : Int) + 1 := by omega
              have hjg : ¬ (x.pages.length : Int) + 1 ≤ (j : Int) := by omega
              have hjl : j < (tSecs life q x).length := by rw [tSecs_len]; exact hjt
              obtain ⟨b5, o5, A5, c5, rfl, hb5, hs5⟩ := (HS4.out.below bel2).get hjl
              obtain ⟨hk1, hk2⟩ := HDec.out j hjl
              have hxl : (tSecs life q x)[j].body.length ≤ 1000 := by
                have h1 := congrArg (fun d : X × Int => d.1.body.length) hk2
                have h2 := Snap.dec_body_len (Sec.ckS V.1 (Disk.keptAt V.2.1 (pl ga gd gl base (q + j)))) (pl ga gd gl base (q + j)) hk1
                rw [hk2] at h2
                exact h2
              have hpe := (pl_eq (k := q + j) Hrt.out Hb.out.1)
              have hpb := (pl_bd Hrt.out Hb.out.1 Hhn.out (q + j))
              obtain ⟨X5, hX5⟩ : ∃ X5, X5 = (tSecs life q x)[j] := ⟨_, rfl⟩
              obtain ⟨p, hp⟩ : ∃ p, p = pl ga gd gl base (q + j) := ⟨_, rfl⟩
              rw [← hX5] at hs5 hk2 hxl
              rw [← hp] at hk1 hk2 hpe hpb
              obtain ⟨KB, hKB⟩ : ∃ KB, KB = Disk.keptAt V.2.1 p := ⟨_, rfl⟩
              have hKp := fun W h => Disk.kept_any g fp2 V.2.1 p W h
              rw [← hKB] at hk1 hk2 hKp
              have hDc := fun W (hS : Sec.SymAt W gS bS V.1) A c hr hc hcm => Sec.decode_sym p gS bS V.1 A KB KB.length c W hS (by have := Hi1b.out; omega) (by omega) (by omega) rfl hr (by omega) hc hcm
              rw [hk2] at hDc
              obtain ⟨c0, c1, c2, c3, c4', hrd5, _, _⟩ := hs5
              obtain ⟨B1, hB1⟩ : ∃ B1, B1 = base % gl := ⟨_, rfl⟩
              obtain ⟨P0, hP0⟩ : ∃ P0, P0 = (base + ((q + j : Nat) : Int)) % gl := ⟨_, rfl⟩
              have hgy := Hy.out
              have hne : ¬ gl = 0 := by omega
              have hB0 := Int.emod_nonneg base hne
              have hB2 := Int.emod_lt_of_pos base (show 0 < gl by omega)
              have hP1 := Int.emod_nonneg (base + ((q + j : Nat) : Int)) hne
              have hP2 := Int.emod_lt_of_pos (base + ((q + j : Nat) : Int)) (show 0 < gl by omega)
              have hj21 : j ≤ 21 := by have := Hxp.out.1; omega
              have ht1 : base.tmod gl = B1 := by rw [hB1]; exact Int.tmod_eq_emod_of_nonneg (by omega)
              have ht2 : (B1 + (q : Int) + (j : Int)).tmod gl = P0 := by rw [Int.tmod_eq_emod_of_nonneg (by omega), hB1, hP0, Int.add_assoc, Int.emod_add_emod]; congr 1
              have hw1 : IntKind.i64.wrap B1 = B1 := wrap_small (by omega) (by omega)
              have hw2 : IntKind.i64.wrap (B1 + (q : Int)) = B1 + q := wrap_small (by omega) (by omega)
              have hw2' : IntKind.i64.wrap (B1 + (q : Int) + (j : Int)) = B1 + q + j := wrap_small (by omega) (by omega)
              have hw3 : IntKind.i64.wrap P0 = P0 := wrap_small (by omega) (by omega)
              have hw4 : IntKind.i64.wrap (4 + P0) = p := by rw [wrap_small (by omega) (by omega), hpe, hP0]
              have HKp := Lib.hid hKp
              have HDc := Lib.hid hDc
              have Hrd5 := Lib.hid hrd5
              have Hxl := Lib.hid hxl
              have hsame : Sec.same X5 X5 = true := by simp [Sec.same]
              clear hjl hk1 hk2 hKp hDc hKB hX5 hp hpe hpb hB1 hP0 hgy hB0 hB2 hP1 hP2 hrd5 hxl
              go_upto_region 27 with (fail)
              refine region_inb (by kernel_rfl) (by kernel_rfl) ?_
              have inbNe := InB.some
              have inbW := @wrap_small
              have inbU := IntKind.wrap_u8'
              repeat (refine wpQuiet_step (fun K hK => ?_); go_simp; first | (refine hK _ ?_; clear hK K) | (apply Exists.intro; refine ⟨?_, hK _ ?_⟩; (· (intro w' hw'; first | fail | (have hcw := hw'.cell; go_simp; exact rfl))); clear hK K))
              refine wpQuiet_nil ?_
              intro wq hq
              clear inbNe inbW inbU
              have H6 := H5.on hq.below
              have b26 := bt bel2 hq.below
              clear z0 z1 z2 ht1 ht2 hw1 hw2 hw2' hw3 hw4
              go_upto_region 29 with (first
                | (go_at_call 23; refine (HKp.out _ H6.both.disk).mono ?_; rintro e w7k ⟨v7, rfl, hN7, b7k⟩; obtain ⟨A7, c7, rfl, hc7, hm7, rd7⟩ := hN7.rdN (fp := []) (by simp); have H7k := H6.on b7k)
                | (go_at_call 22; refine (HDc.out _ H7k.both.sym A7 c7 rd7.rd hc7 hm7).mono ?_; rintro e w8k ⟨⟨A8, c8, rfl, own8⟩, b8k⟩; unfold Sec.xv; have H8k := H7k.on b8k))
              have bAll := bt (bt (bt hq.below b7k) b8k) (b1alloc w8k (.cells #[.int .i64 X5.kind, .int .u64 (X5.life.toNat : Int), .int .i64 X5.seq, .int .u64 (X5.gen.toNat : Int), .slice A8 X5.body.length c8] 43))
              have hY := Blk.new w8k [.int .i64 X5.kind, .int .u64 (X5.life.toNat : Int), .int .i64 X5.seq, .int .u64 (X5.gen.toNat : Int), .slice A8 X5.body.length c8] 43
              have own9 := own_on own8 (b1alloc w8k (.cells #[.int .i64 X5.kind, .int .u64 (X5.life.toNat : Int), .int .i64 X5.seq, .int .u64 (X5.gen.toNat : Int), .slice A8 X5.body.length c8] 43))
              obtain ⟨w9, hw9⟩ : ∃ w9, w9 = w8k.alloc (.cells #[.int .i64 X5.kind, .int .u64 (X5.life.toNat : Int), .int .i64 X5.seq, .int .u64 (X5.gen.toNat : Int), .slice A8 X5.body.length c8] 43) := ⟨_, rfl⟩
              have hY9 : Blk w9 w8k.heap.size [.int .i64 X5.kind, .int .u64 (X5.life.toNat : Int), .int .i64 X5.seq, .int .u64 (X5.gen.toNat : Int), .slice A8 X5.body.length c8] := by rw [hw9]; exact hY
              rw [← hw9] at bAll own9 ⊢
              obtain ⟨y0, y1, y2, y3, y4⟩ := five5q hY9
              have ly := hY9.lt
              have hb5' : b5 < wr.heap.size := Nat.lt_of_lt_of_le hb5 bel2.size
              have s0 := (bAll.cell (p := ⟨b5, o5 + j * 5, none⟩) hb5').trans c0
              have s1 := (bAll.cell (p := ⟨b5, o5 + j * 5 + 1, none⟩) hb5').trans c1
              have s2 := (bAll.cell (p := ⟨b5, o5 + j * 5 + 2, none⟩) hb5').trans c2
              have s3 := (bAll.cell (p := ⟨b5, o5 + j * 5 + 3, none⟩) hb5').trans c3
              have s4 := (bAll.cell (p := ⟨b5, o5 + j * 5 + 4, none⟩) hb5').trans c4'
              have lb5 : b5 < w9.heap.size := Nat.lt_of_lt_of_le hb5' bAll.size
              have hSm := fun W (bW : Below w9.heap.size w9 W) => Sec.rsame_any X5 X5 A8 A5 c8 c5 W ((Rd.own own9).on bW) ((Hrd5.out.below ((bt bAll bW).mono bel2.size)).more (Nat.le_trans bel2.size (bt bAll bW).size)) (by have := Hxl.out; omega) (by have := Hxl.out; omega)
              rw [hsame] at hSm
              have HSm := Lib.hid hSm
              have HbA := Lib.hid (bt bel2 bAll)
              clear hw9 hY hY9 own9 bAll hSm hsame c0 c1 c2 c3 c4'
              refine region_inb (by kernel_rfl) (by kernel_rfl) ?_
              have inbNe := InB.some
              have inbW := @wrap_small
              have inbU := IntKind.wrap_u8'
              repeat (refine wpQuiet_step (fun K hK => ?_); go_simp; first | (refine hK _ ?_; clear hK K) | (apply Exists.intro; refine ⟨?_, hK _ ?_⟩; (· (intro w' hw'; first | (go_at_call 26; refine (HSm.out _ hw'.below).mono ?_; rintro e w1 ⟨rfl, b1⟩; exact ⟨rfl, hw'.on b1⟩) | (have hcw := hw'.cell; go_simp; exact rfl))); clear hK K))
              refine wpQuiet_nil ?_
              intro wq hq
              clear inbNe inbW inbU
              go_wp2
              exact ⟨⟨j + 1, by omega, by go_num, bt HbA.out hq.below⟩, by simp only [intOf]; omega⟩
            · have hjk : j = x.pages.length + 1 := by omega
              have hjn : ¬ (j : Int) < (x.pages.length : Int) + 1 := by omega
              have Hjk := Lib.hid hjk
              have HH5 := Lib.hid H5
              clear hjk
              obtain ⟨q2, hq2⟩ : ∃ q2 : Nat, q2 = q + (x.pages.length + 1) := ⟨_, rfl⟩
              obtain ⟨c2, hc2⟩ : ∃ c2 : Nat, c2 = V.2.1.calls := ⟨_, rfl⟩
              have hcq := Hcal.out
              rw [← hc2] at hcq
              have hv1 : IntKind.i64.wrap ((q : Int) + ((x.pages.length : Int) + 1)) = (q2 : Int) := by rw [wrap_small (by have := Hxp.out.1; omega) (by have := Hxp.out.1; omega), hq2]; push_cast; rfl
              have hv2 : IntKind.i64.wrap ((st.calls : Int) + ((x.pages.length : Int) + 1)) = (st.calls : Int) + ((x.pages.length : Int) + 1) := wrap_small (by have := Hxp.out.1; omega) (by have := Hxp.out.1; have := Hcb.out; omega)
              have hv3 : IntKind.i64.wrap ((st.calls : Int) + ((x.pages.length : Int) + 1) + 2) = (c2 : Int) := by rw [wrap_small (by have := Hxp.out.1; omega) (by have := Hxp.out.1; have := Hcb.out; omega)]; omega
              have Hq2 := Lib.hid hq2
              have Hc2 := Lib.hid hc2
              clear hcq hq2 hc2 H5
              go_upto_region 33 with (fail)
              have HH := HH5.out
              rw [← Hq2.out] at HH
              have bb := bt b4 bel2
              have owr := own_on ow2 bb
              have h0 := (bb.cell (p := ⟨b, off + k * 2, none⟩) hb2).trans g0
              have h1 := (bb.cell (p := ⟨b, off + k * 2 + 1, none⟩) hb2).trans g1
              obtain ⟨i0, hi0, hz0, hz1, hz2⟩ := info_parts infoRT1
              have Hbm := Lib.hid (show m + 1 ≤ maxLen ∧ (m + 1) * 32 ≤ 140737488355328 from by
                obtain ⟨ts, j1, j2⟩ := hid.out
                have h2 := j1.num
                have h3 := j2.2.1
                exact ⟨by simp only [maxLen]; omega, by omega⟩)
              clear g0 g1 e0 e1
              go_upto_region 34 with (at_builtin; refine wpList_append_rd _ rfl _ _ _ rfl w0.heap.size 104 i0 _ 2 32 Try.underlying92 hi0 hz0 hz1 hz2 rfl (by omega) _ m (es.flatMap Er.cells) rfl (owr.alloc _) (wr.heap.size + 1) (some ⟨wr.heap.size, 0, none⟩) 1 1 (Er.cells ⟨Ai, ci, x⟩) rfl rfl (Rd.lit wr _ _ _ _ rfl (Nat.lt_succ_self _)) (by simp [Er.cells, Value.oneCell']) Hbm.out.1 Hbm.out.2 (Nat.le_trans HH.bel.size (b1alloc wr _).size) ?_; intro v20 w20 own20 hg20 hat20)
              have H20 := (HH.on (b1alloc wr _)).row hg20 (fun r e => ⟨(owr.lt r e).1, (hnot2 r e).1, (hnot2 r e).2⟩)
              have hnot20 : ∀ r, v20.ownBlock = some r → r ∉ gS :: bS :: fp2 ∧ r ≠ w7.heap.size + 1 := fun r hr => by
                rcases hat20 with e | e
                · exact hnot2 r (e ▸ hr)
                · rw [e] at hr
                  injection hr with hr
                  have hs1 := HH.both.sym.lt
                  have hs2 := HH.lat.lt
                  have hsz : wr.heap.size ≤ r := by rw [← hr]; simp
                  refine ⟨fun hm => ?_, by omega⟩
                  rcases List.mem_cons.1 hm with e | hm
                  · omega
                  rcases List.mem_cons.1 hm with e | hm
                  · omega
                  · have := HH.both.disk.lt _ hm; omega
              have hq2s : q2 ≤ 1100 := by have := Hq2.out; have := Hq64.out; have := Hxp.out.1; omega
              have HX := H20
              have Hown20 := Lib.hid own20
              clear hat20 hg20 own20 owr h0 h1 HH hv1 hv2 hv3
              have hgy := Hy.out
              obtain ⟨B1, hB1⟩ : ∃ B1, B1 = base % gl := ⟨_, rfl⟩
              obtain ⟨P0, hP0⟩ : ∃ P0, P0 = (base + (q2 : Int)) % gl := ⟨_, rfl⟩
              have hne : ¬ gl = 0 := by omega
              have hB0 := Int.emod_nonneg base hne
              have hB2 := Int.emod_lt_of_pos base (show 0 < gl by omega)
              have hP1 := Int.emod_nonneg (base + (q2 : Int)) hne
              have hP2 := Int.emod_lt_of_pos (base + (q2 : Int)) (show 0 < gl by omega)
              have ht1 : base.tmod gl = B1 := by rw [hB1]; exact Int.tmod_eq_emod_of_nonneg (by omega)
              have ht2 : (B1 + (q2 : Int)).tmod gl = P0 := by rw [Int.tmod_eq_emod_of_nonneg (by omega), hB1, hP0, Int.emod_add_emod]
              have hw1 : IntKind.i64.wrap B1 = B1 := wrap_small (by omega) (by omega)
              have hw2 : IntKind.i64.wrap (B1 + (q2 : Int)) = B1 + q2 := wrap_small (by omega) (by omega)
              have hw3 : IntKind.i64.wrap P0 = P0 := wrap_small (by omega) (by omega)
              have hw5 : IntKind.i64.wrap (gl - (q2 : Int)) = gl - q2 := wrap_small (by omega) (by omega)
              have hNx := fun W h => next_any (w7.heap.size + 1) g gS ga gd gl life base q2 W h (by omega) Hb.out.1 Hb.out.2 (by omega) (by omega)
              rw [← hP0] at hNx
              have HNx := Lib.hid hNx
              have HRo := Lib.hid (fun W h => room_any (w7.heap.size + 1) g gS ga gd gl life base q2 W h (by omega) (by omega) (by omega))
              have HSq := Lib.hid (fun W h => seq_any (w7.heap.size + 1) g gS ga gd gl life base q2 W h)
              have hCa := fun W h => Disk.calls_any g fp2 V.2.1 W h
              rw [← Hc2.out] at hCa
              have HCa := Lib.hid hCa
              clear hCa
              have FGx := FG0.on HX.bel
              obtain ⟨z0, z1, z2⟩ := gthree FGx
              have lGx := FGx.lt
              clear hgy hB1 hP0 hB0 hB2 hP1 hP2 hNx
              go_upto_region 34 with (fail)
              refine region_inb (by kernel_rfl) (by kernel_rfl) ?_
              have inbNe := InB.some
              have inbW := @wrap_small
              have inbU := IntKind.wrap_u8'
              repeat (refine wpQuiet_step (fun K hK => ?_); go_simp; first | (refine hK _ ?_; clear hK K) | (apply Exists.intro; refine ⟨?_, hK _ ?_⟩; (· (intro w' hw'; first | (go_at_call 61; refine (HCa.out _ ((HX.on hw'.below).both.disk)).mono ?_; rintro e w1 ⟨rfl, rfl⟩; exact ⟨rfl, hw'⟩) | (go_at_call 62; refine (HSq.out _ ((HX.on hw'.below).lat)).mono ?_; rintro e w1 ⟨rfl, rfl⟩; exact ⟨rfl, hw'⟩) | (go_at_call 63; refine (HRo.out _ ((HX.on hw'.below).lat)).mono ?_; rintro e w1 ⟨rfl, b1⟩; exact ⟨rfl, hw'.on b1⟩) | (go_at_call 64; refine (HNx.out _ ((HX.on hw'.below).lat)).mono ?_; rintro e w1 ⟨rfl, b1⟩; exact ⟨rfl, hw'.on b1⟩) | (have hcw := hw'.cell; go_simp; exact rfl))); clear hK K))
              refine wpQuiet_nil ?_
              intro wq hq
              clear inbNe inbW inbU
              have H21 := HX.on hq.below
              have ow21 := own_on Hown20.out hq.below
              go_wp2
              refine ⟨⟨k + 1, by omega, by go_num, q2, rfl, V.2.1, by rw [Hc2.out], V.1, fp2, H21, m + 1, es ++ [⟨Ai, ci, x⟩], by simpa using ow21, hnot20, Lib.hid ⟨ts ++ [x], Hi1.out, by rw [Hlen.out]; exact Hq2.out, by rw [Hi.out.2.1]; simp, by rw [List.map_append, Hi.out.2.2.1]; rfl, fun e he => ?_⟩⟩, by simp only [intOf]; omega⟩
              rcases List.mem_append.1 he with he | he
              · exact Hi.out.2.2.2 e he
              · rw [List.mem_singleton] at he; rw [he]; exact Hok.out
      · have hkN : k = N := by omega
        obtain ⟨ts, i1, i2, i3, i4, i5⟩ := hid.out
        have hsc := i1.scan Hrt.out Hb.out.1 Hhn.out
        have hSc := fun g fp gS bS W h => scan_any g fp st gS bS sm ga gd gl life base W hG h (by have := i1.sums; omega) (by have := i1.size; omega) (wright_new Hrt.out Hhn.out Hb.out.1 Hb.out.2 i1.log.up.size) i1.log.up.down
        rw [hsc] at hSc
        have hTl : ts.length ≤ 20 := by have := i1.num; omega
        have hTp : ∀ t ∈ ts, t.pages.length ≤ 1000000 ∧ ∀ y ∈ t.pages, y.body.length ≤ 1000000 := fun t ht => by
          obtain ⟨h1, h2⟩ := HL.out.pages t (i1.of_ t ht)
          exact ⟨by omega, fun y hy => by have := h2 y hy; omega⟩
        subst i3
        have hTh : ∀ W, Below wr.heap.size wr W → Txs W (fun _ => True) Ao ts := fun W bW => er_txs (own_on hown bW) i4 (fun e he => (i5 e he).on bw0) (bt HB.bel bW)
        have HTh := Lib.hid hTh
        have HSc := Lib.hid hSc
        have HTl := Lib.hid hTl
        have HTp := Lib.hid hTp
        have hkm : ¬ (k : Int) < (N : Int) := by omega
        have hge : (N : Int) ≤ (k : Int) := by omega
        clear i1 i2 i4 i5 hsc hSc hTl hTp hTh hlt hkN hid hown hnot
        go_upto_region 37 with (first
          | (go_at_call 50; refine (HSc.out _ _ _ _ _ HB.both).mono ?_; rintro e w8 ⟨⟨v8, rfl, hO⟩, b8⟩; have H8 := HB.on b8; obtain ⟨A8, c8, rfl, hT8, hc8, hm8⟩ := hO.txs))
        have HOf := Lib.hid (fun W (bW : Below w8.heap.size w8 W) => of_any _ A8 ts c8 W (hT8.on bW) (by have := HTl.out; omega))
        have hTz := HTh.out _ b8
        clear hT8 hO z0 z1 z2
        go_wp2_with (first
          | (go_at_call 52; refine (HOf.out _ (Below.refl _ _)).mono ?_; rintro e wO ⟨⟨AO, cO, rfl, hTO, _, _⟩, bO⟩; have hTd := hTz.on bO)
          | (go_at_call 51; refine (txsame_any (fun _ => True) (fun _ => True) AO Ao ts ts _ _ cO co _ hTO hTd rfl rfl (by have := HTl.out; omega) HTp.out (fun x hx => (HTp.out x hx).2)).mono ?_; rintro e wS ⟨rfl, bS_⟩; rw [decide_eq_true (rfl : ts = ts)])
          | (go_at_call 49; refine (alive_any _).mono ?_; rintro e wL ⟨rfl, bL⟩))
        go_ret
        exact ⟨rfl, bt (bt bw0 H8.bel) (bt bO (bt bS_ bL))⟩
set_option maxRecDepth 100000 in
theorem lifted (os : Os) (started : os.Started) (H : Type) (enc : TypeId × Value → H) :
    ReturnsInHanded {} Try.checked os 10 .any (Rows.walAppendsSpec.pre6 enc Try.prog Try.f10 Rows.walAppendsRow.domain false) (Rows.walAppendsSpec.post enc Try.prog Try.f10 false true false false) := by
  refine returnsInHanded_of_change (C := Try.checked) own started (by kernel_rfl) Try.func10
    (ChangeSpec.witness6 (enc := enc) (C := Try.checked) false ⟨#[], #[.agg #[.int .i64 0, .int .i64 0, .int .i64 0], .int .u64 0, .int .i64 0, .slice none 0 0], []⟩ 8 (by kernel_rfl) (by kernel_rfl) (by kernel_rfl) (by kernel_rfl)) ?_
  intro W base args ds gs before hval0 hW hcnd _
  have hval : ∀ (j : Nat) t v, Try.f10.params[j]? = some t → args[j]? = some v → Value.okWide Try.prog W .any base t v := hval0
  have hW' := hW
  obtain ⟨p, q, hA0, hV, rfl, hfz, hnd⟩ := hW
  have hA : DataW.TrodAll enc Try.prog W 0 (fun _ => true) true Try.f10.params.toList args.toList ds p := hA0
  rw [Try.params10] at hA hval
  obtain ⟨v0, vs0, d0, ds0, p0, q0, hargs, rfl, rfl, h0, r0⟩ := trodAll_cons hA
  obtain ⟨v1, vs1, d1, ds1, p1, q1, rfl, rfl, rfl, h1, r1⟩ := trodAll_cons r0
  obtain ⟨v2, vs2, d2, ds2, p2, q2, rfl, rfl, rfl, h2, r2⟩ := trodAll_cons r1
  obtain ⟨v3, vs3, d3, ds3, p3, q3, rfl, rfl, rfl, h3, r3⟩ := trodAll_cons r2
  obtain ⟨rfl, rfl, rfl⟩ := trodAll_nil r3
  obtain rfl : args = #[v0, v1, v2, v3] := by cases args; simp_all
  obtain ⟨rfl, rfl⟩ := trodVars_none hV
  have k0 := h0
  have lt0 := places_lt k0
  obtain ⟨c0a, c0b, c0c, y0a, y0b, y0c, m0, rfl, _, _, hy0a, hy0b, hy0c⟩ := open_agg3 Try.underlying23 (by kernel_rfl) (by kernel_rfl) (hval 0 23 v0 rfl rfl) h0
  obtain ⟨n0a, e0a, _, w0a⟩ := DataW.trod_int Try.underlying3 hy0a
  simp only [List.cons.injEq, and_true] at e0a
  subst e0a
  obtain ⟨n0b, e0b, _, w0b⟩ := DataW.trod_int Try.underlying3 hy0b
  simp only [List.cons.injEq, and_true] at e0b
  subst e0b
  obtain ⟨n0c, e0c, _, w0c⟩ := DataW.trod_int Try.underlying3 hy0c
  simp only [List.cons.injEq, and_true] at e0c
  subst e0c
  have k1 := h1
  have lt1 := places_lt k1
  obtain ⟨n1, rfl, _, _, w1⟩ := open_int Try.underlying24 (hval 1 24 v1 rfl rfl) h1
  obtain ⟨x1, rfl⟩ := wf64 w1
  have k2 := h2
  have lt2 := places_lt k2
  obtain ⟨n2, rfl, _, _, w2⟩ := open_int Try.underlying3 (hval 2 3 v2 rfl rfl) h2
  have k3 := h3
  have lt3 := places_lt k3
  obtain ⟨a3, len3, cap3, rfl⟩ := okWide_slice Try.underlying92 (hval 3 92 v3 rfl rfl)
  obtain ⟨fuel3, hf3⟩ := h3
  obtain ⟨l3, rfl, rr3, rc3, rm3⟩ := txns_of hf3
  clear hA0 hval0
  refine (walk n0a n0b n0c x1 n2 a3 l3 cap3 W (wfi w0a).1 (wfi w0a).2 (wfi w0b).1 (wfi w0b).2 (wfi w0c).1 (wfi w0c).2 (wfi w2).1 (wfi w2).2 rr3 rc3 rm3).mono fun e W' ⟨he, bel⟩ => ?_
  subst he
  exact ⟨_, rfl, _, _, _, [], _, [], hW', trodAll_mk1 (shut_bool Try.underlying4 _), (trodAll_cons_mk (Below.trod laidOut (by kernel_rfl) (of_decide_eq_true (by kernel_rfl)) k0 bel lt0) (trodAll_cons_mk (Below.trod laidOut (by kernel_rfl) (of_decide_eq_true (by kernel_rfl)) k1 bel lt1) (trodAll_cons_mk (Below.trod laidOut (by kernel_rfl) (of_decide_eq_true (by kernel_rfl)) k2 bel lt2) (trodAll_cons_mk (Below.trod laidOut (by kernel_rfl) (of_decide_eq_true (by kernel_rfl)) k3 bel lt3) trodAll_mk0)))), rfl, bel.frame _, fun h => by cases h⟩

theorem proved : Rows.WalAppendsSaid :=
  OpenClaim.holds_of_wide 10 Try.f10 rfl rfl rfl rfl rfl rfl rfl ⟨rfl, rfl, rfl, rfl, rfl⟩ rfl rfl rfl rfl rfl (by kernel_rfl) Try.func10 (by kernel_rfl)
    (of_decide_eq_true (by kernel_rfl)) (by unfold Func.isWrapper; first | (rw [if_pos (by decide +kernel)]; kernel_rfl) | (rw [if_neg (by decide +kernel)]; exact ⟨rfl, rfl⟩))
    (fun os started H enc _ => lifted os started H enc)
#print axioms proved
end Go.Proofs.Ytmpmibcdpkolkaa.WalAppends
