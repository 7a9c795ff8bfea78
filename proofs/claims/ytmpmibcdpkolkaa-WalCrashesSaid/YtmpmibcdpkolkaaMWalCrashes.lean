/- WalCrashes: for every input the law returns true: wherever the power goes, and whatever of the pending writes is kept, lost, or torn, just those transactions are read that were appended, and perhaps the one that was being appended, whole. No condition. -/
import Derived.Test.YtmpmibcdpkolkaaWalCrashesG
import Derived.Test.YtmpmibcdpkolkaaWalCrashesH
import Derived.Lib.MinMax
import Derived.Deep.RegionHeld3
import Derived.Deep.RegionLaw
import Derived.Deep.DeepCutAuto
namespace Go.Proofs.Ytmpmibcdpkolkaa.WalCrashes
open Go.ChangeShapes Go.WideShapes Go.ChangeAt Go.RowKit Go.Joins
open Go.ChangeMaps (open_string shut_string)
open Go.Proofs.Ytmpmibcdpkolkaa.Sup (Gb gv gcell gthree newN_any UpN up_new)
open Go.Proofs.Ytmpmibcdpkolkaa.Wal
open Go.Proofs.Ytmpmibcdpkolkaa.Geom (lo hi pagesOf right)
open Go.Proofs.Ytmpmibcdpkolkaa.Disk (St DAt)
open Go.Proofs.Ytmpmibcdpkolkaa.Sec (symbolic_any RetX five5x X X0 rightF text sumOf sumAfter)
set_option linter.unusedVariables false
set_option maxRecDepth 100000
attribute [local irreducible] wpQuiet
/-- what is owned stays, while other blocks are turned -/
theorem own_kp {w w' : World} {base : Nat} {e : TypeId} {z n : Nat} {v : Value} {xs : List Value} {fp : List Nat} (h : w.ownsRow base e z v n xs) (k : Keep fp w w') (hn : ∀ r, v.ownBlock = some r → r ∉ fp) : w'.ownsRow base e z v n xs :=
  Wal.own_keep h (fun j cs e _ hh => k.block (lt_of_block hh) (hn j e))
theorem why_not12 (ga gd gl : Int) (seq : Nat) (l : List Pg) : whyF ga gd gl seq l ≠ 12 := by
  unfold whyF
  split
  · decide
  · split
    · decide
    · split <;> decide
/-- what the loop knows of the rows, and of sums and disk -/
structure Know (w : World) (ga gd gl base : Int) (life : UInt64) (n : Nat) (l : List Tx) (k q : Nat) (sm : List (List UInt8)) (st : St) (ts ms : List Tx) (m mm : Nat) (es ems : List Er) : Prop where
  st : (st.down = false ∧ CrUp ga gd gl base life n l k ts sm st ∧ q = (allSecs life 0 ts).length ∧ ms = []) ∨ (st.down = true ∧ CrEnd ga gd gl base life n l k ts ms sm st)
  m : m = ts.length
  e : es.map Er.x = ts
  ok : ∀ e ∈ es, ErOk w (fun j => j < w.heap.size) e
  mm : mm = ms.length
  em : ems.map Er.x = ms
  okm : ∀ e ∈ ems, ErOk w (fun j => j < w.heap.size) e
theorem Know.fin {w : World} {ga gd gl base : Int} {life : UInt64} {n : Nat} {l : List Tx} {k q : Nat} {sm : List (List UInt8)} {st : St} {ts ms : List Tx} {m mm : Nat} {es ems : List Er} (h : Know w ga gd gl base life n l k q sm st ts ms m mm es ems) (hr : right ga gd gl = true) (hb : 0 ≤ base) (hn : (n : Int) = Geom.sizeOf ga gd gl) : CrEnd ga gd gl base life n l k ts ms sm st := by
  rcases h.st with ⟨_, hu, _, rfl⟩ | ⟨_, he⟩
  · exact hu.fin hr hb hn
  · exact he
/-- what holds between two rounds -/
structure LInv (w w1 wr : World) (ga gd gl bs : Int) (lf : UInt64) (n : Nat) (l : List Tx) (g gS bS L k : Nat) (vo vm : Value) : Prop where
  ex : ∃ (q : Nat) (st : St) (sm : List (List UInt8)) (fp' : List Nat), HereL w1 wr g fp' st gS bS sm L ga gd gl lf bs q ∧ ∃ (m : Nat) (es : List Er), wr.ownsRow w1.heap.size 104 2 vo m (es.flatMap Er.cells) ∧ (∀ r, vo.ownBlock = some r → r ∉ gS :: bS :: fp' ∧ r ≠ L) ∧ ∃ (mm : Nat) (ems : List Er), wr.ownsRow w1.heap.size 104 2 vm mm (ems.flatMap Er.cells) ∧ (∀ r, vm.ownBlock = some r → r ∉ gS :: bS :: fp') ∧ (st.down = false → vm = .slice none 0 0) ∧ Hid (∃ ts ms, Know w ga gd gl bs lf n l k q sm st ts ms m mm es ems)
set_option maxHeartbeats 8000000 in
theorem walk (ga gd gl : Int) (A : Option Addr) (l : List Tx) (c : Nat) (fuse : Int) (AK : Option Addr) (keep : List Int) (ck : Nat) (torn at_ : Int) (w : World) (ha0 : -9223372036854775808 ≤ ga) (ha1 : ga ≤ 9223372036854775807) (hd0 : -9223372036854775808 ≤ gd) (hd1 : gd ≤ 9223372036854775807) (hg0 : -9223372036854775808 ≤ gl) (hg1 : gl ≤ 9223372036854775807)
    (hr : Txs w (fun j => j < w.heap.size) A l) (hc : l.length ≤ c) (hcm : c ≤ maxLen) (hf0 : -9223372036854775808 ≤ fuse) (hf1 : fuse ≤ 9223372036854775807) (hkr : Rd w w.heap.size AK (keep.map ei)) (hkc : keep.length ≤ ck) (hkm : ck ≤ maxLen) (hkw : ∀ n ∈ keep, -9223372036854775808 ≤ n ∧ n ≤ 9223372036854775807) (ht0 : -9223372036854775808 ≤ torn) (ht1 : torn ≤ 9223372036854775807) (hu0 : -9223372036854775808 ≤ at_) (hu1 : at_ ≤ 9223372036854775807) :
    Calls Try.prog 11 #[gv ga gd gl, .slice A l.length c, .int .i64 fuse, .slice AK keep.length ck, .int .i64 torn, .int .i64 at_] w fun e w' => e = .returned (.bool true) ∧ Below w.heap.size w w' := by
  have hG : Gb ga gd gl := ⟨ha0, ha1, hd0, hd1, hg0, hg1⟩
  have FG := Blk.new w (gcell ga gd gl) 23
  have bw := b1alloc w (.cells (gcell ga gd gl).toArray 23)
  obtain ⟨z0, z1, z2⟩ := gthree FG
  have HA := Lib.hid FG
  have lA := FG.lt
  have HRg := Lib.hid (fun W => Geom.rright_any ga gd gl W hG.a0 hG.a1 hG.d0 hG.d1 hG.g0 hG.g1)
  have HSz := Lib.hid (fun W => Geom.rsize_any ga gd gl W hG.a0 hG.a1 hG.d0 hG.d1 hG.g0 hG.g1)
  have HLi := Lib.hid (fun W (b : Below w.heap.size w W) => light_any (fun j => j < w.heap.size) A l c ga gd gl W (hr.on b))
  have HR := Lib.hid hr
  have HKr := Lib.hid hkr
  have Hfu := Lib.hid (And.intro hf0 hf1)
  have Hto := Lib.hid (And.intro (And.intro ht0 ht1) (And.intro hu0 hu1))
  have tS : True := trivial
  clear hc hcm FG ha0 ha1 hd0 hd1 hg0 hg1 hr hkr hkc hkm hkw hf0 hf1 ht0 ht1 hu0 hu1
  obtain ⟨q, hq⟩ : ∃ q, q = right ga gd gl := ⟨_, rfl⟩
  rw [← hq] at HRg
  have Hq := Lib.hid hq
  clear hq
  have hsp : q = false ∨ (q = true ∧ 20 < keep.length) ∨ (q = true ∧ keep.length ≤ 20) := by
    cases q with
    | false => exact .inl rfl
    | true =>
      by_cases h : keep.length ≤ 20
      · exact .inr (.inr ⟨rfl, h⟩)
      · exact .inr (.inl ⟨rfl, by omega⟩)
  go_enter Try.func11, Try.ntmps11
  go_upto_region 1 with (fail)
  rcases hsp with rfl | ⟨rfl, hk20⟩ | ⟨rfl, hk20⟩
  · skip
    go_wp2_with (first
      | (go_at_call 54; refine (HLi.out _ bw).mono ?_; rintro e w0 ⟨⟨BL, rfl, hBL⟩, bL⟩; cases BL <;> (have FG0 := HA.out.on bL; have bw0 := bt bw bL; clear z0 z1 z2; obtain ⟨z0, z1, z2⟩ := gthree FG0))
      | (go_at_call 19; refine (HRg.out _).mono ?_; rintro e w1 ⟨rfl, b1⟩; have FG1 := FG0.on b1; have bw1 := bt bw0 b1; clear z0 z1 z2; obtain ⟨z0, z1, z2⟩ := gthree FG1)
      | (go_at_call 49; refine (alive_any _).mono ?_; rintro e w8 ⟨rfl, b8⟩))
    all_goals
      go_ret
      first | exact ⟨rfl, bt bw0 b8⟩ | exact ⟨rfl, bt bw1 b8⟩
  · skip
    have hk21 : ¬ (keep.length : Int) ≤ 20 := by omega
    have hk22 : (20 : Int) < (keep.length : Int) := by omega

    go_wp2_with (first
      | (go_at_call 54; refine (HLi.out _ bw).mono ?_; rintro e w0 ⟨⟨BL, rfl, hBL⟩, bL⟩; cases BL <;> (have FG0 := HA.out.on bL; have bw0 := bt bw bL; clear z0 z1 z2; obtain ⟨z0, z1, z2⟩ := gthree FG0))
      | (go_at_call 19; refine (HRg.out _).mono ?_; rintro e w1 ⟨rfl, b1⟩; have FG1 := FG0.on b1; have bw1 := bt bw0 b1; clear z0 z1 z2; obtain ⟨z0, z1, z2⟩ := gthree FG1)
      | (go_at_call 49; refine (alive_any _).mono ?_; rintro e w8 ⟨rfl, b8⟩))
    all_goals
      go_ret
      first | exact ⟨rfl, bt bw0 b8⟩ | exact ⟨rfl, bt bw1 b8⟩
  · skip
    have hk21 : ¬ (20 : Int) < (keep.length : Int) := by omega
    go_upto_if 40 with (first
      | (go_at_call 54; refine (HLi.out _ bw).mono ?_; rintro e w0 ⟨⟨BL, rfl, hBL⟩, bL⟩; cases BL <;> (have FG0 := HA.out.on bL; have bw0 := bt bw bL; clear z0 z1 z2; obtain ⟨z0, z1, z2⟩ := gthree FG0))
      | (go_at_call 19; refine (HRg.out _).mono ?_; rintro e w1 ⟨rfl, b1⟩; have FG1 := FG0.on b1; have bw1 := bt bw0 b1; clear z0 z1 z2; obtain ⟨z0, z1, z2⟩ := gthree FG1))

    · go_wp2_with (first
        | (go_at_call 49; refine (alive_any _).mono ?_; rintro e w8 ⟨rfl, b8⟩))
      go_ret
      exact ⟨rfl, bt bw0 b8⟩
    have HL := Lib.hid (hBL (by first | trivial | rfl))
    have hrt : right ga gd gl = true := Hq.out.symm
    have hy := Geom.right_yes hrt
    have hsb := Geom.size_bd ga gd gl
    have hlz := log_size hrt
    have hg16 : gl ≤ 16 := by
      by_cases h : gl ≤ 16
      · exact h
      · exact absurd ⟨by omega, hy.2.2.2.2.2⟩ HL.out.log
    obtain ⟨n, hn⟩ : ∃ n : Nat, (n : Int) = Geom.sizeOf ga gd gl := ⟨(Geom.sizeOf ga gd gl).toNat, by omega⟩
    have hn7 : 4 ≤ n ∧ n ≤ 300 := by omega
    rw [← hn] at HSz
    have HN := Lib.hid (fun W => newN_any n (n : Int) rfl (by omega) (by omega) W)
    obtain ⟨bs, hbs⟩ : ∃ b : Int, b = 1 := ⟨_, rfl⟩
    obtain ⟨lf, hlf⟩ : ∃ b : UInt64, b = 5 := ⟨_, rfl⟩
    have hb01 : 0 ≤ bs ∧ bs ≤ 1073741824 := by omega
    have HNw := Lib.hid (show ∀ (g : Nat) (fp : List Nat) (gS : Nat) (W : World), DAt W g fp (Disk.new n) → Calls Try.prog 55 #[.pointer (some ⟨g, 0, none⟩), .pointer (some ⟨gS, 0, none⟩), gv ga gd gl, .int .u64 5, .int .i64 1] W fun e w' => e = .returned (.tuple #[.pointer (some ⟨W.heap.size + 1, 0, none⟩), .int .i64 0]) ∧ LAt w' (W.heap.size + 1) g gS ga gd gl lf bs 0 ∧ Below W.heap.size W w' from by
      subst hbs hlf
      exact fun g fp gS W h => new_any g fp (Disk.new n) gS ga gd gl 5 1 W hG h (wright_new hrt hn (by decide) (by decide) rfl))
    have hSc : ∀ (st : St) (sm : List (List UInt8)), sm.length ≤ 1000000 → st.sz ≤ 90000000 → st.size = n → st.down = false → ∀ (g : Nat) (fp : List Nat) (gS bS : Nat) (W : World), Both W g fp st gS bS sm → Calls Try.prog 50 #[.pointer (some ⟨g, 0, none⟩), .pointer (some ⟨gS, 0, none⟩), gv ga gd gl, .int .u64 5, .int .i64 1] W fun e w' => (∃ v, e = .returned (.tuple #[v, .int .i64 0]) ∧ OwnTx w' W.heap.size v (scanTx sm st ga gd gl bs lf)) ∧ Below W.heap.size W w' := by
      subst hbs hlf
      exact fun st sm h1 h2 h3 h4 g fp gS bS W h => scan_any g fp st gS bS sm ga gd gl 5 1 W hG h h1 h2 (wright_new hrt hn (by decide) (by decide) h3) h4
    have hSc6 : ∀ (st : St) (sm : List (List UInt8)), sm.length ≤ 1000000 → st.sz ≤ 90000000 → st.size = n → st.down = false → (∀ life', lf ≠ life' → scanTx sm st ga gd gl bs life' = []) → ∀ (g : Nat) (fp : List Nat) (gS bS : Nat) (W : World), Both W g fp st gS bS sm → Calls Try.prog 50 #[.pointer (some ⟨g, 0, none⟩), .pointer (some ⟨gS, 0, none⟩), gv ga gd gl, .int .u64 6, .int .i64 1] W fun e w' => (∃ v, e = .returned (.tuple #[v, .int .i64 0]) ∧ OwnTx w' W.heap.size v []) ∧ Below W.heap.size W w' := by
      intro st sm h1 h2 h3 h4 h5 g fp gS bS W h
      have h6 := h5 6 (by rw [hlf]; decide)
      rw [← h6]
      subst hbs hlf
      exact scan_any g fp st gS bS sm ga gd gl 6 1 W hG h h1 h2 (wright_new hrt hn (by decide) (by decide) h3) h4
    have hst0 := CrUp.start ga gd gl bs lf n l (by omega) fuse
    have hAr := fun g fp W h => Disk.arm_any g fp (Disk.new n) fuse W h Hfu.out.1 Hfu.out.2
    obtain ⟨S0, hS0⟩ : ∃ S0, S0 = Disk.arm (Disk.new n) fuse := ⟨_, rfl⟩
    rw [← hS0] at hst0 hAr
    have Hst0 := Lib.hid hst0
    have HAr := Lib.hid hAr
    have HSc := Lib.hid hSc
    have HSc6 := Lib.hid hSc6
    have Hhn := Lib.hid hn
    have Hrt := Lib.hid hrt
    have Hy := Lib.hid hy
    have Hb := Lib.hid hb01
    have H16 := Lib.hid hg16
    clear hsb hlz hn hn7 hrt hy hg16 hbs hlf hb01 hSc hSc6 hst0 hAr hS0 hk21
    go_upto_region 9 with (first
      | (go_at_call 13; refine (HSz.out _).mono ?_; rintro e w5 ⟨rfl, b5⟩)
      | (go_at_call 12; refine (HN.out _).mono ?_; rintro e w6 ⟨g, fp, rfl, hD, hfp, b6⟩; have bs6 := bt b5 b6; have hfp' := fun j hj => Nat.le_trans b5.size (hfp j hj))
      | (go_at_call 14; refine (symbolic_any _).mono ?_; rintro e w7 ⟨gS, bS, rfl, hS, hgS, hbS, b7⟩; have H7 := Here.start hD hfp' bs6 hS hgS hbS b7; clear z0 z1 z2; obtain ⟨z0, z1, z2⟩ := gthree (FG1.on H7.bel))
      | (go_at_call 55; refine (HNw.out _ _ _ _ H7.both.disk).mono ?_; rintro e w9 ⟨rfl, hLA, b9⟩; have H9 := HereL.start H7 rfl hLA b9; clear z0 z1 z2; obtain ⟨z0, z1, z2⟩ := gthree (FG1.on H9.bel))
      | (go_at_call 40; refine (HAr.out _ _ _ H9.both.disk).mono ?_; rintro e w10 ⟨rfl, hD10, k10⟩; have H12 := H9.armed hD10 k10; clear z0 z1 z2; obtain ⟨z0, z1, z2⟩ := gthree (FG1.on H12.bel)))

    obtain ⟨N, hN⟩ : ∃ N, N = l.length := ⟨_, rfl⟩
    have HN := Lib.hid hN
    have hN20 : N ≤ 20 := by rw [hN]; exact HL.out.len
    rw [← hN]
    clear hN z0 z1 z2
    go_upto_region 11 with (fail)
    go_loopw [18, 19, 20] (fun vo vm i wr => ∃ k : Nat, k ≤ N ∧ i = .int .i64 (k : Int) ∧ LInv w w1 wr ga gd gl bs lf n l g gS bS (w7.heap.size + 1) k vo vm) (fun _ _ i _ => N - (intOf i).toNat)
    case atStart => exact ⟨0, Nat.zero_le _, rfl, ⟨0, S0, [], fp, H12, 0, [], own_nil _ _ _ _, fun r e => (by cases e), 0, [], own_nil _ _ _ _, fun r e => (by cases e), fun _ => rfl, Lib.hid ⟨[], [], .inl ⟨Hst0.out.down, Hst0.out, rfl, rfl⟩, rfl, rfl, fun e h => (by cases h), rfl, rfl, fun e h => (by cases h)⟩⟩⟩
    case round =>
      obtain ⟨k, hk, rfl, ⟨q, st, sm, fp', HB, m, es, hown, hnot, mm, ems, hownm, hnotm, hvm, hid⟩⟩ := hrel
      clear H12
      have bWr := bt bw1 HB.bel
      have FGr := FG1.on HB.bel
      obtain ⟨z0, z1, z2⟩ := gthree FGr
      have lFr := FGr.lt
      obtain ⟨Ao, co, rfl⟩ := own_form hown
      obtain ⟨Am, cm, rfl⟩ := own_form hownm
      obtain ⟨D, hD⟩ : ∃ D, D = st.down := ⟨_, rfl⟩
      have HDn := Lib.hid (fun W h => Disk.down_any g fp' st W h)
      rw [← hD] at HDn hvm
      have HD := Lib.hid hD
      clear hD
      by_cases hgo : k < N ∧ D = false
      · obtain ⟨hlt, rfl⟩ := hgo
        have hv := hvm rfl
        injection hv with hv1 hv2 hv3
        subst hv1 hv2 hv3
        clear hvm hownm hnotm
        have hkm : (k : Int) < (N : Int) := by omega
        have hge : ¬ (N : Int) ≤ (k : Int) := by omega
        have hll : k < l.length := by have := HN.out; omega
        obtain ⟨b, off, Ai, ci, rfl, hb, hT⟩ := HR.out.get hll
        have hxm : l[k] ∈ l := List.getElem_mem hll
        obtain ⟨x, hx⟩ : ∃ x, x = l[k] := ⟨_, rfl⟩
        rw [← hx] at hT hxm
        have hxp := HL.out.pages x hxm
        have c0 := (bWr.cell (p := ⟨b, off + k * 2, none⟩) hb).trans hT.c0
        have c1 := (bWr.cell (p := ⟨b, off + k * 2 + 1, none⟩) hb).trans hT.c1
        have hb1 : b < wr.heap.size := Nat.lt_of_lt_of_le hb bWr.size
        have hPg : ∀ W, Below wr.heap.size wr W → Pgs W (fun j => j < w.heap.size) Ai x.pages := fun W bW => (hT.pgs.on bWr).on bW
        have Hok := Lib.hid (show ErOk w (fun j => j < w.heap.size) ⟨Ai, ci, x⟩ from ⟨hT.pgs, hT.cap, hT.max⟩)
        have HPg := Lib.hid hPg
        have Hxm := Lib.hid hxm
        have Hxp := Lib.hid hxp
        have hk0 : ∃ ts, CrUp ga gd gl bs lf n l k ts sm st ∧ q = (allSecs lf 0 ts).length ∧ m = ts.length ∧ es.map Er.x = ts ∧ ∀ e ∈ es, ErOk w (fun j => j < w.heap.size) e := by
          obtain ⟨ts, ms, kn⟩ := hid.out
          rcases kn.st with ⟨_, k2, k3, _⟩ | ⟨k1, _⟩
          · exact ⟨ts, k2, k3, kn.m, kn.e, kn.ok⟩
          · rw [← HD.out] at k1; cases k1
        obtain ⟨ts, i1, i2, i3, i4, i5⟩ := hk0
        have hq64 : q ≤ 1000 := by have := i1.len; have := Hy.out; omega
        obtain ⟨F, hF⟩ : ∃ F, F = whyF ga gd gl q x.pages := ⟨_, rfl⟩
        have hF12 := why_not12 ga gd gl q x.pages
        have hAN := fun W (h : LAt W (w7.heap.size + 1) g gS ga gd gl lf bs q) (bW : Below wr.heap.size wr W) (hf : whyF ga gd gl q x.pages ≠ 0) => append_no (w7.heap.size + 1) g gS ga gd gl lf bs q _ Ai x.pages ci x.gen W hG h (HPg.out W bW) (by omega) (by omega) (by have := Hy.out; omega) (by have := Hy.out; omega) hf
        rw [← hF] at hAN hF12
        have HAN := Lib.hid hAN
        have cz : Below wr.heap.size wr wr.drew := (Below.refl _ _).drew
        have f0 := (cz.cell (p := ⟨b, off + k * 2, none⟩) hb1).trans c0
        have f1 := (cz.cell (p := ⟨b, off + k * 2 + 1, none⟩) hb1).trans c1
        have Hts := Lib.hid (And.intro i1 (And.intro i2 (And.intro i3 (And.intro i4 i5))))
        by_cases hF0 : F = 0
        rotate_left
        · skip
          have t5 := beq_no hF0
          have t6 := beq_no hF12
          have HF0 := Lib.hid hF0
          clear hF0 hF12 hF hPg hxm hxp hT hx hAN i1 i2 i3 i4 i5
          go_upto_region 13 with (first
            | (go_at_call 65; refine (HDn.out _ HB.both.disk).mono ?_; rintro e w1 ⟨rfl, rfl⟩))
          go_region_held3 (fun W' => W'.cell? ⟨b, off + k * 2, none⟩ = some (.slice Ai x.pages.length ci) ∧ W'.cell? ⟨b, off + k * 2 + 1, none⟩ = some (.int .u64 (x.gen.toNat : Int))) (first | with_reducible exact ⟨f0, f1⟩ | with_reducible exact ⟨e0, e1⟩) (first
            | (go_at_call 59; refine (HAN.out _ ((HB.on cz).lat) cz HF0.out).mono ?_; rintro e w2 ⟨rfl, b2⟩; have bX := bt cz b2; have e0 := (bX.cell (p := ⟨b, off + k * 2, none⟩) hb1).trans c0; have e1 := (bX.cell (p := ⟨b, off + k * 2 + 1, none⟩) hb1).trans c1))
          have HX := HB.on bX
          have owX := own_on hown bX
          clear z0 z1 z2
          go_wp2
          refine ⟨⟨k + 1, by omega, by go_num, ⟨q, st, sm, fp', HX, m, es, owX, hnot, 0, [], own_nil _ _ _ _, fun r e => (by cases e), fun _ => rfl, Lib.hid ⟨ts, [], .inl ⟨HD.out.symm, Hts.out.1.more, Hts.out.2.1, rfl⟩, Hts.out.2.2.1, Hts.out.2.2.2.1, Hts.out.2.2.2.2, rfl, rfl, fun e h => (by cases h)⟩⟩⟩, by simp only [intOf]; omega⟩
        · skip
          subst hF0
          have hw := hF.symm
          have hw' := hw
          rw [i2] at hw'
          have hcs := i1.append Hrt.out Hb.out.1 Hhn.out hw' Hxm.out
          rw [← i2] at hcs
          obtain ⟨y1, y2, y3⟩ := whyF_zero hw
          have hAp := fun W (h : HereL w1 W g fp' st gS bS sm (w7.heap.size + 1) ga gd gl lf bs q) (bW : Below wr.heap.size wr W) => append_any g fp' st gS bS sm (w7.heap.size + 1) ga gd gl lf bs q (fun j => j < w.heap.size) Ai x.pages ci x.gen W hG h.both h.lat h.nL (by have := i1.sums; omega) (by have := i1.sz; omega) Hb.out.1 Hb.out.2 (HPg.out W bW) (h.notQ bw1.size) y1 y2 y3
          obtain ⟨V, hV⟩ : ∃ V, V = putF ga gd gl bs lf q x.gen x.pages sm st := ⟨_, rfl⟩
          rw [← hV] at hcs hAp
          have hbn : b ∉ (w7.heap.size + 1) :: bS :: fp' := fun e => by have := HB.own b e; have := bw1.size; omega
          clear hF12 hF hPg hxm hxp hT hx hAN hw hw' y1 y2 y3 HAN i1 i2 i3 i4 i5
          rcases hcs with ⟨v0, hup, hlen⟩ | ⟨v0, hdn, hend⟩
          · skip
            rw [v0] at hAp
            rw [if_pos rfl] at hAp
            have HAp := Lib.hid hAp
            have Hup := Lib.hid hup
            have Hlen := Lib.hid hlen
            clear hAp hV hup hlen v0

            go_upto_region 13 with (first
              | (go_at_call 65; refine (HDn.out _ HB.both.disk).mono ?_; rintro e w1 ⟨rfl, rfl⟩))
            go_region_held3 (fun W' => W'.cell? ⟨b, off + k * 2, none⟩ = some (.slice Ai x.pages.length ci) ∧ W'.cell? ⟨b, off + k * 2 + 1, none⟩ = some (.int .u64 (x.gen.toNat : Int))) (first | with_reducible exact ⟨f0, f1⟩ | with_reducible exact ⟨e0, e1⟩) (first
              | (go_at_call 59; refine (HAp.out _ (HB.on cz) cz).mono ?_; rintro e w2 ⟨rfl, T2⟩; obtain ⟨fp2, H2, K2, F2⟩ := (HB.on cz).turn2 T2; have e0 := (World.cell?_of_block (a := ⟨b, off + k * 2, none⟩) (K2.block hb1 hbn)).trans f0; have e1 := (World.cell?_of_block (a := ⟨b, off + k * 2 + 1, none⟩) (K2.block hb1 hbn)).trans f1))
            have bw2 := H2.bel
            have ow2 := WalCrashes.own_kp (own_on hown cz) K2 (fun r hr e => by
              rcases List.mem_cons.1 e with e | e
              · exact (hnot r hr).2 e
              · exact (hnot r hr).1 (List.mem_cons_of_mem _ e))
            have hnot2 : ∀ r, (Value.slice Ao m co).ownBlock = some r → r ∉ gS :: bS :: fp2 ∧ r ≠ w7.heap.size + 1 := fun r hr => ⟨fun hm => by
              have h0 := (hnot r hr).1
              rcases List.mem_cons.1 hm with e | hm
              · exact h0 (by rw [e]; simp)
              rcases List.mem_cons.1 hm with e | hm
              · exact h0 (by rw [e]; simp)
              · exact F2.out (((own_on hown cz).lt r hr).2) (fun hm => h0 (by simp [hm])) hm, (hnot r hr).2⟩
            have hb2 : b < w2.heap.size := Nat.lt_of_lt_of_le hb1 K2.size
            obtain ⟨g0, g1⟩ := (show w2.cell? ⟨b, off + k * 2, none⟩ = some (.slice Ai x.pages.length ci) ∧ w2.cell? ⟨b, off + k * 2 + 1, none⟩ = some (.int .u64 (x.gen.toNat : Int)) from ⟨e0, e1⟩)
            clear e0 e1 f0 f1 c0 c1 z0 z1 z2
            obtain ⟨i0, hi0, hz0, hz1, hz2⟩ := info_parts infoRT1
            have Hbm := Lib.hid (show m + 1 ≤ maxLen ∧ (m + 1) * 32 ≤ 140737488355328 ∧ m ≤ 20 from by
              have h2 := Hts.out.1.num
              have h3 := Hts.out.2.2.1
              exact ⟨by simp only [maxLen]; omega, by omega, by omega⟩)

            obtain ⟨q2, hq2⟩ : ∃ q2 : Nat, q2 = q + (x.pages.length + 1) := ⟨_, rfl⟩
            have HH := H2
            rw [← hq2] at HH
            have Hq2 := Lib.hid hq2
            clear hq2 H2
            go_upto_region 16 with (at_builtin; refine wpList_append_rd _ rfl _ _ _ rfl w1.heap.size 104 i0 _ 2 32 Try.underlying92 hi0 hz0 hz1 hz2 rfl (by omega) _ m (es.flatMap Er.cells) rfl (ow2.alloc _) (w2.heap.size + 1) (some ⟨w2.heap.size, 0, none⟩) 1 1 (Er.cells ⟨Ai, ci, x⟩) rfl rfl (Rd.lit w2 _ _ _ _ rfl (Nat.lt_succ_self _)) (by simp [Er.cells, Value.oneCell']) Hbm.out.1 Hbm.out.2.1 (Nat.le_trans HH.bel.size (b1alloc w2 _).size) ?_; intro v20 w20 own20 hg20 hat20)
            have H20 := (HH.on (b1alloc w2 _)).row hg20 (fun r e => ⟨(ow2.lt r e).1, (hnot2 r e).1, (hnot2 r e).2⟩)
            have hnot20 : ∀ r, v20.ownBlock = some r → r ∉ gS :: bS :: fp2 ∧ r ≠ w7.heap.size + 1 := fun r hr => by
              rcases hat20 with e | e
              · exact hnot2 r (e ▸ hr)
              · rw [e] at hr
                injection hr with hr
                have hs1 := HH.both.sym.lt
                have hs2 := HH.lat.lt
                have hsz : w2.heap.size ≤ r := by rw [← hr]; simp
                refine ⟨fun hm => ?_, by omega⟩
                rcases List.mem_cons.1 hm with e | hm
                · omega
                rcases List.mem_cons.1 hm with e | hm
                · omega
                · have := HH.both.disk.lt _ hm; omega
            go_wp2
            refine ⟨⟨k + 1, by omega, by go_num, ⟨q2, V.2.1, V.1, fp2, H20, m + 1, es ++ [⟨Ai, ci, x⟩], by simpa using own20, hnot20, 0, [], own_nil _ _ _ _, fun r e => (by cases e), fun _ => rfl, Lib.hid ⟨ts ++ [x], [], .inl ⟨Hup.out.down, Hup.out, by rw [Hlen.out]; exact Hq2.out, rfl⟩, by rw [Hts.out.2.2.1]; simp, by rw [List.map_append, Hts.out.2.2.2.1]; rfl, fun e he => ?_, rfl, rfl, fun e h => (by cases h)⟩⟩⟩, by simp only [intOf]; omega⟩
            rcases List.mem_append.1 he with he | he
            · exact Hts.out.2.2.2.2 e he
            · rw [List.mem_singleton] at he; rw [he]; exact Hok.out
          · skip
            rw [v0] at hAp
            rw [if_neg (by decide)] at hAp
            have HAp := Lib.hid hAp
            have Hend := Lib.hid hend
            have Hdn := Lib.hid hdn
            clear hAp hV hend hdn v0

            go_upto_region 13 with (first
              | (go_at_call 65; refine (HDn.out _ HB.both.disk).mono ?_; rintro e w1 ⟨rfl, rfl⟩))
            go_region_held3 (fun W' => W'.cell? ⟨b, off + k * 2, none⟩ = some (.slice Ai x.pages.length ci) ∧ W'.cell? ⟨b, off + k * 2 + 1, none⟩ = some (.int .u64 (x.gen.toNat : Int))) (first | with_reducible exact ⟨f0, f1⟩ | with_reducible exact ⟨e0, e1⟩) (first
              | (go_at_call 59; refine (HAp.out _ (HB.on cz) cz).mono ?_; rintro e w2 ⟨rfl, T2⟩; obtain ⟨fp2, H2, K2, F2⟩ := (HB.on cz).turn2 T2; have e0 := (World.cell?_of_block (a := ⟨b, off + k * 2, none⟩) (K2.block hb1 hbn)).trans f0; have e1 := (World.cell?_of_block (a := ⟨b, off + k * 2 + 1, none⟩) (K2.block hb1 hbn)).trans f1))
            have bw2 := H2.bel
            have ow2 := WalCrashes.own_kp (own_on hown cz) K2 (fun r hr e => by
              rcases List.mem_cons.1 e with e | e
              · exact (hnot r hr).2 e
              · exact (hnot r hr).1 (List.mem_cons_of_mem _ e))
            have hnot2 : ∀ r, (Value.slice Ao m co).ownBlock = some r → r ∉ gS :: bS :: fp2 ∧ r ≠ w7.heap.size + 1 := fun r hr => ⟨fun hm => by
              have h0 := (hnot r hr).1
              rcases List.mem_cons.1 hm with e | hm
              · exact h0 (by rw [e]; simp)
              rcases List.mem_cons.1 hm with e | hm
              · exact h0 (by rw [e]; simp)
              · exact F2.out (((own_on hown cz).lt r hr).2) (fun hm => h0 (by simp [hm])) hm, (hnot r hr).2⟩
            have hb2 : b < w2.heap.size := Nat.lt_of_lt_of_le hb1 K2.size
            obtain ⟨g0, g1⟩ := (show w2.cell? ⟨b, off + k * 2, none⟩ = some (.slice Ai x.pages.length ci) ∧ w2.cell? ⟨b, off + k * 2 + 1, none⟩ = some (.int .u64 (x.gen.toNat : Int)) from ⟨e0, e1⟩)
            clear e0 e1 f0 f1 c0 c1 z0 z1 z2
            obtain ⟨i0, hi0, hz0, hz1, hz2⟩ := info_parts infoRT1
            have Hbm := Lib.hid (show m + 1 ≤ maxLen ∧ (m + 1) * 32 ≤ 140737488355328 ∧ m ≤ 20 from by
              have h2 := Hts.out.1.num
              have h3 := Hts.out.2.2.1
              exact ⟨by simp only [maxLen]; omega, by omega, by omega⟩)

            go_upto_region 17 with (fail)
            have bz2 : Below w2.heap.size w2 w2.drew := (Below.refl _ _).drew
            have hrd2 : ∀ W, Below w2.drew.heap.size w2.drew W → Rd W W.heap.size Ao (es.flatMap Er.cells) := fun W bW => rd_ownZ (own_on ow2 (bt bz2 bW))
            have hPA := Lib.hid (prepTA w2.drew Ao (es.flatMap Er.cells) hrd2)
            have hPB := Lib.hid (prepTB w2.drew Ao (es.flatMap Er.cells) (.cells #[.slice Ai x.pages.length ci, .int .u64 (x.gen.toNat : Int)] 104) hrd2)
            have hPC := Lib.hid (prepTC w2.drew Ao (es.flatMap Er.cells) (.cells #[.slice Ai x.pages.length ci, .int .u64 (x.gen.toNat : Int)] 104) hrd2)
            have hre := run_emptyT
            have hfl : (es.flatMap Er.cells).length = m * 2 := ow2.1
            have hone : ∀ u ∈ es.flatMap Er.cells, u.oneCell' = true := fun u hu => by
              obtain ⟨e, _, he⟩ := List.mem_flatMap.1 hu
              simp only [Er.cells, List.mem_cons, List.not_mem_nil, or_false] at he
              rcases he with rfl | rfl <;> rfl
            have h2b : b < w2.drew.heap.size := hb2
            have d0 := (bz2.cell (p := ⟨b, off + k * 2, none⟩) hb2).trans g0
            have d1 := (bz2.cell (p := ⟨b, off + k * 2 + 1, none⟩) hb2).trans g1
            obtain ⟨EC, hEC⟩ : ∃ EC, EC = es.flatMap Er.cells := ⟨_, rfl⟩
            rw [← hEC] at hPA hPB hPC hfl hone
            have HEC := Lib.hid hEC
            have Hbm2 := Lib.hid (show 0 + m ≤ maxLen ∧ (0 + m) * 32 ≤ 140737488355328 ∧ 0 + m + 1 ≤ maxLen ∧ (0 + m + 1) * 32 ≤ 140737488355328 from by
              have := Hbm.out.2.2
              simp only [maxLen]
              omega)
            clear hEC hrd2
            go_region_law (first
              | ((refine Disk.step_append_rd _ (by rfl) _ _ _ (by rfl) w2.drew.heap.size 104 i0 _ 2 32 Try.underlying92 hi0 hz0 hz1 hz2 rfl (by omega) _ 0 [] (by rfl) ?_ Ao m co EC (by rfl) hfl ?_ hone Hbm2.out.1 Hbm2.out.2.1 ?_ ?_); (· first | exact hPA.out.own | exact hPB.out.own | exact hPC.out.own); (· first | exact hPA.out.rd | exact hPB.out.rd | exact hPC.out.rd); (· first | exact hPA.out.bel.size | exact hPB.out.bel.size | exact hPC.out.bel.size); intro v8 w8 own8 hg8 hat8; have b8 := (by first | exact hPA.out.step rfl hg8 | exact hPB.out.step rfl hg8 | exact hPC.out.step rfl hg8 : Below w2.drew.heap.size w2.drew w8); have s0 := (b8.cell (p := ⟨b, off + k * 2, none⟩) h2b).trans d0; have s1 := (b8.cell (p := ⟨b, off + k * 2 + 1, none⟩) h2b).trans d1)
              | ((refine Disk.step_append_rd _ (by rfl) _ _ _ (by rfl) w2.drew.heap.size 104 i0 _ 2 32 Try.underlying92 hi0 hz0 hz1 hz2 rfl (by omega) v8 (0 + m) ([] ++ EC) (by rfl) ?_ _ 1 1 [.slice Ai x.pages.length ci, .int .u64 (x.gen.toNat : Int)] (by rfl) (by rfl) ?_ (by simp [Value.oneCell']) Hbm2.out.2.2.1 Hbm2.out.2.2.2 ?_ ?_); (· first | exact own8 | exact own8.alloc _); (· first | exact Rd.lit _ _ _ _ _ rfl (by simp) | exact litTB w2.drew w8 [.slice Ai x.pages.length ci, .int .u64 (x.gen.toNat : Int)] (v := .slice (some ⟨w2.heap.size, 0, none⟩) 0 0) rfl hg8 | exact litTC w2.drew w8 [.slice Ai x.pages.length ci, .int .u64 (x.gen.toNat : Int)] (v := .slice (some ⟨w2.heap.size + 1, 0, none⟩) 0 0) rfl hg8); (· first | exact b8.size | exact Nat.le_trans b8.size (b1alloc _ _).size); intro v11 w11 own11 hg11 hat11; have b11 := (by first | exact b8.grown hg11 b8.size (fun q hq => own_block own8 hq) | exact (bt b8 (b1alloc _ _)).grown hg11 (bt b8 (b1alloc _ _)).size (fun q hq => own_block own8 hq) : Below w2.drew.heap.size w2.drew w11)))
            all_goals
              have b12 : Below w2.heap.size w2 w11 := bt bz2 b11
              have H12 := H2.on b12
              have ow12 := own_on ow2 b12
              have own13 : w11.ownsRow w1.heap.size 104 2 v11 (m + 1) ((es ++ [(⟨Ai, ci, x⟩ : Er)]).flatMap Er.cells) := by
                have h := own_base own11 (show w1.heap.size ≤ w2.drew.heap.size from H2.bel.size)
                rw [HEC.out, Nat.zero_add, List.nil_append] at h
                simpa [Er.cells] using h
              have hnot13 : ∀ r, v11.ownBlock = some r → r ∉ gS :: bS :: fp2 := fun r hr hm => by
                have h1 : w2.heap.size ≤ r := own_block own11 hr
                have hs1 := H2.both.sym.lt
                rcases List.mem_cons.1 hm with e | hm
                · omega
                rcases List.mem_cons.1 hm with e | hm
                · omega
                · have := H2.both.disk.lt _ hm; omega
              have fin := Lib.hid (show LInv w w1 w11 ga gd gl bs lf n l g gS bS (w7.heap.size + 1) (k + 1) (.slice Ao m co) v11 from ⟨q, V.2.1, V.1, fp2, H12, m, es, ow12, hnot2, m + 1, es ++ [⟨Ai, ci, x⟩], own13, hnot13, fun h => (by rw [Hdn.out] at h; cases h), Lib.hid ⟨ts, ts ++ [x], .inr ⟨Hdn.out, Hend.out⟩, Hts.out.2.2.1, Hts.out.2.2.2.1, Hts.out.2.2.2.2, by rw [Hts.out.2.2.1]; simp, by rw [List.map_append, Hts.out.2.2.2.1]; rfl, fun e he => by
                rcases List.mem_append.1 he with he | he
                · exact Hts.out.2.2.2.2 e he
                · rw [List.mem_singleton] at he; rw [he]; exact Hok.out⟩⟩)
              clear b12 H12 ow12 own13 hnot13 own11 hat11 hg11 own8 hat8 hg8 hPA hPB hPC
              go_wp2
              exact ⟨⟨k + 1, by omega, by go_num, fin.out⟩, by simp only [intOf]; omega⟩
      · skip
        obtain ⟨ts, ms, kn⟩ := hid.out
        have he := kn.fin Hrt.out Hb.out.1 Hhn.out
        have hm := kn.m
        have hmm := kn.mm
        subst hm hmm
        have hts20 : ts.length ≤ 20 := by have := he.num; omega
        have hms20 : ms.length ≤ 20 := by have := he.mnum; omega
        have hTp : ∀ t ∈ ts, t.pages.length ≤ 1000000 ∧ ∀ y ∈ t.pages, y.body.length ≤ 1000000 := fun t ht => by
          obtain ⟨h1, h2⟩ := HL.out.pages t (he.of_ t ht)
          exact ⟨by omega, fun y hy => by have := h2 y hy; omega⟩
        have hMp : ∀ t ∈ ms, t.pages.length ≤ 1000000 ∧ ∀ y ∈ t.pages, y.body.length ≤ 1000000 := fun t ht => by
          obtain ⟨h1, h2⟩ := HL.out.pages t (he.mof t ht)
          exact ⟨by omega, fun y hy => by have := h2 y hy; omega⟩
        have hRe := fun K W h hr => Disk.restart_any g fp' st keep K keep.length ck torn at_ W h (by have := he.sz; omega) rfl hr (by omega) Hto.out.1.1 Hto.out.1.2 Hto.out.2.1 Hto.out.2.2
        obtain ⟨e1, e2, e3, e4, e5⟩ := he.res keep torn at_
        obtain ⟨S, hS⟩ : ∃ S, S = Disk.restart st keep torn at_ := ⟨_, rfl⟩
        rw [← hS] at hRe e1 e2 e3 e4 e5
        have hA := HSc.out S sm (by have := he.sums; omega) (by omega) e1 e2
        have HA6 := Lib.hid (HSc6.out S sm (by have := he.sums; omega) (by omega) e1 e2 e5)
        obtain ⟨T, hT⟩ : ∃ T, T = scanTx sm S ga gd gl bs lf := ⟨_, rfl⟩
        rw [← hT] at hA e4
        have HT := Lib.hid (show T = ts ∨ (¬ T = ts ∧ ¬ ms = [] ∧ T = ms) from by
          rcases e4 with h | ⟨h1, h2⟩
          · exact .inl h
          · rcases he.ne with h3 | h3
            · exact absurd h3 h1
            · exact .inr ⟨by rw [h2]; exact h3, h1, h2⟩)
        have HTl := Lib.hid (show T.length ≤ 100000 ∧ ∀ t ∈ T, t.pages.length ≤ 1000000 ∧ ∀ y ∈ t.pages, y.body.length ≤ 1000000 from by
          rcases HT.out with h | ⟨_, _, h⟩
          · rw [h]; exact ⟨by omega, hTp⟩
          · rw [h]; exact ⟨by omega, hMp⟩)
        have HRe := Lib.hid hRe
        have HA5 := Lib.hid hA
        have HTp := Lib.hid hTp
        have HMp := Lib.hid hMp
        have Hkn := Lib.hid kn
        have hexit : (¬ (k : Int) < (N : Int)) ∨ ((k : Int) < (N : Int) ∧ D = true) := by
          by_cases h : k < N
          · right
            refine ⟨by omega, ?_⟩
            cases hD2 : D with
            | true => rfl
            | false => exact absurd ⟨h, hD2⟩ hgo
          · left; omega
        clear hRe e1 e2 e3 e4 e5 hS hA hT he hTp hMp kn hid hgo hvm
        rcases hexit with hkm | ⟨hkm, rfl⟩
        all_goals
          go_upto_region 18 with (first
            | (go_at_call 65; refine (HDn.out _ HB.both.disk).mono ?_; rintro e w1 ⟨rfl, rfl⟩))
          go_upto_region 19 with (first
            | (go_at_call 41; refine (HRe.out _ _ HB.both.disk (HB.here.rdD ((HKr.out.below bw1).more bw1.size))).mono ?_; rintro e w20 ⟨rfl, fp20, hD20, k20, f20⟩; have H20 := HB.here.moved hD20 k20 f20))
          have own20 := WalCrashes.own_kp hown k20 (fun r hr e => (hnot r hr).1 (List.mem_cons_of_mem _ (List.mem_cons_of_mem _ e)))
          have ownm20 := WalCrashes.own_kp hownm k20 (fun r hr e => hnotm r hr (List.mem_cons_of_mem _ (List.mem_cons_of_mem _ e)))
          have FG20 := FG1.on H20.bel
          clear z0 z1 z2
          obtain ⟨z0, z1, z2⟩ := gthree FG20
          have lG20 := FG20.lt
          have HTd := Lib.hid (fun W (bW : Below w20.heap.size w20 W) => er_txs (own_on own20 bW) Hkn.out.e (fun e he => (Hkn.out.ok e he).on bw1) (bt H20.bel bW))
          have HTm := Lib.hid (fun W (bW : Below w20.heap.size w20 W) => er_txs (own_on ownm20 bW) Hkn.out.em (fun e he => (Hkn.out.okm e he).on bw1) (bt H20.bel bW))
          clear own20 ownm20
          go_upto_region 20 with (first
            | (go_at_call 50; refine (HA5.out _ _ _ _ _ H20.both).mono ?_; rintro e w21 ⟨⟨v21, rfl, hO21⟩, b21⟩; obtain ⟨A21, c21, rfl, hT21, _, _⟩ := hO21.txs; have H21 := H20.on b21; clear z0 z1 z2; obtain ⟨z0, z1, z2⟩ := gthree (FG1.on H21.bel)))
          go_upto_region 21 with (first
            | (go_at_call 50; refine (HA5.out _ _ _ _ _ H21.both).mono ?_; rintro e w22 ⟨⟨v22, rfl, hO22⟩, b22⟩; obtain ⟨A22, c22, rfl, hT22, _, _⟩ := hO22.txs; have H22 := H21.on b22; clear z0 z1 z2; obtain ⟨z0, z1, z2⟩ := gthree (FG1.on H22.bel)))
          have tO1 : True := trivial
          have hT21' := hT21.on b22
          clear hT21 hO21 hO22
          go_upto_region 23 with (first
            | (go_at_call 52; have _t := tO1; refine (of_any _ A21 T c21 _ hT21' HTl.out.1).mono ?_; rintro e wO ⟨⟨AO, cO, rfl, hTO, _, _⟩, bO⟩; clear tO1; have tO2 : True := trivial)
            | (go_at_call 52; have _t := tO2; refine (of_any _ A22 T c22 _ (hT22.on bO) HTl.out.1).mono ?_; rintro e wP ⟨⟨AP, cP, rfl, hTP, _, _⟩, bP⟩; clear tO2; have hTO2 := hTO.on bP)
            | (go_at_call 51; refine (txsame_any (fun _ => True) (fun _ => True) AO AP T T _ _ cO cP _ hTO2 hTP rfl rfl (by have := HTl.out.1; omega) HTl.out.2 (fun x hx => (HTl.out.2 x hx).2)).mono ?_; rintro e wS ⟨rfl, bS_⟩; rw [decide_eq_true (rfl : T = T)]; have b23 := bt b22 (bt bO (bt bP bS_)); have H23 := H22.on (bt bO (bt bP bS_)); clear z0 z1 z2; obtain ⟨z0, z1, z2⟩ := gthree (FG1.on H23.bel)))
          go_upto_region 24 with (first
            | (go_at_call 50; refine (HA6.out _ _ _ _ _ H23.both).mono ?_; rintro e w24 ⟨⟨v24, rfl, hO24⟩, b24⟩; obtain ⟨A24, c24, rfl, hT24, _, _⟩ := hO24.txs; have H24 := H23.on b24; clear z0 z1 z2))
          have hT24x := hT21'.on (bt (bt bO (bt bP bS_)) b24)
          have hTd := HTd.out _ (bt b21 (bt b23 b24))
          have hTm := HTm.out _ (bt b21 (bt b23 b24))
          clear hT24 hO24 hTO hTO2 hTP hT22 hT21'
          have tO1 : True := trivial
          have tS1 : True := trivial
          rcases HT.out with hTt | ⟨hTn, hme, hTm2⟩
          · have HTt := Lib.hid hTt
            clear hTt
            go_wp2_with (first
              | (go_at_call 52; refine (of_any _ A21 T c21 _ hT24x HTl.out.1).mono ?_; rintro e wQ ⟨⟨AQ, cQ, rfl, hTQ, _, _⟩, bQ⟩; have hTd2 := hTd.on bQ)
              | (go_at_call 51; refine (txsame_any (fun _ => True) (fun _ => True) AQ Ao T ts _ _ cQ co _ hTQ hTd2 rfl rfl (by have := HTl.out.1; omega) HTl.out.2 (fun x hx => (HTp.out x hx).2)).mono ?_; rintro e wU ⟨rfl, bU⟩; rw [decide_eq_true HTt.out])
              | (go_at_call 49; refine (alive_any _).mono ?_; rintro e wL ⟨rfl, bL⟩))
            go_ret
            exact ⟨rfl, bt (bt bw1 H24.bel) (bt bQ (bt bU bL))⟩
          · have hml : (0 : Int) < (ms.length : Int) := by
              have : ms.length ≠ 0 := fun h => hme (List.eq_nil_of_length_eq_zero h)
              omega
            have HTm2 := Lib.hid hTm2
            have HTn := Lib.hid hTn
            clear hTm2 hTn hme
            go_wp2_with (first
              | (go_at_call 52; have _t := tO1; refine (of_any _ A21 T c21 _ hT24x HTl.out.1).mono ?_; rintro e wQ ⟨⟨AQ, cQ, rfl, hTQ, _, _⟩, bQ⟩; have hTd2 := hTd.on bQ; clear tO1; have tO2 : True := trivial)
              | (go_at_call 51; have _t := tS1; refine (txsame_any (fun _ => True) (fun _ => True) AQ Ao T ts _ _ cQ co _ hTQ hTd2 rfl rfl (by have := HTl.out.1; omega) HTl.out.2 (fun x hx => (HTp.out x hx).2)).mono ?_; rintro e wU ⟨rfl, bU⟩; rw [decide_eq_false HTn.out]; clear tS1; have tS2 : True := trivial; have hT25 := hT24x.on (bt bQ bU))
              | (go_at_call 52; have _t := tO2; refine (of_any _ A21 T c21 _ hT25 HTl.out.1).mono ?_; rintro e wQ2 ⟨⟨AQ2, cQ2, rfl, hTQ2, _, _⟩, bQ2⟩; have hTm3 := hTm.on (bt (bt bQ bU) bQ2); clear tO2)
              | (go_at_call 51; have _t := tS2; refine (txsame_any (fun _ => True) (fun _ => True) AQ2 Am T ms _ _ cQ2 cm _ hTQ2 hTm3 rfl rfl (by have := HTl.out.1; omega) HTl.out.2 (fun x hx => (HMp.out x hx).2)).mono ?_; rintro e wU2 ⟨rfl, bU2⟩; rw [decide_eq_true HTm2.out])
              | (go_at_call 49; refine (alive_any _).mono ?_; rintro e wL ⟨rfl, bL⟩))
            go_ret
            exact ⟨rfl, bt (bt bw1 H24.bel) (bt bQ (bt bU (bt bQ2 (bt bU2 bL))))⟩
set_option maxRecDepth 100000 in
theorem lifted (os : Os) (started : os.Started) (H : Type) (enc : TypeId × Value → H) :
    ReturnsInHanded {} Try.checked os 11 .any (Rows.walCrashesSpec.pre6 enc Try.prog Try.f11 Rows.walCrashesRow.domain false) (Rows.walCrashesSpec.post enc Try.prog Try.f11 false true false false) := by
  refine returnsInHanded_of_change (C := Try.checked) own started (by kernel_rfl) Try.func11
    (ChangeSpec.witness6 (enc := enc) (C := Try.checked) false ⟨#[], #[.agg #[.int .i64 0, .int .i64 0, .int .i64 0], .slice none 0 0, .int .i64 0, .slice none 0 0, .int .i64 0, .int .i64 0], []⟩ 8 (by kernel_rfl) (by kernel_rfl) (by kernel_rfl) (by kernel_rfl)) ?_
  intro W base args ds gs before hval0 hW hcnd _
  have hval : ∀ (j : Nat) t v, Try.f11.params[j]? = some t → args[j]? = some v → Value.okWide Try.prog W .any base t v := hval0
  have hW' := hW
  obtain ⟨p, q, hA0, hV, rfl, hfz, hnd⟩ := hW
  have hA : DataW.TrodAll enc Try.prog W 0 (fun _ => true) true Try.f11.params.toList args.toList ds p := hA0
  rw [Try.params11] at hA hval
  obtain ⟨v0, vs0, d0, ds0, p0, q0, hargs, rfl, rfl, h0, r0⟩ := trodAll_cons hA
  obtain ⟨v1, vs1, d1, ds1, p1, q1, rfl, rfl, rfl, h1, r1⟩ := trodAll_cons r0
  obtain ⟨v2, vs2, d2, ds2, p2, q2, rfl, rfl, rfl, h2, r2⟩ := trodAll_cons r1
  obtain ⟨v3, vs3, d3, ds3, p3, q3, rfl, rfl, rfl, h3, r3⟩ := trodAll_cons r2
  obtain ⟨v4, vs4, d4, ds4, p4, q4, rfl, rfl, rfl, h4, r4⟩ := trodAll_cons r3
  obtain ⟨v5, vs5, d5, ds5, p5, q5, rfl, rfl, rfl, h5, r5⟩ := trodAll_cons r4
  obtain ⟨rfl, rfl, rfl⟩ := trodAll_nil r5
  obtain rfl : args = #[v0, v1, v2, v3, v4, v5] := by cases args; simp_all
  obtain ⟨rfl, rfl⟩ := trodVars_none hV
  have k0 := h0
  have lt0 := places_lt k0
  obtain ⟨c0a, c0b, c0c, y0a, y0b, y0c, m0, rfl, _, _, hy0a, hy0b, hy0c⟩ := open_agg3 Try.underlying23 (by kernel_rfl) (by kernel_rfl) (hval 0 23 v0 rfl rfl) h0
  obtain ⟨n0a, e0a, _, w0a⟩ := DataW.trod_int Try.underlying3 hy0a
  simp only [List.cons.injEq, and_true] at e0a
  subst e0a
  obtain ⟨n0b, e0b, _, w0b⟩ := DataW.trod_int Try.underlying3 hy0b
  simp only [List.cons.injEq, and_true] at e0b
  subst e0b
  obtain ⟨n0c, e0c, _, w0c⟩ := DataW.trod_int Try.underlying3 hy0c
  simp only [List.cons.injEq, and_true] at e0c
  subst e0c
  have k1 := h1
  have lt1 := places_lt k1
  obtain ⟨a1, len1, cap1, rfl⟩ := okWide_slice Try.underlying92 (hval 1 92 v1 rfl rfl)
  obtain ⟨fuel1, hf1⟩ := h1
  obtain ⟨l1, rfl, rr1, rc1, rm1⟩ := txns_of hf1
  have k2 := h2
  have lt2 := places_lt k2
  obtain ⟨n2, rfl, _, _, w2⟩ := open_int Try.underlying3 (hval 2 3 v2 rfl rfl) h2
  have k3 := h3
  have lt3 := places_lt k3
  obtain ⟨a3, len3, cap3, rfl⟩ := okWide_slice Try.underlying63 (hval 3 63 v3 rfl rfl)
  obtain ⟨fuel3, hf3⟩ := h3
  obtain ⟨l3, rfl, rr3, rc3, rm3, rw3⟩ := ints_of rfl Try.underlying63 Try.underlying3 (by kernel_rfl) hf3
  have k4 := h4
  have lt4 := places_lt k4
  obtain ⟨n4, rfl, _, _, w4⟩ := open_int Try.underlying3 (hval 4 3 v4 rfl rfl) h4
  have k5 := h5
  have lt5 := places_lt k5
  obtain ⟨n5, rfl, _, _, w5⟩ := open_int Try.underlying3 (hval 5 3 v5 rfl rfl) h5
  clear hA0 hval0
  refine (walk n0a n0b n0c a1 l1 cap1 n2 a3 l3 cap3 n4 n5 W (wfi w0a).1 (wfi w0a).2 (wfi w0b).1 (wfi w0b).2 (wfi w0c).1 (wfi w0c).2 rr1 rc1 rm1 (wfi w2).1 (wfi w2).2 rr3 rc3 rm3 rw3 (wfi w4).1 (wfi w4).2 (wfi w5).1 (wfi w5).2).mono fun e W' ⟨he, bel⟩ => ?_
  subst he
  exact ⟨_, rfl, _, _, _, [], _, [], hW', trodAll_mk1 (shut_bool Try.underlying4 _), (trodAll_cons_mk (Below.trod laidOut (by kernel_rfl) (of_decide_eq_true (by kernel_rfl)) k0 bel lt0) (trodAll_cons_mk (Below.trod laidOut (by kernel_rfl) (of_decide_eq_true (by kernel_rfl)) k1 bel lt1) (trodAll_cons_mk (Below.trod laidOut (by kernel_rfl) (of_decide_eq_true (by kernel_rfl)) k2 bel lt2) (trodAll_cons_mk (Below.trod laidOut (by kernel_rfl) (of_decide_eq_true (by kernel_rfl)) k3 bel lt3) (trodAll_cons_mk (Below.trod laidOut (by kernel_rfl) (of_decide_eq_true (by kernel_rfl)) k4 bel lt4) (trodAll_cons_mk (Below.trod laidOut (by kernel_rfl) (of_decide_eq_true (by kernel_rfl)) k5 bel lt5) trodAll_mk0)))))), rfl, bel.frame _, fun h => by cases h⟩

theorem proved : Rows.WalCrashesSaid :=
  OpenClaim.holds_of_wide 11 Try.f11 rfl rfl rfl rfl rfl rfl rfl ⟨rfl, rfl, rfl, rfl, rfl⟩ rfl rfl rfl rfl rfl (by kernel_rfl) Try.func11 (by kernel_rfl)
    (of_decide_eq_true (by kernel_rfl)) (by unfold Func.isWrapper; first | (rw [if_pos (by decide +kernel)]; kernel_rfl) | (rw [if_neg (by decide +kernel)]; exact ⟨rfl, rfl⟩))
    (fun os started H enc _ => lifted os started H enc)
#print axioms proved
end Go.Proofs.Ytmpmibcdpkolkaa.WalCrashes
