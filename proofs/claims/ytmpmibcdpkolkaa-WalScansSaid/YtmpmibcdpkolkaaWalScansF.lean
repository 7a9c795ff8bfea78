/- Texts of this claim, joined: Snap4, SeqOk, RegionW, Snap5, Wal7, Snap6, WalRd, Wal8, Wal9, WalScanP, Wal10, WalPut. -/
import Derived.Test.YtmpmibcdpkolkaaWalScansE
import Derived.Test.YtmpmibcdpkolkaaWalScansB
import Derived.Deep.DeepCutAuto
import Derived.Deep.RegionLaw
/- The pages of a life: snap.Write and Empty, and what they come to. -/
namespace Go.Proofs.Ytmpmibcdpkolkaa.Snap
open Go.RowKit
open Go.Proofs.Ytmpmibcdpkolkaa.Geom
open Go.Proofs.Ytmpmibcdpkolkaa.Sup (Gb gv gcell srightF gthree)
open Go.Proofs.Ytmpmibcdpkolkaa.Disk (St DAt Did New8 Told8)
open Go.Proofs.Ytmpmibcdpkolkaa.Sec (X SymAt text sumOf sumAfter ckS blankB rightF encode_sym decode_sym right_0 right_2 xv RetX X0 five5x)
open Go.Proofs.Ytmpmibcdpkolkaa.Enc (Itm xB encs enf encs_go encs_stop encs_nil)
set_option linter.unusedVariables false
set_option maxRecDepth 100000
/-- the sectors of pages from the n-th on -/
def pItems (ga gd gl : Int) (life : UInt64) : Nat → List (List UInt8) → List Itm
  | _, [] => []
  | n, b :: r => (areaAt ga gd gl life.toNat n, px life n b) :: pItems ga gd gl life (n + 1) r
theorem pItems_len (ga gd gl : Int) (life : UInt64) : ∀ (n : Nat) (bs : List (List UInt8)), (pItems ga gd gl life n bs).length = bs.length
  | _, [] => rfl
  | n, b :: r => by show (_ :: pItems ga gd gl life (n + 1) r).length = _; rw [List.length_cons, pItems_len ga gd gl life (n + 1) r]; rfl
theorem pItems_drop {ga gd gl : Int} {life : UInt64} {pages : List (List UInt8)} {k : Nat} (h : k < pages.length) : pItems ga gd gl life k (pages.drop k) = (areaAt ga gd gl life.toNat k, px life k pages[k]) :: pItems ga gd gl life (k + 1) (pages.drop (k + 1)) := by
  rw [List.drop_eq_getElem_cons h]; rfl
theorem area_ok {ga gd gl : Int} {life : UInt64} {k : Nat} (h : (k : Int) < pagesOf ga gd gl) : 0 ≤ areaAt ga gd gl life.toNat k ∧ areaAt ga gd gl life.toNat k < Geom.sizeOf ga gd gl ∧ areaAt ga gd gl life.toNat k ≤ 1023 := by
  have hr := pages_right (a := ga) (d := gd) (g := gl) (i := (k : Int)) (by omega) h
  have hy := right_yes hr
  have hb := size_bd ga gd gl
  have e : Geom.sizeOf ga gd gl = 4 + gl + 2 * pagesOf ga gd gl := by unfold Geom.sizeOf; rw [if_pos hr]
  unfold areaAt
  rw [if_pos ⟨by omega, h⟩]
  have hp := pagesOf_bd ga gd gl
  rcases (show ((life.toNat : Int) % 2 = 0 ∨ (life.toNat : Int) % 2 = 1) by omega) with h2 | h2 <;> rw [h2] <;> omega
def snapF (ga gd gl : Int) (life : UInt64) (pages : List (List UInt8)) (l : List (List UInt8)) (s : St) : List (List UInt8) × St × Int := enf (pItems ga gd gl life 0 pages) l s
theorem made_nil (s : Nat) : (madeCells (Value.slice none 0 0).cells (s * 1)).toList = List.replicate s (Value.slice none 0 0) := by
  apply List.ext_getElem
  · simp [madeCells]
  · intro i h1 h2
    simp [madeCells, Value.cells, Nat.mod_one]
theorem infoS : (Try.prog.info? 37).map (fun i => (i.zero, i.size, i.bytes)) = some (some (.slice none 0 0), 1, 24) := by kernel_rfl
/-- no pages yet -/
theorem empty_any (ga gd gl : Int) (w : World) (hG : Gb ga gd gl) : Calls Try.prog 32 #[gv ga gd gl] w fun e w' => ∃ A c, e = .returned (.slice A (pagesOf ga gd gl).toNat c) ∧ w'.ownsRow w.heap.size 37 1 (.slice A (pagesOf ga gd gl).toNat c) (pagesOf ga gd gl).toNat (List.replicate (pagesOf ga gd gl).toNat (.slice none 0 0)) ∧ Below w.heap.size w w' := by
  obtain ⟨z0, z1, z2⟩ := gthree (Blk.new w (gcell ga gd gl) 23)
  have b0 := b1alloc w (.cells (gcell ga gd gl).toArray 23)
  have HP := Lib.hid (fun W => Geom.pages_any ga gd gl W hG.a0 hG.a1 hG.d0 hG.d1 hG.g0 hG.g1)
  have hp := pagesOf_bd ga gd gl
  obtain ⟨n, hn⟩ : ∃ n : Nat, pagesOf ga gd gl = (n : Int) := ⟨_, (Int.toNat_of_nonneg hp.1).symm⟩
  rw [hn] at HP hp ⊢
  rw [Int.toNat_natCast]
  clear hn
  obtain ⟨i0, hi0, hz0, hz1, hz2⟩ := info_parts infoS
  go_enter Try.func32, Try.ntmps32
  go_wp2_with (first
    | (go_at_call 87; refine (HP.out _).mono ?_; rintro e w1 ⟨rfl, b1⟩; have b2 := bt b0 b1)
    | (at_make; refine wpList_make_full _ rfl _ _ _ rfl w.heap.size 37 i0 _ 1 Try.underlying55 hi0 hz0 hz1 _ _ _ _ n rfl rfl rfl rfl (by rw [hz2]; omega) (by simp only [maxLen]; omega) b2.size ?_; intro w3 own3 b3))
  go_ret
  rw [made_nil] at own3
  exact ⟨_, _, rfl, own3, b2.trans ((Below.refl _ _).grown b3 b2.size (by simp))⟩
theorem writeD_nil (gS : Nat) (ga gd gl : Int) (life : UInt64) (A : Option Addr) (n c : Nat) (w : World) : Calls Try.prog 31 #[.pointer none, .pointer (some ⟨gS, 0, none⟩), gv ga gd gl, .int .u64 (life.toNat : Int), .slice A n c] w fun e w' => e = .returned (.int .i64 1) ∧ Below w.heap.size w w' := by
  obtain ⟨z0, z1, z2⟩ := gthree (Blk.new w (gcell ga gd gl) 23)
  have b0 := b1alloc w (.cells (gcell ga gd gl).toArray 23)
  go_enter Try.func31, Try.ntmps31
  go_wp2_with (go_at_call 85; refine (rightD_nil _ _ _ _ _ _).mono ?_; rintro e w1 ⟨rfl, b1⟩)
  go_ret
  exact ⟨rfl, bt (bt b0 (b1alloc _ _)) b1⟩
theorem writeS_nil (g : Nat) (ga gd gl : Int) (life : UInt64) (A : Option Addr) (n c : Nat) (w : World) : Calls Try.prog 31 #[.pointer (some ⟨g, 0, none⟩), .pointer none, gv ga gd gl, .int .u64 (life.toNat : Int), .slice A n c] w fun e w' => e = .returned (.int .i64 1) ∧ Below w.heap.size w w' := by
  obtain ⟨z0, z1, z2⟩ := gthree (Blk.new w (gcell ga gd gl) 23)
  have b0 := b1alloc w (.cells (gcell ga gd gl).toArray 23)
  go_enter Try.func31, Try.ntmps31
  go_wp2_with (go_at_call 85; refine (rightS_nil _ _ _ _ _ _).mono ?_; rintro e w1 ⟨rfl, b1⟩)
  go_ret
  exact ⟨rfl, bt (bt b0 (b1alloc _ _)) b1⟩
theorem write_wrong (g : Nat) (fp : List Nat) (s : St) (gS : Nat) (ga gd gl : Int) (life : UInt64) (A : Option Addr) (n c : Nat) (w : World) (hG : Gb ga gd gl) (h : DAt w g fp s) (hf : srightF s ga gd gl ≠ 0) : Calls Try.prog 31 #[.pointer (some ⟨g, 0, none⟩), .pointer (some ⟨gS, 0, none⟩), gv ga gd gl, .int .u64 (life.toNat : Int), .slice A n c] w fun e w' => e = .returned (.int .i64 (srightF s ga gd gl)) ∧ Below w.heap.size w w' := by
  obtain ⟨z0, z1, z2⟩ := gthree (Blk.new w (gcell ga gd gl) 23)
  have b0 := b1alloc w (.cells (gcell ga gd gl).toArray 23)
  have HB := Lib.hid (fun W (bW : Below w.heap.size w W) => right_any g fp s gS ga gd gl life W hG (h.on bW))
  obtain ⟨f, hf0⟩ : ∃ f, f = srightF s ga gd gl := ⟨_, rfl⟩
  rw [← hf0] at HB hf ⊢
  have t0 := bne_yes hf
  clear hf0
  go_enter Try.func31, Try.ntmps31
  go_wp2_with (go_at_call 85; refine (HB.out _ (bt b0 (b1alloc _ _))).mono ?_; rintro e w1 ⟨rfl, b1⟩)
  go_ret
  exact ⟨rfl, bt (bt b0 (b1alloc _ _)) b1⟩
set_option maxHeartbeats 1000000 in
theorem write_range (g : Nat) (fp : List Nat) (s : St) (gS : Nat) (ga gd gl : Int) (life : UInt64) (A : Option Addr) (pages : List (List UInt8)) (c : Nat) (w : World) (hG : Gb ga gd gl) (h : DAt w g fp s) (hf : srightF s ga gd gl = 0) (hr : Rws w w.heap.size A pages) (hl : pages.length ≤ 1000000)
    (hbad : (pages.length : Int) ≠ pagesOf ga gd gl ∨ longB pages = true) : Calls Try.prog 31 #[.pointer (some ⟨g, 0, none⟩), .pointer (some ⟨gS, 0, none⟩), gv ga gd gl, .int .u64 (life.toNat : Int), .slice A pages.length c] w fun e w' => e = .returned (.int .i64 2) ∧ Below w.heap.size w w' := by
  have FG := Blk.new w (gcell ga gd gl) 23
  obtain ⟨z0, z1, z2⟩ := gthree FG
  have b0 := b1alloc w (.cells (gcell ga gd gl).toArray 23)
  have HB := Lib.hid (fun W (bW : Below w.heap.size w W) => right_any g fp s gS ga gd gl life W hG (h.on bW))
  rw [hf] at HB
  have HP := Lib.hid (fun W => Geom.pages_any ga gd gl W hG.a0 hG.a1 hG.d0 hG.d1 hG.g0 hG.g1)
  have HC := Lib.hid (fun W (bW : Below w.heap.size w W) => contains_any A pages c W (hr.on bW) hl)
  have FGh := Lib.hid FG
  obtain ⟨N, hN⟩ : ∃ N, N = pagesOf ga gd gl := ⟨_, rfl⟩
  rw [← hN] at HP hbad
  clear hN FG
  by_cases hn : (pages.length : Int) = N
  · have hb : longB pages = true := by rcases hbad with h | h; exact absurd hn h; exact h
    have t0 := bne_no hn
    rw [hb] at HC
    have Hn := Lib.hid hn
    clear hn hbad hb
    go_enter Try.func31, Try.ntmps31
    go_wp2_with (go_at_call 85; refine (HB.out _ (bt b0 (b1alloc _ _))).mono ?_; rintro e w1 ⟨rfl, b1⟩; have b2 := bt (bt b0 (b1alloc _ _)) b1; clear z0 z1 z2; obtain ⟨z0, z1, z2⟩ := gthree ((FGh.out.alloc _).on b1))
    go_wp2_with (first
      | (go_at_call 87; refine (HP.out _).mono ?_; rintro e w2 ⟨rfl, b3⟩; have b4 := bt b2 b3)
      | (go_at_call 88; refine (HC.out _ b4).mono ?_; rintro e w3 ⟨rfl, rfl⟩))
    go_ret
    exact ⟨rfl, b4⟩
  · have t0 := bne_yes hn
    have Hn := Lib.hid hn
    clear hn hbad
    go_enter Try.func31, Try.ntmps31
    go_wp2_with (go_at_call 85; refine (HB.out _ (bt b0 (b1alloc _ _))).mono ?_; rintro e w1 ⟨rfl, b1⟩; have b2 := bt (bt b0 (b1alloc _ _)) b1; clear z0 z1 z2; obtain ⟨z0, z1, z2⟩ := gthree ((FGh.out.alloc _).on b1))
    go_wp2_with (go_at_call 87; refine (HP.out _).mono ?_; rintro e w2 ⟨rfl, b3⟩; have b4 := bt b2 b3)
    go_ret
    exact ⟨rfl, b4⟩
set_option maxHeartbeats 2000000 in
theorem write_any (g : Nat) (fp : List Nat) (s : St) (gS bS : Nat) (l : List (List UInt8)) (ga gd gl : Int) (life : UInt64) (Q : Nat → Prop) (A : Option Addr) (pages : List (List UInt8)) (c : Nat) (w : World) (hG : Gb ga gd gl) (h : Both w g fp s gS bS l) (hl : l.length ≤ 900000) (hs : s.sz ≤ 80000000) (hf : srightF s ga gd gl = 0)
    (hr : Rw w Q A pages) (hQ : ∀ j, Q j → j < w.heap.size → j ∉ bS :: fp) (hn : (pages.length : Int) = pagesOf ga gd gl) (hlong : longB pages = false) :
    Calls Try.prog 31 #[.pointer (some ⟨g, 0, none⟩), .pointer (some ⟨gS, 0, none⟩), gv ga gd gl, .int .u64 (life.toNat : Int), .slice A pages.length c] w fun e w' => e = .returned (.int .i64 (snapF ga gd gl life pages l s).2.2) ∧ Turn w g fp gS bS (snapF ga gd gl life pages l s).2.1 (snapF ga gd gl life pages l s).1 w' := by
  have FG := Blk.new w (gcell ga gd gl) 23
  obtain ⟨z0, z1, z2⟩ := gthree FG
  have b0 := b1alloc w (.cells (gcell ga gd gl).toArray 23)
  have HB := Lib.hid (fun W (bW : Below w.heap.size w W) => right_any g fp s gS ga gd gl life W hG (h.disk.on bW))
  rw [hf] at HB
  have HP := Lib.hid (fun W => Geom.pages_any ga gd gl W hG.a0 hG.a1 hG.d0 hG.d1 hG.g0 hG.g1)
  have hpb := pagesOf_bd ga gd gl
  have HC := Lib.hid (fun W (bW : Below w.heap.size w W) => contains_any A pages c W (hr.rws.on bW) (by omega))
  rw [hlong] at HC
  have FGh := Lib.hid FG
  have FA : Hid (Blk ((w.alloc (.cells (gcell ga gd gl).toArray 23)).alloc (.cells (acell (.pointer (some ⟨g, 0, none⟩)) (.pointer (some ⟨gS, 0, none⟩)) ga gd gl life).toArray 138)) (w.heap.size + 1) (acell (.pointer (some ⟨g, 0, none⟩)) (.pointer (some ⟨gS, 0, none⟩)) ga gd gl life)) := Lib.hid (by simpa using Blk.new (w.alloc (.cells (gcell ga gd gl).toArray 23)) (acell (.pointer (some ⟨g, 0, none⟩)) (.pointer (some ⟨gS, 0, none⟩)) ga gd gl life) 138)
  have har := Lib.hid (fun (k : Nat) (hk : k < pages.length) => area_ok (ga := ga) (gd := gd) (gl := gl) (life := life) (k := k) (by omega))
  rw [← hn] at HP
  have hshort : ∀ j (hj : j < pages.length), pages[j].length ≤ 479 := by
    intro j hj
    apply Nat.le_of_not_lt
    intro hlt
    rw [longB_yes hj hlt] at hlong
    cases hlong
  have Hshort := Lib.hid hshort
  have t0 : ((pages.length : Int) != (pages.length : Int)) = false := bne_no rfl
  have hN85 : pages.length ≤ 85 := by omega
  have hu : snapF ga gd gl life pages l s = if (encs (pItems ga gd gl life 0 pages) l s).2.2 = 0 then ((encs (pItems ga gd gl life 0 pages) l s).1, Disk.flush (encs (pItems ga gd gl life 0 pages) l s).2.1) else encs (pItems ga gd gl life 0 pages) l s := rfl
  obtain ⟨R, hR⟩ : ∃ R, R = snapF ga gd gl life pages l s := ⟨_, rfl⟩
  rw [← hR] at hu ⊢
  obtain ⟨E, hE⟩ : ∃ E, E = encs (pItems ga gd gl life 0 pages) l s := ⟨_, rfl⟩
  rw [← hE] at hu
  have HE := Lib.hid hE
  have HU := Lib.hid hu
  clear hR
  clear hu hE hn hlong hpb FG hshort
  go_enter Try.func31, Try.ntmps31
  go_wp2_with (go_at_call 85; refine (HB.out _ (bt b0 (b1alloc _ _))).mono ?_; rintro e w1 ⟨rfl, b1⟩; have b2 := bt (bt b0 (b1alloc _ _)) b1; clear z0 z1 z2; obtain ⟨z0, z1, z2⟩ := gthree ((FGh.out.alloc _).on b1))
  go_wp2_with (first
    | (go_at_call 87; refine (HP.out _).mono ?_; rintro e w2 ⟨rfl, b3⟩; have b4 := bt b2 b3)
    | (go_at_call 88; refine (HC.out _ b4).mono ?_; rintro e w3 ⟨rfl, rfl⟩))
  have hA2 := FA.out.on (bt b1 b3)
  have nA : w.heap.size + 1 ∉ bS :: fp := fun e => by
    rcases List.mem_cons.1 e with e | e
    · have := h.sym.lt.2; omega
    · have := h.disk.lt _ e; omega
  have H2 := h.on b4
  clear z0 z1 z2
  go_loopw [39] (fun i wr => ∃ k : Nat, k ≤ pages.length ∧ i = .int .i64 k ∧ ∃ fp' s' l', Both wr g fp' s' gS bS l' ∧ Keep (bS :: fp) w wr ∧ Fresh w fp fp' ∧ Blk wr (w.heap.size + 1) (acell (.pointer (some ⟨g, 0, none⟩)) (.pointer (some ⟨gS, 0, none⟩)) ga gd gl life) ∧ w.heap.size + 1 ∉ bS :: fp' ∧ Hid (E = encs (pItems ga gd gl life k (pages.drop k)) l' s' ∧ l'.length ≤ l.length + k ∧ s'.sz ≤ s.sz + 2 * k)) (fun i _ => pages.length - (intOf i).toNat)
  case atStart => exact ⟨0, by omega, rfl, fp, s, l, H2, Keep.of_below b4 _, Fresh.refl _ _, hA2, nA, Lib.hid ⟨by rw [List.drop_zero]; exact HE.out, by omega, by omega⟩⟩
  case round =>
    obtain ⟨k, hk, rfl, fp', s', l', HB', K, F, HA, nA', hid⟩ := hrel
    clear H2 hA2 nA
    obtain ⟨z0, z1, z2, z3, z4, z5⟩ := six6 HA
    by_cases hlt : k < pages.length
    · have hL1 : l'.length ≤ 1000000 := Nat.le_trans hid.out.2.1 (by omega)
      have hS1 : s'.sz ≤ 90000000 := Nat.le_trans hid.out.2.2 (by omega)
      have hk1 : k ≤ 1000 := by omega
      obtain ⟨b, off, Ai, ci, rfl, hb, hc, hrk, _, _⟩ := (hr.keep K hQ).get hlt
      have hkn : (k : Int) < (pages.length : Int) := by omega
      have hP := put_any g fp' s' gS bS l' ga gd gl life k pages[k] Ai ci wr hG HB' hL1 hS1 (har.out k hlt).1 (har.out k hlt).2.2 hk1 (Hshort.out k hlt) hrk.rd
      have hst := hid.out.1
      rw [pItems_drop hlt] at hst
      have hlm := hid.out.2
      have hl2 : (pL l' (areaAt ga gd gl life.toNat k) life k pages[k]).length ≤ l.length + (k + 1) := by have := Enc.sumAfter_len l' (text (areaAt ga gd gl life.toNat k) (px life k pages[k])); unfold pL; omega
      have hs2 : (Disk.write s' (areaAt ga gd gl life.toNat k) (pB l' (areaAt ga gd gl life.toNat k) life k pages[k])).1.sz ≤ s.sz + 2 * (k + 1) := by have := Disk.sz_write s' (areaAt ga gd gl life.toNat k) (pB l' (areaAt ga gd gl life.toNat k) life k pages[k]); omega
      have hgo : (Disk.write s' (areaAt ga gd gl life.toNat k) (pB l' (areaAt ga gd gl life.toNat k) life k pages[k])).2 = 0 → E = encs (pItems ga gd gl life (k + 1) (pages.drop (k + 1))) (pL l' (areaAt ga gd gl life.toNat k) life k pages[k]) (Disk.write s' (areaAt ga gd gl life.toNat k) (pB l' (areaAt ga gd gl life.toNat k) life k pages[k])).1 := fun e => by rw [hst]; exact encs_go e
      have hstop : (Disk.write s' (areaAt ga gd gl life.toNat k) (pB l' (areaAt ga gd gl life.toNat k) life k pages[k])).2 ≠ 0 → E = (pL l' (areaAt ga gd gl life.toNat k) life k pages[k], Disk.write s' (areaAt ga gd gl life.toNat k) (pB l' (areaAt ga gd gl life.toNat k) life k pages[k])) := fun e => by rw [hst]; exact encs_stop e
      obtain ⟨V, hV⟩ : ∃ V, V = Disk.write s' (areaAt ga gd gl life.toNat k) (pB l' (areaAt ga gd gl life.toNat k) life k pages[k]) := ⟨_, rfl⟩
      obtain ⟨L, hL⟩ : ∃ L, L = pL l' (areaAt ga gd gl life.toNat k) life k pages[k] := ⟨_, rfl⟩
      obtain ⟨bk, hbk⟩ : ∃ b, b = pages[k] := ⟨_, rfl⟩
      rw [← hV] at hP hs2 hgo hstop
      rw [← hL] at hP hl2 hgo hstop
      rw [← hbk] at hP hc
      have HPut := Lib.hid hP
      have Hlm := Lib.hid (And.intro hl2 hs2)
      clear hP hst hV hL hlm hrk hbk hl2 hs2
      by_cases h0 : V.2 = 0
      · have t1 := bne_no h0
        have hgo' := Lib.hid (hgo h0)
        rw [h0] at HPut
        clear hgo hstop h0
        go_wp2_with (go_at_call 89; refine HPut.out.mono ?_; rintro e w5 ⟨rfl, T5⟩)
        case roundEnd =>
          obtain ⟨fp5, H5, K5, F5⟩ := T5
          have nA5 : w.heap.size + 1 ∉ bS :: fp5 := fun e => by
            rcases List.mem_cons.1 e with e | e
            · exact nA' (by rw [e]; simp)
            · exact F5.out HA.lt (fun e => nA' (List.mem_cons_of_mem _ e)) e
          exact ⟨⟨k + 1, by omega, by go_num, fp5, V.1, L, H5, keepT K F K5, F.trans K.size F5, HA.keepK K5 nA', nA5, Lib.hid ⟨hgo'.out, Hlm.out.1, Hlm.out.2⟩⟩, by simp only [intOf]; omega⟩
      · have t1 := bne_yes h0
        have hstop' := Lib.hid (show R = (L, V) by rw [HU.out, if_neg (by rw [hstop h0]; exact h0)]; exact hstop h0)
        have H0 := Lib.hid h0
        clear hgo hstop h0
        go_wp2_with (go_at_call 89; refine HPut.out.mono ?_; rintro e w5 ⟨rfl, T5⟩)
        go_ret
        rw [hstop'.out]
        exact ⟨rfl, Turn.trans K F T5⟩
    · have hkn : ¬ (k : Int) < (pages.length : Int) := by omega
      have hst := hid.out.1
      rw [List.drop_of_length_le (by omega)] at hst
      have hst' : E = (l', s', 0) := hst
      have hFl := Lib.hid (fun W hD => Disk.flush_any g fp' s' W hD (by have := hid.out.2.2; omega))
      have hst2 := Lib.hid (show R = (l', Disk.flush s') by rw [HU.out, hst', if_pos (show (l', s', (0 : Int)).2.2 = 0 from rfl)])
      clear hst hst'
      go_wp2_with (go_at_call 70; refine (hFl.out _ HB'.disk).mono ?_; rintro e w5 D5; obtain ⟨rfl, T5⟩ := Turn.ofDid HB' D5)
      go_ret
      rw [hst2.out]
      exact ⟨rfl, Turn.trans K F T5⟩
end Go.Proofs.Ytmpmibcdpkolkaa.Snap

/- A range over an iterator that hands new memory to each round: what is handed is as the iterator says in the world of that round. No statement is proved here. -/
namespace Go.Proofs.Ytmpmibcdpkolkaa.Ch
open Go.RowKit
set_option linter.unusedVariables false
/-- an iterator's contract: of each value that it hands, Ok holds in the world in which it hands it -/
def SeqOk {α : Type} (n : Nat) (P : Program) (g : Nat) (lb : Array Value) (encs : α → Array Value) (Ok : World → α → Prop) (Kp : World → World → Prop) (S Sp : List α → Prop) (N : Nat) (w : World) : Prop :=
  ∀ (l : Nat) (J Jx : List α → World → Prop) (W : World), Below w.heap.size w W → AbidesFrom W.heap.size J → AbidesFrom W.heap.size Jx →
    (∀ pre x W1, J pre W1 → Ok W1 x → pre.length < N → YieldAt Fence.wide (n - 1) P l (encs x) W1 fun e W' =>
      (e = .returned (.bool true) ∧ J (pre ++ [x]) W' ∧ Kp W1 W') ∨ (e = .returned (.bool false) ∧ Jx (pre ++ [x]) W')) →
    J [] W → CallsIn Fence.wide n P g (#[.func (.yield l) #[] #[]] ++ lb) W fun e W' => (∃ v, e = .returned v) ∧ ((∃ xs, S xs ∧ J xs W') ∨ (∃ pre, Sp pre ∧ Jx pre W'))
/-- the loop's own two blocks: its record, and its rounds' deferred calls -/
def Own2 (l D : Nat) (r : Loop) (W : World) : Prop := W.heap[l]? = some (.loop r) ∧ W.heap[D]? = some (.deferred (some []))
theorem Own2.lt {l D : Nat} {r : Loop} {W : World} (h : Own2 l D r W) : l < W.heap.size := (Array.getElem?_eq_some_iff.1 h.1).1
theorem Own2.put {l D : Nat} {r : Loop} {W : World} (h : Own2 l D r W) (hne : l ≠ D) (r' : Loop) : Own2 l D r' (W.putObj l (.loop r')) := ⟨World.putObj_heap_same h.lt, (World.putObj_heap_other (Ne.symm hne)).trans h.2⟩
theorem Own2.keeps {l D : Nat} {r : Loop} {W W' : World} (h : Own2 l D r W) (k : KeepsOthers W W') : Own2 l D r W' := ⟨k.same _ _ h.1 rfl, k.same _ _ h.2 rfl⟩
theorem Own2.grown {l D : Nat} {r : Loop} {W W' : World} {row : Option Nat} (h : Own2 l D r W) (hg : W.grownBy W' row) (hr : ∀ j, row = some j → ∃ o : Obj, W.heap[j]? = some o ∧ o.isWalk = true) : Own2 l D r W' := by
  have hl : ∀ j, row = some j → l ≠ j ∧ D ≠ j := fun j e => by
    obtain ⟨o, ho, hw⟩ := hr j e
    refine ⟨fun h1 => ?_, fun h1 => ?_⟩ <;> subst h1
    · rw [h.1] at ho; cases ho; cases hw
    · rw [h.2] at ho; cases ho; cases hw
  exact ⟨(hg.block l h.lt (fun e => (hl l e.symm).1 rfl)).trans h.1, (hg.block D (Array.getElem?_eq_some_iff.1 h.2).1 (fun e => (hl D e.symm).2 rfl)).trans h.2⟩
theorem range_ok {α : Type} {P : Program} {n : Nat} {g : Operand} {ps : Array Tmp} {assign body : Code} {Q : Exit → Act → World → Prop} {a : Act} {w : World}
    (h1 : 1 ≤ n) {gf : Nat} {lb : Array Value} (hg : a.eval g = .func (.func gf) #[] lb) (eg : ∀ args w, (callFunc gf args).run P w = .ok (.enter gf args) w)
    {encs : α → Array Value} {Ok : World → α → Prop} {Kp : World → World → Prop} {S Sp : List α → Prop} {N : Nat} {w0 : World} (hseq : SeqOk (n - 1) P gf lb encs Ok Kp S Sp N w0)
    (hKt : ∀ {A B C : World}, Kp A B → Kp B C → Kp A C) (hKb : ∀ (W : World) (l : Nat) (o o' : Obj), w.heap.size ≤ l → W.heap[l]? = some o → o.isCells = false → o.isWalk = false → Kp W (W.putObj l o'))
    (hb0 : Below w0.heap.size w0 w) (hps : ∀ x, (encs x).size = ps.size)
    (I : List α → World → Prop) (Ix : Code → List α → World → Prop) (hI : OwnFrom w.heap.size I) (hIx : ∀ c, OwnFrom w.heap.size (Ix c)) (h0 : I [] w) (M : List α → α → Act → World → Prop) (hM : ∀ pre x a (W : World) (l : Nat) (o o' : Obj), w.heap.size ≤ l → W.heap[l]? = some o → o.isCells = false → M pre x a W → M pre x a (W.putObj l o'))
    (hassign : ∀ (l : Nat) (pre : List α) (x : α) (W : World), I pre W → Ok W x → pre.length < N →
      assign.wpIn (Fence.wide.inRound l) (n - 1 - 1) P (Exit.then (fun a' W' => KeepsOthers W W' ∧ Kp W W' ∧ M pre x a' W') (fun _ _ _ => False)) { tmps := (ps.zip (encs x)).foldl (fun t (p, v) => t.setIfInBounds p v) a.tmps, defers := [] } W)
    (hbody : ∀ (l : Nat) (pre : List α) (x : α) (a' : Act) (W : World), M pre x a' W → pre.length < N → body.wpIn (Fence.wide.inRound l) (n - 1 - 1) P (ownPostK Kp I Ix (pre ++ [x]) W) a' W)
    (hdone : ∀ (D : Nat) (xs : List α) (W : World), w.heap.size ≤ D → S xs → I xs W → W.heap[D]? = some (.deferred (some [])) → Q .normal { a with defers := { target := .collected D, args := #[] } :: a.defers } W)
    (hstop : ∀ (D : Nat) (c : Code) (pre : List α) (W : World), w.heap.size ≤ D → Sp pre → Ix c pre W → W.heap[D]? = some (.deferred (some [])) → c.wpIn Fence.wide n P Q { a with defers := { target := .collected D, args := #[] } :: a.defers } W) :
    (Code.rangeFunc g ps assign body).wpIn Fence.wide n P Q a w := by
  refine wpIn_rangeFunc fun fn hfn => ?_
  obtain ⟨D, hD⟩ : ∃ D, D = w.heap.size := ⟨_, rfl⟩
  obtain ⟨L, hL⟩ : ∃ L, L = w.heap.size + 1 := ⟨_, rfl⟩
  obtain ⟨rec, hrec⟩ : ∃ rec : LoopState → Option Code → Loop, ∀ st pe, rec st pe = { state := st, pending := pe, fn, tmps := a.tmps, params := ps, assign, body, defers := w.heap.size } := ⟨fun st pe => _, fun st pe => rfl⟩
  obtain ⟨W1, hW1⟩ : ∃ W1, W1 = (w.alloc (.deferred (some []))).alloc (.loop (rec .ready none)) := ⟨_, rfl⟩
  have hne : L ≠ D := by omega
  have hO1 : Own2 L D (rec .ready none) W1 := by
    rw [hW1, hL, hD]
    refine ⟨?_, (Below.heap_alloc _ _ _ (by simp)).trans (World.alloc_heap_new w _)⟩
    have := World.alloc_heap_new (w.alloc (.deferred (some []))) (.loop (rec .ready none))
    rwa [World.size_alloc] at this
  have hB1 : Below w0.heap.size w0 W1 := by rw [hW1]; exact bt hb0 (b2alloc w _ _)
  have hI1 : I [] W1 := by rw [hW1]; exact hI.alloc _ (hI.alloc _ h0)
  have hsz1 : w.heap.size ≤ W1.heap.size := by have := hO1.lt; omega
  refine ⟨L, [{ target := .collected D, args := #[] }], W1, { target := .fn (.func gf) lb, args := #[.func (.yield L) #[] #[]] }, W1, gf, #[.func (.yield L) #[] #[]] ++ lb, W1, ?_, ?_, ?_, ?_, fun _ => h1, ?_⟩
  · rw [hW1, hL, hD, hrec]; exact run_enterLoop_outer _ _ _ _ _
  · simp only [resolve, hg]; simp [go_sem, hL]
  · intro f' hf'; trivial
  · simp [invoke, go_sem, eg]
  have hturn : ∀ {A : World} {row : Option Nat}, (∀ r, row = some r → W1.heap.size ≤ r ∧ ∃ o : Obj, A.heap[r]? = some o ∧ o.isWalk = true) → ∀ r, row = some r → w.heap.size ≤ r ∧ ∃ o : Obj, A.heap[r]? = some o ∧ o.isCells = false :=
    fun hr r e => by obtain ⟨hb, o, ho, hw⟩ := hr r e; exact ⟨by omega, o, ho, Obj.not_cells_of_walk hw⟩
  refine (hseq L (fun pre W => I pre W ∧ Own2 L D (rec .ready none) W) (fun pre W => ∃ c, Ix c pre W ∧ Own2 L D (rec .done (some c)) W) W1 hB1
    (fun s A B row hs hgr hr => ⟨hI s A B row hs.1 hgr (hturn hr), hs.2.grown hgr (fun j e => (hr j e).2)⟩)
    (fun s A B row hs hgr hr => by obtain ⟨c, h2, h3⟩ := hs; exact ⟨c, hIx c s A B row h2 hgr (hturn hr), h3.grown hgr (fun j e => (hr j e).2)⟩) ?_ ⟨hI1, hO1⟩).mono ?_
  · rintro pre x W ⟨hi, ho⟩ hok hlen
    have hy := run_yield (P := P) (args := encs x) ho.1 (by rw [hrec]; exact hps x)
    rw [hrec] at hy
    refine ⟨fn, _, assign, body, hy, roundIn_of_wpIn hfn (wpIn_mono (hassign L pre x W hi hok hlen) ?_)⟩
    rintro e0 a2 W2 hp0
    cases e0 <;> first | exact hp0.elim | skip
    obtain ⟨hk0, hkp0, hm0⟩ := hp0
    have ho0 := ho.keeps hk0
    refine ⟨_, run_beginRound (P := P) ho0.1 (by rw [hrec]), ?_⟩
    have ho2 := ho0.put hne { rec .ready none with state := .busy }
    have hk2 : Kp W (W2.putObj L (.loop { rec .ready none with state := .busy })) := hKt hkp0 (hKb _ _ _ _ (by omega) ho0.1 rfl rfl)
    have hm2 : M pre x a2 (W2.putObj L (.loop { rec .ready none with state := .busy })) := hM _ _ _ _ _ _ _ (by omega) ho0.1 rfl hm0
    refine wpIn_mono (hbody L pre x a2 _ hm2 hlen) ?_
    have leave : ∀ (c : Code) (W3 : World), KeepsOthers (W2.putObj L (.loop { rec .ready none with state := .busy })) W3 → Ix c (pre ++ [x]) W3 →
        ∃ v w', (Instr.endRound L (some c)).run P W3 = .ok v w' ∧ ((Ending.returned v = .returned (.bool true) ∧ (I (pre ++ [x]) w' ∧ Own2 L D (rec .ready none) w') ∧ Kp W w') ∨ (Ending.returned v = .returned (.bool false) ∧ ∃ c, Ix c (pre ++ [x]) w' ∧ Own2 L D (rec .done (some c)) w')) := by
      intro c W3 hk3 hx3
      have ho3 := ho2.keeps hk3
      refine ⟨_, _, run_endRound (P := P) (some c) ho3.1, .inr ⟨rfl, c, (hIx c).putObj _ hx3 (by omega) ho3.1 rfl, ?_⟩⟩
      have := ho3.put hne { rec .ready none with state := .done, pending := some c }
      rw [hrec] at this ⊢
      rw [hrec]
      exact this
    rintro e a3 W3 hp
    cases e with
    | normal =>
      obtain ⟨hk3, hkp3, hi3⟩ := hp
      have ho3 := ho2.keeps hk3
      refine ⟨_, _, run_endRound (P := P) none ho3.1, .inl ⟨rfl, ⟨hI.putObj _ hi3 (by omega) ho3.1 rfl, ?_⟩, hKt (hKt hk2 hkp3) (hKb _ _ _ _ (by omega) ho3.1 rfl rfl)⟩⟩
      have := ho3.put hne (rec .ready none)
      rw [hrec] at this ⊢
      exact this
    | ret => exact leave _ _ hp.1 hp.2
    | exit id => exact leave _ _ hp.1 hp.2
    | goto t => exact leave _ _ hp.1 hp.2
    | panic ch => exact hp.elim
    | outgrown => exact hp.elim
  · rintro e W2 ⟨⟨v, rfl⟩, h2⟩
    rcases h2 with ⟨xs, hS, hi, ho⟩ | ⟨pre, hSp, c, hi, ho⟩
    · have hr := run_endLoop (P := P) ho.1 (by rw [hrec]; simp)
      rw [hrec] at hr
      refine ⟨none, _, hr, ?_⟩
      rw [hD]
      rw [hD] at ho
      exact hdone _ xs _ (Nat.le_refl _) hS (hI.putObj _ hi (by omega) ho.1 rfl) ((World.putObj_heap_other (by omega)).trans ho.2)
    · have hr := run_endLoop (P := P) ho.1 (by rw [hrec]; simp)
      rw [hrec] at hr
      refine ⟨some c, _, hr, ?_⟩
      rw [hD]
      rw [hD] at ho
      exact hstop _ c pre _ (Nat.le_refl _) hSp ((hIx c).putObj _ hi (by omega) ho.1 rfl) ((World.putObj_heap_other (by omega)).trans ho.2)
end Go.Proofs.Ytmpmibcdpkolkaa.Ch

/- A region that draws its order, under the wide fence: reads and calls that only make memory come first, in whatever order; what waits for all of them (a call of yield) is walked in the fence. -/
namespace Go.Proofs.Ytmpmibcdpkolkaa
open Go.RowKit
set_option linter.unusedVariables false
section
variable {P : Program} {ops : Array Oper} {md : Region.Mode} {C : World → Prop} {n : Nat}
theorem oper_wide {o : Oper} {a : Act} {w : World} {K K' : Act → World → Prop} {Q : Exit → Act → World → Prop} (hd : ∀ c, o.op ≠ .defer c) (hk : ∀ a w, K a w → K' a w) (h : o.wp P a w K (fun _ _ _ => False)) :
    o.wpIn Fence.wide n P a w K' Q := by
  refine ⟨fun f _ => trivial, ?_⟩
  rw [Oper.semAt_plain _ _ _ hd]
  unfold Oper.wp at h
  generalize (execOp a.eval o).run P w = x at *
  cases x with
  | halt hx w' =>
    cases hx <;> exact h.elim
  | ok nx w' =>
    cases nx with
    | value v => exact hk _ _ h
    | skip => exact hk _ _ h
    | defer d => exact hk _ _ h
    | enter f args =>
      refine ⟨fun h => by simp [Fence.wide] at h, (callsIn_wide.2 h).mono ?_⟩
      intro e w2 he
      cases e with
      | returned v => exact hk _ _ he
      | panicked c => exact he.elim
      | outgrown => obtain ⟨_, _, h⟩ := he; exact h.elim
    | row row args =>
      refine ⟨fun h => by simp [Fence.wide] at h, fun c cs _ => ?_⟩
      obtain ⟨v, w2, hv, hs⟩ := h c cs
      exact ⟨v, w2, hk _ _ hv, stepsIn_wide.2 hs⟩
    | _ => exact h.elim
theorem head_wide {k g : Nat} {L : Array Bool → Act → Prop} {Q' : Exit → Act → World → Prop} (hd : ∀ (j : Nat) (o : Oper), ops[j]? = some o → ∀ c : Call, o.op ≠ Op.defer c) (hL : ∀ listed a w, C w → L listed a → wpAnyIn Fence.wide n P md ops Q' g listed a w) :
    ∀ (f : Nat) (listed : Array Bool) (a : Act) (w : World), C w → headQ P md ops C k L f listed a → wpAnyIn Fence.wide n P md ops Q' (f + g) listed a w
  | 0, listed, a, w, hw, h => by rw [Nat.zero_add]; exact hL _ _ _ hw h
  | f + 1, listed, a, w, hw, h => by
    rw [show f + 1 + g = (f + g) + 1 by omega]
    refine ⟨fun h0 => absurd h0 h.1, fun i hi => ?_⟩
    have h1 : wpOp P ops (fun _ _ _ => False) i (wpAnyIn Fence.wide n P md ops Q' (f + g) (listed.setIfInBounds i true)) a w := wpOp_of_qOp hw (fun a' w' hw' h' => head_wide hd hL f _ a' w' hw' h') (h.2 i hi).2
    unfold wpOp at h1
    unfold wpOpIn
    cases ho : ops[i]? with
    | none => rw [ho] at h1; exact h1
    | some o =>
      rw [ho] at h1
      simp only at h1 ⊢
      split
      · rename_i hw2
        rw [if_pos hw2] at h1
        rcases h1 with h1 | h1
        · exact oper_wide (hd i o ho) (fun a w h => h) h1
        · obtain ⟨_, _, h⟩ := h1.2; exact h.elim
      · rename_i hw2
        rw [if_neg hw2] at h1
        exact ⟨fun f _ => trivial, h1⟩
theorem anyIn_of_seq {Q' : Exit → Act → World → Prop} : ∀ (l : List Oper) (k : Nat) (listed : Array Bool) (a : Act) (w : World), (∀ j, l[j]? = ops[k + j]?) →
    Region.seqB md ops l.length k listed = true → wpListIn Fence.wide n P ops Q' l a w → wpAnyIn Fence.wide n P md ops Q' l.length listed a w
  | [], _, _, _, _, _, hB, h => ⟨by simpa [Region.seqB] using hB, h⟩
  | o :: l, k, listed, a, w, hl, hB, h => by
    have h0 : ops[k]? = some o := by simpa using (hl 0).symm
    simp only [List.length_cons, Region.seqB, Bool.and_eq_true, decide_eq_true_eq] at hB
    have next : ∀ a' w', wpListIn Fence.wide n P ops Q' l a' w' → wpAnyIn Fence.wide n P md ops Q' l.length (listed.setIfInBounds k true) a' w' := fun a' w' h' =>
      anyIn_of_seq l (k + 1) _ a' w' (fun j => by have := hl (j + 1); simpa [Nat.add_assoc, Nat.add_comm 1 j] using this) hB.2 h'
    refine wpAnyIn_ready hB.1 (by simp) (AllReadyIn.cons h0 (fun K' hK => ?_) AllReadyIn.nil)
    have h' : (if Region.wanted o (yielded ops a.tmps) then o.wpIn Fence.wide n P a w (wpListIn Fence.wide n P ops Q' l) Q' else (∀ f, o.about P w a.eval = some f → Fence.wide.fn f) ∧ wpListIn Fence.wide n P ops Q' l (a.put o.dst undef) w) := h
    split
    · rename_i hw
      rw [if_pos hw] at h'
      exact Oper.wpIn_mono (fun a w h => hK _ _ (next a w h)) h'
    · rename_i hw
      rw [if_neg hw] at h'
      exact ⟨h'.1, hK _ _ (next _ _ h'.2)⟩
theorem region_inb_tail_wide {id : Nat} {Q : Exit → Act → World → Prop} {a : Act} {w : World} {l : List Oper} (k : Nat) (hm : P.follows .mixedOrders = true) (hB : Region.lexTailB .any l.toArray k = true) (hdf : noDefer l = true)
    (h : wpQuiet P l.toArray (InB w) (fun a' => ∀ w', InB w w' → wpListIn Fence.wide n P l.toArray Q (l.drop k) a' w') (l.take k) a) : (Code.region id l.toArray true).wpIn Fence.wide n P Q a w := by
  simp only [Region.lexTailB, Bool.and_eq_true, decide_eq_true_eq] at hB
  obtain ⟨⟨⟨⟨hsel, hn⟩, hs⟩, hc⟩, hlex⟩ := hB
  have htl : (l.take k).length = k := by
    have : k < l.length := by simpa using hn
    simp; omega
  have hdl : (l.drop k).length = l.toArray.size - k := by simp
  have inv0 : HeadInv .any l.toArray k (Array.replicate l.toArray.size false) :=
    ⟨by simp, fun j oj _ hl => (by rw [getD_replicate_false] at hl; cases hl), fun t _ ht => getD_in (by simpa using ht) (getD_replicate_false _ _)⟩
  have H := headQ_lex (md := .any) (g := l.toArray.size - k) hsel hs hc hn (l.take k) 0 _ a (fun j hj => by
    have hj' : j < k := by rw [htl] at hj; exact hj
    simp [hj']) (by simpa using htl) inv0 (by rw [htl]; exact hlex) h
  refine wpIn_region_any hm ?_
  have := head_wide (n := n) (Q' := Q) (g := l.toArray.size - k) (noDefer_spec hdf) (fun listed a' w' hw' hL => by
    have := anyIn_of_seq (md := .any) (Q' := Q) (n := n) (l.drop k) k listed a' w' (fun j => by simp [List.getElem?_drop]) (by rw [hdl]; exact hL.1) (hL.2 w' hw')
    rwa [hdl] at this) _ _ _ _ (InB.start w) H
  rw [htl, show k + (l.toArray.size - k) = l.toArray.size by omega] at this
  exact this
end
end Go.Proofs.Ytmpmibcdpkolkaa

/- The pages of a life, as they are read: (area).pages, its test, and its iterator's contract. -/
namespace Go.Proofs.Ytmpmibcdpkolkaa
open Go.RowKit
set_option linter.unusedVariables false
/-- what lies below n lies as it lay, but for one block -/
def KpK (B n : Nat) (W W' : World) : Prop := W'.os = W.os ∧ W'.tape = W.tape ∧ W'.output = W.output ∧ W.heap.size ≤ W'.heap.size ∧ ∀ j, j < n → j ≠ B → W'.heap[j]? = W.heap[j]?
theorem KpK.refl (B n : Nat) (W : World) : KpK B n W W := ⟨rfl, rfl, rfl, Nat.le_refl _, fun _ _ _ => rfl⟩
theorem KpK.trans {B n : Nat} {X Y Z : World} (h : KpK B n X Y) (k : KpK B n Y Z) : KpK B n X Z := ⟨k.1.trans h.1, k.2.1.trans h.2.1, k.2.2.1.trans h.2.2.1, Nat.le_trans h.2.2.2.1 k.2.2.2.1, fun j hj hn => (k.2.2.2.2 j hj hn).trans (h.2.2.2.2 j hj hn)⟩
theorem KpK.size {B n : Nat} {W W' : World} (h : KpK B n W W') : W.heap.size ≤ W'.heap.size := h.2.2.2.1
theorem KpK.block {B n : Nat} {W W' : World} (h : KpK B n W W') {j : Nat} (hj : j < n) (hn : j ≠ B) : W'.heap[j]? = W.heap[j]? := h.2.2.2.2 j hj hn
theorem KpK.turn {B n : Nat} (W : World) (l : Nat) (o' : Obj) (hl : n ≤ l) : KpK B n W (W.putObj l o') := ⟨rfl, rfl, rfl, (grownBy_putObj' W l o').size, fun j hj _ => World.putObj_heap_other (by omega)⟩
theorem KpK.of_below {B n : Nat} {W W' : World} (h : Below W.heap.size W W') (hn : n ≤ W.heap.size) : KpK B n W W' := ⟨h.os, h.tape, h.output, h.size, fun j hj _ => h.block j (by omega)⟩
theorem KpK.of_below' {B n : Nat} {W W' : World} (h : Below n W W') : KpK B n W W' := ⟨h.os, h.tape, h.output, h.size, fun j hj _ => h.block j hj⟩
theorem KpK.set {B n : Nat} {W W' : World} (h : KpK B n W W') (v : Value) : KpK B n W (W'.setCell ⟨B, 0, none⟩ v) :=
  ⟨h.1, h.2.1, h.2.2.1, by simpa [World.setCell] using h.size, fun j hj hn => (Below.heap_setCell W' ⟨B, 0, none⟩ v j (fun e => hn e)).trans (h.block hj hn)⟩
/-- all blocks from n on, and one more -/
def hiB (B n : Nat) (W : World) : List Nat := B :: (List.range W.heap.size).filter (fun j => decide (n ≤ j))
theorem KpK.keep {B n : Nat} {W W' : World} (h : KpK B n W W') : Keep (hiB B n W) W W' :=
  ⟨h.1, h.2.1, h.2.2.1, h.size, fun j hj hn => h.block (Nat.lt_of_not_le fun e => hn (by simp [hiB, hj, e])) (fun e => hn (by simp [hiB, e]))⟩
theorem not_hiB {B n : Nat} {W : World} {j : Nat} (hj : j < n) (hn : j ≠ B) : j ∉ hiB B n W := by
  unfold hiB
  intro h
  rcases List.mem_cons.1 h with h | h
  · exact hn h
  · rw [List.mem_filter] at h
    have := of_decide_eq_true h.2
    omega
theorem Both.kpk {W W' : World} {B n g : Nat} {fp : List Nat} {s : Disk.St} {gS bS : Nat} {l : List (List UInt8)} (h : Both W g fp s gS bS l) (k : KpK B n W W') (hf : ∀ j ∈ bS :: gS :: fp, j < n ∧ j ≠ B) : Both W' g fp s gS bS l :=
  ⟨h.disk.keep k.keep (fun j hj => not_hiB (hf j (by simp [hj])).1 (hf j (by simp [hj])).2), h.sym.keepK k.keep (not_hiB (hf gS (by simp)).1 (hf gS (by simp)).2) (not_hiB (hf bS (by simp)).1 (hf bS (by simp)).2), h.nS, h.nB⟩
theorem Blk.kpk {W W' : World} {B n g : Nat} {xs : List Value} (h : Blk W g xs) (k : KpK B n W W') (hg : g < n) (hn : g ≠ B) : Blk W' g xs := h.elim fun t hh => ⟨t, (k.block hg hn).trans hh⟩
theorem Box.kpk {W W' : World} {B n g : Nat} {v : Value} (h : Box W g v) (k : KpK B n W W') (hg : g < n) (hn : g ≠ B) : Box W' g v := h.elim fun t hh => ⟨t, (k.block hg hn).trans hh⟩
end Go.Proofs.Ytmpmibcdpkolkaa
namespace Go.Proofs.Ytmpmibcdpkolkaa.Snap
open Go.RowKit Go.Shelf
open Go.Proofs.Ytmpmibcdpkolkaa.Geom
open Go.Proofs.Ytmpmibcdpkolkaa.Ch (SeqOk)
open Go.Proofs.Ytmpmibcdpkolkaa.Sup (Gb gv gcell srightF gthree)
open Go.Proofs.Ytmpmibcdpkolkaa.Disk (St DAt Did New8 Told8 read_any)
open Go.Proofs.Ytmpmibcdpkolkaa.Sec (X SymAt text sumOf sumAfter ckS blankB rightF encode_sym decode_sym right_0 right_2 xv RetX X0 five5x)
attribute [local go_sem] Oper.semAt_some
set_option linter.unusedVariables false
set_option maxRecDepth 100000
/-- is a sector the page of a number, of a life? -/
def isX (life : UInt64) (k : Nat) (x : X) : Bool := decide (x.kind = 3) && decide (x.life = life) && decide (x.seq = (k : Int)) && decide (x.gen = 0)
/-- what stands at a page's place -/
def rdAt (l : List (List UInt8)) (s : St) (ga gd gl : Int) (life : UInt64) (k : Nat) : X × Int := Enc.rd l s (areaAt ga gd gl life.toNat k)
def isPg (l : List (List UInt8)) (s : St) (ga gd gl : Int) (life : UInt64) (k : Nat) : Bool := decide ((rdAt l s ga gd gl life k).2 = 0) && isX life k (rdAt l s ga gd gl life k).1
/-- what is handed to a round -/
structure It where
  k : Nat
  A : Option Addr
  c : Nat
  body : List UInt8
  is : Bool
def It.enc (x : It) : Array Value := #[.int .i64 (x.k : Int), .agg #[.slice x.A x.body.length x.c, .bool x.is]]
def It.Ok (n0 : Nat) (W : World) (x : It) : Prop := W.ownsRow n0 5 1 (.slice x.A x.body.length x.c) x.body.length (x.body.map e8) ∧ x.body.length ≤ 1000
def It.f (x : It) : Nat × Bool × List UInt8 := (x.k, x.is, x.body)
def want (l : List (List UInt8)) (s : St) (ga gd gl : Int) (life : UInt64) (k : Nat) : Nat × Bool × List UInt8 := (k, isPg l s ga gd gl life k, (rdAt l s ga gd gl life k).1.body)
set_option maxHeartbeats 1000000 in
theorem there_any (x : X) (A : Option Addr) (c : Nat) (k Ba : Nat) (v1 v2 : Value) (ga gd gl : Int) (life : UInt64) (w : World) (h : Blk w Ba (acell v1 v2 ga gd gl life)) :
    Calls Try.prog 127 #[.int .i64 (k : Int), .agg #[.int .i64 x.kind, .int .u64 (x.life.toNat : Int), .int .i64 x.seq, .int .u64 (x.gen.toNat : Int), .slice A x.body.length c], .pointer (some ⟨Ba, 0, none⟩)] w fun e w' => e = .returned (.bool (isX life k x)) ∧ Below w.heap.size w w' := by
  have b0 := b1alloc w (.cells ([.int .i64 x.kind, .int .u64 (x.life.toNat : Int), .int .i64 x.seq, .int .u64 (x.gen.toNat : Int), .slice A x.body.length c] : List Value).toArray 43)
  have hX := Blk.new w [.int .i64 x.kind, .int .u64 (x.life.toNat : Int), .int .i64 x.seq, .int .u64 (x.gen.toNat : Int), .slice A x.body.length c] 43
  obtain ⟨x0, x1, x2, x3, x4⟩ := five5x hX
  obtain ⟨z0, z1, z2, z3, z4, z5⟩ := six6 (h.on b0)
  by_cases e1 : x.kind = 3
  rotate_left
  · have hn := Lib.hid (show isX life k x = false by simp [isX, e1])
    have t1 := beq_no e1
    clear e1
    go_enter Try.func127, Try.ntmps127
    go_wp2
    go_ret
    exact ⟨ret_bool hn.out.symm, b0⟩
  have t1 := beq_yes e1
  by_cases e2 : x.life = life
  rotate_left
  · have hn := Lib.hid (show isX life k x = false by simp [isX, e2])
    have t2 := beq_no (show (x.life.toNat : Int) ≠ (life.toNat : Int) from fun e => e2 (UInt64.toNat_inj.1 (by omega)))
    clear e1 e2
    go_enter Try.func127, Try.ntmps127
    go_wp2
    go_ret
    exact ⟨ret_bool hn.out.symm, b0⟩
  have t2 := beq_yes (show (x.life.toNat : Int) = (life.toNat : Int) by rw [e2])
  by_cases e3 : x.seq = (k : Int)
  rotate_left
  · have hn := Lib.hid (show isX life k x = false by simp [isX, e3])
    have t3 := beq_no e3
    clear e1 e2 e3
    go_enter Try.func127, Try.ntmps127
    go_wp2
    go_ret
    exact ⟨ret_bool hn.out.symm, b0⟩
  have t3 := beq_yes e3
  by_cases e4 : x.gen = 0
  · have hn := Lib.hid (show isX life k x = true by simp [isX, e1, e2, e3, e4])
    have t4 := beq_yes (show (x.gen.toNat : Int) = 0 by rw [e4]; rfl)
    clear e1 e2 e3 e4
    go_enter Try.func127, Try.ntmps127
    go_wp2
    go_ret
    exact ⟨ret_bool hn.out.symm, b0⟩
  · have hn := Lib.hid (show isX life k x = false by simp [isX, e4])
    have t4 := beq_no (show (x.gen.toNat : Int) ≠ 0 from fun e => e4 (UInt64.toNat_inj.1 (by rw [show (0 : UInt64).toNat = 0 from rfl]; omega)))
    clear e1 e2 e3 e4
    go_enter Try.func127, Try.ntmps127
    go_wp2
    go_ret
    exact ⟨ret_bool hn.out.symm, b0⟩
/-- what the iterator of pages holds -/
structure PgsAt (w : World) (Ba Bf Bt F : Nat) (v1 v2 : Value) (ga gd gl : Int) (life : UInt64) : Prop where
  area : Blk w Ba (acell v1 v2 ga gd gl life)
  fault : Box w Bf (.pointer (some ⟨F, 0, none⟩))
  there : Box w Bt (.func (.func 127) #[] #[.pointer (some ⟨Ba, 0, none⟩)])
theorem PgsAt.on {w w' : World} {Ba Bf Bt F : Nat} {v1 v2 : Value} {ga gd gl : Int} {life : UInt64} (h : PgsAt w Ba Bf Bt F v1 v2 ga gd gl life) (b : Below w.heap.size w w') : PgsAt w' Ba Bf Bt F v1 v2 ga gd gl life := ⟨h.area.on b, h.fault.on' b, h.there.on' b⟩
theorem pages_any (g gS F : Nat) (ga gd gl : Int) (life : UInt64) (w : World) :
    Calls Try.prog 92 #[av (.pointer (some ⟨g, 0, none⟩)) (.pointer (some ⟨gS, 0, none⟩)) ga gd gl life, .pointer (some ⟨F, 0, none⟩)] w fun e w' => e = .returned (.func (.func 128) #[] #[.pointer (some ⟨w.heap.size, 0, none⟩), .pointer (some ⟨w.heap.size + 1, 0, none⟩), .pointer (some ⟨w.heap.size + 2, 0, none⟩)]) ∧
      PgsAt w' w.heap.size (w.heap.size + 1) (w.heap.size + 2) F (.pointer (some ⟨g, 0, none⟩)) (.pointer (some ⟨gS, 0, none⟩)) ga gd gl life ∧ Below w.heap.size w w' := by
  have hs : ∀ (W : World) (p : Addr) (f : Nat) (cs : Array Value), W.cell? p = some .nilFunc → W.frozen? p = false → Sem.run Try.prog (store p (.func (.func f) #[] cs)) W = .ok () (W.setCell p (.func (.func f) #[] cs)) := by
    intro W p f cs h1 h2
    rw [run_store _ _ _ _ _ rfl, h1]
    simp [h2]
  have c1 := Box.new ((w.alloc (.cells (acell (.pointer (some ⟨g, 0, none⟩)) (.pointer (some ⟨gS, 0, none⟩)) ga gd gl life).toArray 138)).alloc (.cells #[.pointer (some ⟨F, 0, none⟩)] 143)) 167 .nilFunc
  have c2 := c1.cell
  have c3 := c1.free
  simp at c2 c3
  go_enter Try.func92, Try.ntmps92
  go_wp2
  go_ret
  refine ⟨rfl, ⟨?_, ?_, ?_⟩, b3alloc _ _ _ _⟩
  · exact ((Blk.new w (acell (.pointer (some ⟨g, 0, none⟩)) (.pointer (some ⟨gS, 0, none⟩)) ga gd gl life) 138).alloc _).alloc _
  · have := Box.new (w.alloc (.cells (acell (.pointer (some ⟨g, 0, none⟩)) (.pointer (some ⟨gS, 0, none⟩)) ga gd gl life).toArray 138)) 143 (.pointer (some ⟨F, 0, none⟩))
    simp at this
    exact this.alloc _
  · have := Box.new ((w.alloc (.cells (acell (.pointer (some ⟨g, 0, none⟩)) (.pointer (some ⟨gS, 0, none⟩)) ga gd gl life).toArray 138)).alloc (.cells #[.pointer (some ⟨F, 0, none⟩)] 143)) 167 (.func (.func 127) #[] #[.pointer (some ⟨w.heap.size, 0, none⟩)])
    simp at this
    exact this
theorem dec_body_len (ck : Bool) (p : Int) {b : List UInt8} (hb : b.length = 512) : (Sec.decode ck p b).1.body.length ≤ 1000 := by
  unfold Sec.decode
  split
  · simp [X0]
  · split
    · simp [X0]
    · split
      · rename_i x hr
        split
        · unfold Sec.reads at hr
          split at hr
          · rename_i h3
            injection hr with hr
            subst hr
            have := (Sec.right_of h3.2.1).2.2.2.2.2.2
            exact Nat.le_trans this (by omega)
          · cases hr
        · simp [X0]
      · simp [X0]
theorem wrap_up {k : Nat} (h : k ≤ 1000000000) : wrap64 ((k : Int) + 1) = (k : Int) + 1 := by unfold wrap64; omega
theorem range_up (W : Nat → Nat × Bool × List UInt8) (k : Nat) (pre : List It) (x : It) (h : pre.map It.f = (List.range k).map W) (hx : x.f = W k) : (pre ++ [x]).map It.f = (List.range (k + 1)).map W := by
  rw [List.range_succ, List.map_append, List.map_append, h, List.map_cons, List.map_nil, List.map_cons, List.map_nil, hx]
set_option maxHeartbeats 2000000 in
theorem pages2_in (n : Nat) (hn : 1 ≤ n) (lp B Ba Bf Bt F g : Nat) (fp : List Nat) (s : St) (gS bS : Nat) (l : List (List UInt8)) (ga gd gl : Int) (life : UInt64) (N : Nat) (hG : Gb ga gd gl) (hN : (N : Int) = pagesOf ga gd gl) (hl : l.length ≤ 1000000) (hs : s.sz ≤ 90000000) (hd : s.down = false) (hsz : (s.size : Int) = Geom.sizeOf ga gd gl)
    (w : World) (hP : PgsAt w Ba Bf Bt F (.pointer (some ⟨g, 0, none⟩)) (.pointer (some ⟨gS, 0, none⟩)) ga gd gl life) (hB : Both w g fp s gS bS l) (hne : ∀ j ∈ bS :: gS :: fp, j ≠ B) (hneA : Ba ≠ B) (hneT : Bt ≠ B)
    (J Jx : List It → World → Prop)
    (hY : ∀ pre x W, J pre W → It.Ok w.heap.size W x → pre.length < N → YieldAt Fence.wide (n - 1) Try.prog lp x.enc W fun e W' =>
      (e = .returned (.bool true) ∧ J (pre ++ [x]) W' ∧ KpK B w.heap.size W W') ∨ (e = .returned (.bool false) ∧ Jx (pre ++ [x]) W'))
    (W : World) (hW : Below w.heap.size w W) (hJb : ∀ pre (W W' : World), J pre W → Below W.heap.size W W' → J pre W') (h0 : J [] W) :
    CallsIn Fence.wide n Try.prog 128 #[.func (.yield lp) #[] #[], .pointer (some ⟨Ba, 0, none⟩), .pointer (some ⟨Bf, 0, none⟩), .pointer (some ⟨Bt, 0, none⟩)] W fun e W' => (∃ v, e = .returned v) ∧
      ((∃ ys, ys.map It.f = (List.range N).map (want l s ga gd gl life) ∧ J ys W') ∨ (∃ pre, (∃ k, k ≤ N ∧ pre.map It.f = (List.range k).map (want l s ga gd gl life)) ∧ Jx pre W')) := by
  have HP := Lib.hid (fun W => Geom.pages_any ga gd gl W hG.a0 hG.a1 hG.d0 hG.d1 hG.g0 hG.g1)
  rw [← hN] at HP
  have hall : ∀ j ∈ bS :: gS :: fp, j < w.heap.size ∧ j ≠ B := by
    intro j hj
    refine ⟨?_, hne j hj⟩
    rcases List.mem_cons.1 hj with e | e
    · rw [e]; exact hB.sym.lt.2
    rcases List.mem_cons.1 e with e | e
    · rw [e]; exact hB.sym.lt.1
    · exact hB.disk.lt _ e
  have hPA := hP.area
  have hPT := hP.there
  have hLA := hPA.lt
  have hLT := hPT.lt
  have facts : ∀ X, KpK B w.heap.size w X → Blk X Ba (acell (.pointer (some ⟨g, 0, none⟩)) (.pointer (some ⟨gS, 0, none⟩)) ga gd gl life) ∧ Box X Bt (.func (.func 127) #[] #[.pointer (some ⟨Ba, 0, none⟩)]) ∧ Both X g fp s gS bS l := fun X k => ⟨hPA.kpk k hLA hneA, hPT.kpk k hLT hneT, hB.kpk k hall⟩
  have HF := Lib.hid facts
  have hAr := Lib.hid (fun (k : Nat) (hk : k < N) W => Geom.area_any ga gd gl life _ (by rfl) (k : Int) W hG.a0 hG.a1 hG.d0 hG.d1 hG.g0 hG.g1 (show Geom.lo ≤ (k : Int) by unfold Geom.lo; omega) (show (k : Int) ≤ Geom.hi by unfold Geom.hi; have := pagesOf_bd ga gd gl; omega))
  have har := Lib.hid (fun (k : Nat) (hk : k < N) => area_ok (ga := ga) (gd := gd) (gl := gl) (life := life) (k := k) (by omega))
  have hW0 : KpK B w.heap.size w W := KpK.of_below hW (Nat.le_refl _)
  obtain ⟨hA0, _, _⟩ := facts W hW0
  obtain ⟨z0, z1, z2, z3, z4, z5⟩ := six6 hA0
  have HS := Lib.hid (And.intro hsz hd)
  have hN85 : N ≤ 85 := by have := pagesOf_bd ga gd gl; omega
  have HN := Lib.hid hN
  clear facts hall hPA hPT hLA hLT hW hP hB hsz hN hA0
  refine callsIn_of_wp Try.func128 rfl trivial ?_ rfl
  simp only [Try.ntmps128, List.size_toArray, List.length_cons, List.length_nil, Nat.reduceAdd, Nat.reduceSub, Array.replicate_succ, Array.replicate_zero, List.push_toArray, List.append_toArray, List.nil_append, List.cons_append]
  gi_wp2_with fail
  refine ⟨trivial, (callsIn_wide.2 (HP.out _)).mono ?_⟩
  rintro e1 w1 ⟨rfl, b1⟩
  have k1 := hW0.trans (KpK.of_below b1 hW0.size)
  have h1 := hJb _ _ _ h0 b1
  clear z0 z1 z2 z3 z4 z5 h0
  gi_wp2_with fail
  gi_loopw [14] (fun i wr => ∃ k : Nat, k ≤ N ∧ i = .int .i64 (k : Int) ∧ KpK B w.heap.size w wr ∧ ∃ pre : List It, Hid (pre.map It.f = (List.range k).map (want l s ga gd gl life)) ∧ J pre wr) (fun i _ => N - (intOf i).toNat)
  case atStart => exact ⟨0, by omega, rfl, k1, [], Lib.hid rfl, h1⟩
  case round =>
    obtain ⟨k, hk, rfl, kp, pre, hpre, hJ⟩ := hrel
    clear h1 k1
    have hwk := wrap_up (k := k) (by omega)
    obtain ⟨hA, hT, hBo⟩ := HF.out wr kp
    by_cases hlt : k < N
    · have hp0 := (har.out k hlt).1
      have hp1 := (har.out k hlt).2.1
      have hp2 := (har.out k hlt).2.2
      have hArk := hAr.out k hlt
      have hri : rdAt l s ga gd gl life k = Sec.decode (ckS l (Disk.read s (areaAt ga gd gl life.toNat k)).1) (areaAt ga gd gl life.toNat k) (Disk.read s (areaAt ga gd gl life.toNat k)).1 := rfl
      have hpg : isPg l s ga gd gl life k = (decide ((rdAt l s ga gd gl life k).2 = 0) && isX life k (rdAt l s ga gd gl life k).1) := rfl
      have hwt : want l s ga gd gl life k = (k, isPg l s ga gd gl life k, (rdAt l s ga gd gl life k).1.body) := rfl
      obtain ⟨p, hp⟩ : ∃ p, p = areaAt ga gd gl life.toNat k := ⟨_, rfl⟩
      rw [← hp] at hArk hp0 hp1 hp2 hri
      have hrd : (Disk.read s p).2 = 0 := by unfold Disk.read; rw [if_neg (by rw [HS.out.2]; simp), if_neg (by have := HS.out.1; omega)]
      have hbl : (Disk.read s p).1.length = 512 := by unfold Disk.read; rw [if_neg (by rw [HS.out.2]; simp), if_neg (by have := HS.out.1; omega)]; exact Disk.kept_len (n := s.size) (fun x hx => (List.mem_append.1 hx).elim (hBo.disk.ok.all x) (hBo.disk.ok.pend x)) _
      have hR := fun W (h : DAt W g fp s) => read_any g fp s p W h (by omega)
      obtain ⟨r, hr⟩ : ∃ r, r = Disk.read s p := ⟨_, rfl⟩
      rw [← hr] at hR hbl hri hrd
      obtain ⟨b, f⟩ := r
      simp only at hrd hbl hri
      subst hrd
      have hD := fun W (hS : SymAt W gS bS l) A c hr hc hcm => decode_sym p gS bS l A b b.length c W hS hl (by omega) (by omega) rfl hr (by omega) hc hcm
      rw [← hri] at hD
      have hlen : (rdAt l s ga gd gl life k).1.body.length ≤ 1000 := by rw [hri]; exact dec_body_len _ _ hbl
      obtain ⟨d, hd'⟩ : ∃ d, d = rdAt l s ga gd gl life k := ⟨_, rfl⟩
      rw [← hd'] at hD hpg hwt hlen
      have HArk := Lib.hid hArk
      have HR := Lib.hid hR
      have HD := Lib.hid hD
      have Hwt := Lib.hid hwt
      have Hlen := Lib.hid hlen
      clear hArk hR hD hwt hp hr hbl hri hd' hp0 hp1 hp2 hlen
      obtain ⟨z0, z1, z2, z3, z4, z5⟩ := six6 hA
      gi_wp2_with fail
      refine ⟨trivial, (callsIn_wide.2 (HArk.out _)).mono ?_⟩
      rintro e2 w2 ⟨rfl, b2⟩
      have k2 := kp.trans (KpK.of_below b2 kp.size)
      obtain ⟨hA2, hT2, hBo2⟩ := HF.out w2 k2
      clear z0 z1 z2 z3 z4 z5
      obtain ⟨z0, z1, z2, z3, z4, z5⟩ := six6 hA2
      gi_wp2_with fail
      refine ⟨trivial, (callsIn_wide.2 (HR.out _ hBo2.disk)).mono ?_⟩
      rintro e3 w3 ⟨v, rfl, hN3, b3⟩
      obtain ⟨A1, c1, rfl, hc1, hm1, rd1⟩ := hN3.rdN (fp := []) (by simp)
      have k3 := k2.trans (KpK.of_below b3 k2.size)
      obtain ⟨hA3, hT3, hBo3⟩ := HF.out w3 k3
      clear z0 z1 z2 z3 z4 z5
      obtain ⟨z0, z1, z2, z3, z4, z5⟩ := six6 hA3
      gi_wp2_with fail
      refine ⟨trivial, (callsIn_wide.2 (HD.out _ hBo3.sym A1 c1 rd1.rd hc1 hm1)).mono ?_⟩
      rintro e4 w4 ⟨⟨A4, c4, rfl, own4⟩, b4⟩
      unfold xv
      have k4 := k3.trans (KpK.of_below b4 k3.size)
      clear z0 z1 z2 z3 z4 z5
      have Own4 := Lib.hid own4
      clear own4
      have t0 : True := trivial
      cases hd0 : decide (d.2 = 0) with
      | true =>
        have e0 := beq_yes (of_decide_eq_true hd0)
        rw [hd0, Bool.true_and] at hpg
        have Hpg := Lib.hid hpg
        clear hpg hd0
        gi_wp2_with fail
        have hx5 := Blk.new w4 [.int .i64 d.1.kind, .int .u64 (d.1.life.toNat : Int), .int .i64 d.1.seq, .int .u64 (d.1.gen.toNat : Int), .slice A4 d.1.body.length c4] 43
        have b5 := b1alloc w4 (.cells ([.int .i64 d.1.kind, .int .u64 (d.1.life.toNat : Int), .int .i64 d.1.seq, .int .u64 (d.1.gen.toNat : Int), .slice A4 d.1.body.length c4] : List Value).toArray 43)
        obtain ⟨w5, hw5⟩ : ∃ q, q = w4.alloc (.cells ([.int .i64 d.1.kind, .int .u64 (d.1.life.toNat : Int), .int .i64 d.1.seq, .int .u64 (d.1.gen.toNat : Int), .slice A4 d.1.body.length c4] : List Value).toArray 43) := ⟨_, rfl⟩
        rw [← hw5] at hx5 b5
        have e5 : (w4.alloc (.cells #[.int .i64 d.1.kind, .int .u64 (d.1.life.toNat : Int), .int .i64 d.1.seq, .int .u64 (d.1.gen.toNat : Int), .slice A4 d.1.body.length c4] 43)) = w5 := hw5.symm
        rw [e5]
        have k5 := k4.trans (KpK.of_below b5 k4.size)
        obtain ⟨hA5, hT5, _⟩ := HF.out w5 k5
        have hT5c := hT5.cell
        have hlx := hx5.lt
        have hlT := hT5.lt
        obtain ⟨x0, x1, x2, x3, x4⟩ := five5x hx5
        have J5 := hJb _ _ _ hJ (bt (bt (bt b2 b3) b4) b5)
        have hmf : ∀ (x : Array Value) (w : World), Sem.run Try.prog (callFunc 127 x) w = .ok (.enter 127 x) w := by intro x w; simp [go_sem]
        clear hw5 e5 hx5
        refine region_inb_tail_wide 13 (by kernel_rfl) (by kernel_rfl) (by kernel_rfl) ?_
        simp only [List.take_succ_cons, List.take_zero, List.drop_succ_cons, List.drop_zero]
        have inbNe := InB.some
        have inbW := @wrap_small
        have inbU := IntKind.wrap_u8'
        repeat (refine wpQuiet_step (fun K hK => ?_); go_simp; first | (refine hK _ ?_; clear hK K) | (apply Exists.intro; refine ⟨?_, hK _ ?_⟩; (· (intro w' hw'; first | (go_at_call 127; refine (there_any d.1 A4 c4 k Ba _ _ ga gd gl life _ (hA5.on hw'.below)).mono ?_; rintro e w6 ⟨rfl, b6⟩; exact ⟨rfl, hw'.on b6⟩) | (have hcw := hw'.cell; go_simp; exact rfl))); clear hK K))
        refine wpQuiet_nil ?_
        intro wq hq
        clear inbNe inbW inbU
        have J6 := hJb _ _ _ J5 hq.below
        have own6 := own_on (own_on Own4.out b5) hq.below
        have ok6 : It.Ok w.heap.size wq ⟨k, A4, c4, d.1.body, isX life k d.1⟩ := ⟨own_base own6 k3.size, Hlen.out⟩
        obtain ⟨fn, tmps, assign, body, hy, hRr⟩ := hY pre ⟨k, A4, c4, d.1.body, isX life k d.1⟩ wq J6 ok6 (by have := congrArg List.length hpre.out; simp at this; omega)
        unfold It.enc at hy
        simp only at hy
        clear ok6 J6 own6
        gi_wp2_with fail
        refine hRr.mono ?_
        rintro e7 w7 (⟨rfl, hJ7, hk7⟩ | ⟨rfl, hJx7⟩)
        · gi_wp2_with fail
          go_roundw
          case rel => exact ⟨k + 1, by omega, by go_num, (k5.trans (KpK.of_below hq.below k5.size)).trans hk7, _, Lib.hid (range_up _ k pre _ hpre.out (by rw [Hwt.out, Hpg.out]; rfl)), hJ7⟩
          case measure => simp only [intOf]; omega
        · gi_wp2_with fail
          refine bodyPost_ret (results_none rfl _ _ _) rfl ?_
          exact ⟨⟨_, rfl⟩, .inr ⟨_, ⟨k + 1, by omega, range_up _ k pre _ hpre.out (by rw [Hwt.out, Hpg.out]; rfl)⟩, hJx7⟩⟩
      | false =>
        have e0 := beq_no (of_decide_eq_false hd0)
        rw [hd0, Bool.false_and] at hpg
        have Hpg := Lib.hid hpg
        clear hpg hd0
        gi_wp2_with fail
        have hx5 := Blk.new w4 [.int .i64 d.1.kind, .int .u64 (d.1.life.toNat : Int), .int .i64 d.1.seq, .int .u64 (d.1.gen.toNat : Int), .slice A4 d.1.body.length c4] 43
        have b5 := b1alloc w4 (.cells ([.int .i64 d.1.kind, .int .u64 (d.1.life.toNat : Int), .int .i64 d.1.seq, .int .u64 (d.1.gen.toNat : Int), .slice A4 d.1.body.length c4] : List Value).toArray 43)
        obtain ⟨w5, hw5⟩ : ∃ q, q = w4.alloc (.cells ([.int .i64 d.1.kind, .int .u64 (d.1.life.toNat : Int), .int .i64 d.1.seq, .int .u64 (d.1.gen.toNat : Int), .slice A4 d.1.body.length c4] : List Value).toArray 43) := ⟨_, rfl⟩
        rw [← hw5] at hx5 b5
        have e5 : (w4.alloc (.cells #[.int .i64 d.1.kind, .int .u64 (d.1.life.toNat : Int), .int .i64 d.1.seq, .int .u64 (d.1.gen.toNat : Int), .slice A4 d.1.body.length c4] 43)) = w5 := hw5.symm
        rw [e5]
        have k5 := k4.trans (KpK.of_below b5 k4.size)
        obtain ⟨hA5, hT5, _⟩ := HF.out w5 k5
        have hT5c := hT5.cell
        have hlx := hx5.lt
        have hlT := hT5.lt
        obtain ⟨x0, x1, x2, x3, x4⟩ := five5x hx5
        have J5 := hJb _ _ _ hJ (bt (bt (bt b2 b3) b4) b5)
        have hmf : ∀ (x : Array Value) (w : World), Sem.run Try.prog (callFunc 127 x) w = .ok (.enter 127 x) w := by intro x w; simp [go_sem]
        clear hw5 e5 hx5
        refine region_inb_tail_wide 13 (by kernel_rfl) (by kernel_rfl) (by kernel_rfl) ?_
        simp only [List.take_succ_cons, List.take_zero, List.drop_succ_cons, List.drop_zero]
        have inbNe := InB.some
        have inbW := @wrap_small
        have inbU := IntKind.wrap_u8'
        repeat (refine wpQuiet_step (fun K hK => ?_); go_simp; first | (refine hK _ ?_; clear hK K) | (apply Exists.intro; refine ⟨?_, hK _ ?_⟩; (· (intro w' hw'; first | (have hcw := hw'.cell; go_simp; exact rfl))); clear hK K))
        refine wpQuiet_nil ?_
        intro wq hq
        clear inbNe inbW inbU
        have J6 := hJb _ _ _ J5 hq.below
        have own6 := own_on (own_on Own4.out b5) hq.below
        have ok6 : It.Ok w.heap.size wq ⟨k, A4, c4, d.1.body, false⟩ := ⟨own_base own6 k3.size, Hlen.out⟩
        obtain ⟨fn, tmps, assign, body, hy, hRr⟩ := hY pre ⟨k, A4, c4, d.1.body, false⟩ wq J6 ok6 (by have := congrArg List.length hpre.out; simp at this; omega)
        unfold It.enc at hy
        simp only at hy
        clear ok6 J6 own6
        gi_wp2_with fail
        refine hRr.mono ?_
        rintro e7 w7 (⟨rfl, hJ7, hk7⟩ | ⟨rfl, hJx7⟩)
        · gi_wp2_with fail
          go_roundw
          case rel => exact ⟨k + 1, by omega, by go_num, (k5.trans (KpK.of_below hq.below k5.size)).trans hk7, _, Lib.hid (range_up _ k pre _ hpre.out (by rw [Hwt.out, Hpg.out]; rfl)), hJ7⟩
          case measure => simp only [intOf]; omega
        · gi_wp2_with fail
          refine bodyPost_ret (results_none rfl _ _ _) rfl ?_
          exact ⟨⟨_, rfl⟩, .inr ⟨_, ⟨k + 1, by omega, range_up _ k pre _ hpre.out (by rw [Hwt.out, Hpg.out]; rfl)⟩, hJx7⟩⟩
    · have hkN : k = N := by omega
      have Hk := Lib.hid hkN
      have hkn : ¬ (k : Int) < (N : Int) := by omega
      clear hkN
      gi_wp2
      go_end0
      exact ⟨⟨_, rfl⟩, .inl ⟨pre, by rw [← Hk.out]; exact hpre.out, hJ⟩⟩
theorem pages2_ok (n : Nat) (hn : 1 ≤ n) (B Ba Bf Bt F g : Nat) (fp : List Nat) (s : St) (gS bS : Nat) (l : List (List UInt8)) (ga gd gl : Int) (life : UInt64) (N : Nat) (hG : Gb ga gd gl) (hN : (N : Int) = pagesOf ga gd gl) (hl : l.length ≤ 1000000) (hs : s.sz ≤ 90000000) (hd : s.down = false) (hsz : (s.size : Int) = Geom.sizeOf ga gd gl)
    (w : World) (hP : PgsAt w Ba Bf Bt F (.pointer (some ⟨g, 0, none⟩)) (.pointer (some ⟨gS, 0, none⟩)) ga gd gl life) (hB : Both w g fp s gS bS l) (hne : ∀ j ∈ bS :: gS :: fp, j ≠ B) (hneA : Ba ≠ B) (hneT : Bt ≠ B) :
    SeqOk n Try.prog 128 #[.pointer (some ⟨Ba, 0, none⟩), .pointer (some ⟨Bf, 0, none⟩), .pointer (some ⟨Bt, 0, none⟩)] It.enc (It.Ok w.heap.size) (KpK B w.heap.size) (fun ys => ys.map It.f = (List.range N).map (want l s ga gd gl life))
      (fun pre => ∃ k, k ≤ N ∧ pre.map It.f = (List.range k).map (want l s ga gd gl life)) N w := fun lp J Jx W hW hJ hJx hY h0 =>
  pages2_in n hn lp B Ba Bf Bt F g fp s gS bS l ga gd gl life N hG hN hl hs hd hsz w hP hB hne hneA hneT J Jx hY W hW (fun pre W W' h b => hJ pre W W' none h (below_grown b none) (fun r e => by cases e)) h0
end Go.Proofs.Ytmpmibcdpkolkaa.Snap

/- The log: the iterator of a life's sectors. -/
namespace Go.Proofs.Ytmpmibcdpkolkaa.Wal
open Go.RowKit
open Go.Proofs.Ytmpmibcdpkolkaa.Geom
open Go.Proofs.Ytmpmibcdpkolkaa.Disk (St read)
open Go.Proofs.Ytmpmibcdpkolkaa.Sec (X)
set_option linter.unusedVariables false
set_option maxRecDepth 100000
/-- what the iterator of sectors holds -/
structure SecsAt (w : World) (Br Bf F : Nat) (v1 v2 : Value) (ga gd gl : Int) (life : UInt64) (base : Int) : Prop where
  ring : Blk w Br (rcell v1 v2 ga gd gl life base)
  fault : Box w Bf (.pointer (some ⟨F, 0, none⟩))
theorem SecsAt.on {w w' : World} {Br Bf F : Nat} {v1 v2 : Value} {ga gd gl : Int} {life : UInt64} {base : Int} (h : SecsAt w Br Bf F v1 v2 ga gd gl life base) (b : Below w.heap.size w w') : SecsAt w' Br Bf F v1 v2 ga gd gl life base := ⟨h.ring.on b, h.fault.on' b⟩
theorem sectors_any (g gS F : Nat) (ga gd gl : Int) (life : UInt64) (base : Int) (w : World) :
    Calls Try.prog 101 #[rv (.pointer (some ⟨g, 0, none⟩)) (.pointer (some ⟨gS, 0, none⟩)) ga gd gl life base, .pointer (some ⟨F, 0, none⟩)] w fun e w' => e = .returned (.func (.func 131) #[] #[.pointer (some ⟨w.heap.size, 0, none⟩), .pointer (some ⟨w.heap.size + 1, 0, none⟩)]) ∧
      SecsAt w' w.heap.size (w.heap.size + 1) F (.pointer (some ⟨g, 0, none⟩)) (.pointer (some ⟨gS, 0, none⟩)) ga gd gl life base ∧ Below w.heap.size w w' := by
  go_enter Try.func101, Try.ntmps101
  go_wp2
  go_ret
  refine ⟨rfl, ⟨?_, ?_⟩, b2alloc _ _ _⟩
  · exact (Blk.new w (rcell (.pointer (some ⟨g, 0, none⟩)) (.pointer (some ⟨gS, 0, none⟩)) ga gd gl life base) 160).alloc _
  · have := Box.new (w.alloc (.cells (rcell (.pointer (some ⟨g, 0, none⟩)) (.pointer (some ⟨gS, 0, none⟩)) ga gd gl life base).toArray 160)) 143 (.pointer (some ⟨F, 0, none⟩))
    simp at this
    exact this
end Go.Proofs.Ytmpmibcdpkolkaa.Wal

/- The pages of a life: snap.Read and Bad, and what they come to. -/
namespace Go.Proofs.Ytmpmibcdpkolkaa
open Go.RowKit
set_option linter.unusedVariables false
theorem ownU {W W' : World} {base : Nat} {e : TypeId} {n : Nat} {v : Value} {xs : List Value} (h : W.ownsRow base e 1 v n xs) (hk : ∀ (j : Nat) (cs : Array Value), W.heap[j]? = some (Obj.cells cs e (0, 0)) → W'.heap[j]? = W.heap[j]?) : W'.ownsRow base e 1 v n xs := by
  refine ⟨h.1, ?_⟩
  rcases h.2 with h | ⟨g, cap, cur, rfl, hg, hh, r⟩
  · exact .inl h
  · exact .inr ⟨g, cap, cur, rfl, hg, (hk g cur hh).trans hh, r⟩
/-- what is added to a slice in a variable's box, as one step -/
theorem box_app {W Wq w1 : World} {n0 B : Nat} {t e : TypeId} {v v' : Value} {k m : Nat} {xs ys : List Value}
    (hv : Boxed W B t v) (hte : t ≠ e) (hrow : W.ownsRow n0 e 1 v k xs) (hn0 : n0 ≤ W.heap.size) (hb : B < n0) (bq : Below W.heap.size W Wq)
    (hown : w1.ownsRow n0 e 1 v' m ys) (hg : Wq.grownBy w1 v.ownBlock) :
    Boxed w1 B t v ∧ Boxed (w1.setCell ⟨B, 0, none⟩ v') B t v' ∧ (w1.setCell ⟨B, 0, none⟩ v').ownsRow n0 e 1 v' m ys ∧ KeepsOthers W (w1.setCell ⟨B, 0, none⟩ v') ∧ KpK B n0 W (w1.setCell ⟨B, 0, none⟩ v') ∧
      (∀ n1, n1 ≤ B → Below n1 W (w1.setCell ⟨B, 0, none⟩ v')) ∧ ∀ u, u ≠ t → u ≠ e → ∀ (j : Nat) (cs : Array Value), W.heap[j]? = some (Obj.cells cs u (0, 0)) → (w1.setCell ⟨B, 0, none⟩ v').heap[j]? = W.heap[j]? := by
  have hvq : Boxed Wq B t v := (bq.block B hv.lt).trans hv
  have hrowq : Wq.ownsRow n0 e 1 v k xs := own_on hrow bq
  have hv1 : Boxed w1 B t v := hvq.kept hg (hvq.not_row hte hrowq)
  have hob : ∀ g, v.ownBlock = some g → n0 ≤ g := fun g hg => own_block hrow hg
  have hs := grownBy_setCell' w1 B v'
  have hsz := bq.size
  refine ⟨hv1, hv1.set v', hown.kept hs (.inr (hv1.not_row hte hown).symm), ?_, ?_, ?_, ?_⟩
  · refine (Ch.keeps_below bq).trans ((KeepsOthers.of_grownBy hg fun j o ej hj => ?_).trans (KeepsOthers.setCell _ _ _))
    rcases hrowq.2 with ⟨rfl, _⟩ | ⟨g, cap, cur, rfl, _, hgb, _⟩
    · simp [Value.ownBlock] at ej
    · obtain rfl : g = j := by simpa [Value.ownBlock] using ej
      rw [hgb] at hj; cases hj; rfl
  · refine (show KpK B n0 W w1 from ⟨hg.os.trans bq.os, hg.tape.trans bq.tape, hg.output.trans bq.output, Nat.le_trans hsz hg.size, fun j hj hn => ?_⟩).set v'
    rw [hg.block j (by omega) (fun e => by have := hob j e.symm; omega), bq.block j (by omega)]
  · intro n1 hn1
    have b1 : Below n1 W Wq := bq.mono (by omega)
    have b3 := b1.grown hg (by omega) (fun g hg => by have := hob g hg; omega)
    exact b3.setCell (p := ⟨B, 0, none⟩) hn1 v'
  · intro u hut hue j cs hj
    have hjl : j < W.heap.size := lt_of_block hj
    have hjB : j ≠ B := fun e => by
      subst e
      have := hv
      unfold Boxed at this
      rw [hj] at this; injection this with this; injection this with _ h2 _; exact hut h2
    have hjv : some j ≠ v.ownBlock := fun e => by
      rcases hrow.2 with ⟨rfl, _⟩ | ⟨g, cap, cur, rfl, _, hgb, _⟩
      · simp [Value.ownBlock] at e
      · obtain rfl : g = j := by simpa [Value.ownBlock] using e.symm
        rw [hj] at hgb; injection hgb with h1; injection h1 with _ h2 _; exact hue h2
    rw [Below.heap_setCell w1 ⟨B, 0, none⟩ v' j hjB, hg.block j (by omega) hjv, bq.block j hjl]
theorem kpK_grown {B n : Nat} {w W W' : World} {row : Option Nat} (h : KpK B n w W) (hg : W.grownBy W' row) (hr : ∀ r, row = some r → n ≤ r) (hn : n ≤ w.heap.size) : KpK B n w W' :=
  ⟨hg.os.trans h.1, hg.tape.trans h.2.1, hg.output.trans h.2.2.1, Nat.le_trans h.size hg.size, fun j hj hB => (hg.block j (by have := h.size; omega) (fun e => by have := hr j e.symm; omega)).trans (h.block hj hB)⟩
end Go.Proofs.Ytmpmibcdpkolkaa
namespace Go.Proofs.Ytmpmibcdpkolkaa.Snap
open Go.RowKit Go.Shelf
open Go.Proofs.Ytmpmibcdpkolkaa.Geom
open Go.Proofs.Ytmpmibcdpkolkaa.Ch (SeqOk range_ok)
open Go.Proofs.Ytmpmibcdpkolkaa.Sup (Gb gv gcell srightF gthree)
open Go.Proofs.Ytmpmibcdpkolkaa.Disk (St DAt Did New8 Told8 read_any)
open Go.Proofs.Ytmpmibcdpkolkaa.Sec (X SymAt text sumOf sumAfter ckS blankB rightF encode_sym decode_sym right_0 right_2 xv RetX X0 five5x)
attribute [local go_sem] Oper.semAt_some
set_option linter.unusedVariables false
set_option maxRecDepth 100000
theorem It.Ok.keepU {n0 : Nat} {W W' : World} {x : It} (h : It.Ok n0 W x) (hk : ∀ (j : Nat) (cs : Array Value), W.heap[j]? = some (Obj.cells cs 5 (0, 0)) → W'.heap[j]? = W.heap[j]?) : It.Ok n0 W' x := ⟨ownU h.1 hk, h.2⟩
theorem It.Ok.grown {n0 : Nat} {W W' : World} {x : It} {row : Option Nat} (h : It.Ok n0 W x) (hg : W.grownBy W' row) (hr : ∀ r, row = some r → ∃ o : Obj, W.heap[r]? = some o ∧ o.isCells = false) : It.Ok n0 W' x :=
  h.keepU fun j cs hj => hg.block j (lt_of_block hj) fun e => by
    obtain ⟨o, ho, hc⟩ := hr j e.symm
    rw [hj] at ho; cases ho; cases hc
theorem It.Ok.on {n0 : Nat} {W W' : World} {x : It} (h : It.Ok n0 W x) (b : Below W.heap.size W W') : It.Ok n0 W' x := h.keepU fun j cs hj => b.block j (lt_of_block hj)
def It.sl (x : It) : Value := .slice x.A x.body.length x.c
def allPg (l : List (List UInt8)) (s : St) (ga gd gl : Int) (life : UInt64) (N : Nat) : Bool := (List.range N).all (isPg l s ga gd gl life)
def bodies (l : List (List UInt8)) (s : St) (ga gd gl : Int) (life : UInt64) (N : Nat) : List (List UInt8) := (List.range N).map fun k => (rdAt l s ga gd gl life k).1.body
theorem bodies_len (l : List (List UInt8)) (s : St) (ga gd gl : Int) (life : UInt64) (N : Nat) : (bodies l s ga gd gl life N).length = N := by simp [bodies]
/-- the pages, if all are there -/
def snapR (l : List (List UInt8)) (s : St) (ga gd gl : Int) (life : UInt64) (N : Nat) : Option (List (List UInt8)) := if allPg l s ga gd gl life N = true then some (bodies l s ga gd gl life N) else none
/-- rows of bytes of the call's own -/
def OwnRows (w : World) (base : Nat) (v : Value) (l : List (List UInt8)) : Prop := ∃ its : List It, w.ownsRow base 37 1 v its.length (its.map It.sl) ∧ its.map It.body = l ∧ ∀ x ∈ its, It.Ok base w x
def RetRows (w : World) (o : Option (List (List UInt8))) (e : Ending) (w' : World) : Prop :=
  match o with
  | none => e = .returned (.tuple #[.slice none 0 0, .int .i64 11])
  | some l => ∃ A c, e = .returned (.tuple #[.slice A l.length c, .int .i64 0]) ∧ OwnRows w' w.heap.size (.slice A l.length c) l
theorem all_want {l : List (List UInt8)} {s : St} {ga gd gl : Int} {life : UInt64} {N : Nat} {xs : List It} (h : xs.map It.f = (List.range N).map (want l s ga gd gl life)) (ha : ∀ x ∈ xs, x.is = true) :
    xs.length = N ∧ snapR l s ga gd gl life N = some (xs.map It.body) := by
  have hl : xs.length = N := by simpa using congrArg List.length h
  have hk : ∀ k (hk : k < N), isPg l s ga gd gl life k = true ∧ (rdAt l s ga gd gl life k).1.body = (xs[k]'(by omega)).body := by
    intro k hk
    have h1 : (xs.map It.f)[k]? = ((List.range N).map (want l s ga gd gl life))[k]? := by rw [h]
    rw [List.getElem?_map, List.getElem?_map, List.getElem?_eq_getElem (by omega), List.getElem?_range hk] at h1
    simp only [Option.map_some, Option.some.injEq] at h1
    unfold It.f want at h1
    injection h1 with h1 h2
    injection h2 with h2 h3
    exact ⟨by rw [← h2]; exact ha _ (List.getElem_mem _), h3.symm⟩
  refine ⟨hl, ?_⟩
  unfold snapR
  rw [if_pos (by unfold allPg; rw [List.all_eq_true]; intro k hkm; exact (hk k (List.mem_range.1 hkm)).1)]
  congr 1
  unfold bodies
  apply List.ext_getElem
  · simp [hl]
  · intro i h1 h2
    simp only [List.getElem_map, List.getElem_range]
    exact (hk i (by simpa using h1)).2
theorem not_want {l : List (List UInt8)} {s : St} {ga gd gl : Int} {life : UInt64} {N k : Nat} {pre : List It} {x : It} (hk : k ≤ N) (h : (pre ++ [x]).map It.f = (List.range k).map (want l s ga gd gl life)) (hx : x.is = false) :
    snapR l s ga gd gl life N = none := by
  have hl : pre.length + 1 = k := by simpa using congrArg List.length h
  have h1 : ((pre ++ [x]).map It.f)[pre.length]? = ((List.range k).map (want l s ga gd gl life))[pre.length]? := by rw [h]
  rw [List.getElem?_map, List.getElem?_map, List.getElem?_append_right (Nat.le_refl _), List.getElem?_range (by omega)] at h1
  simp only [Nat.sub_self, List.getElem?_cons_zero, Option.map_some, Option.some.injEq] at h1
  unfold It.f want at h1
  injection h1 with h1 h2
  injection h2 with h2 h3
  unfold snapR
  rw [if_neg]
  intro hc
  unfold allPg at hc
  rw [List.all_eq_true] at hc
  have := hc pre.length (List.mem_range.2 (by omega))
  rw [← h2, hx] at this
  cases this
/-- between two rounds of Read -/
def RInv (w w4 : World) (pre : List It) (X : World) : Prop := ((∃ v, Boxed X (w.heap.size + 1) 55 v ∧ X.ownsRow w4.heap.size 37 1 v pre.length (pre.map It.sl) ∧ True) ∧ Boxed X (w.heap.size + 1 + 1) 28 (.int .i64 0) ∧ KpK (w.heap.size + 1) w4.heap.size w4 X ∧ Below w.heap.size w X) ∧ ∀ x ∈ pre, It.Ok w4.heap.size X x ∧ x.is = true
theorem RInv.own {w w4 : World} (h1 : w.heap.size + 1 + 1 < w4.heap.size) : OwnFrom w4.heap.size (RInv w w4) := by
  intro pre X X' row hI hg hr
  refine ⟨⟨holdsRow_own w4.heap.size (w.heap.size + 1) 55 37 1 (fun pre : List It => pre.length) (fun pre => pre.map It.sl) (fun _ _ => True) pre X X' row hI.1.1 hg (fun g e => (hr g e).2), ?_, kpK_grown hI.1.2.2.1 hg (fun r e => (hr r e).1) (Nat.le_refl _), hI.1.2.2.2.grown hg (by have := hI.1.2.2.2.size; omega) (fun r e => by have := (hr r e).1; omega)⟩, fun x hx => ⟨(hI.2 x hx).1.grown hg (fun r e => (hr r e).2), (hI.2 x hx).2⟩⟩
  exact hI.1.2.1.kept hg (fun e => by have := (hr _ e.symm).1; omega)
set_option maxHeartbeats 2000000 in
theorem read_any (g : Nat) (fp : List Nat) (s : St) (gS bS : Nat) (l : List (List UInt8)) (ga gd gl : Int) (life : UInt64) (w : World) (hG : Gb ga gd gl) (h : Both w g fp s gS bS l) (hl : l.length ≤ 1000000) (hs : s.sz ≤ 90000000) (hf : srightF s ga gd gl = 0) (hd : s.down = false) (N : Nat) (hN : (N : Int) = pagesOf ga gd gl) :
    Calls Try.prog 37 #[.pointer (some ⟨g, 0, none⟩), .pointer (some ⟨gS, 0, none⟩), gv ga gd gl, .int .u64 (life.toNat : Int)] w fun e w' => RetRows w (snapR l s ga gd gl life N) e w' ∧ Below w.heap.size w w' := by
  have FG := Blk.new w (gcell ga gd gl) 23
  obtain ⟨z0, z1, z2⟩ := gthree FG
  have HR := Lib.hid (fun W (bW : Below w.heap.size w W) => right_any g fp s gS ga gd gl life W hG (h.disk.on bW))
  rw [hf] at HR
  have hsz : (s.size : Int) = Geom.sizeOf ga gd gl := by
    unfold srightF at hf
    split at hf
    · rename_i h; exact h.2
    · cases hf
  refine (callsIn_wide (n := 8)).1 ?_
  refine callsIn_of_wp_marks Try.func37 rfl trivial ?_ rfl
  simp only [Try.ntmps37, List.size_toArray, List.length_cons, List.length_nil, Nat.reduceAdd, Nat.reduceSub, Array.replicate_succ, Array.replicate_zero, List.push_toArray, List.append_toArray, List.nil_append, List.cons_append]
  gi_wp2_with fail
  have hb3 : ∃ w0, w0 = (((w.alloc (.cells (gcell ga gd gl).toArray 23)).alloc (.cells #[.slice none 0 0] 55)).alloc (.cells #[.int .i64 0] 28)).alloc (.cells (acell (.pointer (some ⟨g, 0, none⟩)) (.pointer (some ⟨gS, 0, none⟩)) ga gd gl life).toArray 138) := ⟨_, rfl⟩
  obtain ⟨w0, hw0⟩ := hb3
  have bx8 : Boxed w0 (w.heap.size + 1) 55 (.slice none 0 0) := by
    have := Boxed.new (w.alloc (.cells (gcell ga gd gl).toArray 23)) 55 (.slice none 0 0)
    simp at this
    rw [hw0]
    exact (Below.heap_alloc _ _ _ (by simp)).trans ((Below.heap_alloc _ _ _ (by simp)).trans this)
  have bx9 : Boxed w0 (w.heap.size + 1 + 1) 28 (.int .i64 0) := by
    have := Boxed.new ((w.alloc (.cells (gcell ga gd gl).toArray 23)).alloc (.cells #[.slice none 0 0] 55)) 28 (.int .i64 0)
    simp at this
    rw [hw0]
    exact (Below.heap_alloc _ _ _ (by simp)).trans this
  have ba : Blk w0 (w.heap.size + 1 + 1 + 1) (acell (.pointer (some ⟨g, 0, none⟩)) (.pointer (some ⟨gS, 0, none⟩)) ga gd gl life) := by
    rw [hw0]
    have := Blk.new (((w.alloc (.cells (gcell ga gd gl).toArray 23)).alloc (.cells #[.slice none 0 0] 55)).alloc (.cells #[.int .i64 0] 28)) (acell (.pointer (some ⟨g, 0, none⟩)) (.pointer (some ⟨gS, 0, none⟩)) ga gd gl life) 138
    simpa using this
  have b0 : Below w.heap.size w w0 := by rw [hw0]; exact bt (b3alloc _ _ _ _) (b1alloc _ _)
  rw [show (((w.alloc (.cells #[.int .i64 ga, .int .i64 gd, .int .i64 gl] 23)).alloc (.cells #[.slice none 0 0] 55)).alloc (.cells #[.int .i64 0] 28)).alloc (.cells #[.pointer (some ⟨g, 0, none⟩), .pointer (some ⟨gS, 0, none⟩), .int .i64 ga, .int .i64 gd, .int .i64 gl, .int .u64 (life.toNat : Int)] 138) = w0 from hw0.symm]
  clear hw0 z0 z1 z2 FG
  refine ⟨trivial, (callsIn_wide.2 (HR.out _ b0)).mono ?_⟩
  rintro e1 w1 ⟨rfl, b1⟩
  have b01 := bt b0 b1
  have hba1 := (ba.on b1).lt
  obtain ⟨z0, z1, z2, z3, z4, z5⟩ := six6 (ba.on b1)
  gi_wp2_with fail
  refine ⟨trivial, (callsIn_wide.2 (pages_any g gS (w.heap.size + 1 + 1) ga gd gl life w1)).mono ?_⟩
  rintro e4 w4 ⟨rfl, hP4, b4⟩
  have b04 := bt b01 b4
  have bb4 := bt b1 b4
  have bx84 : Boxed w4 (w.heap.size + 1) 55 (.slice none 0 0) := (bb4.block _ bx8.lt).trans bx8
  have bx94 : Boxed w4 (w.heap.size + 1 + 1) 28 (.int .i64 0) := (bb4.block _ bx9.lt).trans bx9
  clear z0 z1 z2 z3 z4 z5 bx8 bx9 ba bb4 b0 b1 b01
  gi_wp2_with fail
  obtain ⟨i0, hi0, hz0, hz1, hz2⟩ := info_parts infoS
  have hs1 : w.heap.size + 3 < w1.heap.size := by have := hba1; omega
  have hs4 : w1.heap.size + 2 < w4.heap.size := hP4.there.lt
  have hB4 := h.on b04
  have hne : ∀ j ∈ bS :: gS :: fp, j ≠ w.heap.size + 1 := by
    intro j hj
    rcases List.mem_cons.1 hj with e | e
    · have := h.sym.lt.2; omega
    rcases List.mem_cons.1 e with e | e
    · have := h.sym.lt.1; omega
    · have := h.disk.lt _ e; omega
  have hN85 : N ≤ 85 := by have := pagesOf_bd ga gd gl; omega
  have hI : OwnFrom w4.heap.size (RInv w w4) := RInv.own (by omega)
  refine range_ok (n := 8) (by omega) (gf := 128) (lb := #[.pointer (some ⟨w1.heap.size, 0, none⟩), .pointer (some ⟨w1.heap.size + 1, 0, none⟩), .pointer (some ⟨w1.heap.size + 2, 0, none⟩)]) rfl (enters_of Try.func128 (by kernel_rfl) rfl)
    (pages2_ok 7 (by omega) (w.heap.size + 1) w1.heap.size (w1.heap.size + 1) (w1.heap.size + 2) (w.heap.size + 1 + 1) g fp s gS bS l ga gd gl life N hG hN hl hs hd hsz w4 hP4 hB4 hne (by omega) (by omega))
    (fun h k => h.trans k) (fun W l o o' hl h _ _ => KpK.turn W l o' hl) (Below.refl _ _) (fun _ => rfl)
    (RInv w w4)
    (fun c (pre' : List It) X => (∃ (pre : List It) (x : It), pre' = pre ++ [x] ∧ c = .ret ∧ x.is = false) ∧ Boxed X (w.heap.size + 1) 55 (.slice none 0 0) ∧ Boxed X (w.heap.size + 1 + 1) 28 (.int .i64 11) ∧ Below w.heap.size w X)
    hI
    (fun c pre X X' row hI hg hr => ⟨hI.1, hI.2.1.kept hg (fun e => by have := (hr _ e.symm).1; omega), hI.2.2.1.kept hg (fun e => by have := (hr _ e.symm).1; omega), hI.2.2.2.grown hg (by have := hI.2.2.2.size; omega) (fun r e => by have := (hr r e).1; omega)⟩)
    ⟨⟨⟨_, bx84, own_nil _ _ _ _, trivial⟩, bx94, KpK.refl _ _ _, b04⟩, fun x hx => by cases hx⟩
    (fun pre x a' X => ∃ pb, a' = { tmps := #[.pointer (some ⟨g, 0, none⟩), .pointer (some ⟨gS, 0, none⟩), gv ga gd gl, .int .u64 (life.toNat : Int), undef, undef, .pointer (some ⟨w.heap.size, 0, none⟩), undef, .pointer (some ⟨w.heap.size + 1, 0, none⟩), .pointer (some ⟨w.heap.size + 1 + 1, 0, none⟩), .pointer (some ⟨w.heap.size + 1 + 1 + 1, 0, none⟩), .int .i64 0, undef, .pointer (some ⟨pb, 0, none⟩), .pointer (some ⟨g, 0, none⟩), .pointer (some ⟨gS, 0, none⟩), (gv ga gd gl), .int .u64 (life.toNat : Int), (av (.pointer (some ⟨g, 0, none⟩)) (.pointer (some ⟨gS, 0, none⟩)) ga gd gl life), (av (.pointer (some ⟨g, 0, none⟩)) (.pointer (some ⟨gS, 0, none⟩)) ga gd gl life), .int .i64 0, .int .i64 0, .bool false, undef, (av (.pointer (some ⟨g, 0, none⟩)) (.pointer (some ⟨gS, 0, none⟩)) ga gd gl life), .func (.func 128) #[] #[.pointer (some ⟨w1.heap.size, 0, none⟩), .pointer (some ⟨w1.heap.size + 1, 0, none⟩), .pointer (some ⟨w1.heap.size + 2, 0, none⟩)], .int .i64 (x.k : Int), .agg #[.slice x.A x.body.length x.c, .bool x.is], undef, undef, undef, undef, undef, undef, undef, undef, undef, undef, undef, undef], defers := [] } ∧ Blk X pb [.slice x.A x.body.length x.c, .bool x.is] ∧ w4.heap.size ≤ pb ∧ It.Ok w4.heap.size X x ∧ RInv w w4 pre X)
    ?_ ?assign ?body ?done ?stop
  · rintro pre x a' X lp o o' hl ho hc ⟨pb, rfl, hpb, hpl, hok, hIx⟩
    have hg := grownBy_putObj' X lp o'
    refine ⟨pb, rfl, ?_, hpl, hok.grown hg (fun r e => by cases e; exact ⟨o, ho, hc⟩), hI pre X _ (some lp) hIx hg (fun r e => by cases e; exact ⟨hl, o, ho, hc⟩)⟩
    obtain ⟨t, ht⟩ := hpb
    refine ⟨t, (hg.block pb (lt_of_block ht) (fun e => ?_)).trans ht⟩
    injection e with e
    subst e
    rw [ht] at ho; cases ho; cases hc
  case assign =>
    intro lp pre x X hIx hok hlen
    unfold It.enc
    simp [List.zip_toArray, List.setIfInBounds_toArray]
    gi_wp2
    refine ⟨KeepsOthers.alloc _ _, KpK.of_below (b1alloc _ _) hIx.1.2.2.1.size, X.heap.size, rfl, Blk.new X _ _, hIx.1.2.2.1.size, hok.on (b1alloc _ _), hI.alloc _ hIx⟩
  case body =>
    rintro lp pre x a' X ⟨pb, rfl, hpb, hpl, hok, hI'⟩ hlen
    obtain ⟨⟨⟨v, hv, hrow, _⟩, hv9, hkp, hB⟩, hall⟩ := hI'
    have pc0 := hpb.cell (k := 0) (by simp)
    have pc1 := hpb.cell (k := 1) (by simp)
    simp only [List.getElem_cons_zero, List.getElem_cons_succ] at pc0 pc1
    have hvc := hv.cell
    have hvf := hv.frozen
    have hlx : w.heap.size + 1 < X.heap.size := hv.lt
    have hszX : w4.heap.size ≤ X.heap.size := hkp.size
    obtain ⟨xk, xA, xc, xb, xi⟩ := x
    cases xi with
    | false =>
      have hvc9 := hv9.cell
      have hvf9 := hv9.frozen
      have hlx9 : w.heap.size + 1 + 1 < X.heap.size := hv9.lt
      gi_wp2
      have v1 := hv.set (.slice none 0 0)
      have v9 := hv9.kept (grownBy_setCell' X (w.heap.size + 1) (.slice none 0 0)) (fun e => by injection e with e; omega)
      exact ⟨(KeepsOthers.setCell _ _ _).trans (KeepsOthers.setCell _ _ _), ⟨pre, _, rfl, rfl, rfl⟩, v1.kept (grownBy_setCell' _ (w.heap.size + 1 + 1) (.int .i64 11)) (fun e => by injection e with e; omega), v9.set (.int .i64 11), bset (bset hB (by omega) _) (by omega) _⟩
    | true =>
      have bX1 := b1alloc X (.cells #[.slice xA xb.length xc] 37)
      gi_wp2_with (refine Ch.wpListIn_append_rd _ rfl _ _ _ rfl w4.heap.size 37 i0 _ 1 24 Try.underlying55 hi0 hz0 hz1 hz2 rfl (by omega) v pre.length _ rfl (hrow.alloc _) _ _ 1 1 [It.sl ⟨xk, xA, xc, xb, true⟩] rfl rfl (Rd.lit X _ _ _ (X.heap.size + 1) rfl (by omega)) (by intro u hu; simp [It.sl] at hu; subst hu; rfl) (by simp only [maxLen]; omega) (by omega) (by simp; omega) ?_; intro v1 w3 hown3 hg3 hat3; obtain ⟨g3, c3, rfl⟩ := ownsRow_succ hown3; have hbx := Lib.hid (box_app hv (by decide) hrow hszX (by omega) bX1 hown3 hg3); have hc3 := hbx.out.1.cell; have hf3 := hbx.out.1.frozen)
      obtain ⟨_, h1, h2, h3, h4, h5, h6⟩ := hbx.out
      have hU := fun (y : It) (hy : It.Ok w4.heap.size X y) => hy.keepU (h6 5 (by decide) (by decide))
      refine ⟨h3, h4, ⟨⟨_, h1, ?_, trivial⟩, ?_, hkp.trans h4, hB.trans (h5 _ (by omega))⟩, fun y hy => ?_⟩
      · simpa using h2
      · exact (h6 28 (by decide) (by decide) _ _ hv9).trans hv9
      · rcases List.mem_append.1 hy with hy | hy
        · exact ⟨hU y (hall y hy).1, (hall y hy).2⟩
        · rw [List.mem_singleton] at hy
          subst hy
          exact ⟨hU _ hok, rfl⟩
  case done =>
    rintro D xs X hD hxs ⟨⟨⟨v, hv, hrow, _⟩, hv9, hkp, hB⟩, hall⟩ hKD
    obtain ⟨hxl, hres⟩ := all_want hxs (fun x hx => (hall x hx).2)
    have Hres := Lib.hid hres
    have hxl2 := hxl
    rw [hxl] at hrow
    have Hxl := Lib.hid hxl
    clear hxs hres hxl hxl2
    obtain ⟨A2, c2, rfl⟩ := own_form hrow
    have hvc := hv.cell
    have hvf := hv.frozen
    have hvl := hv.lt
    have hvc9 := hv9.cell
    have hvf9 := hv9.frozen
    have hvl9 := hv9.lt
    have hv8 := (hv.set (.slice A2 N c2)).kept (grownBy_setCell' _ (w.heap.size + 1 + 1) (.int .i64 0)) (fun e => by injection e with e; omega)
    have hv99 := (hv9.kept (grownBy_setCell' X (w.heap.size + 1) (.slice A2 N c2)) (fun e => by injection e with e; omega)).set (.int .i64 0)
    have hrow8 := (hrow.kept (grownBy_setCell' X (w.heap.size + 1) (.slice A2 N c2)) (.inr (hv.not_row (by decide) hrow).symm)).kept (grownBy_setCell' _ (w.heap.size + 1 + 1) (.int .i64 0)) (.inr (fun e => by have := own_block hrow e; omega))
    have hDl : D < X.heap.size := (Array.getElem?_eq_some_iff.1 hKD).1
    gi_wp2_with fail
    have hD2 : ((X.setCell ⟨w.heap.size + 1, 0, none⟩ (.slice A2 N c2)).setCell ⟨w.heap.size + 1 + 1, 0, none⟩ (.int .i64 0)).heap[D]? = some (.deferred (some [])) :=
      ((grownBy_setCell' _ (w.heap.size + 1 + 1) (.int .i64 0)).block D (by simp [World.setCell]; omega) (fun e => by injection e with e; omega)).trans (((grownBy_setCell' X (w.heap.size + 1) (.slice A2 N c2)).block D hDl (fun e => by injection e with e; omega)).trans hKD)
    obtain ⟨Z, hZ⟩ : ∃ Z, Z = (X.setCell ⟨w.heap.size + 1, 0, none⟩ (.slice A2 N c2)).setCell ⟨w.heap.size + 1 + 1, 0, none⟩ (.int .i64 0) := ⟨_, rfl⟩
    have hoks : ∀ x ∈ xs, It.Ok w4.heap.size Z x := fun x hx => (hall x hx).1.keepU fun j cs hj => by
      rw [hZ]
      have h1 : j ≠ w.heap.size + 1 := fun e => by subst e; have := hv; unfold Boxed at this; rw [hj] at this; injection this with this; injection this with _ h2 _; exact absurd h2 (by decide)
      have h2 : j ≠ w.heap.size + 1 + 1 := fun e => by subst e; have := hv9; unfold Boxed at this; rw [hj] at this; injection this with this; injection this with _ h2 _; exact absurd h2 (by decide)
      exact (Below.heap_setCell _ _ _ j (fun e => h2 e)).trans (Below.heap_setCell _ _ _ j (fun e => h1 e))
    have hBZ : Below w.heap.size w Z := by rw [hZ]; exact bset (bset hB (by omega) _) (by omega) _
    rw [← hZ] at hD2 hv8 hv99 hrow8 ⊢
    have g0 := grownBy_putObj' Z D (.deferred none)
    have v8 := (hv8.kept g0 (fun e => by injection e with e; omega)).cell
    have v9 := (hv99.kept g0 (fun e => by injection e with e; omega)).cell
    clear hZ
    refine ⟨by simp, .inl ⟨_, _, rfl, run_takeDeferred hD2, ?_⟩⟩
    refine ⟨.tuple #[.slice A2 N c2, .int .i64 0], (by simp [results, Try.results37, go_sem, v8, v9]), ?_⟩
    rw [Hres.out]
    refine ⟨⟨A2, c2, by simp [Hxl.out], xs, ?_, rfl, fun x hx => ?_⟩, ?_⟩
    · rw [List.length_map, Hxl.out]
      exact own_base (ownsRow_putObj hrow8 _ hD2 rfl) b04.size
    · have := (hoks x hx).grown g0 (fun r e => by cases e; exact ⟨_, hD2, rfl⟩)
      exact ⟨own_base this.1 b04.size, this.2⟩
    · exact hBZ.trans (belowK_b (w := w) (Nat.le_refl _) _ D _ _ (by have := b04.size; omega) hD2 rfl rfl)
  case stop =>
    rintro D c pre' X hD ⟨k, hk, hpre⟩ ⟨⟨pre, x, rfl, rfl, hx⟩, hv, hv9, hB⟩ hKD
    have Hres := Lib.hid (not_want hk hpre hx)
    clear hpre
    gi_wp2_with fail
    have g0 := grownBy_putObj' X D (.deferred none)
    have v8 := (hv.kept g0 (fun e => by injection e with e; omega)).cell
    have v9 := (hv9.kept g0 (fun e => by injection e with e; omega)).cell
    refine ⟨by simp, .inl ⟨_, _, rfl, run_takeDeferred hKD, ?_⟩⟩
    refine ⟨.tuple #[.slice none 0 0, .int .i64 11], (by simp [results, Try.results37, go_sem, v8, v9]), ?_⟩
    rw [Hres.out]
    exact ⟨rfl, hB.trans (belowK_b (w := w) (Nat.le_refl _) _ D _ _ (by have := b04.size; omega) hKD rfl rfl)⟩
end Go.Proofs.Ytmpmibcdpkolkaa.Snap

/- The log: what was read so far, as it lies: rows of the call's own. No statement is proved here. -/
namespace Go.Proofs.Ytmpmibcdpkolkaa.Wal
open Go.RowKit
open Go.Proofs.Ytmpmibcdpkolkaa.Sec (X)
set_option linter.unusedVariables false
/-- one page, as it lies -/
structure Pr where
  n : Int
  A : Option Addr
  c : Nat
  body : List UInt8
def Pr.cells (p : Pr) : List Value := [.int .i64 p.n, .slice p.A p.body.length p.c]
def Pr.pg (p : Pr) : Pg := ⟨p.n, p.body⟩
/-- one transaction, as it lies -/
structure Tr where
  A : Option Addr
  c : Nat
  ps : List Pr
  gen : UInt64
def Tr.sl (t : Tr) : Value := .slice t.A t.ps.length t.c
def Tr.cells (t : Tr) : List Value := [t.sl, .int .u64 (t.gen.toNat : Int)]
def Tr.tx (t : Tr) : Tx := ⟨t.ps.map Pr.pg, t.gen⟩
structure PrOk (w : World) (n0 : Nat) (p : Pr) : Prop where
  rd : p.body ≠ [] → ∃ g off cs, p.A = some ⟨g, off, none⟩ ∧ n0 ≤ g ∧ w.heap[g]? = some (Obj.cells cs 5 (0, 0)) ∧ ∀ i (h : i < p.body.length), cs[off + i]? = some (e8 p.body[i])
  cap : p.body.length ≤ p.c
  max : p.c ≤ maxLen
  lo : 0 ≤ p.n
  hi : p.n ≤ 1000
  len : p.body.length ≤ 1000
theorem PrOk.keepU {w w' : World} {n0 : Nat} {p : Pr} (h : PrOk w n0 p) (hk : ∀ (j : Nat) (cs : Array Value), n0 ≤ j → w.heap[j]? = some (Obj.cells cs 5 (0, 0)) → w'.heap[j]? = w.heap[j]?) : PrOk w' n0 p :=
  ⟨fun hne => by obtain ⟨g, off, cs, e, hg, hh, hc⟩ := h.rd hne; exact ⟨g, off, cs, e, hg, (hk g cs hg hh).trans hh, hc⟩, h.cap, h.max, h.lo, h.hi, h.len⟩
theorem PrOk.tail {w : World} {n0 g c k off : Nat} {m : Int} {l : List UInt8} (h : w.ownsRow n0 5 1 (.slice (some ⟨g, 0, none⟩) l.length c) l.length (l.map e8)) (ho : off = k ∨ l.length ≤ k) (hl : l.length ≤ 1000) (h0 : 0 ≤ m) (h1 : m ≤ 1000) : PrOk w n0 ⟨m, some ⟨g, off, none⟩, c - k, l.drop k⟩ := by
  have hc := Disk.own_caps h
  refine ⟨fun hne => ?_, by simp; omega, by have := hc.2; simp; omega, h0, h1, by simp; omega⟩
  rcases h.2 with ⟨hv, _⟩ | ⟨g', cap, cur, hv, hg, hh, hnc, hcm, hcs, ht⟩
  · cases hv
  · injection hv with e1 e2 e3
    injection e1 with e1
    injection e1 with e1 _ _
    subst e1 e3
    refine ⟨g, off, cur, rfl, hg, hh, fun i hi => ?_⟩
    simp only [List.length_drop] at hi
    obtain rfl : off = k := by rcases ho with h | h <;> omega
    have h2 : (cur.toList.take (l.length * 1))[off + i]? = (l.map e8)[off + i]? := by rw [ht]
    rw [List.getElem?_take_of_lt (by omega), List.getElem?_map, List.getElem?_eq_getElem (show off + i < l.length by omega)] at h2
    simpa using h2
structure TrOk (w : World) (n0 : Nat) (now : Option Nat) (t : Tr) : Prop where
  row : w.ownsRow n0 157 2 t.sl t.ps.length (t.ps.flatMap Pr.cells)
  ne : ∀ g, t.sl.ownBlock = some g → now ≠ some g
  pages : ∀ p ∈ t.ps, PrOk w n0 p
theorem own_keep {w w' : World} {base : Nat} {e : TypeId} {z n : Nat} {v : Value} {xs : List Value} (h : w.ownsRow base e z v n xs) (hk : ∀ (j : Nat) (cs : Array Value), v.ownBlock = some j → base ≤ j → w.heap[j]? = some (Obj.cells cs e (0, 0)) → w'.heap[j]? = w.heap[j]?) : w'.ownsRow base e z v n xs := by
  refine ⟨h.1, ?_⟩
  rcases h.2 with h | ⟨g, cap, cur, rfl, hg, hh, r⟩
  · exact .inl h
  · exact .inr ⟨g, cap, cur, rfl, hg, (hk g cur rfl hg hh).trans hh, r⟩
theorem TrOk.keep {w w' : World} {n0 : Nat} {now now' : Option Nat} {t : Tr} (h : TrOk w n0 now t) (hu : ∀ (j : Nat) (cs : Array Value), n0 ≤ j → w.heap[j]? = some (Obj.cells cs 5 (0, 0)) → w'.heap[j]? = w.heap[j]?)
    (hp : ∀ (j : Nat) (cs : Array Value), now ≠ some j → n0 ≤ j → w.heap[j]? = some (Obj.cells cs 157 (0, 0)) → w'.heap[j]? = w.heap[j]?) (hn : ∀ g, t.sl.ownBlock = some g → now' ≠ some g) : TrOk w' n0 now' t :=
  ⟨own_keep h.row (fun j cs e hb hh => hp j cs (h.ne j e) hb hh), hn, fun p hpm => (h.pages p hpm).keepU hu⟩
/-- what was read so far, in its block -/
structure RdAt (w : World) (n0 T : Nat) (np : Int) (r : Rg) (allv nowv : Value) (trs : List Tr) (prs : List Pr) : Prop where
  blk : Blk w T [allv, nowv, .int .u64 (r.gen.toNat : Int), .int .u64 (r.frm : Int), .int .i64 np]
  all : w.ownsRow n0 158 2 allv trs.length (trs.flatMap Tr.cells)
  now : w.ownsRow n0 157 2 nowv prs.length (prs.flatMap Pr.cells)
  okA : ∀ t ∈ trs, TrOk w n0 nowv.ownBlock t
  okN : ∀ p ∈ prs, PrOk w n0 p
  eA : r.all = trs.map Tr.tx
  eN : r.now = prs.map Pr.pg
  lT : T < n0
  lN : n0 ≤ w.heap.size
  bd : trs.length ≤ 100000 ∧ prs.length ≤ 100000
theorem own_bt {w : World} {base : Nat} {e t : TypeId} {z n j : Nat} {v : Value} {xs : List Value} {cs : Array Value} (h : w.ownsRow base e z v n xs) (hj : w.heap[j]? = some (Obj.cells cs t (0, 0))) (hne : t ≠ e) : some j ≠ v.ownBlock := fun e' => by
  rcases h.2 with ⟨rfl, _⟩ | ⟨g, cap, cur, rfl, _, hgb, _⟩
  · simp [Value.ownBlock] at e'
  · obtain rfl : g = j := by simpa [Value.ownBlock] using e'.symm
    rw [hj] at hgb; injection hgb with h1; injection h1 with _ h2 _; exact hne h2
/-- nothing but its own block is turned -/
theorem RdAt.move {w w' : World} {n0 T : Nat} {np : Int} {r : Rg} {allv nowv : Value} {trs : List Tr} {prs : List Pr} (h : RdAt w n0 T np r allv nowv trs prs) (hk : ∀ j, n0 ≤ j → j < w.heap.size → w'.heap[j]? = w.heap[j]?) (hs : w.heap.size ≤ w'.heap.size) (r' : Rg)
    (hb : Blk w' T [allv, nowv, .int .u64 (r'.gen.toNat : Int), .int .u64 (r'.frm : Int), .int .i64 np]) (h1 : r'.all = r.all) (h2 : r'.now = r.now) : RdAt w' n0 T np r' allv nowv trs prs :=
  ⟨hb, own_keep h.all (fun j cs _ hj hh => hk j hj (lt_of_block hh)), own_keep h.now (fun j cs _ hj hh => hk j hj (lt_of_block hh)),
    fun t ht => (h.okA t ht).keep (fun j cs hj hh => hk j hj (lt_of_block hh)) (fun j cs _ hj hh => hk j hj (lt_of_block hh)) (h.okA t ht).ne,
    fun p hp => (h.okN p hp).keepU (fun j cs hj hh => hk j hj (lt_of_block hh)), h1.trans h.eA, h2.trans h.eN, h.lT, Nat.le_trans h.lN hs, h.bd⟩
theorem RdAt.on {w w' : World} {n0 T : Nat} {np : Int} {r : Rg} {allv nowv : Value} {trs : List Tr} {prs : List Pr} (h : RdAt w n0 T np r allv nowv trs prs) (b : Below w.heap.size w w') : RdAt w' n0 T np r allv nowv trs prs :=
  h.move (fun j _ hj => b.block j hj) b.size r (h.blk.on b) rfl rfl
theorem RdAt.own {w w' : World} {n0 T : Nat} {np : Int} {r : Rg} {allv nowv : Value} {trs : List Tr} {prs : List Pr} {row : Option Nat} (h : RdAt w n0 T np r allv nowv trs prs) (hg : w.grownBy w' row) (hr : ∀ j, row = some j → n0 ≤ j ∧ ∃ o : Obj, w.heap[j]? = some o ∧ o.isCells = false) : RdAt w' n0 T np r allv nowv trs prs := by
  have hne : ∀ (j : Nat) (cs : Array Value) (t : TypeId), w.heap[j]? = some (Obj.cells cs t (0, 0)) → w'.heap[j]? = w.heap[j]? := fun j cs t hj => hg.block j (lt_of_block hj) fun e => by
    obtain ⟨_, o, ho, hc⟩ := hr j e.symm
    rw [hj] at ho; cases ho; cases hc
  exact ⟨h.blk.grown hg (fun e => by have := (hr _ e.symm).1; have := h.lT; omega), own_keep h.all (fun j cs _ _ hh => hne j cs _ hh), own_keep h.now (fun j cs _ _ hh => hne j cs _ hh),
    fun t ht => (h.okA t ht).keep (fun j cs _ hh => hne j cs _ hh) (fun j cs _ _ hh => hne j cs _ hh) (h.okA t ht).ne,
    fun p hp => (h.okN p hp).keepU (fun j cs _ hh => hne j cs _ hh), h.eA, h.eN, h.lT, Nat.le_trans h.lN hg.size, h.bd⟩
theorem RdAt.data {w w1 w2 : World} {n0 T : Nat} {np : Int} {r : Rg} {allv nowv v' : Value} {trs : List Tr} {prs : List Pr} (h : RdAt w n0 T np r allv nowv trs prs) (p : Pr) (hp : PrOk w n0 p) (b1 : Below w.heap.size w w1) (hg : w1.grownBy w2 nowv.ownBlock)
    (own : w2.ownsRow n0 157 2 v' (prs.length + 1) (prs.flatMap Pr.cells ++ p.cells)) (hat : v'.ownBlock = nowv.ownBlock ∨ v'.ownBlock = some w1.heap.size) (hl : prs.length < 100000) :
    RdAt (w2.setCell ⟨T, 1, none⟩ v') n0 T np { r with now := r.now ++ [p.pg] } allv v' trs (prs ++ [p]) ∧ KeepsOthers w (w2.setCell ⟨T, 1, none⟩ v') ∧ KpK T n0 w (w2.setCell ⟨T, 1, none⟩ v') := by
  have hsz := b1.size
  have hob : ∀ j, nowv.ownBlock = some j → n0 ≤ j ∧ j < w.heap.size := fun j e => h.now.lt j e
  have hT : T < w.heap.size := h.blk.lt
  have hk2 : ∀ j, j < w.heap.size → some j ≠ nowv.ownBlock → w2.heap[j]? = w.heap[j]? := fun j hj hn => (hg.block j (by omega) hn).trans (b1.block j hj)
  have hk : ∀ j, j < w.heap.size → j ≠ T → some j ≠ nowv.ownBlock → (w2.setCell ⟨T, 1, none⟩ v').heap[j]? = w.heap[j]? := fun j hj hn hr => (Below.heap_setCell w2 ⟨T, 1, none⟩ v' j (fun e => hn e)).trans (hk2 j hj hr)
  have hsT : ∀ j, j ≠ T → (w2.setCell ⟨T, 1, none⟩ v').heap[j]? = w2.heap[j]? := fun j hn => Below.heap_setCell w2 ⟨T, 1, none⟩ v' j (fun e => hn e)
  have hlT := h.lT
  have hku : ∀ (j : Nat) (cs : Array Value), n0 ≤ j → w.heap[j]? = some (Obj.cells cs 5 (0, 0)) → (w2.setCell ⟨T, 1, none⟩ v').heap[j]? = w.heap[j]? := fun j cs hj hh => hk j (lt_of_block hh) (by omega) (own_bt h.now hh (by decide))
  have hkp : ∀ (j : Nat) (cs : Array Value), nowv.ownBlock ≠ some j → n0 ≤ j → w.heap[j]? = some (Obj.cells cs 157 (0, 0)) → (w2.setCell ⟨T, 1, none⟩ v').heap[j]? = w.heap[j]? := fun j cs hn hj hh => hk j (lt_of_block hh) (by omega) (fun e => hn e.symm)
  have hb2 : Blk w2 T [allv, nowv, .int .u64 (r.gen.toNat : Int), .int .u64 (r.frm : Int), .int .i64 np] := h.blk.elim fun t ht => ⟨t, (hk2 T hT (fun e => by have := (hob T e.symm).1; omega)).trans ht⟩
  have hss : (w2.setCell ⟨T, 1, none⟩ v').heap.size = w2.heap.size := by simp [World.setCell]
  refine ⟨⟨hb2.set (k := 1) v', own_keep h.all (fun j cs e hj hh => hk j (lt_of_block hh) (by omega) (own_bt h.now hh (by decide))), ?_, fun t ht => (h.okA t ht).keep hku hkp (fun g e => ?_), fun q hq => ?_, h.eA, ?_, h.lT, by rw [hss]; have := hg.size; have := h.lN; omega, by have := h.bd; simp; omega⟩, ?_, ?_⟩
  · have e1 : (prs ++ [p]).flatMap Pr.cells = prs.flatMap Pr.cells ++ p.cells := by simp
    rw [e1, List.length_append, List.length_singleton]
    exact own_keep own (fun j cs _ hj _ => hsT j (by omega))
  · rcases hat with hat | hat
    · rw [hat]; exact (h.okA t ht).ne g e
    · rw [hat]; intro e2; injection e2 with e2
      have := ((h.okA t ht).row.lt g e).2
      omega
  · rcases List.mem_append.1 hq with hq | hq
    · exact (h.okN q hq).keepU hku
    · rw [List.mem_singleton] at hq; rw [hq]; exact hp.keepU hku
  · show r.now ++ [p.pg] = (prs ++ [p]).map Pr.pg
    rw [h.eN]; simp
  · refine (Ch.keeps_below b1).trans ((KeepsOthers.of_grownBy hg fun j o ej hj => ?_).trans (KeepsOthers.setCell _ _ _))
    rcases h.now.2 with ⟨e, _⟩ | ⟨g, cap, cur, e, _, hgb, _⟩
    · rw [e] at ej; simp [Value.ownBlock] at ej
    · rw [e] at ej
      obtain rfl : g = j := by simpa [Value.ownBlock] using ej
      have := (b1.block g (lt_of_block hgb)).trans hgb
      rw [hj] at this; cases this; rfl
  · exact ⟨hg.os.trans b1.os, hg.tape.trans b1.tape, hg.output.trans b1.output, by rw [hss]; have := hg.size; omega, fun j hj hn => hk j (by have := h.lN; omega) hn (fun e => by have := (hob j e.symm).1; omega)⟩
theorem RdAt.commit {w w1 w2 w3 : World} {n0 T : Nat} {np : Int} {r : Rg} {allv v' : Value} {An : Option Addr} {cn : Nat} {trs : List Tr} {prs : List Pr} (h : RdAt w n0 T np r allv (.slice An prs.length cn) trs prs) (b1 : Below w.heap.size w w1) (hg : w1.grownBy w2 allv.ownBlock)
    (own : w2.ownsRow n0 158 2 v' (trs.length + 1) (trs.flatMap Tr.cells ++ [.slice An prs.length cn, .int .u64 (r.gen.toNat : Int)])) (hl : trs.length < 100000) (frm : Nat)
    (hk3 : KeepsOthers w2 w3) (hB : Blk w3 T [v', .slice none 0 0, .int .u64 0, .int .u64 (frm : Int), .int .i64 np]) (h3 : ∀ j, j ≠ T → w3.heap[j]? = w2.heap[j]?) (ho3 : w3.os = w2.os ∧ w3.tape = w2.tape ∧ w3.output = w2.output ∧ w2.heap.size ≤ w3.heap.size) :
    RdAt w3 n0 T np ⟨r.all ++ [⟨r.now, r.gen⟩], [], 0, frm⟩ v' (.slice none 0 0) (trs ++ [⟨An, cn, prs, r.gen⟩]) [] ∧ KeepsOthers w w3 ∧ KpK T n0 w w3 := by
  have hsz := b1.size
  have hsg := hg.size
  have hlT := h.lT
  have hob : ∀ j, allv.ownBlock = some j → n0 ≤ j ∧ j < w.heap.size := fun j e => h.all.lt j e
  have hk : ∀ j, j < w.heap.size → j ≠ T → some j ≠ allv.ownBlock → w3.heap[j]? = w.heap[j]? := fun j hj hn hr => (h3 j hn).trans ((hg.block j (by omega) hr).trans (b1.block j hj))
  have hku : ∀ (j : Nat) (cs : Array Value), n0 ≤ j → w.heap[j]? = some (Obj.cells cs 5 (0, 0)) → w3.heap[j]? = w.heap[j]? := fun j cs hj hh => hk j (lt_of_block hh) (by omega) (own_bt h.all hh (by decide))
  have hkp : ∀ (j : Nat) (cs : Array Value), n0 ≤ j → w.heap[j]? = some (Obj.cells cs 157 (0, 0)) → w3.heap[j]? = w.heap[j]? := fun j cs hj hh => hk j (lt_of_block hh) (by omega) (own_bt h.all hh (by decide))
  refine ⟨⟨hB, ?_, own_nil _ _ _ _, fun t ht => ?_, fun q hq => (by cases hq), ?_, rfl, h.lT, by have := h.lN; omega, by have := h.bd; simp; omega⟩, ?_, ?_⟩
  · have e1 : (trs ++ [(⟨An, cn, prs, r.gen⟩ : Tr)]).flatMap Tr.cells = trs.flatMap Tr.cells ++ [.slice An prs.length cn, .int .u64 (r.gen.toNat : Int)] := by simp [Tr.cells, Tr.sl]
    rw [e1, List.length_append, List.length_singleton]
    exact own_keep own (fun j cs _ hj _ => h3 j (by omega))
  · rcases List.mem_append.1 ht with ht | ht
    · exact (h.okA t ht).keep hku (fun j cs _ hj hh => hkp j cs hj hh) (fun g _ e => by simp [Value.ownBlock] at e)
    · rw [List.mem_singleton] at ht
      subst ht
      exact ⟨own_keep h.now (fun j cs _ hj hh => hkp j cs hj hh), fun g _ e => (by simp [Value.ownBlock] at e), fun q hq => (h.okN q hq).keepU hku⟩
  · show r.all ++ [⟨r.now, r.gen⟩] = (trs ++ [_]).map Tr.tx
    rw [h.eA, h.eN]; simp [Tr.tx]
  · refine (Ch.keeps_below b1).trans ((KeepsOthers.of_grownBy hg fun j o ej hj => ?_).trans hk3)
    rcases h.all.2 with ⟨e, _⟩ | ⟨g, cap, cur, e, _, hgb, _⟩
    · rw [e] at ej; simp [Value.ownBlock] at ej
    · rw [e] at ej
      obtain rfl : g = j := by simpa [Value.ownBlock] using ej
      have := (b1.block g (lt_of_block hgb)).trans hgb
      rw [hj] at this; cases this; rfl
  · exact ⟨ho3.1.trans (hg.os.trans b1.os), ho3.2.1.trans (hg.tape.trans b1.tape), ho3.2.2.1.trans (hg.output.trans b1.output), by omega, fun j hj hn => hk j (by have := h.lN; omega) hn (fun e => by have := (hob j e.symm).1; omega)⟩
end Go.Proofs.Ytmpmibcdpkolkaa.Wal

/- The log: one more sector is taken. No statement is proved here. -/
namespace Go.Proofs.Ytmpmibcdpkolkaa.Wal
open Go.RowKit
open Go.Proofs.Ytmpmibcdpkolkaa.Sec (X five5x)
set_option linter.unusedVariables false
set_option maxRecDepth 100000
attribute [local irreducible] wpQuiet
theorem five5r {w : World} {g : Nat} {v0 v1 v2 v3 v4 : Value} (h : Blk w g [v0, v1, v2, v3, v4]) : w.cell? ⟨g, 0, none⟩ = some v0 ∧ w.cell? ⟨g, 1, none⟩ = some v1 ∧ w.cell? ⟨g, 2, none⟩ = some v2 ∧ w.cell? ⟨g, 3, none⟩ = some v3 ∧ w.cell? ⟨g, 4, none⟩ = some v4 :=
  ⟨h.cell (k := 0) (by simp), h.cell (k := 1) (by simp), h.cell (k := 2) (by simp), h.cell (k := 3) (by simp), h.cell (k := 4) (by simp)⟩
theorem infoPg : (Try.prog.info? 157).map (fun i => (i.zero, i.size, i.bytes)) = some (some (.agg #[.int .i64 0, .slice none 0 0]), 2, 32) := by kernel_rfl
theorem infoTx : (Try.prog.info? 158).map (fun i => (i.zero, i.size, i.bytes)) = some (some (.agg #[.slice none 0 0, .int .u64 0]), 2, 32) := by kernel_rfl
theorem alloc_drew (w : World) (o : Obj) : Below w.heap.size w (w.alloc o).drew := ⟨(b1alloc w o).os, (b1alloc w o).tape, (b1alloc w o).output, (b1alloc w o).size, (b1alloc w o).block⟩
theorem four_set {w : World} {T : Nat} {v0 v1 v2 v3 v4 : Value} (hb : Blk w T [v0, v1, v2, v3, v4]) (a b c d : Value) :
    Blk ((((w.setCell ⟨T, 0, none⟩ a).setCell ⟨T, 1, none⟩ b).setCell ⟨T, 2, none⟩ c).setCell ⟨T, 3, none⟩ d) T [a, b, c, d, v4] ∧ KeepsOthers w ((((w.setCell ⟨T, 0, none⟩ a).setCell ⟨T, 1, none⟩ b).setCell ⟨T, 2, none⟩ c).setCell ⟨T, 3, none⟩ d) ∧
      (∀ j, j ≠ T → ((((w.setCell ⟨T, 0, none⟩ a).setCell ⟨T, 1, none⟩ b).setCell ⟨T, 2, none⟩ c).setCell ⟨T, 3, none⟩ d).heap[j]? = w.heap[j]?) ∧ w.heap.size ≤ ((((w.setCell ⟨T, 0, none⟩ a).setCell ⟨T, 1, none⟩ b).setCell ⟨T, 2, none⟩ c).setCell ⟨T, 3, none⟩ d).heap.size := by
  refine ⟨(((hb.set (k := 0) a).set (k := 1) b).set (k := 2) c).set (k := 3) d, (((KeepsOthers.setCell _ _ _).trans (KeepsOthers.setCell _ _ _)).trans (KeepsOthers.setCell _ _ _)).trans (KeepsOthers.setCell _ _ _), fun j hj => ?_, by simp [World.setCell]⟩
  have h : ∀ (W : World) (k : Nat) (v : Value), (W.setCell ⟨T, k, none⟩ v).heap[j]? = W.heap[j]? := fun W k v => Below.heap_setCell W ⟨T, k, none⟩ v j (fun e => hj e)
  exact (h _ _ _).trans ((h _ _ _).trans ((h _ _ _).trans (h _ _ _)))
theorem wrap_u64s {i : Nat} (h : i ≤ 1000) : IntKind.u64.wrap ((i : Int) + 1) = ((i + 1 : Nat) : Int) := by
  simp [IntKind.wrap, IntKind.bits]; omega
/-- what take leaves -/
def Took (w : World) (n0 T : Nat) (np : Int) (q : Rg × Bool) (e : Ending) (w' : World) : Prop :=
  e = .returned (.bool q.2) ∧ (∃ allv nowv trs prs, RdAt w' n0 T np q.1 allv nowv trs prs) ∧ KeepsOthers w w' ∧ KpK T n0 w w'
set_option maxHeartbeats 2000000 in
theorem take_any (n0 T : Nat) (np : Int) (r : Rg) (allv nowv : Value) (trs : List Tr) (prs : List Pr) (i : Nat) (x : X) (A : Option Addr) (c : Nat) (w : World) (h : RdAt w n0 T np r allv nowv trs prs)
    (hok : w.ownsRow n0 5 1 (.slice A x.body.length c) x.body.length (x.body.map e8)) (hbl : x.body.length ≤ 1000) (hi : i ≤ 1000) (hn0 : 0 ≤ np) (hn1 : np ≤ 100) (hlt : trs.length < 100000) (hlp : prs.length < 100000) :
    Calls Try.prog 102 #[.pointer (some ⟨T, 0, none⟩), .int .i64 (i : Int), .agg #[.int .i64 x.kind, .int .u64 (x.life.toNat : Int), .int .i64 x.seq, .int .u64 (x.gen.toNat : Int), .slice A x.body.length c]] w fun e w' => Took w n0 T np (takeF np r i x) e w' := by
  obtain ⟨W0, hW0⟩ : ∃ W, W = w.alloc (.cells #[.int .i64 x.kind, .int .u64 (x.life.toNat : Int), .int .i64 x.seq, .int .u64 (x.gen.toNat : Int), .slice A x.body.length c] 43) := ⟨_, rfl⟩
  have hX : Blk W0 w.heap.size [.int .i64 x.kind, .int .u64 (x.life.toNat : Int), .int .i64 x.seq, .int .u64 (x.gen.toNat : Int), .slice A x.body.length c] := by rw [hW0]; exact Blk.new w _ _
  have b0 : Below w.heap.size w W0 := by rw [hW0]; exact b1alloc _ _
  obtain ⟨x0, x1, x2, x3, x4⟩ := five5r hX
  obtain ⟨y0, y1, y2, y3, y4⟩ := five5r (h.on b0).blk
  obtain ⟨B, hB⟩ : ∃ B, B = (decide (x.body.length < 6) || (decide (0 < prs.length) && decide (x.gen ≠ r.gen))) := ⟨_, rfl⟩
  have Hx := Lib.hid hX
  have Hh := Lib.hid h
  have HBB := Lib.hid hB
  have Hok := Lib.hid hok
  obtain ⟨An, cn, rfl⟩ := own_form h.now
  have hlT : T < W0.heap.size := (h.on b0).blk.lt
  have hlX : w.heap.size < W0.heap.size := hX.lt
  have HW0 := Lib.hid hW0
  clear h hX hB hok
  obtain ⟨Q, hQ0⟩ : ∃ Q, Q = takeF np r i x := ⟨_, rfl⟩
  rw [← hQ0]
  have HQ := Lib.hid hQ0
  clear hQ0
  go_enter Try.func102, Try.ntmps102
  go_upto_region 1 with (fail)
  rw [show w.alloc (.cells #[.int .i64 x.kind, .int .u64 (x.life.toNat : Int), .int .i64 x.seq, .int .u64 (x.gen.toNat : Int), .slice A x.body.length c] 43) = W0 from hW0.symm]
  clear hW0
  go_cut [33] (fun v wx => v = .bool B ∧ InB W0 wx)
  case first =>
    by_cases e1 : x.body.length < 6
    · have hb : B = true := by rw [HBB.out, decide_eq_true e1]; rfl
      subst hb
      have t1 : (x.body.length : Int) < 6 := by omega
      clear e1
      refine region_inb (by kernel_rfl) (by kernel_rfl) ?_
      have inbNe := InB.some
      have inbW := @wrap_small
      have inbU := IntKind.wrap_u8'
      repeat (refine wpQuiet_step (fun K hK => ?_); go_simp; first | (refine hK _ ?_; clear hK K) | (apply Exists.intro; refine ⟨?_, hK _ ?_⟩; (· (intro w' hw'; first | fail | (have hcw := hw'.cell; go_simp; exact rfl))); clear hK K))
      refine wpQuiet_nil ?_
      intro wq hq
      clear inbNe inbW inbU
      go_wp2_with fail
      go_meet
      case rel => exact ⟨rfl, hq⟩
    · have t1 : ¬ (x.body.length : Int) < 6 := by omega
      by_cases e2 : 0 < prs.length
      · have t2 := decide_eq_true e2
        by_cases e3 : x.gen = r.gen
        · have hb : B = false := by rw [HBB.out, decide_eq_false e1, decide_eq_true e2, decide_eq_false (by simp [e3])]; rfl
          subst hb
          have t3 := bne_no (show (x.gen.toNat : Int) = r.gen.toNat by rw [e3])
          clear e1 e2 e3
          refine region_inb (by kernel_rfl) (by kernel_rfl) ?_
          have inbNe := InB.some
          have inbW := @wrap_small
          have inbU := IntKind.wrap_u8'
          repeat (refine wpQuiet_step (fun K hK => ?_); go_simp; first | (refine hK _ ?_; clear hK K) | (apply Exists.intro; refine ⟨?_, hK _ ?_⟩; (· (intro w' hw'; first | fail | (have hcw := hw'.cell; go_simp; exact rfl))); clear hK K))
          refine wpQuiet_nil ?_
          intro wq hq
          clear inbNe inbW inbU
          go_wp2_with fail
          go_meet
          case rel => exact ⟨rfl, hq⟩
        · have hb : B = true := by rw [HBB.out, decide_eq_false e1, decide_eq_true e2, decide_eq_true e3]; rfl
          subst hb
          have t3 := bne_yes (show (x.gen.toNat : Int) ≠ r.gen.toNat from fun e => e3 (UInt64.toNat_inj.1 (by omega)))
          clear e1 e2 e3
          refine region_inb (by kernel_rfl) (by kernel_rfl) ?_
          have inbNe := InB.some
          have inbW := @wrap_small
          have inbU := IntKind.wrap_u8'
          repeat (refine wpQuiet_step (fun K hK => ?_); go_simp; first | (refine hK _ ?_; clear hK K) | (apply Exists.intro; refine ⟨?_, hK _ ?_⟩; (· (intro w' hw'; first | fail | (have hcw := hw'.cell; go_simp; exact rfl))); clear hK K))
          refine wpQuiet_nil ?_
          intro wq hq
          clear inbNe inbW inbU
          go_wp2_with fail
          go_meet
          case rel => exact ⟨rfl, hq⟩
      · have t2 := decide_eq_false e2
        have hb : B = false := by rw [HBB.out, decide_eq_false e1, decide_eq_false e2]; rfl
        subst hb
        clear e1 e2
        refine region_inb (by kernel_rfl) (by kernel_rfl) ?_
        have inbNe := InB.some
        have inbW := @wrap_small
        have inbU := IntKind.wrap_u8'
        repeat (refine wpQuiet_step (fun K hK => ?_); go_simp; first | (refine hK _ ?_; clear hK K) | (apply Exists.intro; refine ⟨?_, hK _ ?_⟩; (· (intro w' hw'; first | fail | (have hcw := hw'.cell; go_simp; exact rfl))); clear hK K))
        refine wpQuiet_nil ?_
        intro wq hq
        clear inbNe inbW inbU
        go_wp2_with fail
        go_meet
        case rel => exact ⟨rfl, hq⟩
  case rest =>
    obtain ⟨rfl, hqc⟩ := hcut
    have bc := hqc.below
    have b0c := bt b0 bc
    have hAc := (Hh.out.on b0c)
    obtain ⟨x0', x1', x2', x3', x4'⟩ := five5r (Hx.out.on bc)
    obtain ⟨y0', y1', y2', y3', y4'⟩ := five5r hAc.blk
    have hlTc := hAc.blk.lt
    have hlXc := (Hx.out.on bc).lt
    have kB0 : KeepsOthers w wc ∧ KpK T n0 w wc := ⟨Ch.keeps_below b0c, KpK.of_below b0c Hh.out.lN⟩
    clear x0 x1 x2 x3 x4 y0 y1 y2 y3 y4 hlT hlX
    have hnow : r.now ≠ [] ↔ 0 < prs.length := by rw [Hh.out.eN]; simp [List.length_pos_iff]
    cases B with
    | true =>
      have hc : x.body.length < 6 ∨ (r.now ≠ [] ∧ x.gen ≠ r.gen) := by
        have := HBB.out
        rw [eq_comm, Bool.or_eq_true, Bool.and_eq_true, decide_eq_true_eq, decide_eq_true_eq, decide_eq_true_eq] at this
        exact this.imp id (fun h => ⟨hnow.2 h.1, h.2⟩)
      have hT : Q = (r, false) := by rw [HQ.out]; unfold takeF; rw [if_pos hc]
      subst hT
      clear hc hnow
      go_wp2
      go_ret
      exact ⟨rfl, ⟨_, _, _, _, hAc⟩, kB0.1, kB0.2⟩
    | false =>
      have hc : ¬ (x.body.length < 6 ∨ (r.now ≠ [] ∧ x.gen ≠ r.gen)) := by
        have := HBB.out
        intro h
        rw [eq_comm, Bool.or_eq_false_iff, Bool.and_eq_false_iff, decide_eq_false_iff_not, decide_eq_false_iff_not, decide_eq_false_iff_not] at this
        rcases h with h | h
        · exact this.1 h
        · exact this.2.elim (fun e => e (hnow.1 h.1)) (fun e => e h.2)
      have h6 : 6 ≤ x.body.length := Nat.le_of_not_lt fun e => hc (.inl e)
      have hT : Q = if fstN x.body ≠ r.frm then (r, false)
        else if x.kind = 4 ∧ (sndN x.body : Int) < np then ({ r with gen := x.gen, now := r.now ++ [⟨(sndN x.body : Int), x.body.drop 6⟩] }, true)
        else if x.kind = 5 ∧ sndN x.body = r.now.length ∧ x.body.length = 6 then (⟨r.all ++ [⟨r.now, x.gen⟩], [], 0, i + 1⟩, true)
        else ({ r with gen := x.gen }, false) := by rw [HQ.out]; unfold takeF; rw [if_neg hc]
      have hnl : r.now.length = prs.length := by rw [Hh.out.eN]; simp
      rw [hnl] at hT
      have HT := Lib.hid hT
      clear hT hc hnow hnl
      obtain ⟨g, c', eA, hg⟩ := own_some Hok.out (by omega)
      injection eA with eA1 eA2 eA3
      subst eA1 eA3
      have hcap := Disk.own_caps Hok.out
      have okc := own_on Hok.out b0c
      obtain ⟨cs, hcs⟩ := Disk.own_blk okc
      have hrdB : Rd wc wc.heap.size (some ⟨g, 0, none⟩) (x.body.map e8) := Rd.own okc
      have hG1 := fun W (b : Below wc.heap.size wc W) => Num.get_any (some ⟨g, 0, none⟩) (x.body.take 4) 4 c W.heap.size W (by simp; omega) (by rw [List.map_take]; exact (Rd.own (own_on okc b)).take 4) (by simp; omega) (by simp; omega)
      have hG2 := fun W (b : Below wc.heap.size wc W) => Num.get_any (some ⟨g, 4, none⟩) ((x.body.drop 4).take 2) 2 (c - 4) W.heap.size W (by simp; omega) (by rw [List.map_take, List.map_drop]; exact ((Rd.own (own_on okc b)).drop 4).take 2) (by simp; omega) (by simp; omega)
      have hF : ∀ l, Num.getN (l.take 4) = fstN l := fun _ => rfl
      have hS : ∀ l, Num.getN ((l.drop 4).take 2) = sndN l := fun _ => rfl
      rw [hF] at hG1
      rw [hS] at hG2
      have hs16 : sndN x.body < 65536 := by have := Num.getN_lt ((x.body.drop 4).take 2) _ (Nat.le_refl _); rw [List.take_length] at this; exact Nat.lt_of_lt_of_le this (by rw [show (65536 : Nat) = 256 ^ 2 from rfl]; exact Nat.pow_le_pow_right (by omega) (by rw [List.length_take]; omega))
      obtain ⟨f, hf⟩ : ∃ f, f = fstN x.body := ⟨_, rfl⟩
      obtain ⟨m, hm⟩ : ∃ m, m = sndN x.body := ⟨_, rfl⟩
      rw [← hf] at HT hG1
      rw [← hm] at HT hG2 hs16
      have HG1 := Lib.hid hG1
      have HG2 := Lib.hid hG2
      clear hF hS hG1 hG2 hf hm
      by_cases e1 : f = r.frm
      rotate_left
      · have hTe : Q = (r, false) := by rw [HT.out, if_pos e1]
        subst hTe
        have t1 := bne_yes (show (f : Int) ≠ (r.frm : Int) by omega)
        clear e1
        go_wp2_with (first
          | (go_at_call 133; (with_reducible show Calls _ _ #[.slice (some ⟨g, 0, none⟩) 4 _] _ _); refine (HG1.out _ (Below.refl _ _)).mono ?_; rintro e w1 ⟨rfl, rfl⟩)
          | (go_at_call 133; (with_reducible show Calls _ _ #[.slice (some ⟨g, 4, none⟩) 2 _] _ _); refine (HG2.out _ (Below.refl _ _)).mono ?_; rintro e w1 ⟨rfl, rfl⟩))
        go_ret
        exact ⟨rfl, ⟨_, _, _, _, hAc⟩, kB0.1, kB0.2⟩
      rw [if_neg (fun h => h e1)] at HT
      have t1 := bne_no (show (f : Int) = (r.frm : Int) by omega)
      have hm1 : IntKind.i64.wrap (m : Int) = (m : Int) := wrap_small (by omega) (by omega)
      have hAg := hAc.move (w' := wc.setCell ⟨T, 2, none⟩ (.int .u64 (x.gen.toNat : Int))) (fun j hj _ => Below.heap_setCell wc ⟨T, 2, none⟩ _ j (fun e => by have := hAc.lT; simp at e; omega)) (by simp [World.setCell]) { r with gen := x.gen } (hAc.blk.set (k := 2) _) rfl rfl
      have kBg : KeepsOthers w (wc.setCell ⟨T, 2, none⟩ (.int .u64 (x.gen.toNat : Int))) ∧ KpK T n0 w (wc.setCell ⟨T, 2, none⟩ (.int .u64 (x.gen.toNat : Int))) := ⟨kB0.1.trans (KeepsOthers.setCell _ _ _), by
        refine ⟨kB0.2.1, kB0.2.2.1, kB0.2.2.2.1, by have := kB0.2.2.2.2.1; simpa [World.setCell] using this, fun j hj hn => (Below.heap_setCell wc ⟨T, 2, none⟩ _ j (fun e => hn (by simpa using e))).trans (kB0.2.2.2.2.2 j hj hn)⟩⟩
      have hXg := (Hx.out.on bc).other (.int .u64 (x.gen.toNat : Int)) (k := 2) (b := T) (fun e => by have := hAc.lT; have := Hh.out.lN; omega)
      have okg : (wc.setCell ⟨T, 2, none⟩ (.int .u64 (x.gen.toNat : Int))).ownsRow n0 5 1 (.slice (some ⟨g, 0, none⟩) x.body.length c) x.body.length (x.body.map e8) := own_keep okc (fun j cs _ hj _ => Below.heap_setCell wc ⟨T, 2, none⟩ _ j (fun e => by have := hAc.lT; simp at e; omega))
      have c4 : ¬ c = 4 := by omega
      have hfr := hAc.blk.free 2
      have c4' : ¬ (c : Int) = 4 := by omega
      go_upto_region 8 with (first
        | (go_at_call 133; (with_reducible show Calls _ _ #[.slice (some ⟨g, 0, none⟩) 4 _] _ _); refine (HG1.out _ (Below.refl _ _)).mono ?_; rintro e w1 ⟨rfl, rfl⟩)
        | (go_at_call 133; (with_reducible show Calls _ _ #[.slice (some ⟨g, 4, none⟩) 2 _] _ _); refine (HG2.out _ (Below.refl _ _)).mono ?_; rintro e w1 ⟨rfl, rfl⟩))
      obtain ⟨wg, hwg⟩ : ∃ q, q = wc.setCell ⟨T, 2, none⟩ (.int .u64 (x.gen.toNat : Int)) := ⟨_, rfl⟩
      rw [← hwg] at hAg kBg hXg okg ⊢
      obtain ⟨x0, x1, x2, x3, x4⟩ := five5r hXg
      obtain ⟨y0, y1, y2, y3, y4⟩ := five5r hAg.blk
      have lXg := hXg.lt
      have lTg := hAg.blk.lt
      have HAg := Lib.hid hAg
      have HkB := Lib.hid kBg
      have Hokg := Lib.hid okg
      have HXg := Lib.hid hXg
      clear hfr x0' x1' x2' x3' x4' y0' y1' y2' y3' y4' hAc hqc bc b0c hlTc hlXc kB0 hrdB okc hcs hwg t1 e1 hAg kBg okg hXg
      by_cases k4 : x.kind = 4
      · have s4 := beq_yes k4
        have k5 : ¬ x.kind = 5 := by omega
        by_cases hmn : (m : Int) < np
        · rw [if_pos ⟨k4, hmn⟩] at HT
          have hQ := HT.out
          subst hQ
          have smn := decide_eq_true hmn
          clear k4 k5
          have h6i : (6 : Int) ≤ (x.body.length : Int) := by omega
          obtain ⟨i0, hi0, hz0, hz1, hz2⟩ := info_parts infoPg
          have hnb : some T ≠ (Value.slice An prs.length cn).ownBlock := fun e => by have := (HAg.out.now.lt T e.symm).1; have := HAg.out.lT; omega
          obtain ⟨tb, htb⟩ := HAg.out.blk
          have hPr : PrOk wg n0 ⟨(m : Int), if c = 6 then some ⟨g, 0, none⟩ else some ⟨g, 6, none⟩, c - 6, x.body.drop 6⟩ := by
            by_cases c6 : c = 6
            · rw [if_pos c6]; exact PrOk.tail Hokg.out (.inr (by omega)) hbl (by omega) (by omega)
            · rw [if_neg c6]; exact PrOk.tail Hokg.out (.inl rfl) hbl (by omega) (by omega)
          have HPr := Lib.hid hPr
          clear hPr
          go_upto_region 9 with (fail)
          go_region_law ((refine Disk.step_append_rd _ (by rfl) _ _ _ (by rfl) n0 157 i0 _ 2 32 Try.underlying102 hi0 hz0 hz1 hz2 rfl (by omega) (.slice An prs.length cn) prs.length (prs.flatMap Pr.cells) (by rfl) ?_ _ 1 1 [.int .i64 (m : Int), .slice (if c = 6 then some ⟨g, 0, none⟩ else some ⟨g, 6, none⟩) (x.body.length - 6) (c - 6)] (by rfl) (by rfl) ?_ (by simp [Value.oneCell']) (by have := HAg.out.bd; simp only [maxLen]; omega) (by have := HAg.out.bd; omega) (by have := HAg.out.lN; simp; omega) ?_); (· exact HAg.out.now.alloc _); (· exact Rd.lit _ _ _ _ _ rfl (by simp)); intro v3 w3 own3 hg3 hat3; have e3 := (hg3.block T (by simp; omega) hnb).trans ((Below.heap_alloc _ _ T lTg).trans htb); obtain ⟨d0, d1, d2, d3, d4⟩ := five5r ⟨_, e3⟩; have d8 := Blk.free (⟨_, e3⟩ : Blk w3 T _) 1; obtain ⟨A3, c3, rfl⟩ := own_form own3)
          all_goals
            have fin := Lib.hid (HAg.out.data _ HPr.out (alloc_drew wg _) hg3 (by simpa [Pr.cells] using own3) hat3 hlp)
            clear own3 hat3 hg3
            go_wp2 <;> (go_ret; exact ⟨rfl, ⟨_, _, _, _, fin.out.1⟩, HkB.out.1.trans fin.out.2.1, HkB.out.2.trans fin.out.2.2⟩)
        · rw [if_neg (fun h => hmn h.2), if_neg (fun h => k5 h.1)] at HT
          have hQ := HT.out
          subst hQ
          have s5 := beq_no k5
          have smn := decide_eq_false hmn
          clear k4 k5
          go_wp2
          go_ret
          exact ⟨rfl, ⟨_, _, _, _, HAg.out⟩, HkB.out.1, HkB.out.2⟩
      · have s4 := beq_no k4
        rw [if_neg (fun h => k4 h.1)] at HT
        by_cases k5 : x.kind = 5
        rotate_left
        · rw [if_neg (fun h => k5 h.1)] at HT
          have hQ := HT.out
          subst hQ
          have s5 := beq_no k5
          clear k4 k5
          go_wp2
          go_ret
          exact ⟨rfl, ⟨_, _, _, _, HAg.out⟩, HkB.out.1, HkB.out.2⟩
        have s5 := beq_yes k5
        by_cases em : m = prs.length
        rotate_left
        · rw [if_neg (fun h => em h.2.1)] at HT
          have hQ := HT.out
          subst hQ
          have s6 := beq_no (show (m : Int) ≠ (prs.length : Int) by omega)
          clear k4 k5 em
          go_wp2
          go_ret
          exact ⟨rfl, ⟨_, _, _, _, HAg.out⟩, HkB.out.1, HkB.out.2⟩
        have s6 := beq_yes (show (m : Int) = (prs.length : Int) by omega)
        by_cases el : x.body.length = 6
        rotate_left
        · rw [if_neg (fun h => el h.2.2)] at HT
          have hQ := HT.out
          subst hQ
          have s7 := beq_no (show (x.body.length : Int) ≠ 6 by omega)
          clear k4 k5 em el
          go_wp2
          go_ret
          exact ⟨rfl, ⟨_, _, _, _, HAg.out⟩, HkB.out.1, HkB.out.2⟩
        rw [if_pos ⟨k5, em, el⟩] at HT
        have hQ := HT.out
        subst hQ
        have s7 := beq_yes (show (x.body.length : Int) = 6 by omega)
        clear k4 k5 em el
        obtain ⟨i0, hi0, hz0, hz1, hz2⟩ := info_parts infoTx
        have hnb : some T ≠ allv.ownBlock := fun e => by have := (HAg.out.all.lt T e.symm).1; have := HAg.out.lT; omega
        obtain ⟨tb, htb⟩ := HAg.out.blk
        obtain ⟨Aa, ca, rfl⟩ := own_form HAg.out.all
        have hw1 : IntKind.i64.wrap ((i : Int) + 1) = ((i + 1 : Nat) : Int) := by rw [wrap_small (by omega) (by omega)]; omega
        have hw2 := wrap_u64s hi
        go_upto_region 12 with (fail)
        go_region_law ((refine Disk.step_append_rd _ (by rfl) _ _ _ (by rfl) n0 158 i0 _ 2 32 Try.underlying88 hi0 hz0 hz1 hz2 rfl (by omega) (.slice Aa trs.length ca) trs.length (trs.flatMap Tr.cells) (by rfl) ?_ _ 1 1 [.slice An prs.length cn, .int .u64 (x.gen.toNat : Int)] (by rfl) (by rfl) ?_ (by simp [Value.oneCell']) (by have := HAg.out.bd; simp only [maxLen]; omega) (by have := HAg.out.bd; omega) (by have := HAg.out.lN; simp; omega) ?_); (· exact HAg.out.all.alloc _); (· exact Rd.lit _ _ _ _ _ rfl (by simp)); intro v3 w3 own3 hg3 hat3; have e3 := (hg3.block T (by simp; omega) hnb).trans ((Below.heap_alloc _ _ T lTg).trans htb); obtain ⟨d0, d1, d2, d3, d4⟩ := five5r ⟨_, e3⟩; have d8 := Blk.free (⟨_, e3⟩ : Blk w3 T _); have d80 := d8 0; have d81 := d8 1; have d82 := d8 2; have d83 := d8 3; obtain ⟨A3, c3, rfl⟩ := own_form own3)
        all_goals
          obtain ⟨f1, f2, f3, f4⟩ := four_set ⟨_, e3⟩ (.slice A3 (trs.length + 1) c3) (.slice none 0 0) (.int .u64 0) (.int .u64 ((i : Int) + 1))
          have fin := Lib.hid (HAg.out.commit (alloc_drew wg _) hg3 own3 hlt (i + 1) f2 (show Blk _ T [_, _, _, .int .u64 ((i + 1 : Nat) : Int), _] from f1) f3 ⟨rfl, rfl, rfl, f4⟩)
          clear f1 f2 f3 f4
          go_wp2
          go_ret
          exact ⟨rfl, ⟨_, _, _, _, fin.out.1⟩, HkB.out.1.trans fin.out.2.1, HkB.out.2.trans fin.out.2.2⟩
end Go.Proofs.Ytmpmibcdpkolkaa.Wal

/- The log: the sectors of a life, one behind the other: the iterator's contract. No statement is proved here. -/
namespace Go.Proofs.Ytmpmibcdpkolkaa.Wal
open Go.RowKit Go.Shelf
open Go.Proofs.Ytmpmibcdpkolkaa.Geom
open Go.Proofs.Ytmpmibcdpkolkaa.Ch (SeqOk)
open Go.Proofs.Ytmpmibcdpkolkaa.Sup (Gb gv gcell gthree)
open Go.Proofs.Ytmpmibcdpkolkaa.Disk (St DAt read_any)
open Go.Proofs.Ytmpmibcdpkolkaa.Sec (X SymAt decode_sym xv five5x)
attribute [local go_sem] Oper.semAt_some
set_option linter.unusedVariables false
set_option maxRecDepth 100000
/-- what is handed to a round -/
structure It where
  k : Nat
  x : X
  A : Option Addr
  c : Nat
def It.enc (t : It) : Array Value := #[.int .i64 (t.k : Int), .agg #[.int .i64 t.x.kind, .int .u64 (t.x.life.toNat : Int), .int .i64 t.x.seq, .int .u64 (t.x.gen.toNat : Int), .slice t.A t.x.body.length t.c]]
def It.Ok (n0 : Nat) (W : World) (t : It) : Prop := W.ownsRow n0 5 1 (.slice t.A t.x.body.length t.c) t.x.body.length (t.x.body.map e8) ∧ t.x.body.length ≤ 1000 ∧ t.k ≤ 1000
def It.f (t : It) : Nat × X := (t.k, t.x)
def rdL (l : List (List UInt8)) (s : St) (ga gd gl base : Int) (k : Nat) : X × Int := Enc.rd l s (logAt ga gd gl (base + (k : Int)))
def goodL (l : List (List UInt8)) (s : St) (ga gd gl base : Int) (life : UInt64) (k : Nat) : Bool := decide ((rdL l s ga gd gl base k).2 = 0) && (decide ((rdL l s ga gd gl base k).1.life = life) && decide ((rdL l s ga gd gl base k).1.seq = (k : Int)))
def want (l : List (List UInt8)) (s : St) (ga gd gl base : Int) (k : Nat) : Nat × X := (k, (rdL l s ga gd gl base k).1)
/-- so many were handed -/
def Given (l : List (List UInt8)) (s : St) (ga gd gl base : Int) (life : UInt64) (N k : Nat) (pre : List It) : Prop := k ≤ N ∧ pre.map It.f = (List.range k).map (want l s ga gd gl base) ∧ ∀ j, j < k → goodL l s ga gd gl base life j = true
theorem Given.snoc {l : List (List UInt8)} {s : St} {ga gd gl base : Int} {life : UInt64} {N k : Nat} {pre : List It} {t : It} (h : Given l s ga gd gl base life N k pre) (hk : k < N) (ht : t.f = want l s ga gd gl base k) (hg : goodL l s ga gd gl base life k = true) : Given l s ga gd gl base life N (k + 1) (pre ++ [t]) := by
  refine ⟨hk, ?_, fun j hj => ?_⟩
  · rw [List.range_succ, List.map_append, List.map_append, h.2.1, List.map_cons, List.map_nil, List.map_cons, List.map_nil, ht]
  · rcases Nat.lt_succ_iff_lt_or_eq.1 hj with e | e
    · exact h.2.2 j e
    · rw [e]; exact hg
theorem log_size {ga gd gl : Int} (h : right ga gd gl = true) : 4 + gl ≤ Geom.sizeOf ga gd gl := by
  unfold Geom.sizeOf; rw [if_pos h]; have := pagesOf_bd ga gd gl; omega
set_option maxHeartbeats 2000000 in
theorem secs1_in (n : Nat) (hn : 1 ≤ n) (lp B Br Bf F g : Nat) (fp : List Nat) (s : St) (gS bS : Nat) (l : List (List UInt8)) (ga gd gl : Int) (life : UInt64) (base : Int) (N : Nat) (hG : Gb ga gd gl) (hN : (N : Int) = gl) (hr : right ga gd gl = true) (hb0 : 0 ≤ base) (hb1 : base ≤ 1073741824) (hl : l.length ≤ 1000000) (hs : s.sz ≤ 90000000) (hd : s.down = false) (hsz : (s.size : Int) = Geom.sizeOf ga gd gl)
    (w : World) (hP : SecsAt w Br Bf F (.pointer (some ⟨g, 0, none⟩)) (.pointer (some ⟨gS, 0, none⟩)) ga gd gl life base) (hB : Both w g fp s gS bS l) (hne : ∀ j ∈ bS :: gS :: fp, j ≠ B) (hneA : Br ≠ B)
    (J Jx : List It → World → Prop)
    (hY : ∀ pre x W, J pre W → It.Ok w.heap.size W x → pre.length < N → YieldAt Fence.wide (n - 1) Try.prog lp x.enc W fun e W' =>
      (e = .returned (.bool true) ∧ J (pre ++ [x]) W' ∧ KpK B w.heap.size W W') ∨ (e = .returned (.bool false) ∧ Jx (pre ++ [x]) W'))
    (W : World) (hW : Below w.heap.size w W) (hJb : ∀ pre (W W' : World), J pre W → Below W.heap.size W W' → J pre W') (h0 : J [] W) :
    CallsIn Fence.wide n Try.prog 131 #[.func (.yield lp) #[] #[], .pointer (some ⟨Br, 0, none⟩), .pointer (some ⟨Bf, 0, none⟩)] W fun e W' => (∃ v, e = .returned v) ∧
      ((∃ ys, (∃ k, Given l s ga gd gl base life N k ys ∧ (k = N ∨ goodL l s ga gd gl base life k = false)) ∧ J ys W') ∨ (∃ pre, (∃ k, Given l s ga gd gl base life N k pre) ∧ Jx pre W')) := by
  have hall : ∀ j ∈ bS :: gS :: fp, j < w.heap.size ∧ j ≠ B := by
    intro j hj
    refine ⟨?_, hne j hj⟩
    rcases List.mem_cons.1 hj with e | e
    · rw [e]; exact hB.sym.lt.2
    rcases List.mem_cons.1 e with e | e
    · rw [e]; exact hB.sym.lt.1
    · exact hB.disk.lt _ e
  have hPA := hP.ring
  have hLA := hPA.lt
  have facts : ∀ X, KpK B w.heap.size w X → Blk X Br (rcell (.pointer (some ⟨g, 0, none⟩)) (.pointer (some ⟨gS, 0, none⟩)) ga gd gl life base) ∧ Both X g fp s gS bS l := fun X k => ⟨hPA.kpk k hLA hneA, hB.kpk k hall⟩
  have HF := Lib.hid facts
  have hry := right_yes hr
  have hAr := Lib.hid (fun (k : Nat) (hk : k < N) W => place_any (.pointer (some ⟨g, 0, none⟩)) (.pointer (some ⟨gS, 0, none⟩)) ga gd gl life base (k : Int) W g gS rfl rfl hG hb0 hb1 (by omega) (by omega))
  have har := Lib.hid (fun (k : Nat) (hk : k < N) => log_bd (i := base + (k : Int)) hr (by omega))
  have hW0 : KpK B w.heap.size w W := KpK.of_below hW (Nat.le_refl _)
  obtain ⟨hA0, _⟩ := facts W hW0
  obtain ⟨z0, z1, z2, z3, z4, z5, z6⟩ := seven7 hA0
  have HS := Lib.hid (And.intro hsz hd)
  have HZ := Lib.hid (log_size hr)
  have hN64 : N ≤ 64 := by omega
  subst hN
  have HN := Lib.hid hb1
  clear facts hall hPA hLA hW hP hB hsz hA0 hry hr hb1
  refine callsIn_of_wp Try.func131 rfl trivial ?_ rfl
  simp only [Try.ntmps131, List.size_toArray, List.length_cons, List.length_nil, Nat.reduceAdd, Nat.reduceSub, Array.replicate_succ, Array.replicate_zero, List.push_toArray, List.append_toArray, List.nil_append, List.cons_append]
  gi_wp2_with fail
  gi_loopw [13] (fun i wr => ∃ k : Nat, k ≤ N ∧ i = .int .i64 (k : Int) ∧ KpK B w.heap.size w wr ∧ ∃ pre : List It, Hid (Given l s ga gd N base life N k pre) ∧ J pre wr) (fun i _ => N - (intOf i).toNat)
  case atStart => exact ⟨0, by omega, rfl, hW0, [], Lib.hid ⟨Nat.zero_le _, rfl, fun j hj => absurd hj (Nat.not_lt_zero j)⟩, h0⟩
  case round =>
    obtain ⟨k, hk, rfl, kp, pre, hpre, hJ⟩ := hrel
    clear z0 z1 z2 z3 z4 z5 z6 h0 hW0
    have hwk := Snap.wrap_up (k := k) (by omega)
    obtain ⟨hA, hBo⟩ := HF.out wr kp
    by_cases hlt : k < N
    · obtain ⟨hp0, hp2, hp1⟩ := har.out k hlt
      have hArk := hAr.out k hlt
      have hri : rdL l s ga gd N base k = Sec.decode (Sec.ckS l (Disk.read s (logAt ga gd N (base + (k : Int)))).1) (logAt ga gd N (base + (k : Int))) (Disk.read s (logAt ga gd N (base + (k : Int)))).1 := rfl
      have hpg : goodL l s ga gd N base life k = (decide ((rdL l s ga gd N base k).2 = 0) && (decide ((rdL l s ga gd N base k).1.life = life) && decide ((rdL l s ga gd N base k).1.seq = (k : Int)))) := rfl
      have hwt : want l s ga gd N base k = (k, (rdL l s ga gd N base k).1) := rfl
      obtain ⟨p, hp⟩ : ∃ p, p = logAt ga gd N (base + (k : Int)) := ⟨_, rfl⟩
      rw [← hp] at hArk hp0 hp1 hp2 hri
      have hps : p < (s.size : Int) := by have := HS.out.1; have := HZ.out; omega
      have hrd : (Disk.read s p).2 = 0 := by unfold Disk.read; rw [if_neg (by rw [HS.out.2]; simp), if_neg (by omega)]
      have hbl : (Disk.read s p).1.length = 512 := by unfold Disk.read; rw [if_neg (by rw [HS.out.2]; simp), if_neg (by omega)]; exact Disk.kept_len (n := s.size) (fun x hx => (List.mem_append.1 hx).elim (hBo.disk.ok.all x) (hBo.disk.ok.pend x)) _
      have hR := fun W (h : DAt W g fp s) => read_any g fp s p W h (by omega)
      obtain ⟨r, hr⟩ : ∃ r, r = Disk.read s p := ⟨_, rfl⟩
      rw [← hr] at hR hbl hri hrd
      obtain ⟨b, f⟩ := r
      simp only at hrd hbl hri
      subst hrd
      have hD := fun W (hS : SymAt W gS bS l) A c hr hc hcm => decode_sym p gS bS l A b b.length c W hS hl (by omega) (by omega) rfl hr (by omega) hc hcm
      rw [← hri] at hD
      have hlen : (rdL l s ga gd N base k).1.body.length ≤ 1000 := by rw [hri]; exact Snap.dec_body_len _ _ hbl
      obtain ⟨d, hd'⟩ : ∃ d, d = rdL l s ga gd N base k := ⟨_, rfl⟩
      rw [← hd'] at hD hpg hwt hlen
      have HArk := Lib.hid hArk
      have HR := Lib.hid hR
      have HD := Lib.hid hD
      have Hwt := Lib.hid hwt
      have Hlen := Lib.hid hlen
      clear hArk hR hD hwt hp hr hbl hri hd' hp0 hp1 hp2 hlen hps
      obtain ⟨z0, z1, z2, z3, z4, z5, z6⟩ := seven7 hA
      gi_wp2_with fail
      refine ⟨trivial, (callsIn_wide.2 (HArk.out _)).mono ?_⟩
      rintro e2 w2 ⟨rfl, b2⟩
      have k2 := kp.trans (KpK.of_below b2 kp.size)
      obtain ⟨hA2, hBo2⟩ := HF.out w2 k2
      clear z0 z1 z2 z3 z4 z5 z6
      obtain ⟨z0, z1, z2, z3, z4, z5, z6⟩ := seven7 hA2
      gi_wp2_with fail
      refine ⟨trivial, (callsIn_wide.2 (HR.out _ hBo2.disk)).mono ?_⟩
      rintro e3 w3 ⟨v, rfl, hN3, b3⟩
      obtain ⟨A1, c1, rfl, hc1, hm1, rd1⟩ := hN3.rdN (fp := []) (by simp)
      have k3 := k2.trans (KpK.of_below b3 k2.size)
      obtain ⟨hA3, hBo3⟩ := HF.out w3 k3
      clear z0 z1 z2 z3 z4 z5 z6
      obtain ⟨z0, z1, z2, z3, z4, z5, z6⟩ := seven7 hA3
      gi_wp2_with fail
      refine ⟨trivial, (callsIn_wide.2 (HD.out _ hBo3.sym A1 c1 rd1.rd hc1 hm1)).mono ?_⟩
      rintro e4 w4 ⟨⟨A4, c4, rfl, own4⟩, b4⟩
      unfold xv
      have k4 := k3.trans (KpK.of_below b4 k3.size)
      clear z0 z1 z2 z3 z4 z5 z6
      have hx5 : Blk (w4.alloc (.cells #[.int .i64 d.1.kind, .int .u64 (d.1.life.toNat : Int), .int .i64 d.1.seq, .int .u64 (d.1.gen.toNat : Int), .slice A4 d.1.body.length c4] 43)) w4.heap.size [.int .i64 d.1.kind, .int .u64 (d.1.life.toNat : Int), .int .i64 d.1.seq, .int .u64 (d.1.gen.toNat : Int), .slice A4 d.1.body.length c4] := Blk.new w4 _ _
      have b5 : Below w4.heap.size w4 (w4.alloc (.cells #[.int .i64 d.1.kind, .int .u64 (d.1.life.toNat : Int), .int .i64 d.1.seq, .int .u64 (d.1.gen.toNat : Int), .slice A4 d.1.body.length c4] 43)) := b1alloc w4 _
      have k5 := k4.trans (KpK.of_below b5 k4.size)
      obtain ⟨hA5, _⟩ := HF.out _ k5
      obtain ⟨x0, x1, x2, x3, x4⟩ := five5x hx5
      obtain ⟨z0, z1, z2, z3, z4, z5, z6⟩ := seven7 (HF.out w4 k4).1
      obtain ⟨q0, q1, q2, q3, q4, q5, q6⟩ := seven7 hA5
      have J5 := hJb _ _ _ hJ (bt (bt (bt b2 b3) b4) b5)
      have ok5 : It.Ok w.heap.size (w4.alloc (.cells #[.int .i64 d.1.kind, .int .u64 (d.1.life.toNat : Int), .int .i64 d.1.seq, .int .u64 (d.1.gen.toNat : Int), .slice A4 d.1.body.length c4] 43)) ⟨k, d.1, A4, c4⟩ := ⟨own_base (own_on own4 b5) k3.size, Hlen.out, (show k ≤ 1000 by omega)⟩
      have hYk := hY pre ⟨k, d.1, A4, c4⟩ (w4.alloc (.cells #[.int .i64 d.1.kind, .int .u64 (d.1.life.toNat : Int), .int .i64 d.1.seq, .int .u64 (d.1.gen.toNat : Int), .slice A4 d.1.body.length c4] 43)) J5 ok5 (by have := congrArg List.length hpre.out.2.1; simp at this; omega)
      clear hx5 own4 hA5 ok5
      by_cases c0 : d.2 = 0
      rotate_left
      · have Hpg := Lib.hid (show goodL l s ga gd N base life k = false by rw [hpg, decide_eq_false c0]; rfl)
        have e0 := bne_yes c0
        clear c0
        clear hpg
        gi_wp2_with fail
        refine ⟨fun _ h => (by cases h), ?_⟩
        gi_wp2_with fail
        refine bodyPost_ret (results_none rfl _ _ _) rfl ?_
        exact ⟨⟨_, rfl⟩, .inl ⟨pre, ⟨k, hpre.out, .inr Hpg.out⟩, J5⟩⟩
      have e0 := bne_no c0
      by_cases c1' : d.1.life = life
      rotate_left
      · have Hpg := Lib.hid (show goodL l s ga gd N base life k = false by rw [hpg, decide_eq_false c1']; simp)
        have e1 := bne_yes (show (d.1.life.toNat : Int) ≠ (life.toNat : Int) from fun e => c1' (UInt64.toNat_inj.1 (by omega)))
        clear c0 c1'
        clear hpg
        gi_wp2_with fail
        refine ⟨fun _ h => (by cases h), ?_⟩
        gi_wp2_with fail
        refine bodyPost_ret (results_none rfl _ _ _) rfl ?_
        exact ⟨⟨_, rfl⟩, .inl ⟨pre, ⟨k, hpre.out, .inr Hpg.out⟩, J5⟩⟩
      have e1 := bne_no (show (d.1.life.toNat : Int) = (life.toNat : Int) by rw [c1'])
      by_cases c2' : d.1.seq = (k : Int)
      rotate_left
      · have Hpg := Lib.hid (show goodL l s ga gd N base life k = false by rw [hpg, decide_eq_false c2']; simp)
        have e2 := bne_yes c2'
        clear c0 c1' c2'
        clear hpg
        gi_wp2_with fail
        refine ⟨fun _ h => (by cases h), ?_⟩
        gi_wp2_with fail
        refine bodyPost_ret (results_none rfl _ _ _) rfl ?_
        exact ⟨⟨_, rfl⟩, .inl ⟨pre, ⟨k, hpre.out, .inr Hpg.out⟩, J5⟩⟩
      have e2 := bne_no c2'
      have Hpg := Lib.hid (show goodL l s ga gd N base life k = true by rw [hpg, decide_eq_true c0, decide_eq_true c1', decide_eq_true c2']; rfl)
      clear hpg c0 c1' c2'
      obtain ⟨fn, tmps, assign, body, hy, hRr⟩ := hYk
      unfold It.enc at hy
      simp only at hy
      have Hgo := Lib.hid (hpre.out.snoc (t := ⟨k, d.1, A4, c4⟩) hlt (by rw [Hwt.out]; rfl) Hpg.out)
      gi_wp2_with fail
      refine hRr.mono ?_
      rintro e7 w7 (⟨rfl, hJ7, hk7⟩ | ⟨rfl, hJx7⟩)
      · gi_wp2_with fail
        go_roundw
        case rel => exact ⟨k + 1, by omega, by go_num, k5.trans hk7, _, Lib.hid Hgo.out, hJ7⟩
        case measure => simp only [intOf]; omega
      · gi_wp2_with fail
        refine bodyPost_ret (results_none rfl _ _ _) rfl ?_
        exact ⟨⟨_, rfl⟩, .inr ⟨_, ⟨k + 1, Hgo.out⟩, hJx7⟩⟩
    · have hkN : k = N := by omega
      have Hk := Lib.hid hkN
      have hkn : ¬ (k : Int) < (N : Int) := by omega
      clear hkN
      gi_wp2
      go_end0
      exact ⟨⟨_, rfl⟩, .inl ⟨pre, ⟨k, hpre.out, .inl Hk.out⟩, hJ⟩⟩
theorem secs1_ok (n : Nat) (hn : 1 ≤ n) (B Br Bf F g : Nat) (fp : List Nat) (s : St) (gS bS : Nat) (l : List (List UInt8)) (ga gd gl : Int) (life : UInt64) (base : Int) (N : Nat) (hG : Gb ga gd gl) (hN : (N : Int) = gl) (hr : right ga gd gl = true) (hb0 : 0 ≤ base) (hb1 : base ≤ 1073741824) (hl : l.length ≤ 1000000) (hs : s.sz ≤ 90000000) (hd : s.down = false) (hsz : (s.size : Int) = Geom.sizeOf ga gd gl)
    (w : World) (hP : SecsAt w Br Bf F (.pointer (some ⟨g, 0, none⟩)) (.pointer (some ⟨gS, 0, none⟩)) ga gd gl life base) (hB : Both w g fp s gS bS l) (hne : ∀ j ∈ bS :: gS :: fp, j ≠ B) (hneA : Br ≠ B) :
    SeqOk n Try.prog 131 #[.pointer (some ⟨Br, 0, none⟩), .pointer (some ⟨Bf, 0, none⟩)] It.enc (It.Ok w.heap.size) (KpK B w.heap.size) (fun ys => ∃ k, Given l s ga gd gl base life N k ys ∧ (k = N ∨ goodL l s ga gd gl base life k = false))
      (fun pre => ∃ k, Given l s ga gd gl base life N k pre) N w := fun lp J Jx W hW hJ hJx hY h0 =>
  secs1_in n hn lp B Br Bf F g fp s gS bS l ga gd gl life base N hG hN hr hb0 hb1 hl hs hd hsz w hP hB hne hneA J Jx hY W hW (fun pre W W' h b => hJ pre W W' none h (below_grown b none) (fun r e => by cases e)) h0
end Go.Proofs.Ytmpmibcdpkolkaa.Wal

/- The log: what a scan comes to: plain. No statement is proved here. -/
namespace Go.Proofs.Ytmpmibcdpkolkaa.Wal
open Go.RowKit
open Go.Proofs.Ytmpmibcdpkolkaa.Sec (X)
set_option linter.unusedVariables false
def r00 : Rg := ⟨[], [], 0, 0⟩
/-- what is read, sector by sector -/
def scanH (np : Int) (rd : Nat → X) (good : Nat → Bool) : Nat → Nat → Rg → Rg
  | 0, _, r => r
  | n + 1, i, r => if good i = true then (if (takeF np r i (rd i)).2 = true then scanH np rd good n (i + 1) (takeF np r i (rd i)).1 else (takeF np r i (rd i)).1) else r
def foldR (np : Int) (l : List (Nat × X)) : Rg := l.foldl (fun r t => (takeF np r t.1 t.2).1) r00
theorem foldR_snoc (np : Int) (l : List (Nat × X)) (t : Nat × X) : foldR np (l ++ [t]) = (takeF np (foldR np l) t.1 t.2).1 := by simp [foldR]
def okR (np : Int) (l : List (Nat × X)) : Prop := ∀ q t q', l = q ++ t :: q' → (takeF np (foldR np q) t.1 t.2).2 = true
theorem okR_nil (np : Int) : okR np [] := fun q t q' h => by cases q <;> cases h
theorem okR_snoc {np : Int} {l : List (Nat × X)} {t : Nat × X} (h : okR np l) (ht : (takeF np (foldR np l) t.1 t.2).2 = true) : okR np (l ++ [t]) := fun q u q' e => by
  rcases List.eq_nil_or_concat q' with rfl | ⟨q2, v, rfl⟩
  · have := List.append_inj' e rfl
    obtain ⟨rfl, e2⟩ := this
    injection e2 with e2
    subst e2
    exact ht
  · have e' : l ++ [t] = (q ++ u :: q2) ++ [v] := by rw [e]; simp
    exact h q u q2 (List.append_inj' e' rfl).1
theorem takeF_len (np : Int) (r : Rg) (i : Nat) (x : X) : (takeF np r i x).1.all.length + (takeF np r i x).1.now.length ≤ r.all.length + r.now.length + 1 := by
  unfold takeF
  split
  · simp only; omega
  · split
    · simp only; omega
    · split
      · simp; omega
      · split
        · simp
        · simp only; omega
theorem foldR_len (np : Int) : ∀ (n : Nat) (l : List (Nat × X)), l.length = n → (foldR np l).all.length + (foldR np l).now.length ≤ n
  | 0, l, h => by
    obtain rfl := List.eq_nil_of_length_eq_zero h
    simp [foldR, r00]
  | n + 1, l, h => by
    rcases List.eq_nil_or_concat l with rfl | ⟨q, t, rfl⟩
    · cases h
    · have ih := foldR_len np n q (by simpa using h)
      rw [List.concat_eq_append, foldR_snoc]
      have := takeF_len np (foldR np q) t.1 t.2
      omega
theorem scanH_go {np : Int} {rd : Nat → X} {good : Nat → Bool} (N : Nat) : ∀ (k : Nat), k ≤ N → (∀ j, j < k → good j = true) → okR np ((List.range k).map fun j => (j, rd j)) →
    scanH np rd good N 0 r00 = scanH np rd good (N - k) k (foldR np ((List.range k).map fun j => (j, rd j)))
  | 0, _, _, _ => by simp [foldR]
  | k + 1, hk, hg, ho => by
    have e : (List.range (k + 1)).map (fun j => (j, rd j)) = (List.range k).map (fun j => (j, rd j)) ++ [(k, rd k)] := by rw [List.range_succ, List.map_append]; rfl
    have ho' : okR np ((List.range k).map fun j => (j, rd j)) := fun q t q' h => ho q t (q' ++ [(k, rd k)]) (by rw [e, h]; simp)
    have ht := ho ((List.range k).map fun j => (j, rd j)) (k, rd k) [] e
    rw [scanH_go N k (by omega) (fun j hj => hg j (by omega)) ho', e, foldR_snoc]
    obtain ⟨m, hm⟩ : ∃ m, N - k = m + 1 := ⟨N - k - 1, by omega⟩
    rw [hm, show N - (k + 1) = m by omega]
    show (if _ then _ else _) = _
    rw [if_pos (hg k (by omega)), if_pos ht]
/-- the scan has come to its end -/
theorem scanH_done {np : Int} {rd : Nat → X} {good : Nat → Bool} {N k : Nat} (hk : k ≤ N) (hg : ∀ j, j < k → good j = true) (ho : okR np ((List.range k).map fun j => (j, rd j))) (he : k = N ∨ good k = false) : scanH np rd good N 0 r00 = foldR np ((List.range k).map fun j => (j, rd j)) := by
  rw [scanH_go N k hk hg ho]
  rcases he with rfl | he
  · rw [Nat.sub_self]; rfl
  · cases hm : N - k with
    | zero => rfl
    | succ m => show (if _ then _ else _) = _; rw [if_neg (by rw [he]; simp)]
/-- it ended at a sector that is none -/
theorem scanH_stop {np : Int} {rd : Nat → X} {good : Nat → Bool} {N k : Nat} (hk : k + 1 ≤ N) (hg : ∀ j, j < k + 1 → good j = true) (ho : okR np ((List.range k).map fun j => (j, rd j))) (ht : (takeF np (foldR np ((List.range k).map fun j => (j, rd j))) k (rd k)).2 = false) :
    scanH np rd good N 0 r00 = foldR np ((List.range (k + 1)).map fun j => (j, rd j)) := by
  have e : (List.range (k + 1)).map (fun j => (j, rd j)) = (List.range k).map (fun j => (j, rd j)) ++ [(k, rd k)] := by rw [List.range_succ, List.map_append]; rfl
  rw [scanH_go N k (by omega) (fun j hj => hg j (by omega)) ho, e, foldR_snoc]
  obtain ⟨m, hm⟩ : ∃ m, N - k = m + 1 := ⟨N - k - 1, by omega⟩
  rw [hm]
  show (if _ then _ else _) = _
  rw [if_pos (hg k (by omega)), if_neg (by rw [ht]; simp)]
end Go.Proofs.Ytmpmibcdpkolkaa.Wal

/- The log: what is scanned. No statement is proved here. -/
namespace Go.Proofs.Ytmpmibcdpkolkaa.Wal
open Go.RowKit Go.Shelf
open Go.Proofs.Ytmpmibcdpkolkaa.Geom
open Go.Proofs.Ytmpmibcdpkolkaa.Ch (SeqOk range_ok)
open Go.Proofs.Ytmpmibcdpkolkaa.Sup (Gb gv gcell gthree)
open Go.Proofs.Ytmpmibcdpkolkaa.Disk (St DAt)
open Go.Proofs.Ytmpmibcdpkolkaa.Sec (X)
attribute [local go_sem] Oper.semAt_some
set_option linter.unusedVariables false
set_option maxRecDepth 100000
theorem It.Ok.grown {n0 : Nat} {W W' : World} {t : It} {row : Option Nat} (h : It.Ok n0 W t) (hg : W.grownBy W' row) (hr : ∀ r, row = some r → ∃ o : Obj, W.heap[r]? = some o ∧ o.isCells = false) : It.Ok n0 W' t :=
  ⟨ownU h.1 fun j cs hj => hg.block j (lt_of_block hj) fun e => (by
    obtain ⟨o, ho, hc⟩ := hr j e.symm
    rw [hj] at ho; cases ho; cases hc), h.2⟩
theorem It.Ok.on {n0 : Nat} {W W' : World} {t : It} (h : It.Ok n0 W t) (b : Below W.heap.size W W') : It.Ok n0 W' t := ⟨own_on h.1 b, h.2⟩
/-- transactions of the call's own -/
def OwnTx (w : World) (base : Nat) (v : Value) (l : List Tx) : Prop := ∃ trs : List Tr, w.ownsRow base 158 2 v trs.length (trs.flatMap Tr.cells) ∧ trs.map Tr.tx = l ∧ (∀ t ∈ trs, TrOk w base none t) ∧ trs.length ≤ 100000
/-- what is scanned -/
def scanTx (l : List (List UInt8)) (s : St) (ga gd gl base : Int) (life : UInt64) : List Tx := (scanH (pagesOf ga gd gl) (fun k => (rdL l s ga gd gl base k).1) (goodL l s ga gd gl base life) gl.toNat 0 r00).all
theorem PrOk.base {w : World} {n0 n1 : Nat} {p : Pr} (h : PrOk w n0 p) (hb : n1 ≤ n0) : PrOk w n1 p :=
  ⟨fun hne => by obtain ⟨g, off, cs, e, hg, hh, hc⟩ := h.rd hne; exact ⟨g, off, cs, e, Nat.le_trans hb hg, hh, hc⟩, h.cap, h.max, h.lo, h.hi, h.len⟩
theorem RdAt.tx {w : World} {n0 T b : Nat} {np : Int} {r : Rg} {allv nowv : Value} {trs : List Tr} {prs : List Pr} (h : RdAt w n0 T np r allv nowv trs prs) (hb : b ≤ n0) : OwnTx w b allv r.all :=
  ⟨trs, own_base h.all hb, h.eA.symm, fun t ht => ⟨own_base (h.okA t ht).row hb, fun g _ e => (by cases e), fun p hp => ((h.okA t ht).pages p hp).base hb⟩, h.bd.1⟩
/-- between two rounds of Scan -/
structure SInv (w w4 : World) (np : Int) (T F : Nat) (pre : List It) (X : World) : Prop where
  rd : ∃ allv nowv trs prs, RdAt X w4.heap.size T np (foldR np (pre.map It.f)) allv nowv trs prs
  kp : KpK T w4.heap.size w4 X
  bel : Below w.heap.size w X
theorem SInv.own {w w4 : World} {np : Int} {T F : Nat} (hw : w.heap.size ≤ w4.heap.size) : OwnFrom w4.heap.size (SInv w w4 np T F) := by
  intro pre X X' row hI hg hr
  obtain ⟨⟨allv, nowv, trs, prs, h⟩, kp, b⟩ := hI
  exact ⟨⟨allv, nowv, trs, prs, h.own hg hr⟩, kpK_grown kp hg (fun r e => (hr r e).1) (Nat.le_refl _), b.grown hg (by have := b.size; omega) (fun r e => by have := (hr r e).1; omega)⟩
set_option maxHeartbeats 2000000 in
theorem scan_any (g : Nat) (fp : List Nat) (s : St) (gS bS : Nat) (l : List (List UInt8)) (ga gd gl : Int) (life : UInt64) (base : Int) (w : World) (hG : Gb ga gd gl) (h : Both w g fp s gS bS l) (hl : l.length ≤ 1000000) (hs : s.sz ≤ 90000000) (hf : wrightF s ga gd gl base = 0) (hd : s.down = false) :
    Calls Try.prog 50 #[.pointer (some ⟨g, 0, none⟩), .pointer (some ⟨gS, 0, none⟩), gv ga gd gl, .int .u64 (life.toNat : Int), .int .i64 base] w fun e w' => (∃ v, e = .returned (.tuple #[v, .int .i64 0]) ∧ OwnTx w' w.heap.size v (scanTx l s ga gd gl base life)) ∧ Below w.heap.size w w' := by
  have FG := Blk.new w (gcell ga gd gl) 23
  obtain ⟨z0, z1, z2⟩ := gthree FG
  have HR := Lib.hid (fun W (bW : Below w.heap.size w W) => right_any g fp s gS ga gd gl life base W hG (h.disk.on bW))
  rw [hf] at HR
  obtain ⟨hr, hsz, hb0, hb1⟩ : right ga gd gl = true ∧ (s.size : Int) = Geom.sizeOf ga gd gl ∧ 0 ≤ base ∧ base ≤ 1073741824 := by
    unfold wrightF at hf
    split at hf
    · assumption
    · cases hf
  have hry := right_yes hr
  have HP := Lib.hid (fun W => Geom.pages_any ga gd gl W hG.a0 hG.a1 hG.d0 hG.d1 hG.g0 hG.g1)
  obtain ⟨np, hnp⟩ : ∃ np, np = pagesOf ga gd gl := ⟨_, rfl⟩
  rw [← hnp] at HP
  have hnp0 : 0 ≤ np ∧ np ≤ 100 := by have := pagesOf_bd ga gd gl; omega
  have HR0 := Lib.hid (show scanTx l s ga gd gl base life = (scanH np (fun k => (rdL l s ga gd gl base k).1) (goodL l s ga gd gl base life) gl.toNat 0 r00).all by rw [hnp]; rfl)
  obtain ⟨R, hR⟩ : ∃ R, R = scanTx l s ga gd gl base life := ⟨_, rfl⟩
  rw [← hR]
  have HRR := Lib.hid hR
  clear hR hnp
  refine (callsIn_wide (n := 8)).1 ?_
  refine callsIn_of_wp_marks Try.func50 rfl trivial ?_ rfl
  simp only [Try.ntmps50, List.size_toArray, List.length_cons, List.length_nil, Nat.reduceAdd, Nat.reduceSub, Array.replicate_succ, Array.replicate_zero, List.push_toArray, List.append_toArray, List.nil_append, List.cons_append]
  gi_wp2_with fail
  refine wpIn_wide.2 (wp_scope_straight ((wpIn_wide (n := 8)).1 ?_))
  gi_wp2_with fail
  obtain ⟨w0, hw0⟩ : ∃ w0, w0 = (w.alloc (.cells (gcell ga gd gl).toArray 23)).alloc (.cells (rcell (.pointer (some ⟨g, 0, none⟩)) (.pointer (some ⟨gS, 0, none⟩)) ga gd gl life base).toArray 160) := ⟨_, rfl⟩
  have ba : Blk w0 (w.heap.size + 1) (rcell (.pointer (some ⟨g, 0, none⟩)) (.pointer (some ⟨gS, 0, none⟩)) ga gd gl life base) := by
    rw [hw0]
    have := Blk.new (w.alloc (.cells (gcell ga gd gl).toArray 23)) (rcell (.pointer (some ⟨g, 0, none⟩)) (.pointer (some ⟨gS, 0, none⟩)) ga gd gl life base) 160
    simpa using this
  have bg : Blk w0 w.heap.size (gcell ga gd gl) := by rw [hw0]; exact FG.alloc _
  have b0 : Below w.heap.size w w0 := by rw [hw0]; exact b2alloc _ _ _
  rw [show (w.alloc (.cells #[.int .i64 ga, .int .i64 gd, .int .i64 gl] 23)).alloc (.cells #[.pointer (some ⟨g, 0, none⟩), .pointer (some ⟨gS, 0, none⟩), .int .i64 ga, .int .i64 gd, .int .i64 gl, .int .u64 (life.toNat : Int), .int .i64 base] 160) = w0 from hw0.symm]
  clear hw0 z0 z1 z2 FG
  refine ⟨trivial, (callsIn_wide.2 (HR.out _ b0)).mono ?_⟩
  rintro e1 w1 ⟨rfl, b1⟩
  have b01 := bt b0 b1
  have bg1 := (bg.on b1).alloc (.cells #[.int .i64 0] 28)
  obtain ⟨z0, z1, z2⟩ := gthree bg1
  gi_wp2_with fail
  have bf := Boxed.new w1 28 (.int .i64 0)
  have b1f := b1alloc w1 (.cells #[.int .i64 0] 28)
  refine ⟨trivial, (callsIn_wide.2 (HP.out _)).mono ?_⟩
  rintro e2 w2 ⟨rfl, b2⟩
  clear z0 z1 z2
  gi_wp2_with fail
  refine wpIn_label ?_
  obtain ⟨w3, hw3⟩ : ∃ w3, w3 = (w2.alloc (.cells #[.slice none 0 0, .slice none 0 0, .int .u64 0, .int .u64 0, .int .i64 np] 163)).alloc (.cells #[.pointer (some ⟨w2.heap.size, 0, none⟩)] 161) := ⟨_, rfl⟩
  have bT : Blk w3 w2.heap.size [.slice none 0 0, .slice none 0 0, .int .u64 0, .int .u64 0, .int .i64 np] := by
    rw [hw3]; exact (Blk.new w2 [.slice none 0 0, .slice none 0 0, .int .u64 0, .int .u64 0, .int .i64 np] 163).alloc _
  have bP : Box w3 (w2.heap.size + 1) (.pointer (some ⟨w2.heap.size, 0, none⟩)) := by
    rw [hw3]
    have := Box.new (w2.alloc (.cells #[.slice none 0 0, .slice none 0 0, .int .u64 0, .int .u64 0, .int .i64 np] 163)) 161 (.pointer (some ⟨w2.heap.size, 0, none⟩))
    simpa using this
  have b3 : Below w2.heap.size w2 w3 := by rw [hw3]; exact b2alloc _ _ _
  rw [show (w2.alloc (.cells #[.slice none 0 0, .slice none 0 0, .int .u64 0, .int .u64 0, .int .i64 np] 163)).alloc (.cells #[.pointer (some ⟨w2.heap.size, 0, none⟩)] 161) = w3 from hw3.symm]
  clear hw3
  have bf2 : Box w3 w1.heap.size (.int .i64 0) := ⟨_, ((bt b2 b3).block _ bf.lt).trans bf⟩
  have ba3 : Blk w3 (w.heap.size + 1) (rcell (.pointer (some ⟨g, 0, none⟩)) (.pointer (some ⟨gS, 0, none⟩)) ga gd gl life base) := ba.on (bt (bt b1 b1f) (bt b2 b3))
  obtain ⟨z0, z1, z2, z3, z4, z5, z6⟩ := seven7 ba3
  have s01 := ba.lt
  have s1 := b1.size
  have s1f : w1.heap.size < (w1.alloc (.cells #[.int .i64 0] 28)).heap.size := by simp
  have s2 := b2.size
  have s3 := b3.size
  have lP := bP.lt
  gi_wp2_with fail
  refine ⟨trivial, (callsIn_wide.2 (sectors_any g gS w1.heap.size ga gd gl life base w3)).mono ?_⟩
  rintro e4 w4 ⟨rfl, hP4, b4⟩
  have s4 := b4.size
  have lS := hP4.fault.lt
  have b03 : Below w.heap.size w w3 := bt (bt b01 b1f) (bt b2 b3)
  have b04 := bt b03 b4
  have hB4 := h.on b04
  clear z0 z1 z2 z3 z4 z5 z6
  have hne : ∀ j ∈ bS :: gS :: fp, j ≠ w2.heap.size := by
    intro j hj
    have := b01.size
    rcases List.mem_cons.1 hj with e | e
    · have := h.sym.lt.2; omega
    rcases List.mem_cons.1 e with e | e
    · have := h.sym.lt.1; omega
    · have := h.disk.lt _ e; omega
  have hr0 : RdAt w4 w4.heap.size w2.heap.size np (foldR np []) (.slice none 0 0) (.slice none 0 0) [] [] :=
    ⟨bT.on b4, own_nil _ _ _ _, own_nil _ _ _ _, fun t ht => (by cases ht), fun t ht => (by cases ht), rfl, rfl, by have := (bT.on b4).lt; omega, Nat.le_refl _, by simp⟩
  have hS0 := SInv.own (np := np) (T := w2.heap.size) (F := w1.heap.size) (w := w) (w4 := w4) b04.size
  obtain ⟨N, hN⟩ : ∃ N : Nat, N = gl.toNat := ⟨_, rfl⟩
  have hNg : (N : Int) = gl := by omega
  rw [← hN] at HR0
  gi_wp2_with fail
  refine range_ok (n := 8) (by omega) (gf := 131) (lb := #[.pointer (some ⟨w3.heap.size, 0, none⟩), .pointer (some ⟨w3.heap.size + 1, 0, none⟩)]) rfl (enters_of Try.func131 (by kernel_rfl) rfl)
    (secs1_ok 7 (by omega) w2.heap.size w3.heap.size (w3.heap.size + 1) w1.heap.size g fp s gS bS l ga gd gl life base N hG hNg hr hb0 hb1 hl hs hd hsz w4 hP4 hB4 hne (by omega))
    (fun h k => h.trans k) (fun W l o o' hl h _ _ => KpK.turn W l o' hl) (Below.refl _ _) (fun _ => rfl)
    (fun pre X => SInv w w4 np w2.heap.size w1.heap.size pre X ∧ okR np (pre.map It.f))
    (fun c (pre' : List It) X => (∃ (pre : List It) (x : It), pre' = pre ++ [x] ∧ c = .exit 0 ∧ okR np (pre.map It.f) ∧ (takeF np (foldR np (pre.map It.f)) x.k x.x).2 = false) ∧ SInv w w4 np w2.heap.size w1.heap.size pre' X)
    (fun pre X X' row hI hg hr => ⟨hS0 pre X X' row hI.1 hg hr, hI.2⟩)
    (fun c pre X X' row hI hg hr => ⟨hI.1, hS0 pre X X' row hI.2 hg hr⟩)
    ⟨⟨⟨_, _, _, _, hr0⟩, KpK.refl _ _ _, b04⟩, okR_nil np⟩
    (fun pre x a' X => ∃ pb, a' = { tmps := #[.pointer (some ⟨g, 0, none⟩), .pointer (some ⟨gS, 0, none⟩), gv ga gd gl, .int .u64 (life.toNat : Int), .int .i64 base, undef, undef, .pointer (some ⟨w.heap.size, 0, none⟩), undef, undef, .slice none 0 0, .int .i64 0, .pointer (some ⟨w.heap.size + 1, 0, none⟩), .int .i64 0, .pointer (some ⟨w1.heap.size, 0, none⟩), .pointer (some ⟨w2.heap.size + 1, 0, none⟩), .int .i64 (x.k : Int), .pointer (some ⟨pb, 0, none⟩), .pointer (some ⟨g, 0, none⟩), .pointer (some ⟨gS, 0, none⟩), gv ga gd gl, .int .u64 (life.toNat : Int), .int .i64 base, (rv (.pointer (some ⟨g, 0, none⟩)) (.pointer (some ⟨gS, 0, none⟩)) ga gd gl life base), (rv (.pointer (some ⟨g, 0, none⟩)) (.pointer (some ⟨gS, 0, none⟩)) ga gd gl life base), .int .i64 0, .int .i64 0, .bool false, undef, gv ga gd gl, .int .i64 np, .agg #[.slice none 0 0, .slice none 0 0, .int .u64 0, .int .u64 0, .int .i64 np], .pointer (some ⟨w2.heap.size, 0, none⟩), (rv (.pointer (some ⟨g, 0, none⟩)) (.pointer (some ⟨gS, 0, none⟩)) ga gd gl life base), .func (.func 131) #[] #[.pointer (some ⟨w3.heap.size, 0, none⟩), .pointer (some ⟨w3.heap.size + 1, 0, none⟩)], .int .i64 (x.k : Int), .agg #[.int .i64 x.x.kind, .int .u64 (x.x.life.toNat : Int), .int .i64 x.x.seq, .int .u64 (x.x.gen.toNat : Int), .slice x.A x.x.body.length x.c], undef, undef, undef, undef, undef, undef, undef, undef, undef, undef, undef, undef], defers := [] } ∧ Blk X pb [.int .i64 x.x.kind, .int .u64 (x.x.life.toNat : Int), .int .i64 x.x.seq, .int .u64 (x.x.gen.toNat : Int), .slice x.A x.x.body.length x.c] ∧ w4.heap.size ≤ pb ∧ It.Ok w4.heap.size X x ∧ SInv w w4 np w2.heap.size w1.heap.size pre X ∧ okR np (pre.map It.f))
    ?_ ?assign ?body ?done ?stop
  · rintro pre x a' X lp o o' hl ho hc ⟨pb, rfl, hpb, hpl, hok, hIx, hokr⟩
    have hg := grownBy_putObj' X lp o'
    refine ⟨pb, rfl, ?_, hpl, hok.grown hg (fun r e => by cases e; exact ⟨o, ho, hc⟩), hS0 pre X _ (some lp) hIx hg (fun r e => by cases e; exact ⟨hl, o, ho, hc⟩), hokr⟩
    obtain ⟨t, ht⟩ := hpb
    refine ⟨t, (hg.block pb (lt_of_block ht) (fun e => ?_)).trans ht⟩
    injection e with e
    subst e
    rw [ht] at ho; cases ho; cases hc
  case assign =>
    intro lp pre x X hIx hok hlen
    unfold It.enc
    simp [List.zip_toArray, List.setIfInBounds_toArray]
    gi_wp2
    refine ⟨KeepsOthers.alloc _ _, KpK.of_below (b1alloc _ _) hIx.1.kp.size, X.heap.size, rfl, Blk.new X [.int .i64 x.x.kind, .int .u64 (x.x.life.toNat : Int), .int .i64 x.x.seq, .int .u64 (x.x.gen.toNat : Int), .slice x.A x.x.body.length x.c] _, hIx.1.kp.size, hok.on (b1alloc _ _), hS0 pre X _ none hIx.1 (below_grown (b1alloc _ _) none) (fun r e => by cases e), hIx.2⟩
  case body =>
    rintro lp pre x a' X ⟨pb, rfl, hpb, hpl, hok, ⟨⟨allv, nowv, trs, prs, hrd⟩, hkp, hbX⟩, hokr⟩ hlen
    obtain ⟨x0, x1, x2, x3, x4⟩ := five5r hpb
    have hP := (Box.on' bP b4).kpk hkp (by omega) (by omega)
    have p0 := hP.cell
    have hlx := hpb.lt
    have lP := hP.lt
    have hln := foldR_len np _ (pre.map It.f) rfl
    rw [List.length_map] at hln
    have e1 := congrArg List.length hrd.eA
    have e2 := congrArg List.length hrd.eN
    rw [List.length_map] at e1 e2
    have HT := Lib.hid (take_any w4.heap.size w2.heap.size np (foldR np (pre.map It.f)) allv nowv trs prs x.k x.x x.A x.c X hrd hok.1 hok.2.1 hok.2.2 hnp0.1 hnp0.2 (by omega) (by omega))
    have hsn : foldR np ((pre ++ [x]).map It.f) = (takeF np (foldR np (pre.map It.f)) x.k x.x).1 := by rw [List.map_append]; exact foldR_snoc np (pre.map It.f) x.f
    have hso : (takeF np (foldR np (pre.map It.f)) x.k x.x).2 = true → okR np ((pre ++ [x]).map It.f) := fun h => by rw [List.map_append]; exact okR_snoc hokr h
    obtain ⟨q, hq⟩ : ∃ q, q = takeF np (foldR np (pre.map It.f)) x.k x.x := ⟨_, rfl⟩
    rw [← hq] at HT hsn hso
    have Hq := Lib.hid hq
    have Hsn := Lib.hid hsn
    have Hso := Lib.hid hso
    clear hq hsn hso hln e1 e2 hrd
    gi_wp2_with fail
    refine ⟨trivial, (callsIn_wide.2 HT.out).mono ?_⟩
    rintro e5 w5 ⟨rfl, hR5, hk5, hp5⟩
    have hb5 : Below w.heap.size w w5 := ⟨hp5.1.trans hbX.os, hp5.2.1.trans hbX.tape, hp5.2.2.1.trans hbX.output, Nat.le_trans hbX.size hp5.size, fun j hj => (hp5.block (by omega) (by omega)).trans (hbX.block j hj)⟩
    obtain ⟨r5, t5⟩ := q
    have hS5 : SInv w w4 np w2.heap.size w1.heap.size (pre ++ [x]) w5 := ⟨by rw [Hsn.out]; exact hR5, hkp.trans hp5, hb5⟩
    cases t5 with
    | true =>
      gi_wp2
      exact ⟨hk5, hp5, hS5, Hso.out (by first | trivial | rfl)⟩
    | false =>
      gi_wp2
      exact ⟨hk5, ⟨pre, x, rfl, rfl, hokr, by rw [← Hq.out]⟩, hS5⟩
  case done =>
    rintro D xs X hD ⟨k, ⟨hkN, hmap, hgood⟩, hend⟩ ⟨⟨⟨allv, nowv, trs, prs, hrd⟩, hkp, hbX⟩, hokr⟩ hKD
    have hexit : R = (foldR np (xs.map It.f)).all := by
      rw [HRR.out, HR0.out, hmap]
      rw [hmap] at hokr
      exact congrArg Rg.all (scanH_done hkN hgood hokr hend)
    have hfb := Box.on' bf2 b4
    have f0 := (hfb.kpk hkp (by omega) (by omega)).cell
    have p0 := ((Box.on' bP b4).kpk hkp (by omega) (by omega)).cell
    have lfb := hfb.lt
    obtain ⟨y0, y1, y2, y3, y4⟩ := five5r hrd.blk
    have lT := hrd.blk.lt
    have lXs := hkp.size
    have g0 := grownBy_putObj' X D (.deferred none)
    have Hrd := Lib.hid (hrd.own g0 (fun r e => (by cases e; exact ⟨hD, _, hKD, rfl⟩)))
    have Hex := Lib.hid hexit
    clear hexit hrd hfb
    gi_wp2_with fail
    refine ⟨by simp, .inl ⟨_, _, rfl, run_takeDeferred hKD, ?_⟩⟩
    refine ⟨.tuple #[allv, .int .i64 0], (by simp [results, Try.results50, go_sem]), ?_⟩
    refine ⟨⟨allv, rfl, ?_⟩, hbX.trans (belowK_b (w := w) (Nat.le_refl _) _ D _ _ (by have := b04.size; omega) hKD rfl rfl)⟩
    rw [Hex.out]
    exact Hrd.out.tx b04.size
  case stop =>
    rintro D c pre' X hD ⟨k, hkN, hmap, hgood⟩ ⟨⟨pre, x, rfl, rfl, hokr, hlast⟩, ⟨⟨allv, nowv, trs, prs, hrd⟩, hkp, hbX⟩⟩ hKD
    have hk1 : pre.length + 1 = k := by simpa using congrArg List.length hmap
    subst hk1
    have hmap2 := hmap
    rw [List.range_succ, List.map_append, List.map_append] at hmap2
    obtain ⟨hm1, hm2⟩ := List.append_inj' hmap2 rfl
    simp only [List.map_cons, List.map_nil, List.cons.injEq, and_true] at hm2
    have hxk : x.k = pre.length := congrArg Prod.fst hm2
    have hxx : x.x = (rdL l s ga gd gl base pre.length).1 := congrArg Prod.snd hm2
    have hexit : R = (foldR np ((pre ++ [x]).map It.f)).all := by
      rw [HRR.out, HR0.out, hmap]
      rw [hm1] at hokr
      rw [hm1, hxk, hxx] at hlast
      exact congrArg Rg.all (scanH_stop hkN hgood hokr hlast)
    clear hm1 hm2 hxk hxx hmap2
    have hfb := Box.on' bf2 b4
    have f0 := (hfb.kpk hkp (by omega) (by omega)).cell
    have p0 := ((Box.on' bP b4).kpk hkp (by omega) (by omega)).cell
    have lfb := hfb.lt
    obtain ⟨y0, y1, y2, y3, y4⟩ := five5r hrd.blk
    have lT := hrd.blk.lt
    have lXs := hkp.size
    have g0 := grownBy_putObj' X D (.deferred none)
    have Hrd := Lib.hid (hrd.own g0 (fun r e => (by cases e; exact ⟨hD, _, hKD, rfl⟩)))
    have Hex := Lib.hid hexit
    clear hexit hrd hfb
    gi_wp2_with fail
    refine ⟨by simp, .inl ⟨_, _, rfl, run_takeDeferred hKD, ?_⟩⟩
    refine ⟨.tuple #[allv, .int .i64 0], (by simp [results, Try.results50, go_sem]), ?_⟩
    refine ⟨⟨allv, rfl, ?_⟩, hbX.trans (belowK_b (w := w) (Nat.le_refl _) _ D _ _ (by have := b04.size; omega) hKD rfl rfl)⟩
    rw [Hex.out]
    exact Hrd.out.tx b04.size
end Go.Proofs.Ytmpmibcdpkolkaa.Wal

/- The log, in plain Lean: what stands behind what was appended, and that it is read back. No statement is proved here. -/
namespace Go.Proofs.Ytmpmibcdpkolkaa.Wal
open Go.RowKit
open Go.Proofs.Ytmpmibcdpkolkaa.Geom
open Go.Proofs.Ytmpmibcdpkolkaa.Num (putL putL_len getN getN_putL)
open Go.Proofs.Ytmpmibcdpkolkaa.Disk (St Wr write flush read kept new zero512)
open Go.Proofs.Ytmpmibcdpkolkaa.Sec (X X0 text rightF)
open Go.Proofs.Ytmpmibcdpkolkaa.Sup (UpN Gb)
open Go.Proofs.Ytmpmibcdpkolkaa.Enc (Itm Enf enf enf_of More kept_of rd rd_good rd_zero)
set_option linter.unusedVariables false
/-- one behind the other -/
def takes (np : Int) : List (Nat × X) → Rg → Rg × Bool
  | [], r => (r, true)
  | t :: l, r => if (takeF np r t.1 t.2).2 = true then takes np l (takeF np r t.1 t.2).1 else ((takeF np r t.1 t.2).1, false)
theorem takes_append (np : Int) : ∀ (a b : List (Nat × X)) (r r' : Rg), takes np a r = (r', true) → takes np (a ++ b) r = takes np b r'
  | [], b, r, r', h => by injection h with h _; subst h; rfl
  | t :: a, b, r, r', h => by
    unfold takes at h
    rw [List.cons_append]
    show (if _ then _ else _) = _
    split at h
    · rename_i ht
      rw [if_pos ht]
      exact takes_append np a b _ _ h
    · cases h
theorem takes_fold (np : Int) : ∀ (l : List (Nat × X)) (r' : Rg) (pre : List (Nat × X)), okR np pre → takes np l (foldR np pre) = (r', true) → okR np (pre ++ l) ∧ foldR np (pre ++ l) = r'
  | [], r', pre, ho, h => by injection h with h _; rw [List.append_nil]; exact ⟨ho, h⟩
  | t :: l, r', pre, ho, h => by
    unfold takes at h
    split at h
    · rename_i ht
      have := takes_fold np l r' (pre ++ [t]) (okR_snoc ho ht) (by rw [foldR_snoc]; exact h)
      simpa using this
    · cases h
/-- the sectors of a transaction -/
def dSecs (life : UInt64) (q : Nat) (gen : UInt64) : Nat → List Pg → List X
  | _, [] => []
  | i, x :: r => dX 4 life q i gen x.n.toNat x.body :: dSecs life q gen (i + 1) r
def tSecs (life : UInt64) (q : Nat) (t : Tx) : List X := dSecs life q t.gen 0 t.pages ++ [dX 5 life q t.pages.length t.gen t.pages.length []]
theorem dSecs_len (life : UInt64) (q : Nat) (gen : UInt64) : ∀ (l : List Pg) (i : Nat), (dSecs life q gen i l).length = l.length
  | [], i => rfl
  | x :: r, i => by simp [dSecs, dSecs_len life q gen r (i + 1)]
theorem tSecs_len (life : UInt64) (q : Nat) (t : Tx) : (tSecs life q t).length = t.pages.length + 1 := by simp [tSecs, dSecs_len]
theorem dSecs_get (life : UInt64) (q : Nat) (gen : UInt64) : ∀ (l : List Pg) (i k : Nat) (h : k < (dSecs life q gen i l).length) (h' : k < l.length), (dSecs life q gen i l)[k] = dX 4 life q (i + k) gen l[k].n.toNat l[k].body
  | [], i, k, h, h' => absurd h' (by simp)
  | x :: r, i, 0, h, h' => rfl
  | x :: r, i, k + 1, h, h' => by
    have := dSecs_get life q gen r (i + 1) k (by rw [dSecs_len]; simpa using h') (by simpa using h')
    rw [show i + (k + 1) = i + 1 + k by omega]
    exact this
theorem tSecs_at (life : UInt64) (q : Nat) (t : Tx) (k : Nat) (h : k < (tSecs life q t).length) : (tSecs life q t)[k].life = life ∧ (tSecs life q t)[k].seq = ((q + k : Nat) : Int) := by
  have hk := tSecs_len life q t
  have h0 : k < (dSecs life q t.gen 0 t.pages ++ [dX 5 life q t.pages.length t.gen t.pages.length []]).length := h
  show ((dSecs life q t.gen 0 t.pages ++ [dX 5 life q t.pages.length t.gen t.pages.length []])[k]'h0).life = life ∧ ((dSecs life q t.gen 0 t.pages ++ [dX 5 life q t.pages.length t.gen t.pages.length []])[k]'h0).seq = ((q + k : Nat) : Int)
  by_cases h1 : k < t.pages.length
  · rw [List.getElem_append_left (by rw [dSecs_len]; exact h1), dSecs_get _ _ _ _ _ _ _ h1, Nat.zero_add]
    exact ⟨rfl, rfl⟩
  · obtain rfl : k = t.pages.length := by omega
    rw [List.getElem_append_right (Nat.le_of_eq (dSecs_len _ _ _ _ _))]
    simp only [dSecs_len, Nat.sub_self, List.getElem_cons_zero]
    exact ⟨rfl, rfl⟩
/-- numbered from a number on -/
def num (q : Nat) : List X → List (Nat × X)
  | [] => []
  | x :: r => (q, x) :: num (q + 1) r
theorem num_append (q : Nat) : ∀ (a b : List X), num q (a ++ b) = num q a ++ num (q + a.length) b
  | [], b => by simp [num]
  | x :: a, b => by simp only [List.cons_append, num, List.length_cons]; rw [num_append (q + 1) a b, show q + 1 + a.length = q + (a.length + 1) by omega]
theorem num_range (l : List X) : (List.range l.length).map (fun j => (j, l.getD j X0)) = num 0 l := by
  have h : ∀ (l : List X) (q : Nat) (f : Nat → X), (∀ j (h : j < l.length), f (q + j) = l[j]) → (List.range' q l.length).map (fun j => (j, f j)) = num q l := by
    intro l
    induction l with
    | nil => intro q f hf; rfl
    | cons x l ih =>
      intro q f hf
      rw [List.length_cons, List.range'_succ, List.map_cons, num]
      congr 1
      · rw [show f q = x by have := hf 0 (by simp); rw [Nat.add_zero] at this; exact this]
      · exact ih (q + 1) f (fun j hj => by have := hf (j + 1) (by simpa using hj); rw [show q + 1 + j = q + (j + 1) by omega]; simpa using this)
  rw [List.range_eq_range']
  exact h l 0 _ (fun j hj => by simp [List.getD, hj])
theorem take_dX4 {np : Int} {life : UInt64} {q i n : Nat} {gen : UInt64} {b : List UInt8} (r : Rg) (hq : q < 4294967296) (hn : n < 65536) (hnp : (n : Int) < np) (hf : r.frm = q) (hg : r.now ≠ [] → r.gen = gen) (j : Nat) :
    takeF np r j (dX 4 life q i gen n b) = ({ r with gen := gen, now := r.now ++ [⟨(n : Int), b⟩] }, true) := by
  have e0 : (dX 4 life q i gen n b).body = putL q 4 ++ putL n 2 ++ b := rfl
  have h4 := putL_len q 4
  have h2 := putL_len n 2
  have hl : ¬ (dX 4 life q i gen n b).body.length < 6 := by rw [e0]; simp only [List.length_append]; omega
  have ef : fstN (dX 4 life q i gen n b).body = q := by
    unfold fstN
    rw [e0, List.append_assoc, List.take_append_of_le_length (by omega), List.take_of_length_le (by omega), getN_putL]
    exact Nat.mod_eq_of_lt (by rw [show 256 ^ 4 = 4294967296 from rfl]; exact hq)
  have es : sndN (dX 4 life q i gen n b).body = n := by
    unfold sndN
    rw [e0, List.append_assoc, List.drop_append_of_le_length (by omega), List.drop_of_length_le (by omega), List.nil_append, List.take_append_of_le_length (by omega), List.take_of_length_le (by omega), getN_putL]
    exact Nat.mod_eq_of_lt (by rw [show 256 ^ 2 = 65536 from rfl]; exact hn)
  have ed : (dX 4 life q i gen n b).body.drop 6 = b := by
    rw [e0, List.drop_append, List.drop_of_length_le (by rw [List.length_append]; omega), List.nil_append, List.length_append, h4, h2]; rfl
  unfold takeF
  rw [if_neg (fun h => h.elim hl (fun h => h.2 (hg h.1).symm)), ef, es, ed, if_neg (fun h => h hf.symm), if_pos ⟨rfl, hnp⟩]
  rfl
theorem take_dX5 {np : Int} {life : UInt64} {q n : Nat} {gen : UInt64} (r : Rg) (hq : q < 4294967296) (hn : n < 65536) (hf : r.frm = q) (hg : r.now ≠ [] → r.gen = gen) (hln : r.now.length = n) (j : Nat) :
    takeF np r j (dX 5 life q n gen n []) = (⟨r.all ++ [⟨r.now, gen⟩], [], 0, j + 1⟩, true) := by
  have e0 : (dX 5 life q n gen n []).body = putL q 4 ++ putL n 2 := by show putL q 4 ++ putL n 2 ++ [] = _; rw [List.append_nil]
  have h4 := putL_len q 4
  have h2 := putL_len n 2
  have h6 : (dX 5 life q n gen n []).body.length = 6 := by rw [e0, List.length_append]; omega
  have ef : fstN (dX 5 life q n gen n []).body = q := by
    unfold fstN
    rw [e0, List.take_append_of_le_length (by omega), List.take_of_length_le (by omega), getN_putL]
    exact Nat.mod_eq_of_lt (by rw [show 256 ^ 4 = 4294967296 from rfl]; exact hq)
  have es : sndN (dX 5 life q n gen n []).body = n := by
    unfold sndN
    rw [e0, List.drop_append_of_le_length (by omega), List.drop_of_length_le (by omega), List.nil_append, List.take_of_length_le (by omega), getN_putL]
    exact Nat.mod_eq_of_lt (by rw [show 256 ^ 2 = 65536 from rfl]; exact hn)
  unfold takeF
  rw [if_neg (fun h => h.elim (by omega) (fun h => h.2 (hg h.1).symm)), ef, es, if_neg (fun h => h hf.symm), if_neg (fun h => absurd h.1 (show ¬ (5 : Int) = 4 by decide)), if_pos ⟨rfl, hln.symm, h6⟩]
  rfl
theorem takes_data {np : Int} {life : UInt64} {q : Nat} {gen : UInt64} (hq : q < 4294967296) (hnp : np ≤ 65536) : ∀ (l : List Pg) (i : Nat) (r : Rg), (∀ x ∈ l, 0 ≤ x.n ∧ x.n < np) → r.frm = q → (r.now ≠ [] → r.gen = gen) →
    ∃ g, takes np (num (q + i) (dSecs life q gen i l)) r = (⟨r.all, r.now ++ l, g, q⟩, true) ∧ (r.now ++ l ≠ [] → g = gen)
  | [], i, r, _, hf, hg => ⟨r.gen, by subst hf; simp [dSecs, num, takes], by simpa using hg⟩
  | x :: l, i, r, hx, hf, hg => by
    obtain ⟨h0, h1⟩ := hx x (by simp)
    have ht := take_dX4 (np := np) (life := life) (i := i) (b := x.body) (n := x.n.toNat) r hq (by omega) (by omega) hf hg (q + i)
    obtain ⟨g, e1, e2⟩ := takes_data hq hnp l (i + 1) { r with gen := gen, now := r.now ++ [⟨(x.n.toNat : Int), x.body⟩] } (fun y hy => hx y (by simp [hy])) hf (fun _ => rfl)
    have hxe : (⟨(x.n.toNat : Int), x.body⟩ : Pg) = x := by rw [Int.toNat_of_nonneg h0]
    refine ⟨g, ?_, fun _ => e2 (by simp)⟩
    rw [dSecs, num]
    show (if _ then _ else _) = _
    rw [ht, if_pos rfl, show q + i + 1 = q + (i + 1) by omega, e1, hxe]
    simp
/-- a transaction is read -/
theorem takes_tx {np : Int} {life : UInt64} {q : Nat} {t : Tx} (hq : q < 4294967296) (hnp : np ≤ 65536) (hl : t.pages.length < 65536) (hx : ∀ x ∈ t.pages, 0 ≤ x.n ∧ x.n < np) (A : List Tx) (g : UInt64) :
    takes np (num q (tSecs life q t)) ⟨A, [], g, q⟩ = (⟨A ++ [t], [], 0, q + (t.pages.length + 1)⟩, true) := by
  obtain ⟨g', e1, e2⟩ := takes_data (life := life) (gen := t.gen) hq hnp t.pages 0 ⟨A, [], g, q⟩ hx rfl (fun h => absurd rfl h)
  rw [Nat.add_zero] at e1
  unfold tSecs
  rw [num_append, takes_append np _ _ _ _ e1, dSecs_len]
  show (if _ then _ else _) = _
  have ht := take_dX5 (np := np) (life := life) (n := t.pages.length) (gen := t.gen) ⟨A, [] ++ t.pages, g', q⟩ hq hl rfl (fun h => e2 h) (by simp) (q + t.pages.length)
  rw [ht, if_pos rfl]
  rfl
/-- the sectors of transactions, one behind the other -/
def allSecs (life : UInt64) : Nat → List Tx → List X
  | _, [] => []
  | q, t :: r => tSecs life q t ++ allSecs life (q + (t.pages.length + 1)) r
theorem allSecs_snoc (life : UInt64) : ∀ (l : List Tx) (q : Nat) (t : Tx), allSecs life q (l ++ [t]) = allSecs life q l ++ tSecs life (q + (allSecs life q l).length) t
  | [], q, t => by simp [allSecs]
  | u :: l, q, t => by
    rw [List.cons_append, allSecs, allSecs_snoc life l _ t, allSecs, List.append_assoc, List.length_append, tSecs_len]
    congr 3
    omega
theorem allSecs_at (life : UInt64) : ∀ (l : List Tx) (q k : Nat) (h : k < (allSecs life q l).length), (allSecs life q l)[k].life = life ∧ (allSecs life q l)[k].seq = ((q + k : Nat) : Int)
  | [], q, k, h => absurd h (by simp [allSecs])
  | t :: l, q, k, h => by
    simp only [allSecs] at h ⊢
    by_cases h1 : k < (tSecs life q t).length
    · rw [List.getElem_append_left h1]; exact tSecs_at life q t k h1
    · rw [List.getElem_append_right (by omega)]
      have h2 := tSecs_len life q t
      rw [List.length_append] at h
      have := allSecs_at life l (q + (t.pages.length + 1)) (k - (tSecs life q t).length) (by omega)
      rw [show q + (t.pages.length + 1) + (k - (tSecs life q t).length) = q + k by omega] at this
      exact this
theorem takes_all {np : Int} {life : UInt64} (hnp : np ≤ 65536) : ∀ (l : List Tx) (q : Nat) (A : List Tx) (g : UInt64), q + (allSecs life q l).length < 65536 → (∀ t ∈ l, ∀ x ∈ t.pages, 0 ≤ x.n ∧ x.n < np) →
    ∃ g', takes np (num q (allSecs life q l)) ⟨A, [], g, q⟩ = (⟨A ++ l, [], g', q + (allSecs life q l).length⟩, true)
  | [], q, A, g, _, _ => ⟨g, by simp [allSecs, num, takes]⟩
  | t :: l, q, A, g, hq, hx => by
    simp only [allSecs, List.length_append, tSecs_len] at hq ⊢
    obtain ⟨g', e⟩ := takes_all (life := life) hnp l (q + (t.pages.length + 1)) (A ++ [t]) 0 (by omega) (fun u hu => hx u (by simp [hu]))
    refine ⟨g', ?_⟩
    rw [num_append, takes_append np _ _ _ _ (takes_tx (by omega) hnp (by omega) (hx t (by simp)) A g), tSecs_len, e, List.append_assoc]
    congr 2
    omega
/-- what is scanned where just these stand -/
theorem scan_all {np : Int} {life : UInt64} {rdf : Nat → X} {good : Nat → Bool} {N : Nat} {l : List Tx} (hnp : np ≤ 65536) (hN : (allSecs life 0 l).length ≤ N) (hN1 : N < 65536) (hx : ∀ t ∈ l, ∀ x ∈ t.pages, 0 ≤ x.n ∧ x.n < np)
    (hr : ∀ k (h : k < (allSecs life 0 l).length), rdf k = (allSecs life 0 l)[k] ∧ good k = true) (he : (allSecs life 0 l).length = N ∨ good (allSecs life 0 l).length = false) : (scanH np rdf good N 0 r00).all = l := by
  obtain ⟨g', e⟩ := takes_all (life := life) hnp l 0 [] 0 (by omega) hx
  obtain ⟨e1, e2⟩ := takes_fold np _ _ [] (okR_nil np) e
  rw [List.nil_append] at e1 e2
  have hm : (List.range (allSecs life 0 l).length).map (fun j => (j, rdf j)) = num 0 (allSecs life 0 l) := by
    rw [← num_range]
    apply List.map_congr_left
    intro j hj
    have hj' := List.mem_range.1 hj
    rw [(hr j hj').1]
    simp [List.getD, hj']
  rw [scanH_done hN (fun j hj => (hr j hj).2) (by rw [hm]; exact e1) he, hm, e2]
  simp
end Go.Proofs.Ytmpmibcdpkolkaa.Wal
