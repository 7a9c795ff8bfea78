/- The walk of sha.Block: words turned by a block. -/
import Derived.Test.YtggldbadefbdaaaDoorShaW
namespace Go.Proofs.YtggldbadefbdaaaDoor.Sha
open Go.RowKit
set_option linter.unusedVariables false
set_option maxRecDepth 100000
attribute [local go_sem] c32_xor c32_and c32_or c32_add c32_add'

/-- the table of the rounds lies where the program laid it -/
def Tab (w : World) : Prop := 0 < w.heap.size ∧ ∀ t, t < 64 → w.cell? ⟨0, t, none⟩ = some (e32 (kAt t))
theorem Tab.on {w w' : World} (h : Tab w) (b : Below w.heap.size w w') : Tab w' :=
  ⟨Nat.lt_of_lt_of_le h.1 b.size, fun t ht => (b.cell (p := ⟨0, t, none⟩) h.1).trans (h.2 t ht)⟩
def H8.vals (s : H8) : List Value := vw s.list
theorem H8.vals_len (s : H8) : s.vals.length = 8 := rfl
theorem H8.vals_eq (s : H8) : s.vals = [e32 s.a, e32 s.b, e32 s.c, e32 s.d, e32 s.e, e32 s.f, e32 s.g, e32 s.h] := rfl
def h8V (s : H8) : Value := arrV s.vals
/-- the words while the first k have been added -/
def H8.part (s r : H8) (k : Nat) : List UInt32 := (List.range 8).map fun i => if i < k then s.list.getD i 0 + r.list.getD i 0 else s.list.getD i 0
theorem H8.part_len (s r : H8) (k : Nat) : (s.part r k).length = 8 := by simp [H8.part]
theorem H8.part_zero (s r : H8) : s.part r 0 = s.list := rfl
theorem H8.part_all (s r : H8) : s.part r 8 = (s.add r).list := rfl
theorem H8.list_len (s : H8) : s.list.length = 8 := rfl
theorem H8.part_get (s r : H8) (k : Nat) : (s.part r k).getD k 0 = s.list.getD k 0 := by
  simp only [H8.part, List.getD, List.getElem?_map]
  by_cases h : k < 8
  · simp [h]
  · rw [List.getElem?_eq_none (by simp; omega), List.getElem?_eq_none (by simp [H8.list]; omega)]; rfl
theorem H8.part_set (s r : H8) (k : Nat) (h : k < 8) : (s.part r k).set k (s.list.getD k 0 + r.list.getD k 0) = s.part r (k + 1) := by
  apply List.ext_getElem
  · simp [H8.part]
  · intro i h1 h2
    rw [List.getElem_set]
    simp only [H8.part, List.getElem_map, List.getElem_range]
    by_cases e : k = i
    · subst e; simp
    · rw [if_neg e]
      by_cases h3 : i < k
      · rw [if_pos h3, if_pos (by omega)]
      · rw [if_neg h3, if_neg (by omega)]

/-- the eight words of a block, cell for cell -/
theorem Blk.eight {w : World} {g : Nat} {r : H8} (h : Blk w g r.vals) :
    w.cell? ⟨g, 0, none⟩ = some (e32 r.a) ∧ w.cell? ⟨g, 1, none⟩ = some (e32 r.b) ∧ w.cell? ⟨g, 2, none⟩ = some (e32 r.c) ∧ w.cell? ⟨g, 3, none⟩ = some (e32 r.d) ∧
    w.cell? ⟨g, 4, none⟩ = some (e32 r.e) ∧ w.cell? ⟨g, 5, none⟩ = some (e32 r.f) ∧ w.cell? ⟨g, 6, none⟩ = some (e32 r.g) ∧ w.cell? ⟨g, 7, none⟩ = some (e32 r.h) :=
  ⟨h.cell (k := 0) (by simp [H8.vals_eq]), h.cell (k := 1) (by simp [H8.vals_eq]), h.cell (k := 2) (by simp [H8.vals_eq]), h.cell (k := 3) (by simp [H8.vals_eq]), h.cell (k := 4) (by simp [H8.vals_eq]), h.cell (k := 5) (by simp [H8.vals_eq]), h.cell (k := 6) (by simp [H8.vals_eq]), h.cell (k := 7) (by simp [H8.vals_eq])⟩
theorem index28 (l : List UInt32) (k : Nat) (hl : l.length = 64) (hk : k < 64) (w : World) : (Instr.index 28 (arrV (vw l)) (.int .i64 (k : Int))).run Tryd.prog w = .ok (e32 (l.getD k 0)) w :=
  run_index_ints (P := Tryd.prog) (n := 64) (k := .i64) Tryd.underlying28 Tryd.underlying22 (by kernel_rfl) hk (by simp [vw, hl, hk, List.getD]) w
theorem size32 : (Tryd.prog.info? 22).map (·.size) = some 1 := by kernel_rfl
set_option maxHeartbeats 400000 in
theorem block_no (s : H8) (A : Option Addr) (n c : Nat) (w : World) (hn : n ≠ 64) (hm : n ≤ maxLen) :
    Calls Tryd.prog 19 #[h8V s, .slice A n c] w fun e w' => e = .returned (h8V s) ∧ Below w.heap.size w w' := by
  have hne : ((n : Int) != 64) = true := bne_yes (by omega)
  unfold maxLen at hm
  go_enter Tryd.func19, Tryd.ntmps19
  go_wp2_with (first
    | (refine wpList_boxN rfl _ _ rfl s.vals rfl ?_; intro w1 hb1 bw1 hs1)
    | (refine wpList_allocN rfl _ rfl (vw (List.replicate 8 0)) zero23 ?_; intro w2 hb2 bw2 hs2; have hb12 := hb1.on bw2; have bt2 := bt bw1 bw2)
    | (refine wpList_loadA rfl _ _ rfl rfl hb12 Tryd.underlying23 size23 ?_)
    | (refine wpList_storeN rfl _ _ _ rfl rfl (ys := s.vals) rfl hb2 rfl (vw_one _) size23 ?_; intro w3 hb3 hg3))
  exact bodyPost_ret (v := h8V s) (results_arr Tryd.results19 _ hb3 Tryd.underlying23 size23 rfl) rfl ⟨rfl, below_row bt2 hg3 bw1.size bt2.size⟩
set_option maxHeartbeats 400000 in
theorem block_yes (s : H8) (A : Option Addr) (l : List UInt8) (c : Nat) (w : World) (hn : l.length = 64) (hc : 64 ≤ c) (hcm : c ≤ maxLen) (hr : Rd w w.heap.size A (l.map e8)) (hk : Tab w) :
    Calls Tryd.prog 19 #[h8V s, .slice A 64 c] w fun e w' => e = .returned (h8V ((rounds (wl l 64) s 64).add s)) ∧ Below w.heap.size w w' := by
  have Hn := Lib.hid hn
  have hw : words l = wl l 64 := if_pos hn
  have Hw := Lib.hid hw
  clear hn hw
  have Hl := Lib.hid (wl_len l 64)
  go_enter Tryd.func19, Tryd.ntmps19
  go_wp2_with (first
    | (refine wpList_boxN rfl _ _ rfl s.vals rfl ?_; intro w1 hb1 bw1 hs1)
    | (refine wpList_allocN rfl _ rfl (vw (List.replicate 8 0)) zero23 ?_; intro w2 hb2 bw2 hs2; have hb12 := hb1.on bw2; have bt2 := bt bw1 bw2)
    | (refine wpList_loadA rfl _ _ rfl rfl hb12 Tryd.underlying23 size23 ?_)
    | (refine wpList_allocN rfl _ rfl (vw (List.replicate 8 0)) zero23 ?_; intro w3 hb3 bw3 hs3; have hb13 := hb12.on bw3; have hb23 := hb2.on bw3; have bt3 := bt bt2 bw3)
    | (refine wpList_storeN rfl _ _ _ rfl rfl (ys := s.vals) rfl hb3 rfl (vw_one _) size23 ?_; intro w4 hb4 hg4; have bt4 := below_row bt3 hg4 (Nat.le_trans bw1.size bw2.size) bt3.size)
    | fail)
  have hB1 := bw1.size
  have hB2 := bw2.size
  have b0 : Blk w4 w.heap.size s.vals := hb13.grown hg4 (by simp; omega)
  have b1 : Blk w4 w1.heap.size (vw (List.replicate 8 0)) := hb23.grown hg4 (by simp; omega)
  refine (words_any A l 64 c w4 Hn.out.symm hc hcm (hr.on bt4)).mono ?_
  rintro e w5 ⟨rfl, bw5⟩
  rw [Hw.out]
  have c0 := b0.on bw5
  have c1 := b1.on bw5
  have c2 := hb4.on bw5
  have bt5 := bt bt4 bw5
  have ht5 := hk.on bt5
  have lt0 := hs1
  obtain ⟨W, hW⟩ : ∃ W, W = wl l 64 := ⟨_, rfl⟩
  have hWl : W.length = 64 := by rw [hW]; exact wl_len l 64
  rw [← hW]
  have HW := Lib.hid hW
  have HWl := Lib.hid hWl
  obtain ⟨B1, hB1'⟩ : ∃ B, B = w1.heap.size := ⟨_, rfl⟩
  obtain ⟨B2, hB2'⟩ : ∃ B, B = w2.heap.size := ⟨_, rfl⟩
  rw [← hB1'] at c1
  rw [← hB2'] at c2
  rw [← hB1', ← hB2']
  have l01 : w.heap.size < B1 := by omega
  have l12 : B1 < B2 := by omega
  clear hW hWl Hw Hl hB1' hB2' hb1 hb2 hb12 hb3 hb13 hb23 hb4 b0 b1 hg4 bt2 bt3 bt4 bw1 bw2 bw3 bw5 hs1 hs2 hs3 hB1 hB2 lt0
  go_wp2_with fail
  go_loopw [20] (fun i wr => ∃ k : Nat, k ≤ 64 ∧ i = .int .i64 k ∧ Blk wr w.heap.size (rounds W s k).vals ∧ Blk wr B1 (vw (List.replicate 8 0)) ∧ Blk wr B2 s.vals ∧ Below w.heap.size w wr) (fun i _ => 64 - (intOf i).toNat)
  case atStart => exact ⟨0, by omega, rfl, c0, c1, c2, bt5⟩
  case round =>
    obtain ⟨k, hk64, rfl, d0, d1, d2, bt⟩ := hrel
    by_cases hlt : k < 64
    · have hix := index28 W k HWl.out hlt
      obtain ⟨r, hr'⟩ : ∃ r, r = rounds W s k := ⟨_, rfl⟩
      rw [← hr'] at d0
      have Hr := Lib.hid (show rounds W s (k + 1) = round r (kAt k) (W.getD k 0) by rw [rounds, hr'])
      obtain ⟨y, hy⟩ : ∃ y, y = W.getD k 0 := ⟨_, rfl⟩
      rw [← hy] at hix Hr
      have ht := (hk.on bt).2 k hlt
      obtain ⟨z, hz⟩ : ∃ z, z = kAt k := ⟨_, rfl⟩
      rw [← hz] at ht Hr
      have Hz := Lib.hid hz
      clear hr' hy hz
      have hB := d0.lt
      obtain ⟨g0, g1, g2, g3, g4, g5, g6, g7⟩ := Blk.eight d0
      have hf : ∀ j, wr.frozen? ⟨w.heap.size, j, none⟩ = false := d0.free
      have h0 : 0 < w.heap.size := hk.1
      have hz2 := (hk.on bt).1
      go_wp2
      refine region_inb (by kernel_rfl) (by kernel_rfl) ?_
      have inbNe := InB.some
      have inbW := @wrap_small
      have inbU := IntKind.wrap_u8'
      repeat (refine wpQuiet_step (fun K hK => ?_); go_simp; first | (refine hK _ ?_; clear hK K) | (apply Exists.intro; refine ⟨?_, hK _ ?_⟩; (· (intro w' hw'; first | fail | (have hcw := hw'.cell; go_simp; exact rfl))); clear hK K))
      refine wpQuiet_nil ?_
      intro wq hq
      clear inbNe inbW inbU
      have m0 := d0.on hq.below
      have m1 := d1.on hq.below
      have m2 := d2.on hq.below
      have btm := bt.trans (hq.below.mono bt.size)
      have htm := (hk.on btm).2 k hlt
      have hzm := (hk.on btm).1
      rw [← Hz.out] at htm
      have hBm := m0.lt
      obtain ⟨p0, p1, p2, p3, p4, p5, p6, p7⟩ := Blk.eight m0
      have hfm := m0.free
      clear hq g0 g1 g2 g3 g4 g5 g6 g7 hf ht hz2 hB
      go_wp2
      refine region_inb (by kernel_rfl) (by kernel_rfl) ?_
      have inbNe := InB.some
      have inbW := @wrap_small
      have inbU := IntKind.wrap_u8'
      repeat (refine wpQuiet_step (fun K hK => ?_); go_simp; first | (refine hK _ ?_; clear hK K) | (apply Exists.intro; refine ⟨?_, hK _ ?_⟩; (· (intro w' hw'; first | (go_at_call 51; refine (right_any _ _ (by decide) _).mono ?_; rintro e w1 ⟨rfl, rfl⟩; exact ⟨rfl, hw'⟩) | (have hcw := hw'.cell; go_simp; exact rfl))); clear hK K))
      refine wpQuiet_nil ?_
      intro wq hq
      clear inbNe inbW inbU
      have n0 := m0.on hq.below
      have n1 := m1.on hq.below
      have n2 := m2.on hq.below
      have btn := btm.trans (hq.below.mono btm.size)
      have htn := (hk.on btn).2 k hlt
      have hzn := (hk.on btn).1
      rw [← Hz.out] at htn
      have hBn := n0.lt
      obtain ⟨p0, p1, p2, p3, p4, p5, p6, p7⟩ := Blk.eight n0
      have hfn := n0.free
      clear hq
      go_wp2
      refine region_inb (by kernel_rfl) (by kernel_rfl) ?_
      have inbNe := InB.some
      have inbW := @wrap_small
      have inbU := IntKind.wrap_u8'
      repeat (refine wpQuiet_step (fun K hK => ?_); go_simp; first | (refine hK _ ?_; clear hK K) | (apply Exists.intro; refine ⟨?_, hK _ ?_⟩; (· (intro w' hw'; first | (go_at_call 51; refine (right_any _ _ (by decide) _).mono ?_; rintro e w1 ⟨rfl, rfl⟩; exact ⟨rfl, hw'⟩) | (have hcw := hw'.cell; go_simp; exact rfl))); clear hK K))
      refine wpQuiet_nil ?_
      intro wq hq
      clear inbNe inbW inbU
      have o0 := n0.on hq.below
      have o1 := n1.on hq.below
      have o2 := n2.on hq.below
      have bto := btn.trans (hq.below.mono btn.size)
      have hto := (hk.on bto).2 k hlt
      have hzo := (hk.on bto).1
      rw [← Hz.out] at hto
      have hBo := o0.lt
      obtain ⟨p0, p1, p2, p3, p4, p5, p6, p7⟩ := Blk.eight o0
      have hfo := o0.free
      clear hq
      go_wp2
      refine region_inb_tail 2 (by kernel_rfl) (by kernel_rfl) ?_
      simp only [List.take_succ_cons, List.take_zero, List.drop_succ_cons, List.drop_zero]
      have inbNe := InB.some
      have inbW := @wrap_small
      have inbU := IntKind.wrap_u8'
      repeat (refine wpQuiet_step (fun K hK => ?_); go_simp; first | (refine hK _ ?_; clear hK K) | (apply Exists.intro; refine ⟨?_, hK _ ?_⟩; (· (intro w' hw'; first | fail | (have hcw := hw'.cell; go_simp; exact rfl))); clear hK K))
      refine wpQuiet_nil ?_
      intro wq hq
      clear inbNe inbW inbU
      have q0 := o0.on hq.below
      have q1 := o1.on hq.below
      have q2 := o2.on hq.below
      have btq := bto.trans (hq.below.mono bto.size)
      have hBq := q0.lt
      obtain ⟨p0, p1, p2, p3, p4, p5, p6, p7⟩ := Blk.eight q0
      clear hq o0 o1 o2 bto
      refine wpList_copyN rfl _ _ _ _ rfl rfl rfl [e32 r.a, e32 r.b, e32 r.c, e32 r.d, e32 r.e, e32 r.f, e32 r.g] rfl Tryd.underlying59 size32 q0 (by simp [H8.vals_eq]) ?_ ?_ ?_
      · intro j v hv
        rw [Addr.add_lit]
        match j, hv with
        | 0, hv => cases hv; exact p0
        | 1, hv => cases hv; exact p1
        | 2, hv => cases hv; exact p2
        | 3, hv => cases hv; exact p3
        | 4, hv => cases hv; exact p4
        | 5, hv => cases hv; exact p5
        | 6, hv => cases hv; exact p6
        | j + 7, hv => simp at hv
      · intro v hv
        simp only [List.mem_cons, List.not_mem_nil, or_false] at hv
        rcases hv with rfl | rfl | rfl | rfl | rfl | rfl | rfl <;> rfl
      intro wc hbc hgc
      have hbc' : Blk wc w.heap.size (H8.vals ⟨r.a, r.a, r.b, r.c, r.d, r.e, r.f, r.g⟩) := hbc
      have r1 := q1.grown hgc (by simp; omega)
      have r2 := q2.grown hgc (by simp; omega)
      have btc := below_row btq hgc (Nat.le_refl _) btq.size
      clear p0 p1 p2 p3 p4 p5 p6 p7 hbc q0 q1 q2 btq hgc hBq
      obtain ⟨p0, p1, p2, p3, p4, p5, p6, p7⟩ := Blk.eight hbc'
      have hfc := hbc'.free
      go_wp2
      go_roundw
      case rel =>
        refine ⟨k + 1, by omega, by go_num, ?_, r1.other _ (by omega) |>.other _ (by omega), r2.other _ (by omega) |>.other _ (by omega), (btc.setCell (Nat.le_refl _) _).setCell (Nat.le_refl _) _⟩
        rw [Hr.out]
        exact (hbc'.set (k := 0) _).set (k := 4) _
      case measure => simp [intOf]; omega
    · obtain rfl : k = 64 := by omega
      have HW2 := Lib.hid (show (rounds W s 64).add s = (rounds (wl l 64) s 64).add s by rw [HW.out])
      obtain ⟨r, hr'⟩ : ∃ r, r = rounds W s 64 := ⟨_, rfl⟩
      rw [← hr'] at d0 HW2
      clear hr' HW HWl
      go_wp2
      go_loopw [90] (fun i wx => ∃ k : Nat, k ≤ 8 ∧ i = .int .i64 k ∧ Blk wx w.heap.size (vw (r.part s k)) ∧ Blk wx B1 (vw (List.replicate 8 0)) ∧ Blk wx B2 s.vals ∧ Below w.heap.size w wx) (fun i _ => 8 - (intOf i).toNat)
      case atStart => exact ⟨0, by omega, rfl, by rw [H8.part_zero]; exact d0, d1, d2, bt⟩
      case round =>
        obtain ⟨k, hk8, rfl, d0, d1, d2, bt⟩ := hrel
        by_cases hlt : k < 8
        · have g0 := Blk.word d0 (k := k) (by rw [H8.part_len]; exact hlt)
          have g2 := Blk.word d2 (k := k) (by rw [H8.list_len]; exact hlt)
          rw [H8.part_get] at g0
          have Hs := Lib.hid (H8.part_set r s k hlt)
          obtain ⟨x, hx⟩ : ∃ x, x = r.list.getD k 0 := ⟨_, rfl⟩
          obtain ⟨y, hy⟩ : ∃ x, x = s.list.getD k 0 := ⟨_, rfl⟩
          rw [← hx] at g0 Hs
          rw [← hy] at g2 Hs
          clear hx hy
          have hB := d0.lt
          have hBB := d2.lt
          go_wp2
          refine region_inb_tail 8 (by kernel_rfl) (by kernel_rfl) ?_
          simp only [List.take_succ_cons, List.take_zero, List.drop_succ_cons, List.drop_zero]
          have inbNe := InB.some
          have inbW := @wrap_small
          have inbU := IntKind.wrap_u8'
          repeat (refine wpQuiet_step (fun K hK => ?_); go_simp; first | (refine hK _ ?_; clear hK K) | (apply Exists.intro; refine ⟨?_, hK _ ?_⟩; (· (intro w' hw'; first | fail | (have hcw := hw'.cell; go_simp; exact rfl))); clear hK K))
          refine wpQuiet_nil ?_
          intro wq hq
          clear inbNe inbW inbU
          have m0 := d0.on hq.below
          have m1 := d1.on hq.below
          have m2 := d2.on hq.below
          have btm := bt.trans (hq.below.mono bt.size)
          have g0' := (hq.cell _ _ hB).trans g0
          have hf' := m0.free
          clear hq g0 g2
          go_wp2
          go_roundw
          case rel =>
            have hset := m0.set (k := k) (e32 (x + y))
            rw [vw_set, Hs.out] at hset
            refine ⟨_, _, _, _, _, _, _, _, _, _, _, _, _, ⟨k + 1, by omega, by go_num, hset, m1.other _ (by omega), m2.other _ (by omega), btm.setCell (Nat.le_refl _) _⟩, rfl⟩
          case measure => simp [intOf]; omega
        · obtain rfl : k = 8 := by omega
          rw [H8.part_all] at d0
          have hr2 : (r.add s).list.length = 8 := rfl
          go_wp2_with (first
            | (refine wpList_loadA rfl _ _ rfl rfl d0 Tryd.underlying23 size23 ?_)
            | (refine wpList_storeN rfl _ _ _ rfl rfl (ys := (r.add s).vals) rfl d1 rfl (vw_one _) size23 ?_; intro w9 hb9 hg9))
          refine bodyPost_ret (v := h8V (r.add s)) (results_arr Tryd.results19 _ hb9 Tryd.underlying23 size23 rfl) rfl ⟨?_, below_row bt hg9 (by omega) bt.size⟩
          rw [← HW2.out]
theorem block_any (s : H8) (A : Option Addr) (l : List UInt8) (n c : Nat) (w : World) (hn : n = l.length) (hc : n ≤ c) (hcm : c ≤ maxLen) (hr : Rd w w.heap.size A (l.map e8)) (hk : Tab w) :
    Calls Tryd.prog 19 #[h8V s, .slice A n c] w fun e w' => e = .returned (h8V (block s l)) ∧ Below w.heap.size w w' := by
  subst hn
  by_cases h : l.length = 64
  · rw [block, if_pos h, h]
    exact block_yes s A l c w h (by omega) hcm hr hk
  · rw [block, if_neg h]
    exact block_no s A _ c w h (by omega)
end Go.Proofs.YtggldbadefbdaaaDoor.Sha
