/- The walk of the reference's Words. -/
import Derived.Test.YteecbjpnnklbpaaAes10
namespace Go.Proofs.Yteecbjpnnklbpaa.Aes
open Go.RowKit
open Go.Proofs.Yteecbjpnnklbpaa.Gf
set_option linter.unusedVariables false
set_option maxRecDepth 100000
theorem col_rd {w : World} {b off : Nat} {L : List UInt8} (h : Rd w w.heap.size (some ⟨b, off, none⟩) (L.map e8)) (k : Nat) (hk : k < L.length) : w.cell? ⟨b, off + k, none⟩ = some (e8 (L.getD k 0)) := by
  obtain ⟨b', off', e, _, hc⟩ := h (by intro e; have := congrArg List.length e; rw [List.length_map, List.length_nil] at this; omega)
  cases e
  rw [hc k (by simpa using hk)]
  simp [List.getD, List.getElem?_eq_getElem hk]
theorem rd_lt {w : World} {b off : Nat} {L : List UInt8} (h : Rd w w.heap.size (some ⟨b, off, none⟩) (L.map e8)) (hk : 0 < L.length) : b < w.heap.size := by
  obtain ⟨b', off', e, hl, hc⟩ := h (by intro e; have := congrArg List.length e; rw [List.length_map, List.length_nil] at this; omega)
  cases e
  exact hl
set_option maxHeartbeats 2000000 in
theorem words_any (b off : Nat) (key : List UInt8) (c : Nat) (w : World) (hn : key.length = 32) (hc : 32 ≤ c) (hcm : c ≤ maxLen) (hr : Rd w w.heap.size (some ⟨b, off, none⟩) (key.map e8)) :
    Calls Try.prog 38 #[.slice (some ⟨b, off, none⟩) 32 c] w fun e w' => e = .returned (arrV (vb (sched key))) ∧ Below w.heap.size w w' := by
  unfold maxLen at hcm
  have hlo := sched_lo key
  have hhi := sched_hi key
  have hF := sched_len key
  obtain ⟨F, hFe⟩ : ∃ F, F = sched key := ⟨_, rfl⟩
  rw [← hFe] at hlo hhi hF ⊢
  clear hFe
  have hZ := zero240_len
  have zW := zeroVW
  obtain ⟨Z, hZe⟩ : ∃ Z, Z = zero240 := ⟨_, rfl⟩
  rw [← hZe] at hZ zW
  clear hZe
  have HLo := Lib.hid hlo
  have HHi := Lib.hid hhi
  have HF := Lib.hid hF
  have HZ := Lib.hid hZ
  have HN := Lib.hid hn
  have hszW := size240 sizeW hF
  clear hF hn hlo hhi hZ
  go_enter Try.func38, Try.ntmps38
  go_wp2_with (first
    | ((with_reducible show wpList _ _ _ (⟨some 2, _, _, _, _, _⟩ :: _) _ _); refine wpList_allocN rfl _ rfl (vb Z) zW ?_; intro w1 hb1 bw1 hs1)
    | ((with_reducible show wpList _ _ _ (⟨some 3, _, _, _, _, _⟩ :: _) _ _); refine wpList_allocN rfl _ rfl (vb Z) zW ?_; intro w2 hb2 bw2 hs2; have hb12 := hb1.on bw2; have bt2 := bt bw1 bw2)
    | fail)
  have l01 : w.heap.size < w1.heap.size := hs1
  obtain ⟨B1, hB1⟩ : ∃ B, B = w1.heap.size := ⟨_, rfl⟩
  rw [← hB1] at hb2 l01 ⊢
  clear hB1 hb1 bw1 bw2 hs1 hs2
  go_loopw [4] (fun i wr => ∃ k : Nat, k ≤ 60 ∧ i = .int .i64 k ∧ Blk wr w.heap.size (vb Z) ∧ Blk wr B1 (vb (part F Z (k * 4))) ∧ Below w.heap.size w wr) (fun i _ => 60 - (intOf i).toNat)
  case atStart => exact ⟨0, by omega, rfl, hb12, by rw [Nat.zero_mul, part_zero]; exact hb2, bt2⟩
  case round =>
    obtain ⟨k, hk, rfl, d0, d1, bt0⟩ := hrel
    clear hb12 hb2 bt2
    by_cases hlt : k < 60
    · by_cases h8 : k < 8
      · have hrr := hr.on bt0
        obtain ⟨n, hnk⟩ : ∃ n, n = 4 * k := ⟨_, rfl⟩
        have hw0 : IntKind.i64.wrap (4 * (k : Int)) = (n : Int) := by rw [IntKind.wrap_i64]; omega
        have hn28 : n ≤ 28 := by omega
        obtain ⟨n1, hn1⟩ : ∃ m, m = n + 1 := ⟨_, rfl⟩
        obtain ⟨n2, hn2⟩ : ∃ m, m = n + 2 := ⟨_, rfl⟩
        obtain ⟨n3, hn3⟩ : ∃ m, m = n + 3 := ⟨_, rfl⟩
        have hw1 : IntKind.i64.wrap ((n : Int) + 1) = (n1 : Int) := by rw [IntKind.wrap_i64]; omega
        have hw2 : IntKind.i64.wrap ((n : Int) + 2) = (n2 : Int) := by rw [IntKind.wrap_i64]; omega
        have hw3 : IntKind.i64.wrap ((n : Int) + 3) = (n3 : Int) := by rw [IntKind.wrap_i64]; omega
        have g0 := col_rd hrr n (by rw [HN.out]; omega)
        have g1 := col_rd hrr n1 (by rw [HN.out]; omega)
        have g2 := col_rd hrr n2 (by rw [HN.out]; omega)
        have g3 := col_rd hrr n3 (by rw [HN.out]; omega)
        obtain ⟨X, hX⟩ : ∃ X, X = colOf key k := ⟨_, rfl⟩
        rw [show key.getD n 0 = X.a by rw [hX, hnk]; rfl] at g0
        rw [show key.getD n1 0 = X.b by rw [hX, hn1, hnk]; rfl] at g1
        rw [show key.getD n2 0 = X.c by rw [hX, hn2, hnk]; rfl] at g2
        rw [show key.getD n3 0 = X.d by rw [hX, hn3, hnk]; rfl] at g3
        have z0 : (n : Int) < 32 := by omega
        have z1 : (n1 : Int) < 32 := by omega
        have z2 : (n2 : Int) < 32 := by omega
        have z3 : (n3 : Int) < 32 := by omega
        have hbl := rd_lt hrr (by rw [HN.out]; omega)
        have hkI : (k : Int) < 60 := by omega
        have hcol := HLo.out k h8
        have hsp := Lib.hid (splice_part (N := 240) HF.out HZ.out (colL X) (k * 4) (by rw [colOf_len]; omega) (fun j hj => by rw [Nat.mul_comm k 4, col_at F k j hj, hcol, hX]))
        have hpl := Lib.hid (part_len F Z (k * 4) 240 HF.out HZ.out (by omega))
        have HNK := Lib.hid hnk
        have h8I : (k : Int) < 8 := by omega
        clear hcol hX hn1 hn2 hn3 hnk
        go_wp2
        refine region_inb_tail 26 (by kernel_rfl) (by kernel_rfl) ?_
        simp only [List.take_succ_cons, List.take_zero, List.drop_succ_cons, List.drop_zero]
        have inbNe := InB.some
        have inbW := @wrap_small
        have inbU := IntKind.wrap_u8'
        repeat (refine wpQuiet_step (fun K hK => ?_); go_simp; first | (refine hK _ ?_; clear hK K) | (apply Exists.intro; refine ⟨?_, hK _ ?_⟩; (· (intro w' hw'; first | (have hcw := hw'.cell; go_simp; exact rfl))); clear hK K))
        refine wpQuiet_nil ?_
        intro wq hq
        clear inbNe inbW inbU
        have m0 := d0.on hq.below
        have m1 := d1.on hq.below
        have btm := bt bt0 hq.below
        clear hq
        refine wpList_storeMid rfl _ _ _ rfl (g := B1) (off := k * 4) rfl (ys := vb (colL X)) rfl m1 (by rw [vb_len, vb_len, colOf_len, hpl.out]; omega) (vb_one _) size4 ?_
        intro w3 hb3 hg3
        rw [hsp.out, colOf_len] at hb3
        have e0 := m0.grown hg3 (by simp; omega)
        have bt3 := below_row btm hg3 (by omega) btm.size
        go_wp2
        go_roundw
        case rel => exact ⟨k + 1, by omega, by go_num, e0, by rw [Nat.add_mul]; exact hb3, bt3⟩
        case measure => simp [intOf]; omega
      · have h8' : 8 ≤ k := by omega
        have h8I : ¬ (k : Int) < 8 := by omega
        have hcol := HHi.out k h8' hlt
        have hpl := Lib.hid (part_len F Z (k * 4) 240 HF.out HZ.out (by omega))
        obtain ⟨q, hq⟩ : ∃ q, q = k - 1 := ⟨_, rfl⟩
        obtain ⟨p, hp⟩ : ∃ p, p = k - 8 := ⟨_, rfl⟩
        have hwq : IntKind.i64.wrap ((k : Int) - 1) = (q : Int) := by rw [IntKind.wrap_i64]; omega
        have hwp : IntKind.i64.wrap ((k : Int) - 8) = (p : Int) := by rw [IntKind.wrap_i64]; omega
        have hqI : (q : Int) < 60 := by omega
        have hpI : (p : Int) < 60 := by omega
        have hkI : (k : Int) < 60 := by omega
        rw [← hq, ← hp] at hcol
        obtain ⟨X, hX⟩ : ∃ X, X = colOf F q := ⟨_, rfl⟩
        obtain ⟨Y, hY⟩ : ∃ Y, Y = colOf F p := ⟨_, rfl⟩
        obtain ⟨V, hV⟩ : ∃ V, V = turn X k := ⟨_, rfl⟩
        have hrq : wr.rangeAt B1 (q * 4) (vb (colL X)) := by
          rw [Nat.mul_comm q 4, hX, ← colOf_part (Z := Z) HF.out (k * 4) q (by omega) (by omega)]
          exact range_colAt d1 q (by rw [hpl.out]; omega)
        have hgetY : ∀ n, n < 4 → F.getD (p * 4 + n) 0 = colGet Y n := fun n hn => by
          rw [Nat.mul_comm p 4, col_at F p n hn, colL_get _ _ hn, hY]
        have HgetY := Lib.hid hgetY
        have hget : ∀ n, n < 4 → F.getD (k * 4 + n) 0 = colGet Y n ^^^ colGet V n := fun n hn => by
          rw [Nat.mul_comm k 4, col_at F k n hn, colL_get _ _ hn, hcol, colGet_add, hY, hV, hX]
        have Hget := Lib.hid hget
        have HV := Lib.hid hV
        have hB1 := d1.lt
        have Hp8 := Lib.hid hp
        have t8 : ((k : Int)).tmod 8 = ((k % 8 : Nat) : Int) := by rw [Int.tmod_eq_emod_of_nonneg (by omega)]; omega
        have t4 : ((k : Int)).tmod 4 = ((k % 4 : Nat) : Int) := by rw [Int.tmod_eq_emod_of_nonneg (by omega)]; omega
        clear hcol hX hY hV hq hp hget hgetY
        by_cases e8' : k % 8 = 0
        · have ht := Lib.hid (show colL V = (colL (boxC (rotC X))).set 0 (box (rotC X).a ^^^ pow 2 (k / 8 - 1)) by rw [HV.out]; unfold turn; rw [if_pos e8']; rfl)
          rw [show k % 4 = 0 by omega] at t4
          rw [e8'] at t8
          obtain ⟨s, hs⟩ : ∃ s, s = k / 8 - 1 := ⟨_, rfl⟩
          have hs8 : s < 8 := by omega
          have tq : ((k : Int)).tdiv 8 = ((s + 1 : Nat) : Int) := by rw [Int.tdiv_eq_ediv_of_nonneg (by omega)]; omega
          have wq : IntKind.i64.wrap (((s + 1 : Nat) : Int) - 1) = (s : Int) := by rw [IntKind.wrap_i64]; omega
          have wp1 : IntKind.i64.wrap ((s + 1 : Nat) : Int) = ((s + 1 : Nat) : Int) := by rw [IntKind.wrap_i64]; omega
          have hex : expo (s : Int) = s := by unfold expo; rw [if_neg (by omega)]; omega
          obtain ⟨p1, hp1⟩ : ∃ q, q = s + 1 := ⟨_, rfl⟩
          rw [← hp1] at tq wq wp1
          rw [← hs] at ht
          have hpw := rpower_any 2 2 (s : Int) rfl (by omega) (by omega)
          rw [hex] at hpw
          obtain ⟨P, hP⟩ : ∃ P, P = pow 2 s := ⟨_, rfl⟩
          rw [← hP] at ht hpw
          have Hpw := Lib.hid hpw
          have K60 := Lib.hid hk
          clear hpw hP hp1 hs hex e8'
          obtain ⟨X0, hX0⟩ : ∃ Y, Y = rotC X := ⟨_, rfl⟩
          have hXv : colL X0 = [X.b, X.c, X.d, X.a] := by rw [hX0]; rfl
          rw [← hX0] at ht
          have HXv := Lib.hid hXv
          clear hX0 hXv
          go_wp2_with (first
            | ((with_reducible show wpList _ _ _ (⟨some 43, _, _, _, _, _⟩ :: _) _ _); refine wpList_load_mid rfl _ _ rfl B1 (q * 4) rfl (vb (colL X)) _ hrq Try.underlying51 rfl size4 ?_)
            | ((with_reducible show wpList _ _ _ (⟨some 5, _, _, _, _, _⟩ :: _) _ _); refine wpList_allocN rfl _ rfl (vb zero4) zeroV4 ?_; intro w4 hb4 bw4 hs4)
            | ((with_reducible show wpList _ _ _ (⟨none, .store 51 (.tmp 5) _, _, _, _, _⟩ :: _) _ _); refine wpList_storeN rfl _ _ _ rfl rfl (ys := vb (colL X)) rfl hb4 rfl (vb_one _) (size4L X) ?_; intro w5 hb5 hg5; have bt5 := below_row bw4 hg5 (Nat.le_refl _) bw4.size; have g0 := Blk.byte hb5 (k := 0) (by simp [colL]); have g1 := Blk.byte hb5 (k := 1) (by simp [colL]); have g2 := Blk.byte hb5 (k := 2) (by simp [colL]); have g3 := Blk.byte hb5 (k := 3) (by simp [colL]); rw [show (colL X).getD 0 0 = X.a from rfl] at g0; rw [show (colL X).getD 1 0 = X.b from rfl] at g1; rw [show (colL X).getD 2 0 = X.c from rfl] at g2; rw [show (colL X).getD 3 0 = X.d from rfl] at g3; have lt0 := hb5.lt)
            | ((with_reducible show wpList _ _ _ (⟨none, .store 51 (.tmp 5) _, _, _, _, _⟩ :: _) _ _); refine wpList_storeN rfl _ _ _ rfl rfl (ys := vb (colL X0)) (by rw [HXv.out]; rfl) hb5 rfl (vb_one _) (size4L X0) ?_; intro w6 hb6 hg6; have bt6 := below_row bt5 hg6 (Nat.le_refl _) bt5.size)
            | fail)
          have f0 := d0.on bt6
          have f1 := d1.on bt6
          have btm := bt bt0 bt6
          have lB6 : B1 < wr.heap.size := hB1
          have hbX := hb6
          obtain ⟨B6, hB6⟩ : ∃ B, B = wr.heap.size := ⟨_, rfl⟩
          rw [← hB6] at hbX lB6 ⊢
          clear hB6 hb4 hg5 bw4 hs4 hb5 bt5 d0 d1 bt0 hrq hB1 hb6 hg6 bt6 g0 g1 g2 g3 lt0
          go_loopw [6] (fun i wx => ∃ n : Nat, n ≤ 4 ∧ i = .int .i64 n ∧ Blk wx w.heap.size (vb Z) ∧ Blk wx B1 (vb (part F Z (k * 4))) ∧ Blk wx B6 (vb (boxP X0 n)) ∧ Below w.heap.size w wx) (fun i _ => 4 - (intOf i).toNat)
          case atStart => exact ⟨0, by omega, rfl, f0, f1, by rw [boxP, part_zero]; exact hbX, btm⟩
          case round =>
            obtain ⟨n, hn, rfl, e0, e1, e6, bx⟩ := hrel
            clear f0 f1 hbX btm
            by_cases hln : n < 4
            · have hset := Lib.hid (boxP_set X0 n hln)
              have hcc := Blk.byte e6 (k := n) (by rw [boxP, part_len _ _ n 4 rfl rfl (by omega)]; exact hln)
              rw [boxP, part_old _ _ n n 4 rfl rfl (Nat.le_refl _) hln, colL_get _ _ hln] at hcc
              obtain ⟨y, hy⟩ : ∃ y, y = colGet X0 n := ⟨_, rfl⟩
              rw [← hy] at hset hcc
              have hnI : (n : Int) < 4 := by omega
              have hlt6 := e6.lt
              clear hy
              go_wp2_with fail
              refine (rbox_any y _ rfl _).mono ?_
              rintro e w7 ⟨rfl, b7⟩
              have hcc7 := (b7.cell (p := ⟨B6, n, none⟩) hlt6).trans hcc
              have h0 := e0.on b7
              have h1 := e1.on b7
              have h6 := e6.on b7
              have hf7 := h6.free n
              have hlt7 := h6.lt
              have bx7 := bt bx b7
              clear hcc hlt6
              go_wp2
              go_roundw
              case rel =>
                have hbs := h6.set (k := n) (e8 (box y))
                rw [vb_set, hset.out] at hbs
                exact ⟨n + 1, by omega, by go_num, h0.other _ (by omega), h1.other _ (by omega), hbs, bset bx7 (by omega) _⟩
              case measure => simp [intOf]; omega
            · obtain rfl : n = 4 := by omega
              rw [boxP, part_all _ _ 4 rfl rfl] at e6
              have hc0 := Blk.byte e6 (k := 0) (by simp [colL])
              rw [show (colL (boxC X0)).getD 0 0 = box X0.a from rfl] at hc0
              have hB := e6.lt
              obtain ⟨y, hy⟩ : ∃ y, y = box X0.a := ⟨_, rfl⟩
              rw [← hy] at hc0 ht
              clear hy
              go_wp2
              refine region_inb_tail 8 (by kernel_rfl) (by kernel_rfl) ?_
              simp only [List.take_succ_cons, List.take_zero, List.drop_succ_cons, List.drop_zero]
              have inbNe := InB.some
              have inbW := @wrap_small
              have inbU := IntKind.wrap_u8'
              repeat (refine wpQuiet_step (fun K hK => ?_); go_simp; first | (refine hK _ ?_; clear hK K) | (apply Exists.intro; refine ⟨?_, hK _ ?_⟩; (· (intro w' hw'; first | (go_at_call 50; refine (Hpw.out _).mono ?_; rintro e w1 ⟨rfl, rfl⟩; exact ⟨rfl, hw'⟩) | (have hcw := hw'.cell; go_simp; exact rfl))); clear hK K))
              refine wpQuiet_nil ?_
              intro wq hq
              clear inbNe inbW inbU
              have q0 := e0.on hq.below
              have q1 := e1.on hq.below
              have q6 := e6.on hq.below
              have btq := bt bx hq.below
              have hc1 := (hq.below.cell (p := ⟨B6, 0, none⟩) hB).trans hc0
              have hf1 := q6.free 0
              have hB6 := q6.lt
              clear hq
              have hbs := q6.set (k := 0) (e8 (y ^^^ P))
              rw [vb_set, ← ht.out] at hbs
              have r0 := q0.other (k := 0) (b := B6) (e8 (y ^^^ P)) (by omega)
              have r1 := q1.other (k := 0) (b := B6) (e8 (y ^^^ P)) (by omega)
              have btr := bset (o := 0) btq (show w.heap.size ≤ B6 by omega) (e8 (y ^^^ P))
              rw [xor8]
              go_wp2
              go_loopw [7] (fun i wx => ∃ n : Nat, n ≤ 4 ∧ i = .int .i64 n ∧ Blk wx w.heap.size (vb Z) ∧ Blk wx B1 (vb (part F Z (k * 4 + n))) ∧ Blk wx B6 (vb (colL V)) ∧ Below w.heap.size w wx) (fun i _ => 4 - (intOf i).toNat)
              case atStart => exact ⟨0, by omega, rfl, r0, r1, hbs, btr⟩
              case round =>
                obtain ⟨n, hn, rfl, e0, e1, e6, bx⟩ := hrel
                clear r0 r1 hbs btr
                by_cases hln : n < 4
                · have hk60 : k < 60 := hlt
                  have hp8 := Hp8.out
                  have hset := Lib.hid (part_set F Z (k * 4 + n) 240 HF.out HZ.out (by omega))
                  have hv := Lib.hid (Hget.out n hln)
                  have hcc := Blk.byte e6 (k := n) (by rw [colOf_len]; exact hln)
                  rw [colL_get _ _ hln] at hcc
                  have hcy := Blk.byte e1 (k := p * 4 + n) (by rw [part_len _ _ (k * 4 + n) 240 HF.out HZ.out (by omega)]; omega)
                  rw [part_new HF.out (k * 4 + n) (p * 4 + n) (by omega) (by omega), HgetY.out n hln] at hcy
                  have hct := Blk.byte e1 (k := k * 4 + n) (by rw [part_len _ _ (k * 4 + n) 240 HF.out HZ.out (by omega)]; omega)
                  have hf := e1.free (k * 4 + n)
                  obtain ⟨x, hx⟩ : ∃ x, x = colGet Y n := ⟨_, rfl⟩
                  obtain ⟨y, hy⟩ : ∃ y, y = colGet V n := ⟨_, rfl⟩
                  rw [← hx] at hcy hv
                  rw [← hy] at hcc hv
                  have hBB := e1.lt
                  have hB6 := e6.lt
                  have hnI : (n : Int) < 4 := by omega
                  clear hx hy hp8
                  go_wp2
                  try go_region
                  try go_wp2
                  go_roundw
                  case rel =>
                    have hbs := e1.set (k := k * 4 + n) (e8 (x ^^^ y))
                    have hst := hset.out
                    rw [hv.out] at hst
                    rw [vb_set, hst] at hbs
                    rw [xor8]
                    exact ⟨n + 1, by omega, by go_num, e0.other _ (by omega), by rw [← Nat.add_assoc]; exact hbs, e6.other _ (by omega), (bset bx (by omega) _).drew⟩
                  case measure => simp [intOf]; omega
                · obtain rfl : n = 4 := by omega
                  go_wp2
                  go_roundw
                  case rel => exact ⟨k + 1, by omega, by go_num, e0, by rw [Nat.add_mul]; exact e1, bx⟩
                  case measure => simp [intOf]; omega
        · by_cases e4' : k % 4 = 0
          · have ht := Lib.hid (show V = boxC X by rw [HV.out]; unfold turn; rw [if_neg e8', if_pos e4'])
            have f8 : (((k % 8 : Nat) : Int) == 0) = false := beq_no (by omega)
            rw [e4'] at t4
            obtain ⟨q8, hq8⟩ : ∃ q, q = k % 8 := ⟨_, rfl⟩
            rw [← hq8] at t8 f8
            clear hq8 e8' e4'
            obtain ⟨X0, hX0⟩ : ∃ Y, Y = X := ⟨_, rfl⟩
            subst hX0
            go_wp2_with (first
              | ((with_reducible show wpList _ _ _ (⟨some 43, _, _, _, _, _⟩ :: _) _ _); refine wpList_load_mid rfl _ _ rfl B1 (q * 4) rfl (vb (colL X0)) _ hrq Try.underlying51 rfl size4 ?_)
              | ((with_reducible show wpList _ _ _ (⟨some 5, _, _, _, _, _⟩ :: _) _ _); refine wpList_allocN rfl _ rfl (vb zero4) zeroV4 ?_; intro w4 hb4 bw4 hs4)
              | ((with_reducible show wpList _ _ _ (⟨none, .store 51 (.tmp 5) _, _, _, _, _⟩ :: _) _ _); refine wpList_storeN rfl _ _ _ rfl rfl (ys := vb (colL X0)) rfl hb4 rfl (vb_one _) (size4L X0) ?_; intro w5 hb5 hg5; have bt5 := below_row bw4 hg5 (Nat.le_refl _) bw4.size)
              | fail)
            have f0 := d0.on bt5
            have f1 := d1.on bt5
            have btm := bt bt0 bt5
            have lB6 : B1 < wr.heap.size := hB1
            have hbX := hb5
            obtain ⟨B6, hB6⟩ : ∃ B, B = wr.heap.size := ⟨_, rfl⟩
            rw [← hB6] at hbX lB6 ⊢
            clear hB6 hb4 hg5 bw4 hs4 hb5 bt5 d0 d1 bt0 hrq hB1
            go_loopw [6] (fun i wx => ∃ n : Nat, n ≤ 4 ∧ i = .int .i64 n ∧ Blk wx w.heap.size (vb Z) ∧ Blk wx B1 (vb (part F Z (k * 4))) ∧ Blk wx B6 (vb (boxP X0 n)) ∧ Below w.heap.size w wx) (fun i _ => 4 - (intOf i).toNat)
            case atStart => exact ⟨0, by omega, rfl, f0, f1, by rw [boxP, part_zero]; exact hbX, btm⟩
            case round =>
              obtain ⟨n, hn, rfl, e0, e1, e6, bx⟩ := hrel
              clear f0 f1 hbX btm
              by_cases hln : n < 4
              · have hset := Lib.hid (boxP_set X0 n hln)
                have hcc := Blk.byte e6 (k := n) (by rw [boxP, part_len _ _ n 4 rfl rfl (by omega)]; exact hln)
                rw [boxP, part_old _ _ n n 4 rfl rfl (Nat.le_refl _) hln, colL_get _ _ hln] at hcc
                obtain ⟨y, hy⟩ : ∃ y, y = colGet X0 n := ⟨_, rfl⟩
                rw [← hy] at hset hcc
                have hnI : (n : Int) < 4 := by omega
                have hlt6 := e6.lt
                clear hy
                go_wp2_with fail
                refine (rbox_any y _ rfl _).mono ?_
                rintro e w7 ⟨rfl, b7⟩
                have hcc7 := (b7.cell (p := ⟨B6, n, none⟩) hlt6).trans hcc
                have h0 := e0.on b7
                have h1 := e1.on b7
                have h6 := e6.on b7
                have hf7 := h6.free n
                have hlt7 := h6.lt
                have bx7 := bt bx b7
                clear hcc hlt6
                go_wp2
                go_roundw
                case rel =>
                  have hbs := h6.set (k := n) (e8 (box y))
                  rw [vb_set, hset.out] at hbs
                  exact ⟨n + 1, by omega, by go_num, h0.other _ (by omega), h1.other _ (by omega), hbs, bset bx7 (by omega) _⟩
                case measure => simp [intOf]; omega
              · obtain rfl : n = 4 := by omega
                rw [boxP, part_all _ _ 4 rfl rfl] at e6
                have r0 := e0
                have r1 := e1
                have hbs := e6
                rw [← ht.out] at hbs
                have btr := bx
                clear e0 e1 e6 bx
                go_wp2
                go_loopw [7] (fun i wx => ∃ n : Nat, n ≤ 4 ∧ i = .int .i64 n ∧ Blk wx w.heap.size (vb Z) ∧ Blk wx B1 (vb (part F Z (k * 4 + n))) ∧ Blk wx B6 (vb (colL V)) ∧ Below w.heap.size w wx) (fun i _ => 4 - (intOf i).toNat)
                case atStart => exact ⟨0, by omega, rfl, r0, r1, hbs, btr⟩
                case round =>
                  obtain ⟨n, hn, rfl, e0, e1, e6, bx⟩ := hrel
                  clear r0 r1 hbs btr
                  by_cases hln : n < 4
                  · have hk60 : k < 60 := hlt
                    have hp8 := Hp8.out
                    have hset := Lib.hid (part_set F Z (k * 4 + n) 240 HF.out HZ.out (by omega))
                    have hv := Lib.hid (Hget.out n hln)
                    have hcc := Blk.byte e6 (k := n) (by rw [colOf_len]; exact hln)
                    rw [colL_get _ _ hln] at hcc
                    have hcy := Blk.byte e1 (k := p * 4 + n) (by rw [part_len _ _ (k * 4 + n) 240 HF.out HZ.out (by omega)]; omega)
                    rw [part_new HF.out (k * 4 + n) (p * 4 + n) (by omega) (by omega), HgetY.out n hln] at hcy
                    have hct := Blk.byte e1 (k := k * 4 + n) (by rw [part_len _ _ (k * 4 + n) 240 HF.out HZ.out (by omega)]; omega)
                    have hf := e1.free (k * 4 + n)
                    obtain ⟨x, hx⟩ : ∃ x, x = colGet Y n := ⟨_, rfl⟩
                    obtain ⟨y, hy⟩ : ∃ y, y = colGet V n := ⟨_, rfl⟩
                    rw [← hx] at hcy hv
                    rw [← hy] at hcc hv
                    have hBB := e1.lt
                    have hB6 := e6.lt
                    have hnI : (n : Int) < 4 := by omega
                    clear hx hy hp8
                    go_wp2
                    try go_region
                    try go_wp2
                    go_roundw
                    case rel =>
                      have hbs := e1.set (k := k * 4 + n) (e8 (x ^^^ y))
                      have hst := hset.out
                      rw [hv.out] at hst
                      rw [vb_set, hst] at hbs
                      rw [xor8]
                      exact ⟨n + 1, by omega, by go_num, e0.other _ (by omega), by rw [← Nat.add_assoc]; exact hbs, e6.other _ (by omega), (bset bx (by omega) _).drew⟩
                    case measure => simp [intOf]; omega
                  · obtain rfl : n = 4 := by omega
                    go_wp2
                    go_roundw
                    case rel => exact ⟨k + 1, by omega, by go_num, e0, by rw [Nat.add_mul]; exact e1, bx⟩
                    case measure => simp [intOf]; omega
          · have ht := Lib.hid (show V = X by rw [HV.out]; unfold turn; rw [if_neg e8', if_neg e4'])
            have f8 : (((k % 8 : Nat) : Int) == 0) = false := beq_no (by omega)
            have f4 : (((k % 4 : Nat) : Int) == 0) = false := beq_no (by omega)
            obtain ⟨q8, hq8⟩ : ∃ q, q = k % 8 := ⟨_, rfl⟩
            obtain ⟨q4, hq4⟩ : ∃ q, q = k % 4 := ⟨_, rfl⟩
            rw [← hq8] at t8 f8
            rw [← hq4] at t4 f4
            clear hq8 hq4 e8' e4'
            obtain ⟨X0, hX0⟩ : ∃ Y, Y = X := ⟨_, rfl⟩
            subst hX0
            go_wp2_with (first
              | ((with_reducible show wpList _ _ _ (⟨some 43, _, _, _, _, _⟩ :: _) _ _); refine wpList_load_mid rfl _ _ rfl B1 (q * 4) rfl (vb (colL X0)) _ hrq Try.underlying51 rfl size4 ?_)
              | ((with_reducible show wpList _ _ _ (⟨some 5, _, _, _, _, _⟩ :: _) _ _); refine wpList_allocN rfl _ rfl (vb zero4) zeroV4 ?_; intro w4 hb4 bw4 hs4)
              | ((with_reducible show wpList _ _ _ (⟨none, .store 51 (.tmp 5) _, _, _, _, _⟩ :: _) _ _); refine wpList_storeN rfl _ _ _ rfl rfl (ys := vb (colL X0)) rfl hb4 rfl (vb_one _) (size4L X0) ?_; intro w5 hb5 hg5; have bt5 := below_row bw4 hg5 (Nat.le_refl _) bw4.size)
              | fail)
            have f0 := d0.on bt5
            have f1 := d1.on bt5
            have btm := bt bt0 bt5
            have lB6 : B1 < wr.heap.size := hB1
            have hbX := hb5
            obtain ⟨B6, hB6⟩ : ∃ B, B = wr.heap.size := ⟨_, rfl⟩
            rw [← hB6] at hbX lB6 ⊢
            clear hB6 hb4 hg5 bw4 hs4 hb5 bt5 d0 d1 bt0 hrq hB1
            go_loopw [6] (fun i wx => ∃ n : Nat, n ≤ 4 ∧ i = .int .i64 n ∧ Blk wx w.heap.size (vb Z) ∧ Blk wx B1 (vb (part F Z (k * 4))) ∧ Blk wx B6 (vb (colL X0)) ∧ Below w.heap.size w wx) (fun i _ => 4 - (intOf i).toNat)
            case atStart => exact ⟨0, by omega, rfl, f0, f1, hbX, btm⟩
            case round =>
              obtain ⟨n, hn, rfl, e0, e1, e6, bx⟩ := hrel
              clear f0 f1 hbX btm
              by_cases hln : n < 4
              · have hnI : (n : Int) < 4 := by omega
                go_wp2
                go_roundw
                case rel => exact ⟨n + 1, by omega, by go_num, e0, e1, e6, bx⟩
                case measure => simp [intOf]; omega
              · obtain rfl : n = 4 := by omega
                have r0 := e0
                have r1 := e1
                have hbs := e6
                rw [← ht.out] at hbs
                have btr := bx
                clear e0 e1 e6 bx
                go_wp2
                go_loopw [7] (fun i wx => ∃ n : Nat, n ≤ 4 ∧ i = .int .i64 n ∧ Blk wx w.heap.size (vb Z) ∧ Blk wx B1 (vb (part F Z (k * 4 + n))) ∧ Blk wx B6 (vb (colL V)) ∧ Below w.heap.size w wx) (fun i _ => 4 - (intOf i).toNat)
                case atStart => exact ⟨0, by omega, rfl, r0, r1, hbs, btr⟩
                case round =>
                  obtain ⟨n, hn, rfl, e0, e1, e6, bx⟩ := hrel
                  clear r0 r1 hbs btr
                  by_cases hln : n < 4
                  · have hk60 : k < 60 := hlt
                    have hp8 := Hp8.out
                    have hset := Lib.hid (part_set F Z (k * 4 + n) 240 HF.out HZ.out (by omega))
                    have hv := Lib.hid (Hget.out n hln)
                    have hcc := Blk.byte e6 (k := n) (by rw [colOf_len]; exact hln)
                    rw [colL_get _ _ hln] at hcc
                    have hcy := Blk.byte e1 (k := p * 4 + n) (by rw [part_len _ _ (k * 4 + n) 240 HF.out HZ.out (by omega)]; omega)
                    rw [part_new HF.out (k * 4 + n) (p * 4 + n) (by omega) (by omega), HgetY.out n hln] at hcy
                    have hct := Blk.byte e1 (k := k * 4 + n) (by rw [part_len _ _ (k * 4 + n) 240 HF.out HZ.out (by omega)]; omega)
                    have hf := e1.free (k * 4 + n)
                    obtain ⟨x, hx⟩ : ∃ x, x = colGet Y n := ⟨_, rfl⟩
                    obtain ⟨y, hy⟩ : ∃ y, y = colGet V n := ⟨_, rfl⟩
                    rw [← hx] at hcy hv
                    rw [← hy] at hcc hv
                    have hBB := e1.lt
                    have hB6 := e6.lt
                    have hnI : (n : Int) < 4 := by omega
                    clear hx hy hp8
                    go_wp2
                    try go_region
                    try go_wp2
                    go_roundw
                    case rel =>
                      have hbs := e1.set (k := k * 4 + n) (e8 (x ^^^ y))
                      have hst := hset.out
                      rw [hv.out] at hst
                      rw [vb_set, hst] at hbs
                      rw [xor8]
                      exact ⟨n + 1, by omega, by go_num, e0.other _ (by omega), by rw [← Nat.add_assoc]; exact hbs, e6.other _ (by omega), (bset bx (by omega) _).drew⟩
                    case measure => simp [intOf]; omega
                  · obtain rfl : n = 4 := by omega
                    go_wp2
                    go_roundw
                    case rel => exact ⟨k + 1, by omega, by go_num, e0, by rw [Nat.add_mul]; exact e1, bx⟩
                    case measure => simp [intOf]; omega
    · obtain rfl : k = 60 := by omega
      have hp60 := part_all F Z 240 HF.out HZ.out
      rw [show 60 * 4 = 240 from rfl, hp60] at d1
      clear hp60
      have hZF : (vb Z).length = (vb F).length := by rw [vb_len, vb_len, HF.out, HZ.out]
      have HZF := Lib.hid hZF
      clear hZF
      go_wp2_with (first
        | ((with_reducible show wpList _ _ _ (⟨some 98, _, _, _, _, _⟩ :: _) _ _); refine wpList_loadA rfl _ _ rfl rfl d1 Try.underlying53 hszW ?_)
        | ((with_reducible show wpList _ _ _ (⟨none, .store 53 _ _, _, _, _, _⟩ :: _) _ _); refine wpList_storeN rfl _ _ _ rfl rfl (ys := vb F) rfl d0 HZF.out (vb_one _) hszW ?_; intro w9 hb9 hg9)
        | fail)
      exact bodyPost_ret (v := arrV (vb F)) (results_arr Try.results38 _ hb9 Try.underlying53 hszW rfl) rfl ⟨rfl, below_row bt0 hg9 (Nat.le_refl _) bt0.size⟩
end Go.Proofs.Yteecbjpnnklbpaa.Aes
