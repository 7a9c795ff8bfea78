/- The walk of aes.Schedule. -/
import Derived.Test.YteecbjpnnklbpaaAes8
namespace Go.Proofs.Yteecbjpnnklbpaa.Aes
open Go.RowKit
open Go.Proofs.Yteecbjpnnklbpaa.Gf
set_option linter.unusedVariables false
set_option maxRecDepth 100000
theorem colOf_len (x : Col) : (colL x).length = 4 := rfl
theorem sched_lo (key : List UInt8) (i : Nat) (h : i < 8) : colOf (sched key) i = colOf key i := by rw [sched_col _ _ (by omega), wAt_lo _ _ h]
theorem sched_hi (key : List UInt8) (i : Nat) (h : 8 ≤ i) (h6 : i < 60) : colOf (sched key) i = addC (colOf (sched key) (i - 8)) (turn (colOf (sched key) (i - 1)) i) := by
  rw [sched_col _ _ h6, wAt_hi _ _ h, sched_col _ _ (by omega), sched_col _ _ (by omega)]
theorem results_arr2 {fn : Func} {p q : Tmp} {t : TypeId} {v : Value} (h : fn.results = #[.cell p t, .tmp q]) (tmps : Array Value) {w : World} {g : Nat} {xs : List Value} (hb : Blk w g xs) {n : Nat} {e : TypeId} (hu : Try.prog.underlying t = some (.array n e))
    (hi : (Try.prog.info? t).map (·.size) = some xs.length) (hp : tmps[p]? = some (.pointer (some ⟨g, 0, none⟩))) (hq : tmps[q]? = some v) : (results fn tmps).run Try.prog w = .ok (.tuple #[arrV xs, v]) w := by
  obtain ⟨t', hb⟩ := hb
  have hp' : tmps[p]?.getD undef = .pointer (some ⟨g, 0, none⟩) := by rw [hp]; rfl
  have hq' : tmps[q]?.getD undef = v := by rw [hq]; rfl
  have := run_loadVar_row (P := Try.prog) w g t' t _ _ _ hb hu rfl (by simpa using hi)
  simp [results, h, hp', hq', asAddr, this, arrV]
theorem range_rd {w : World} {b off : Nat} {L l : List UInt8} (h : Rd w w.heap.size (some ⟨b, off, none⟩) (L.map e8)) (o : Nat) (hb : o + l.length ≤ L.length) (hl : ∀ j, j < l.length → L.getD (o + j) 0 = l.getD j 0) : w.rangeAt b (off + o) (vb l) := fun j v hv => by
  have hj : j < l.length := by have := (List.getElem?_eq_some_iff.1 hv).1; rwa [vb_len] at this
  obtain ⟨b', off', e, _, hc⟩ := h (by intro e; have := congrArg List.length e; rw [List.length_map, List.length_nil] at this; omega)
  cases e
  have hk : o + j < L.length := by omega
  have := hc (o + j) (by simpa using hk)
  rw [Nat.add_assoc, this]
  simp [vb, List.getElem?_eq_getElem hj] at hv
  have e1 := hl j hj
  simp [List.getD, List.getElem?_eq_getElem hj, List.getElem?_eq_getElem hk] at e1
  simp [e1, hv]
theorem run_arrayAt4' (w : World) (a : Addr) (n c : Nat) (hn : 4 ≤ n) : (Instr.arrayAt 51 (.slice (some a) n c)).run Try.prog w = .ok (.pointer (some a)) w := by
  have : ¬ n < 4 := by omega
  simp [Instr.arrayAt, run_underlying Try.underlying51, go_sem, this, hn]
theorem colGet_add (x y : Col) (n : Nat) : colGet (addC x y) n = colGet x n ^^^ colGet y n := by
  unfold colGet addC; repeat (first | rfl | split)
theorem run_slice16f (B o r : Nat) (h : r ≤ 12) (w : World) :
    (Instr.sliceAt 22 (.pointer (some ⟨B, o, none⟩)) (some (.int .i64 (r : Int))) none none).run Try.prog w = .ok (.slice (some ⟨B, o + r, none⟩) (16 - r) (16 - r)) w := by
  have h2 : (r : Int) ≤ 16 := by omega
  simp [Instr.sliceAt, run_underlying Try.underlying22, go_sem, h2]
  try omega
theorem zeroVK (w : World) : (zeroValue 29).run Try.prog w = .ok (arrV (vb zero240)) w := by kernel_rfl
theorem zeroVW (w : World) : (zeroValue 53).run Try.prog w = .ok (arrV (vb zero240)) w := by kernel_rfl
theorem sizeK : (Try.prog.info? 29).map (·.size) = some 240 := by kernel_rfl
theorem sizeW : (Try.prog.info? 53).map (·.size) = some 240 := by kernel_rfl
set_option maxHeartbeats 400000 in
theorem schedule_no (A : Option Addr) (n c : Nat) (w : World) (hn : n ≠ 32) (hm : n ≤ maxLen) :
    Calls Try.prog 18 #[.slice A n c] w fun e w' => e = .returned (.tuple #[arrV (vb zero240), .int .i64 4]) ∧ Below w.heap.size w w' := by
  have hn' : ((n : Int) != 32) = true := bne_yes (by omega)
  have hsz := size240 sizeK zero240_len
  go_enter Try.func18, Try.ntmps18
  go_wp2_with (first
    | ((with_reducible show wpList _ _ _ (⟨some 2, _, _, _, _, _⟩ :: _) _ _); refine wpList_allocN rfl _ rfl (vb zero240) zeroVK ?_; intro w1 hb1 bw1 hs1)
    | ((with_reducible show wpList _ _ _ (⟨some 14, _, _, _, _, _⟩ :: _) _ _); refine wpList_loadA rfl _ _ rfl rfl hb1 Try.underlying29 hsz ?_)
    | ((with_reducible show wpList _ _ _ (⟨none, .store 29 _ _, _, _, _, _⟩ :: _) _ _); refine wpList_storeN rfl _ _ _ rfl rfl (ys := vb zero240) rfl hb1 rfl (vb_one _) hsz ?_; intro w9 hb9 hg9)
    | fail)
  go_step3
  go_wp2_with (first
    | ((with_reducible show wpList _ _ _ (⟨some 14, _, _, _, _, _⟩ :: _) _ _); refine wpList_loadA rfl _ _ rfl rfl hb1 Try.underlying29 hsz ?_)
    | ((with_reducible show wpList _ _ _ (⟨none, .store 29 _ _, _, _, _, _⟩ :: _) _ _); refine wpList_storeN rfl _ _ _ rfl rfl (ys := vb zero240) rfl hb1 rfl (vb_one _) hsz ?_; intro w9 hb9 hg9)
    | fail)
  rw [Exit.noGoto_ret]
  exact bodyPost_ret (v := .tuple #[arrV (vb zero240), .int .i64 4]) (results_arr2 Try.results18 _ hb9 Try.underlying29 hsz rfl rfl) rfl ⟨rfl, below_row bw1 hg9 (Nat.le_refl _) bw1.size⟩
set_option maxHeartbeats 200000 in
theorem schedule_yes (b off : Nat) (key : List UInt8) (c : Nat) (w : World) (hn : key.length = 32) (hc : 32 ≤ c) (hcm : c ≤ maxLen) (hr : Rd w w.heap.size (some ⟨b, off, none⟩) (key.map e8)) :
    Calls Try.prog 18 #[.slice (some ⟨b, off, none⟩) 32 c] w fun e w' => e = .returned (.tuple #[arrV (vb (sched key)), .int .i64 0]) ∧ Below w.heap.size w w' := by
  unfold maxLen at hcm
  have hlo := sched_lo key
  have hhi := sched_hi key
  have hF := sched_len key
  obtain ⟨F, hFe⟩ : ∃ F, F = sched key := ⟨_, rfl⟩
  rw [← hFe] at hlo hhi hF ⊢
  clear hFe
  have hZ := zero240_len
  have zK := zeroVK
  have zW := zeroVW
  obtain ⟨Z, hZe⟩ : ∃ Z, Z = zero240 := ⟨_, rfl⟩
  rw [← hZe] at hZ zK zW
  clear hZe
  have HLo := Lib.hid hlo
  have HHi := Lib.hid hhi
  have HF := Lib.hid hF
  have HZ := Lib.hid hZ
  have HN := Lib.hid hn
  have hszK := size240 sizeK hF
  have hszW := size240 sizeW hF
  clear hF hn hlo hhi hZ
  go_enter Try.func18, Try.ntmps18
  go_wp2_with (first
    | ((with_reducible show wpList _ _ _ (⟨some 2, _, _, _, _, _⟩ :: _) _ _); refine wpList_allocN rfl _ rfl (vb Z) zK ?_; intro w1 hb1 bw1 hs1)
    | fail)
  go_step3
  go_wp2_with (first
    | ((with_reducible show wpList _ _ _ (⟨some 4, _, _, _, _, _⟩ :: _) _ _); refine wpList_allocN rfl _ rfl (vb Z) zW ?_; intro w2 hb2 bw2 hs2; have hb12 := hb1.on bw2; have bt2 := bt bw1 bw2)
    | fail)
  go_step3
  go_wp2_with fail
  have l01 : w.heap.size < w1.heap.size := hs1
  obtain ⟨B1, hB1⟩ : ∃ B, B = w1.heap.size := ⟨_, rfl⟩
  rw [← hB1] at hb2 l01 ⊢
  clear hB1 hb1 bw1 bw2 hs1 hs2
  go_loopw [15] (fun i wr => ∃ k : Nat, k ≤ 60 ∧ i = .int .i64 k ∧ Blk wr w.heap.size (vb Z) ∧ Blk wr B1 (vb (part F Z (k * 4))) ∧ Below w.heap.size w wr) (fun i _ => 60 - (intOf i).toNat)
  case atStart => exact ⟨0, by omega, rfl, hb12, by rw [Nat.zero_mul, part_zero]; exact hb2, bt2⟩
  case round =>
    obtain ⟨k, hk, rfl, d0, d1, bt0⟩ := hrel
    clear hb12 hb2 bt2
    by_cases hlt : k < 60
    · by_cases h8 : k < 8
      · have hrr := hr.on bt0
        obtain ⟨n, hnk⟩ : ∃ n, n = 4 * k := ⟨_, rfl⟩
        have hw0 : IntKind.i64.wrap (4 * (k : Int)) = (n : Int) := by rw [IntKind.wrap_i64]; omega
        have hn28 : n ≤ 28 := by omega
        have hnI : (n : Int) ≤ 32 := by omega
        have hn0 : (0 : Int) ≤ (n : Int) := by omega
        have har := fun w => run_arrayAt4' w ⟨b, off + n, none⟩ (32 - n) (c - n) (by omega)
        have hrg : wr.rangeAt b (off + n) (vb (colL (colOf key k))) := range_rd hrr n (by rw [colOf_len, HN.out]; omega) (fun j hj => by rw [hnk]; exact col_at key k j hj)
        have HNK := Lib.hid hnk
        clear hnk
        have hcol := HLo.out k h8
        have hsp := Lib.hid (splice_part (N := 240) HF.out HZ.out (colL (colOf key k)) (k * 4) (by rw [colOf_len]; omega) (fun j hj => by rw [Nat.mul_comm k 4, col_at F k j hj, hcol]))
        have hpl := Lib.hid (part_len F Z (k * 4) 240 HF.out HZ.out (by omega))
        clear hcol
        go_wp2_with (first
          | ((with_reducible show wpList _ _ _ (⟨some 26, _, _, _, _, _⟩ :: _) _ _); refine wpList_load_mid rfl _ _ rfl b (off + n) rfl (vb (colL (colOf key k))) _ hrg Try.underlying51 rfl size4 ?_)
          | ((with_reducible show wpList _ _ _ (⟨none, .store 51 (.tmp 27) _, _, _, _, _⟩ :: _) _ _); refine wpList_storeMid rfl _ _ _ rfl (g := B1) (off := k * 4) rfl (ys := vb (colL (colOf key k))) rfl d1 (by rw [vb_len, vb_len, colOf_len, hpl.out]; omega) (vb_one _) size4 ?_; intro w3 hb3 hg3)
          | fail)
        rw [hsp.out, colOf_len] at hb3
        have e0 := d0.grown hg3 (by simp; omega)
        have bt3 := below_row bt0 hg3 (by omega) bt0.size
        go_wp2_with fail
        go_roundw
        case rel => exact ⟨k + 1, by omega, by go_num, e0, by rw [Nat.add_mul]; exact hb3, bt3⟩
        case measure => simp [intOf]; omega
      · have h8' : 8 ≤ k := by omega
        have hcol := HHi.out k h8' hlt
        have hpl := Lib.hid (part_len F Z (k * 4) 240 HF.out HZ.out (by omega))
        obtain ⟨q, hq⟩ : ∃ q, q = k - 1 := ⟨_, rfl⟩
        obtain ⟨p, hp⟩ : ∃ p, p = k - 8 := ⟨_, rfl⟩
        have hwq : IntKind.i64.wrap ((k : Int) - 1) = (q : Int) := by rw [IntKind.wrap_i64]; omega
        have hwp : IntKind.i64.wrap ((k : Int) - 8) = (p : Int) := by rw [IntKind.wrap_i64]; omega
        have hqI : (q : Int) < 60 := by omega
        have hpI : (p : Int) < 60 := by omega
        have hqN : q < 60 := by omega
        have hpN : p < 60 := by omega
        rw [← hq, ← hp] at hcol
        obtain ⟨X, hX⟩ : ∃ X, X = colOf F q := ⟨_, rfl⟩
        obtain ⟨Y, hY⟩ : ∃ Y, Y = colOf F p := ⟨_, rfl⟩
        obtain ⟨V, hV⟩ : ∃ V, V = turn X k := ⟨_, rfl⟩
        have hrq : wr.rangeAt B1 (q * 4) (vb (colL X)) := by
          rw [Nat.mul_comm q 4, hX, ← colOf_part (Z := Z) HF.out (k * 4) q (by omega) (by omega)]
          exact range_colAt d1 q (by rw [hpl.out]; omega)
        have hrp : ∀ W, Blk W B1 (vb (part F Z (k * 4))) → W.rangeAt B1 (p * 4) (vb (colL Y)) := fun W hW => by
          rw [Nat.mul_comm p 4, hY, ← colOf_part (Z := Z) HF.out (k * 4) p (by omega) (by omega)]
          exact range_colAt hW p (by rw [hpl.out]; omega)
        have Hrp := Lib.hid hrp
        have hget : ∀ n, n < 4 → F.getD (k * 4 + n) 0 = colGet Y n ^^^ colGet V n := fun n hn => by
          rw [Nat.mul_comm k 4, col_at F k n hn, colL_get _ _ hn, hcol, colGet_add, hY, hV, hX]
        have Hget := Lib.hid hget
        have htr := turned_any X k (k : Int) rfl h8' hlt
        rw [← hV] at htr
        have Htr := Lib.hid htr
        have Hq := Lib.hid hq
        have hB1 := d1.lt
        clear htr hcol hX hY hV hq hp hrp hget
        go_wp2_with (first
          | ((with_reducible show wpList _ _ _ (⟨some 31, _, _, _, _, _⟩ :: _) _ _); refine wpList_load_mid rfl _ _ rfl B1 (q * 4) rfl (vb (colL X)) _ hrq Try.underlying51 rfl size4 ?_)
          | fail)
        refine (Htr.out _).mono ?_
        rintro e w3 ⟨rfl, b3⟩
        go_wp2_with (first
          | ((with_reducible show wpList _ _ _ (⟨some 6, _, _, _, _, _⟩ :: _) _ _); refine wpList_allocN rfl _ rfl (vb zero4) zeroV4 ?_; intro w4 hb4 bw4 hs4)
          | ((with_reducible show wpList _ _ _ (⟨none, .store 51 (.tmp 6) _, _, _, _, _⟩ :: _) _ _); refine wpList_storeN rfl _ _ _ rfl rfl (ys := vb (colL V)) rfl hb4 rfl (vb_one _) (size4L V) ?_; intro w5 hb5 hg5; have bt5 := below_row (bt b3 bw4) hg5 b3.size (bt b3 bw4).size; have hrp5 := Hrp.out w5 (d1.on bt5))
          | ((with_reducible show wpList _ _ _ (⟨some 37, _, _, _, _, _⟩ :: _) _ _); refine wpList_load_mid rfl _ _ rfl B1 (p * 4) rfl (vb (colL Y)) _ hrp5 Try.underlying51 rfl size4 ?_)
          | fail)
        have f0 := d0.on bt5
        have f1 := d1.on bt5
        have btm := bt bt0 bt5
        have lB6 : B1 < w3.heap.size := by have := b3.size; omega
        obtain ⟨B6, hB6⟩ : ∃ B, B = w3.heap.size := ⟨_, rfl⟩
        rw [← hB6] at hb5 lB6 ⊢
        clear hB6 hb4 hg5 bw4 hs4 b3 bt5 d0 d1 bt0 hrq hrp5 hwq hB1
        obtain ⟨K4, hK4⟩ : ∃ m, m = k * 4 := ⟨_, rfl⟩
        have Hk4 := Lib.hid hK4
        go_loopw [38] (fun i wx => ∃ n : Nat, n ≤ 4 ∧ i = .int .i64 n ∧ Blk wx w.heap.size (vb Z) ∧ Blk wx B1 (vb (part F Z (k * 4 + n))) ∧ Blk wx B6 (vb (colL V)) ∧ Below w.heap.size w wx) (fun i _ => 4 - (intOf i).toNat)
        case atStart => exact ⟨0, by omega, rfl, f0, f1, hb5, btm⟩
        case round =>
          obtain ⟨n, hn, rfl, e0, e1, e6, bx⟩ := hrel
          clear f0 f1 hb5 btm
          by_cases hln : n < 4
          · have hix := index4 Y n hln
            unfold arrV at hix
            have hset := Lib.hid (part_set F Z (k * 4 + n) 240 HF.out HZ.out (by omega))
            have hv := Lib.hid (Hget.out n hln)
            have hcc := Blk.byte e6 (k := n) (by rw [colOf_len]; exact hln)
            rw [colL_get _ _ hln] at hcc
            have hct := Blk.byte e1 (k := k * 4 + n) (by rw [part_len _ _ (k * 4 + n) 240 HF.out HZ.out (by omega)]; omega)
            have hf := e1.free (k * 4 + n)
            obtain ⟨x, hx⟩ : ∃ x, x = colGet Y n := ⟨_, rfl⟩
            obtain ⟨y, hy⟩ : ∃ y, y = colGet V n := ⟨_, rfl⟩
            rw [← hx] at hix hv
            rw [← hy] at hcc hv
            have hBB := e1.lt
            have hB6 := e6.lt
            have hnI : (n : Int) < 4 := by omega
            have hkI : (k : Int) < 60 := by omega
            clear hx hy
            go_wp2
            try go_region
            try go_wp2
            go_roundw
            case rel =>
              have hbs := e1.set (k := k * 4 + n) (e8 (x ^^^ y))
              have hst := hset.out
              rw [hv.out] at hst
              rw [vb_set, hst] at hbs
              rw [xor8]
              exact ⟨n + 1, by omega, by go_num, e0.other _ (by omega), by rw [← Nat.add_assoc]; exact hbs, e6.other _ (by omega), (bset bx (by omega) _).drew⟩
            case measure => simp [intOf]; omega
          · obtain rfl : n = 4 := by omega
            go_wp2
            go_roundw
            case rel => exact ⟨k + 1, by omega, by go_num, e0, by rw [Nat.add_mul]; exact e1, bx⟩
            case measure => simp [intOf]; omega
    · obtain rfl : k = 60 := by omega
      have hp60 := part_all F Z 240 HF.out HZ.out
      rw [show 60 * 4 = 240 from rfl, hp60] at d1
      clear hp60
      go_wp2_with (first
        | ((with_reducible show wpList _ _ _ (⟨some 53, _, _, _, _, _⟩ :: _) _ _); refine wpList_loadA rfl _ _ rfl rfl d1 Try.underlying53 hszW ?_)
        | fail)
      go_loopw [54] (fun i wx => ∃ n : Nat, n ≤ 60 ∧ i = .int .i64 n ∧ Blk wx w.heap.size (vb (part F Z (n * 4))) ∧ Below w.heap.size w wx) (fun i _ => 60 - (intOf i).toNat)
      case atStart => exact ⟨0, by omega, rfl, by rw [Nat.zero_mul, part_zero]; exact d0, bt0⟩
      case round =>
        obtain ⟨n, hn, rfl, e0, bx⟩ := hrel
        clear d0 d1 bt0
        by_cases hln : n < 60
        · have hix := run_index_col F HF.out n hln
          have hsp := Lib.hid (splice_part (N := 240) HF.out HZ.out (colL (colOf F n)) (n * 4) (by rw [colOf_len]; omega) (fun j hj => by rw [Nat.mul_comm n 4]; exact col_at F n j hj))
          have hpl := Lib.hid (part_len F Z (n * 4) 240 HF.out HZ.out (by omega))
          obtain ⟨X, hX⟩ : ∃ X, X = colOf F n := ⟨_, rfl⟩
          rw [← hX] at hix hsp
          obtain ⟨q, hq⟩ : ∃ q, q = n / 4 := ⟨_, rfl⟩
          obtain ⟨r, hr4⟩ : ∃ r, r = 4 * (n % 4) := ⟨_, rfl⟩
          obtain ⟨r1, hr1⟩ : ∃ r, r = n % 4 := ⟨_, rfl⟩
          have tq : ((n : Int)).tdiv 4 = (q : Int) := by rw [Int.tdiv_eq_ediv_of_nonneg (by omega)]; omega
          have tr : ((n : Int)).tmod 4 = (r1 : Int) := by rw [Int.tmod_eq_emod_of_nonneg (by omega)]; omega
          have wr0 : IntKind.i64.wrap (4 * (r1 : Int)) = (r : Int) := by rw [IntKind.wrap_i64]; omega
          have wq0 : IntKind.i64.wrap (q : Int) = (q : Int) := by rw [IntKind.wrap_i64]; omega
          have hqI : (q : Int) < 15 := by omega
          have hoff : q * 16 + r = n * 4 := by omega
          have hsl := run_slice16f w.heap.size (q * 16) r (by omega)
          have Hoff := Lib.hid hoff
          have hr12 : r ≤ 12 := by omega
          have hB0 := e0.lt
          clear hX hq hr4 hr1 hoff
          go_wp2_with (first
            | ((with_reducible show wpList _ _ _ (⟨some 10, _, _, _, _, _⟩ :: _) _ _); refine wpList_allocN rfl _ rfl (vb zero4) zeroV4 ?_; intro w4 hb4 bw4 hs4)
            | ((with_reducible show wpList _ _ _ (⟨none, .store 51 (.tmp 10) _, _, _, _, _⟩ :: _) _ _); refine wpList_storeN rfl _ _ _ rfl rfl (ys := vb (colL X)) rfl hb4 rfl (vb_one _) (size4L X) ?_; intro w5 hb5 hg5; have bt5 := below_row bw4 hg5 (Nat.le_refl _) bw4.size)
            | fail)
          have f0 := e0.on bt5
          have bt6 := bt bx bt5
          go_region_held3 (fun w' => True) (trivial)
            (first
            | (refine step_copyN (by rfl) _ _ _ _ (by rfl) (by rfl) (by rfl) (vb (colL X)) (by rw [vb_len, colOf_len]; exact (Nat.min_eq_left (by omega)).symm) Try.underlying27 size8 f0 (by rw [vb_len, vb_len, hpl.out, colOf_len]; have := Hoff.out; omega) (by intro j v hv; obtain ⟨hj, hv'⟩ := (List.getElem?_eq_some_iff.1 hv); rw [Addr.add_lit, Nat.zero_add]; exact (hb5.cell hj).trans (congrArg some hv')) (vb_one _) ?_; intro w6 hb6 hg6; rw [Hoff.out, hsp.out] at hb6)
            | fail)
          rw [colOf_len] at hb6
          have bt7 : Below w.heap.size w w6 := below_row (bt6.drew) hg6 (Nat.le_refl _) (by have := bt6.size; exact this)
          go_wp2
          go_roundw
          case rel => exact ⟨n + 1, by omega, by go_num, by rw [Nat.add_mul]; exact hb6, bt7⟩
          case measure => simp [intOf]; omega
        · obtain rfl : n = 60 := by omega
          have hp60 := part_all F Z 240 HF.out HZ.out
          rw [show 60 * 4 = 240 from rfl, hp60] at e0
          clear hp60
          go_wp2_with (first
            | ((with_reducible show wpList _ _ _ (⟨some 68, _, _, _, _, _⟩ :: _) _ _); refine wpList_loadA rfl _ _ rfl rfl e0 Try.underlying29 hszK ?_)
            | ((with_reducible show wpList _ _ _ (⟨none, .store 29 _ _, _, _, _, _⟩ :: _) _ _); refine wpList_storeN rfl _ _ _ rfl rfl (ys := vb F) rfl e0 rfl (vb_one _) hszK ?_; intro w9 hb9 hg9)
            | fail)
          try rw [Exit.noGoto_ret]
          exact bodyPost_ret (v := .tuple #[arrV (vb F), .int .i64 0]) (results_arr2 Try.results18 _ hb9 Try.underlying29 hszK rfl rfl) rfl ⟨rfl, below_row bx hg9 (Nat.le_refl _) bx.size⟩
theorem schedule_any (A : Option Addr) (key : List UInt8) (n c : Nat) (w : World) (hn : n = key.length) (hc : n ≤ c) (hcm : c ≤ maxLen) (hr : Rd w w.heap.size A (key.map e8)) :
    Calls Try.prog 18 #[.slice A n c] w fun e w' => e = .returned (.tuple #[arrV (vb (keysOf key)), .int .i64 (if key.length = 32 then 0 else 4)]) ∧ Below w.heap.size w w' := by
  subst hn
  by_cases h : key.length = 32
  · rw [if_pos h, keysOf, if_pos h]
    obtain ⟨b, off, rfl, _, _⟩ := hr (by intro e; have := congrArg List.length e; rw [List.length_map, List.length_nil] at this; omega)
    rw [h] at hc ⊢
    exact schedule_yes b off key c w h hc hcm hr
  · rw [if_neg h, keysOf, if_neg h]
    exact schedule_no A _ c w h (by omega)
end Go.Proofs.Yteecbjpnnklbpaa.Aes
