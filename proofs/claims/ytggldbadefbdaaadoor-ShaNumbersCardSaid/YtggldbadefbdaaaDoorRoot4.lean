/- The walk of the reference's root. -/
import Derived.Test.YtggldbadefbdaaaDoorRoot3
namespace Go.Proofs.YtggldbadefbdaaaDoor.Sha
open Go.RowKit
set_option linter.unusedVariables false
set_option maxRecDepth 100000
theorem powL_len (n : Nat) : ∀ k, (powL n k).length = 5
  | 0 => rfl
  | k + 1 => by simp [powL, timesL]
theorem timesL_lt (l : List Nat) (n j : Nat) : fn (timesL l n) j < 4294967296 := by
  unfold fn timesL
  by_cases h : j < 5
  · simp only [List.getD, List.getElem?_map, List.getElem?_range h, Option.map_some, Option.getD_some, timesN]
    exact Nat.mod_lt _ (by omega)
  · simp only [List.getD]
    rw [List.getElem?_eq_none (by simp; omega)]
    decide
theorem powL_lt (n : Nat) : ∀ k j, fn (powL n k) j < 4294967296
  | 0, j => by
    unfold fn powL
    match j with
    | 0 => decide
    | 1 => decide
    | 2 => decide
    | 3 => decide
    | 4 => decide
    | j + 5 => simp [List.getD]
  | k + 1, j => timesL_lt _ _ _
theorem wrap32u (x : Int) : IntKind.u32.wrap x = x % 4294967296 := by
  simp [IntKind.wrap, IntKind.signed, IntKind.bits]
set_option maxHeartbeats 1000000 in
theorem root_any (n p : Nat) (hp : p = 2 ∨ p = 3) (hn : n < 1000) (w : World) : Calls Tryd.prog 58 #[.int .u64 (n : Int), .int .i64 (p : Int)] w fun e w' => e = .returned (.int .u32 (rootN n p : Int)) ∧ Below w.heap.size w w' := by
  obtain ⟨R, hR⟩ : ∃ R, rootF n p 36 0 = R := ⟨_, rfl⟩
  rw [rootN, hR]
  have HR := Lib.hid hR
  have hlm : (limitL n p).length = 5 := by unfold limitL; split <;> rfl
  obtain ⟨LIM, hLIM⟩ : ∃ L, L = limitL n p := ⟨_, rfl⟩
  rw [← hLIM] at hlm
  have HLl := Lib.hid hlm
  have hsz := size5L hlm
  have HszL := Lib.hid hsz
  have HLIM := Lib.hid hLIM
  clear hR hlm hLIM hsz
  by_cases h2 : p = 2
  · have hl2 := Lib.hid (show LIM = [0, 0, n, 0, 0] by rw [HLIM.out, limitL, if_pos h2])
    have hp2 : ((p : Int) == 2) = true := beq_yes (by omega)
    have hp3 : p ≤ 3 := by omega
    clear h2 hp
    go_enter Tryd.func58, Tryd.ntmps58
    go_wp2_with (first
      | ((with_reducible show wpList _ _ _ (⟨some 5, _, _, _, _, _⟩ :: _) _ _); refine wpList_allocN rfl _ rfl (vn [0, 0, 0, 0, 0]) zeroV5 ?_; intro w1 hb1 bw1 hs1)
      | ((with_reducible show wpList _ _ _ (⟨none, .store 71 (.tmp 5) _, _, _, _, _⟩ :: _) _ _); refine wpList_storeN rfl _ _ (.tmp 11) rfl rfl (ys := vn [0, 0, 0, n, 0]) rfl hb1 rfl (vn_one _) size5 ?_; intro w2 hb2 hg2; have bt2 := below_row bw1 hg2 (Nat.le_refl _) bw1.size)
      | ((with_reducible show wpList _ _ _ (⟨none, .store 71 (.tmp 5) _, _, _, _, _⟩ :: _) _ _); refine wpList_storeN rfl _ _ (.tmp 15) rfl rfl (ys := vn [0, 0, n, 0, 0]) rfl hb2 rfl (vn_one _) size5 ?_; intro w3 hb3 hg3; have bt3 := below_row bt2 hg3 (Nat.le_refl _) bt2.size)
      | fail)
    have hbL := hb3
    rw [← hl2.out] at hbL
    have btL := bt3
    clear hb1 bw1 hs1 hb2 hg2 bt2 hb3 hg3 bt3
    go_loopw [6, 7] (fun rr bb wr => ∃ k r bt : Nat, k ≤ 36 ∧ Hid (bt = 2 ^ k / 2 ∧ r + 2 ^ k ≤ 2 ^ 36) ∧ rr = .int .u64 (r : Int) ∧ bb = .int .u64 (bt : Int) ∧ Hid (rootF n p k r = R) ∧ Blk wr w.heap.size (vn LIM) ∧ Below w.heap.size w wr) (fun _ bb _ => (intOf bb).toNat)
    case atStart => exact ⟨36, 0, 34359738368, by omega, Lib.hid (by decide), rfl, rfl, HR, hbL, btL⟩
    case round =>
      obtain ⟨k, r, bi, hk, hbi, rfl, rfl, hrf, d5, bt0⟩ := hrel
      clear hbL btL
      rcases Nat.eq_zero_or_pos k with h0 | h0
      · subst h0
        have hb0 : bi = 0 := by rw [hbi.out.1]
        subst hb0
        have hR2 := Lib.hid (show r = R from hrf.out)
        obtain ⟨q, hq⟩ : ∃ q, q = r % 4294967296 := ⟨_, rfl⟩
        have tr : ((r : Int)).tmod 4294967296 = (q : Int) := by rw [Int.tmod_eq_emod_of_nonneg (by omega)]; omega
        have tr' : (r : Int) % 4294967296 = (q : Int) := by omega
        have wq1 : IntKind.u64.wrap (q : Int) = (q : Int) := wrapU (by omega) (by omega)
        have wq2 : IntKind.u32.wrap (q : Int) = (q : Int) := by rw [wrap32u]; omega
        have hqR := Lib.hid (show (q : Int) = ((R % 4294967296 : Nat) : Int) by rw [hq, hR2.out])
        clear hq
        go_wp2
        go_ret
        exact ⟨(congrArg (fun z => Ending.returned (Value.int .u32 z)) hqR.out : _), bt0⟩
      · obtain ⟨j, rfl⟩ : ∃ j, k = j + 1 := ⟨k - 1, by omega⟩
        have hbj : bi = 2 ^ j := by rw [hbi.out.1, Nat.pow_succ]; omega
        have hrb : r + bi + bi ≤ 2 ^ 36 := by have := hbi.out.2; rw [Nat.pow_succ] at this; omega
        have hbp : 0 < bi := by rw [hbj]; exact Nat.two_pow_pos j
        have hbI : (0 : Int) < (bi : Int) := by omega
        obtain ⟨v, hv⟩ : ∃ v, v = r + bi := ⟨_, rfl⟩
        have hvI : IntKind.u64.wrap ((r : Int) + (bi : Int)) = (v : Int) := by rw [hv, wrapU (by omega) (by omega)]; omega
        have hv37 : v < 137438953472 := by omega
        obtain ⟨b2, hb2⟩ : ∃ b, b = bi / 2 := ⟨_, rfl⟩
        have td : ((bi : Int)).tdiv 2 = (b2 : Int) := by rw [Int.tdiv_eq_ediv_of_nonneg (by omega)]; omega
        have td' : (bi : Int) / 2 = (b2 : Int) := by omega
        have wb2 : IntKind.u64.wrap (b2 : Int) = (b2 : Int) := wrapU (by omega) (by omega)
        have Hb2 := Lib.hid (show b2 = 2 ^ j / 2 by rw [hb2, hbj])
        have Hr1 := Lib.hid (show v + 2 ^ j ≤ 2 ^ 36 by rw [← hbj]; omega)
        have Hr2 := Lib.hid (show r + 2 ^ j ≤ 2 ^ 36 by rw [← hbj]; omega)
        have hstep := Lib.hid (show rootF n p j (if aboveF (powL v p) LIM 5 then r else v) = R by rw [← hrf.out, rootF, hv, hbj, HLIM.out])
        have htm := Lib.hid (fun i W => times_any (powL v i) (powL_len v i) (powL_lt v i) v hv37 W)
        have hab := Lib.hid (fun W => above_any (powL v p) LIM (powL_len v p) HLl.out W)
        have Hlt2 := Lib.hid (show b2 < bi by omega)
        clear hv hb2 hbi hrf hbj hrb
        go_wp2_with (first
          | ((with_reducible show wpList _ _ _ (⟨some 8, _, _, _, _, _⟩ :: _) _ _); refine wpList_allocN rfl _ rfl (vn [0, 0, 0, 0, 0]) zeroV5 ?_; intro w4 hb4 bw4 hs4)
          | ((with_reducible show wpList _ _ _ (⟨none, .store 71 (.tmp 8) _, _, _, _, _⟩ :: _) _ _); refine wpList_storeN rfl _ _ _ rfl rfl (ys := vn [1, 0, 0, 0, 0]) rfl hb4 rfl (vn_one _) size5 ?_; intro w5 hb5 hg5; have b5 := below_row bw4 hg5 (Nat.le_refl _) bw4.size)
          | fail)
        have e5 := d5.on b5
        have bt5 := bt bt0 b5
        have l58 := d5.lt
        obtain ⟨B8, hB8⟩ : ∃ B, B = wr.heap.size := ⟨_, rfl⟩
        rw [← hB8] at hb5 l58 ⊢
        clear hB8 hb4 bw4 hs4 hg5 b5 d5 bt0
        go_loopw [9] (fun i wx => ∃ m : Nat, m ≤ p ∧ i = .int .i64 m ∧ Blk wx w.heap.size (vn LIM) ∧ Blk wx B8 (vn (powL v m)) ∧ Below w.heap.size w wx) (fun i _ => p - (intOf i).toNat)
        case atStart => exact ⟨0, by omega, rfl, e5, hb5, bt5⟩
        case round =>
          obtain ⟨m, hm, rfl, f5, f8, bx⟩ := hrel
          clear e5 hb5 bt5
          by_cases hlt : m < p
          · have hmI : (m : Int) < (p : Int) := by omega
            have hps := Lib.hid (show timesL (powL v m) v = powL v (m + 1) from rfl)
            have hc := Lib.hid (fun W => htm.out m W)
            have hpl := Lib.hid (powL_len v m)
            have hpl2 := Lib.hid (powL_len v (m + 1))
            have hszm := size5L (powL_len v m)
            have hszm2 := size5L (powL_len v (m + 1))
            rw [hps.out] at hc
            obtain ⟨P0, hP0⟩ : ∃ P, P = powL v m := ⟨_, rfl⟩
            obtain ⟨P1, hP1⟩ : ∃ P, P = powL v (m + 1) := ⟨_, rfl⟩
            rw [← hP0] at hc hpl hszm f8
            rw [← hP1] at hc hpl2 hszm2
            have HP1 := Lib.hid hP1
            clear hP0 hP1 hps
            go_wp2_with (first
              | ((with_reducible show wpList _ _ _ (⟨some 26, _, _, _, _, _⟩ :: _) _ _); refine wpList_loadA rfl _ _ rfl rfl f8 Tryd.underlying71 hszm ?_)
              | fail)
            refine (hc.out _).mono ?_
            rintro e w6 ⟨rfl, b6⟩
            have g8 := f8.on b6
            have g5 := f5.on b6
            have btx := bt bx b6
            go_wp2_with (first
              | ((with_reducible show wpList _ _ _ (⟨none, .store 71 (.tmp 8) _, _, _, _, _⟩ :: _) _ _); refine wpList_storeN rfl _ _ _ rfl rfl (ys := vn P1) rfl g8 (by rw [vn_len, vn_len, hpl.out, hpl2.out]) (vn_one _) hszm2 ?_; intro w7 hb7 hg7)
              | fail)
            go_roundw
            case rel => exact ⟨m + 1, by omega, by go_num, g5.grown hg7 (by simp; omega), by rw [← HP1.out]; exact hb7, below_row btx hg7 (by omega) btx.size⟩
            case measure => simp [intOf]; omega
          · obtain rfl : m = p := by omega
            have hmI : ¬ (m : Int) < (m : Int) := by omega
            have hszm := size5L (powL_len v m)
            obtain ⟨P0, hP0⟩ : ∃ P, P = powL v m := ⟨_, rfl⟩
            rw [← hP0] at hab hstep hszm f8
            obtain ⟨A, hA⟩ : ∃ A, A = aboveF P0 LIM 5 := ⟨_, rfl⟩
            rw [← hA] at hab hstep
            clear hP0 hA htm
            go_wp2_with (first
              | ((with_reducible show wpList _ _ _ (⟨some 31, _, _, _, _, _⟩ :: _) _ _); refine wpList_loadA rfl _ _ rfl rfl f8 Tryd.underlying71 hszm ?_)
              | ((with_reducible show wpList _ _ _ (⟨some 32, _, _, _, _, _⟩ :: _) _ _); refine wpList_loadA rfl _ _ rfl rfl f5 Tryd.underlying71 HszL.out ?_)
              | fail)
            refine (hab.out _).mono ?_
            rintro e w6 ⟨rfl, b6⟩
            have g5 := f5.on b6
            have btx := bt bx b6
            cases A
            · go_wp2_with fail
              go_roundw
              case rel => exact ⟨j, v, b2, by omega, Lib.hid ⟨Hb2.out, Hr1.out⟩, rfl, rfl, hstep, g5, btx⟩
              case measure => have := Hlt2.out; simp [intOf]; omega
            · go_wp2_with fail
              go_roundw
              case rel => exact ⟨j, r, b2, by omega, Lib.hid ⟨Hb2.out, Hr2.out⟩, rfl, rfl, hstep, g5, btx⟩
              case measure => have := Hlt2.out; simp [intOf]; omega
  · have hl2 := Lib.hid (show LIM = [0, 0, 0, n, 0] by rw [HLIM.out, limitL, if_neg h2])
    have hp2 : ((p : Int) == 2) = false := beq_no (by omega)
    have hp3 : p ≤ 3 := by omega
    clear h2 hp
    go_enter Tryd.func58, Tryd.ntmps58
    go_wp2_with (first
      | ((with_reducible show wpList _ _ _ (⟨some 5, _, _, _, _, _⟩ :: _) _ _); refine wpList_allocN rfl _ rfl (vn [0, 0, 0, 0, 0]) zeroV5 ?_; intro w1 hb1 bw1 hs1)
      | ((with_reducible show wpList _ _ _ (⟨none, .store 71 (.tmp 5) _, _, _, _, _⟩ :: _) _ _); refine wpList_storeN rfl _ _ (.tmp 11) rfl rfl (ys := vn [0, 0, 0, n, 0]) rfl hb1 rfl (vn_one _) size5 ?_; intro w2 hb2 hg2; have bt2 := below_row bw1 hg2 (Nat.le_refl _) bw1.size)
      | fail)
    have hbL := hb2
    rw [← hl2.out] at hbL
    have btL := bt2
    clear hb1 bw1 hs1 hb2 hg2 bt2
    go_loopw [6, 7] (fun rr bb wr => ∃ k r bt : Nat, k ≤ 36 ∧ Hid (bt = 2 ^ k / 2 ∧ r + 2 ^ k ≤ 2 ^ 36) ∧ rr = .int .u64 (r : Int) ∧ bb = .int .u64 (bt : Int) ∧ Hid (rootF n p k r = R) ∧ Blk wr w.heap.size (vn LIM) ∧ Below w.heap.size w wr) (fun _ bb _ => (intOf bb).toNat)
    case atStart => exact ⟨36, 0, 34359738368, by omega, Lib.hid (by decide), rfl, rfl, HR, hbL, btL⟩
    case round =>
      obtain ⟨k, r, bi, hk, hbi, rfl, rfl, hrf, d5, bt0⟩ := hrel
      clear hbL btL
      rcases Nat.eq_zero_or_pos k with h0 | h0
      · subst h0
        have hb0 : bi = 0 := by rw [hbi.out.1]
        subst hb0
        have hR2 := Lib.hid (show r = R from hrf.out)
        obtain ⟨q, hq⟩ : ∃ q, q = r % 4294967296 := ⟨_, rfl⟩
        have tr : ((r : Int)).tmod 4294967296 = (q : Int) := by rw [Int.tmod_eq_emod_of_nonneg (by omega)]; omega
        have tr' : (r : Int) % 4294967296 = (q : Int) := by omega
        have wq1 : IntKind.u64.wrap (q : Int) = (q : Int) := wrapU (by omega) (by omega)
        have wq2 : IntKind.u32.wrap (q : Int) = (q : Int) := by rw [wrap32u]; omega
        have hqR := Lib.hid (show (q : Int) = ((R % 4294967296 : Nat) : Int) by rw [hq, hR2.out])
        clear hq
        go_wp2
        go_ret
        exact ⟨(congrArg (fun z => Ending.returned (Value.int .u32 z)) hqR.out : _), bt0⟩
      · obtain ⟨j, rfl⟩ : ∃ j, k = j + 1 := ⟨k - 1, by omega⟩
        have hbj : bi = 2 ^ j := by rw [hbi.out.1, Nat.pow_succ]; omega
        have hrb : r + bi + bi ≤ 2 ^ 36 := by have := hbi.out.2; rw [Nat.pow_succ] at this; omega
        have hbp : 0 < bi := by rw [hbj]; exact Nat.two_pow_pos j
        have hbI : (0 : Int) < (bi : Int) := by omega
        obtain ⟨v, hv⟩ : ∃ v, v = r + bi := ⟨_, rfl⟩
        have hvI : IntKind.u64.wrap ((r : Int) + (bi : Int)) = (v : Int) := by rw [hv, wrapU (by omega) (by omega)]; omega
        have hv37 : v < 137438953472 := by omega
        obtain ⟨b2, hb2⟩ : ∃ b, b = bi / 2 := ⟨_, rfl⟩
        have td : ((bi : Int)).tdiv 2 = (b2 : Int) := by rw [Int.tdiv_eq_ediv_of_nonneg (by omega)]; omega
        have td' : (bi : Int) / 2 = (b2 : Int) := by omega
        have wb2 : IntKind.u64.wrap (b2 : Int) = (b2 : Int) := wrapU (by omega) (by omega)
        have Hb2 := Lib.hid (show b2 = 2 ^ j / 2 by rw [hb2, hbj])
        have Hr1 := Lib.hid (show v + 2 ^ j ≤ 2 ^ 36 by rw [← hbj]; omega)
        have Hr2 := Lib.hid (show r + 2 ^ j ≤ 2 ^ 36 by rw [← hbj]; omega)
        have hstep := Lib.hid (show rootF n p j (if aboveF (powL v p) LIM 5 then r else v) = R by rw [← hrf.out, rootF, hv, hbj, HLIM.out])
        have htm := Lib.hid (fun i W => times_any (powL v i) (powL_len v i) (powL_lt v i) v hv37 W)
        have hab := Lib.hid (fun W => above_any (powL v p) LIM (powL_len v p) HLl.out W)
        have Hlt2 := Lib.hid (show b2 < bi by omega)
        clear hv hb2 hbi hrf hbj hrb
        go_wp2_with (first
          | ((with_reducible show wpList _ _ _ (⟨some 8, _, _, _, _, _⟩ :: _) _ _); refine wpList_allocN rfl _ rfl (vn [0, 0, 0, 0, 0]) zeroV5 ?_; intro w4 hb4 bw4 hs4)
          | ((with_reducible show wpList _ _ _ (⟨none, .store 71 (.tmp 8) _, _, _, _, _⟩ :: _) _ _); refine wpList_storeN rfl _ _ _ rfl rfl (ys := vn [1, 0, 0, 0, 0]) rfl hb4 rfl (vn_one _) size5 ?_; intro w5 hb5 hg5; have b5 := below_row bw4 hg5 (Nat.le_refl _) bw4.size)
          | fail)
        have e5 := d5.on b5
        have bt5 := bt bt0 b5
        have l58 := d5.lt
        obtain ⟨B8, hB8⟩ : ∃ B, B = wr.heap.size := ⟨_, rfl⟩
        rw [← hB8] at hb5 l58 ⊢
        clear hB8 hb4 bw4 hs4 hg5 b5 d5 bt0
        go_loopw [9] (fun i wx => ∃ m : Nat, m ≤ p ∧ i = .int .i64 m ∧ Blk wx w.heap.size (vn LIM) ∧ Blk wx B8 (vn (powL v m)) ∧ Below w.heap.size w wx) (fun i _ => p - (intOf i).toNat)
        case atStart => exact ⟨0, by omega, rfl, e5, hb5, bt5⟩
        case round =>
          obtain ⟨m, hm, rfl, f5, f8, bx⟩ := hrel
          clear e5 hb5 bt5
          by_cases hlt : m < p
          · have hmI : (m : Int) < (p : Int) := by omega
            have hps := Lib.hid (show timesL (powL v m) v = powL v (m + 1) from rfl)
            have hc := Lib.hid (fun W => htm.out m W)
            have hpl := Lib.hid (powL_len v m)
            have hpl2 := Lib.hid (powL_len v (m + 1))
            have hszm := size5L (powL_len v m)
            have hszm2 := size5L (powL_len v (m + 1))
            rw [hps.out] at hc
            obtain ⟨P0, hP0⟩ : ∃ P, P = powL v m := ⟨_, rfl⟩
            obtain ⟨P1, hP1⟩ : ∃ P, P = powL v (m + 1) := ⟨_, rfl⟩
            rw [← hP0] at hc hpl hszm f8
            rw [← hP1] at hc hpl2 hszm2
            have HP1 := Lib.hid hP1
            clear hP0 hP1 hps
            go_wp2_with (first
              | ((with_reducible show wpList _ _ _ (⟨some 26, _, _, _, _, _⟩ :: _) _ _); refine wpList_loadA rfl _ _ rfl rfl f8 Tryd.underlying71 hszm ?_)
              | fail)
            refine (hc.out _).mono ?_
            rintro e w6 ⟨rfl, b6⟩
            have g8 := f8.on b6
            have g5 := f5.on b6
            have btx := bt bx b6
            go_wp2_with (first
              | ((with_reducible show wpList _ _ _ (⟨none, .store 71 (.tmp 8) _, _, _, _, _⟩ :: _) _ _); refine wpList_storeN rfl _ _ _ rfl rfl (ys := vn P1) rfl g8 (by rw [vn_len, vn_len, hpl.out, hpl2.out]) (vn_one _) hszm2 ?_; intro w7 hb7 hg7)
              | fail)
            go_roundw
            case rel => exact ⟨m + 1, by omega, by go_num, g5.grown hg7 (by simp; omega), by rw [← HP1.out]; exact hb7, below_row btx hg7 (by omega) btx.size⟩
            case measure => simp [intOf]; omega
          · obtain rfl : m = p := by omega
            have hmI : ¬ (m : Int) < (m : Int) := by omega
            have hszm := size5L (powL_len v m)
            obtain ⟨P0, hP0⟩ : ∃ P, P = powL v m := ⟨_, rfl⟩
            rw [← hP0] at hab hstep hszm f8
            obtain ⟨A, hA⟩ : ∃ A, A = aboveF P0 LIM 5 := ⟨_, rfl⟩
            rw [← hA] at hab hstep
            clear hP0 hA htm
            go_wp2_with (first
              | ((with_reducible show wpList _ _ _ (⟨some 31, _, _, _, _, _⟩ :: _) _ _); refine wpList_loadA rfl _ _ rfl rfl f8 Tryd.underlying71 hszm ?_)
              | ((with_reducible show wpList _ _ _ (⟨some 32, _, _, _, _, _⟩ :: _) _ _); refine wpList_loadA rfl _ _ rfl rfl f5 Tryd.underlying71 HszL.out ?_)
              | fail)
            refine (hab.out _).mono ?_
            rintro e w6 ⟨rfl, b6⟩
            have g5 := f5.on b6
            have btx := bt bx b6
            cases A
            · go_wp2_with fail
              go_roundw
              case rel => exact ⟨j, v, b2, by omega, Lib.hid ⟨Hb2.out, Hr1.out⟩, rfl, rfl, hstep, g5, btx⟩
              case measure => have := Hlt2.out; simp [intOf]; omega
            · go_wp2_with fail
              go_roundw
              case rel => exact ⟨j, r, b2, by omega, Lib.hid ⟨Hb2.out, Hr2.out⟩, rfl, rfl, hstep, g5, btx⟩
              case measure => have := Hlt2.out; simp [intOf]; omega
end Go.Proofs.YtggldbadefbdaaaDoor.Sha
