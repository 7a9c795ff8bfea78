/- The walks of ctr.Stream and its closure. -/
import Derived.Test.YteecbjpnnklbpaaCtr3
namespace Go.Proofs.Yteecbjpnnklbpaa.Ctr
open Go.RowKit
open Go.Proofs.Yteecbjpnnklbpaa.Aes
set_option linter.unusedVariables false
set_option maxRecDepth 100000
/-- how long a slice is -/
def lenS : Value → Nat
  | .slice _ n _ => n
  | _ => 0
def strF (key nonce : List UInt8) (n : Int) : Int := if okK key nonce then (if n < 0 ∨ 65536 < n then 2 else 0) else 4
def strB (key nonce : List UInt8) (n : Int) : List UInt8 := if okK key nonce then (if n < 0 ∨ 65536 < n then [] else stream (sched key) nonce n.toNat) else []
theorem strB_len (key nonce : List UInt8) (n : Int) : (strB key nonce n).length ≤ 65536 := by
  unfold strB; split
  · split
    · simp
    · rw [stream_len]; omega
  · simp
/-- a slice and a fault -/
def RetF (w : World) (l : List UInt8) (f : Int) (e : Ending) (w' : World) : Prop :=
  ∃ A c, e = .returned (.tuple #[.slice A l.length c, .int .i64 f]) ∧ Rd w' w'.heap.size A (l.map e8) ∧ l.length ≤ c ∧ c ≤ maxLen ∧ Below w.heap.size w w'
theorem RetF.nil {w w' : World} {f : Int} (h : Below w.heap.size w w') : RetF w [] f (.returned (.tuple #[.slice none 0 0, .int .i64 f])) w' :=
  ⟨none, 0, rfl, Rd.nil _ _ _, Nat.le_refl _, by unfold maxLen; omega, h⟩
set_option maxHeartbeats 800000 in
theorem step_any (g8 g9 : Nat) (L C : List UInt8) (hL : L.length = 240) (hC : C.length = 16) (w : World) (h8 : Blk w g8 (vb L)) (h9 : Blk w g9 (vb C)) (hne : g8 ≠ g9) :
    Calls Try.prog 42 #[.pointer (some ⟨g8, 0, none⟩), .pointer (some ⟨g9, 0, none⟩)] w fun e w' => (∃ g, e = .returned (.slice (some ⟨g, 0, none⟩) 16 16) ∧ Blk w' g (vb (encrypt L C)) ∧ w.heap.size ≤ g) ∧ Blk w' g8 (vb L) ∧ Blk w' g9 (vb (next C)) ∧ w.grownBy w' (some g9) := by
  have hen := encrypt_any L C hL hC
  have hnx := next_any C hC
  have hEl := encrypt_len L C
  have hNl : (next C).length = 16 := by rw [next_len, hC]
  have hszL := size240 sizeK hL
  have hszC := sizeL hC
  obtain ⟨E, hE⟩ : ∃ E, E = encrypt L C := ⟨_, rfl⟩
  obtain ⟨N, hN⟩ : ∃ N, N = next C := ⟨_, rfl⟩
  rw [← hE] at hen hEl ⊢
  rw [← hN] at hnx hNl ⊢
  have hszE := sizeL hEl
  have hszN := sizeL hNl
  have HEl := Lib.hid hEl
  have HCN := Lib.hid (show (vb C).length = (vb N).length by rw [vb_len, vb_len, hC, hNl])
  have Hen := Lib.hid hen
  have Hnx := Lib.hid hnx
  clear hE hN hen hnx hEl hNl hL hC
  have l9 := h9.lt
  go_enter Try.func42, Try.ntmps42
  go_wp2_with (first
    | ((with_reducible show wpList _ _ _ (⟨some 4, _, _, _, _, _⟩ :: _) _ _); refine wpList_loadA rfl _ _ rfl rfl h8 Try.underlying29 hszL ?_)
    | ((with_reducible show wpList _ _ _ (⟨some 5, _, _, _, _, _⟩ :: _) _ _); refine wpList_loadA rfl _ _ rfl rfl h9 Try.underlying22 hszC ?_)
    | fail)
  refine (Hen.out _).mono ?_
  rintro e w1 ⟨rfl, b1⟩
  have h81 := h8.on b1
  have h91 := h9.on b1
  go_wp2_with (first
    | ((with_reducible show wpList _ _ _ (⟨some 3, _, _, _, _, _⟩ :: _) _ _); refine wpList_allocN rfl _ rfl (vb zero16) zeroV16 ?_; intro w2 hb2 bw2 hs2)
    | ((with_reducible show wpList _ _ _ (⟨none, .store 22 (.tmp 3) _, _, _, _, _⟩ :: _) _ _); refine wpList_storeN rfl _ _ _ rfl rfl (ys := vb E) rfl hb2 (by rw [vb_len, vb_len, HEl.out]; rfl) (vb_one _) hszE ?_; intro w3 hb3 hg3; have b3 := below_row bw2 hg3 (Nat.le_refl _) bw2.size; have h93 := h91.on b3; have h83 := h81.on b3)
    | ((with_reducible show wpList _ _ _ (⟨some 7, _, _, _, _, _⟩ :: _) _ _); refine wpList_loadA rfl _ _ rfl rfl h93 Try.underlying22 hszC ?_)
    | fail)
  refine (Hnx.out _).mono ?_
  rintro e w4 ⟨rfl, b4⟩
  have h94 := h93.on b4
  have h84 := h83.on b4
  have hb4 := hb3.on b4
  have bt4 := bt (bt b1 b3) b4
  have hs1 := b1.size
  go_wp2_with (first
    | ((with_reducible show wpList _ _ _ (⟨none, .store 22 (.tmp 1) _, _, _, _, _⟩ :: _) _ _); refine wpList_storeN rfl _ _ _ rfl rfl (ys := vb N) rfl h94 HCN.out (vb_one _) hszN ?_; intro w5 hb5 hg5)
    | fail)
  go_ret
  exact ⟨⟨_, rfl, hb4.grown hg5 (by simp; omega), hs1⟩, h84.grown hg5 (by simpa using hne), hb5, grown_trans (below_grown bt4 _) hg5⟩
theorem info8 : (Try.prog.info? 5).map (fun i => (i.zero, i.size, i.bytes)) = some (some (.int .u8 0), 1, 1) := by kernel_rfl
theorem stream_of_row (L c : List UInt8) (n k : Nat) (h : n ≤ 16 * k) : (row L c k).take n = stream L c n := by
  rw [stream]; exact row_take L c n _ _ (by omega) (by omega)
set_option maxHeartbeats 1600000 in
theorem stream_any (A B : Option Addr) (key nonce : List UInt8) (n c m d : Nat) (i : Int) (w : World) (hn : n = key.length) (hm : m = nonce.length) (hc : n ≤ c) (hcm : c ≤ maxLen) (hd : m ≤ d) (hdm : d ≤ maxLen)
    (hr : Rd w w.heap.size A (key.map e8)) (hq : Rd w w.heap.size B (nonce.map e8)) (hi0 : -9223372036854775808 ≤ i) (hi1 : i ≤ 9223372036854775807) :
    Calls Try.prog 25 #[.slice A n c, .slice B m d, .int .i64 i] w fun e w' => RetF w (strB key nonce i) (strF key nonce i) e w' := by
  obtain ⟨i0, hi0', hz0, hz1, hz2⟩ := info_parts info8
  have hbg : ∀ W, Below w.heap.size w W → Calls Try.prog 39 #[.slice A n c, .slice B m d] W fun e w' => (∃ K C, e = .returned (.tuple #[arrV (vb K), arrV (vb C), .int .i64 (if okK key nonce then 0 else 4)]) ∧ K.length = 240 ∧ C.length = 16 ∧ (nonce.length = 16 → K = keysOf key ∧ C = nonce)) ∧ Below W.heap.size W w' := fun W hW => by
    have := begun_any A B key nonce n c m d W hn hm hc hcm hd hdm (hr.on hW) (hq.on hW)
    rwa [fault_ok] at this
  have Hbg := Lib.hid hbg
  have zK := zeroVK
  have hZ := zero240_len
  obtain ⟨Z, hZe⟩ : ∃ Z, Z = zero240 := ⟨_, rfl⟩
  rw [← hZe] at zK hZ
  have HZ := Lib.hid hZ
  clear hZe hZ hbg
  by_cases hok : okK key nonce
  · have hat0 := Lib.hid (show strF key nonce i = if i < 0 ∨ 65536 < i then 2 else 0 by rw [strF, if_pos hok])
    have hat1 := Lib.hid (show strB key nonce i = if i < 0 ∨ 65536 < i then [] else stream (sched key) nonce i.toNat by rw [strB, if_pos hok])
    have hkk : keysOf key = sched key := by rw [keysOf, if_pos hok.1]
    have Hok := Lib.hid hok
    rw [if_pos hok] at Hbg
    clear hok
    subst hn hm
    by_cases hrg : i < 0 ∨ 65536 < i
    · rw [if_pos hrg] at hat0 hat1
      by_cases hneg : i < 0
      · clear hrg
        go_enter Try.func25, Try.ntmps25
        go_wp2_with fail
        refine (Hbg.out _ (Below.refl _ _)).mono ?_
        rintro e w2 ⟨⟨K, C, rfl, hKl, hCl, hKC⟩, bt2⟩
        obtain ⟨rfl, rfl⟩ := hKC Hok.out.2
        have hszL := size240 sizeK hKl
        have hszC := sizeL hCl
        have hZL := Lib.hid (show (vb Z).length = (vb (keysOf key)).length by rw [vb_len, vb_len, hKl, HZ.out])
        have HKl := Lib.hid hKl
        have HCl := Lib.hid hCl
        rw [hkk] at hszL hZL HKl ⊢
        obtain ⟨L, hL⟩ : ∃ L, L = sched key := ⟨_, rfl⟩
        rw [← hL] at hszL hZL HKl ⊢; try rw [← hL] at hat1
        clear hKl hCl hKC hkk hL
        go_wp2_with (first
          | ((with_reducible show wpList _ _ _ (⟨some 8, _, _, _, _, _⟩ :: _) _ _); refine wpList_allocN rfl _ rfl (vb Z) zK ?_; intro w3 hb3 bw3 hs3)
          | ((with_reducible show wpList _ _ _ (⟨some 9, _, _, _, _, _⟩ :: _) _ _); refine wpList_allocN rfl _ rfl (vb zero16) zeroV16 ?_; intro w4 hb4 bw4 hs4; have hb34 := hb3.on bw4; have b34 := bt bw3 bw4)
          | ((with_reducible show wpList _ _ _ (⟨none, .store 29 (.tmp 8) _, _, _, _, _⟩ :: _) _ _); refine wpList_storeN rfl _ _ _ rfl rfl (ys := vb L) rfl hb34 hZL.out (vb_one _) hszL ?_; intro w5 hb5 hg5; have hb45 := hb4.grown hg5 (by simp; omega); have b5 := below_row b34 hg5 (Nat.le_refl _) b34.size)
          | ((with_reducible show wpList _ _ _ (⟨none, .store 22 (.tmp 9) _, _, _, _, _⟩ :: _) _ _); refine wpList_storeN rfl _ _ _ rfl rfl (ys := vb C) rfl hb45 (by rw [vb_len, vb_len, HCl.out]; rfl) (vb_one _) hszC ?_; intro w6 hb6 hg6; have hb56 := hb5.grown hg6 (by simp; omega); have b6 := below_row b5 hg6 (by omega) b5.size; have bt6 := bt bt2 b6)
          | fail)
        rw [hat0.out, hat1.out]
        go_ret2
        exact RetF.nil bt6
      · have hbig : 65536 < i := by omega
        have hneg' : 0 ≤ i := by omega
        clear hrg
        go_enter Try.func25, Try.ntmps25
        go_wp2_with fail
        refine (Hbg.out _ (Below.refl _ _)).mono ?_
        rintro e w2 ⟨⟨K, C, rfl, hKl, hCl, hKC⟩, bt2⟩
        obtain ⟨rfl, rfl⟩ := hKC Hok.out.2
        have hszL := size240 sizeK hKl
        have hszC := sizeL hCl
        have hZL := Lib.hid (show (vb Z).length = (vb (keysOf key)).length by rw [vb_len, vb_len, hKl, HZ.out])
        have HKl := Lib.hid hKl
        have HCl := Lib.hid hCl
        rw [hkk] at hszL hZL HKl ⊢
        obtain ⟨L, hL⟩ : ∃ L, L = sched key := ⟨_, rfl⟩
        rw [← hL] at hszL hZL HKl ⊢; try rw [← hL] at hat1
        clear hKl hCl hKC hkk hL
        go_wp2_with (first
          | ((with_reducible show wpList _ _ _ (⟨some 8, _, _, _, _, _⟩ :: _) _ _); refine wpList_allocN rfl _ rfl (vb Z) zK ?_; intro w3 hb3 bw3 hs3)
          | ((with_reducible show wpList _ _ _ (⟨some 9, _, _, _, _, _⟩ :: _) _ _); refine wpList_allocN rfl _ rfl (vb zero16) zeroV16 ?_; intro w4 hb4 bw4 hs4; have hb34 := hb3.on bw4; have b34 := bt bw3 bw4)
          | ((with_reducible show wpList _ _ _ (⟨none, .store 29 (.tmp 8) _, _, _, _, _⟩ :: _) _ _); refine wpList_storeN rfl _ _ _ rfl rfl (ys := vb L) rfl hb34 hZL.out (vb_one _) hszL ?_; intro w5 hb5 hg5; have hb45 := hb4.grown hg5 (by simp; omega); have b5 := below_row b34 hg5 (Nat.le_refl _) b34.size)
          | ((with_reducible show wpList _ _ _ (⟨none, .store 22 (.tmp 9) _, _, _, _, _⟩ :: _) _ _); refine wpList_storeN rfl _ _ _ rfl rfl (ys := vb C) rfl hb45 (by rw [vb_len, vb_len, HCl.out]; rfl) (vb_one _) hszC ?_; intro w6 hb6 hg6; have hb56 := hb5.grown hg6 (by simp; omega); have b6 := below_row b5 hg6 (by omega) b5.size; have bt6 := bt bt2 b6)
          | fail)
        rw [hat0.out, hat1.out]
        go_ret2
        exact RetF.nil bt6
    · rw [if_neg hrg] at hat0 hat1
      have hneg : ¬ i < 0 := by omega
      have hbig : ¬ 65536 < i := by omega
      obtain ⟨n, rfl⟩ : ∃ n : Nat, i = (n : Int) := ⟨i.toNat, by omega⟩
      rw [Int.toNat_natCast] at hat1
      have HnB := Lib.hid (show n ≤ 65536 by omega)
      have hge : decide ((65536 : Int) < (n : Int)) = false := by simp; omega
      clear hrg hneg hbig hi0 hi1
      go_enter Try.func25, Try.ntmps25
      go_wp2_with fail
      refine (Hbg.out _ (Below.refl _ _)).mono ?_
      rintro e w2 ⟨⟨K, C, rfl, hKl, hCl, hKC⟩, bt2⟩
      obtain ⟨rfl, rfl⟩ := hKC Hok.out.2
      have hszL := size240 sizeK hKl
      have hszC := sizeL hCl
      have hZL := Lib.hid (show (vb Z).length = (vb (keysOf key)).length by rw [vb_len, vb_len, hKl, HZ.out])
      have HKl := Lib.hid hKl
      have HCl := Lib.hid hCl
      rw [hkk] at hszL hZL HKl ⊢
      obtain ⟨L, hL⟩ : ∃ L, L = sched key := ⟨_, rfl⟩
      rw [← hL] at hszL hZL HKl ⊢; try rw [← hL] at hat1
      clear hKl hCl hKC hkk hL
      go_wp2_with (first
        | ((with_reducible show wpList _ _ _ (⟨some 8, _, _, _, _, _⟩ :: _) _ _); refine wpList_allocN rfl _ rfl (vb Z) zK ?_; intro w3 hb3 bw3 hs3)
        | ((with_reducible show wpList _ _ _ (⟨some 9, _, _, _, _, _⟩ :: _) _ _); refine wpList_allocN rfl _ rfl (vb zero16) zeroV16 ?_; intro w4 hb4 bw4 hs4; have hb34 := hb3.on bw4; have b34 := bt bw3 bw4)
        | ((with_reducible show wpList _ _ _ (⟨none, .store 29 (.tmp 8) _, _, _, _, _⟩ :: _) _ _); refine wpList_storeN rfl _ _ _ rfl rfl (ys := vb L) rfl hb34 hZL.out (vb_one _) hszL ?_; intro w5 hb5 hg5; have hb45 := hb4.grown hg5 (by simp; omega); have b5 := below_row b34 hg5 (Nat.le_refl _) b34.size)
        | ((with_reducible show wpList _ _ _ (⟨none, .store 22 (.tmp 9) _, _, _, _, _⟩ :: _) _ _); refine wpList_storeN rfl _ _ _ rfl rfl (ys := vb C) rfl hb45 (by rw [vb_len, vb_len, HCl.out]; rfl) (vb_one _) hszC ?_; intro w6 hb6 hg6; have hb56 := hb5.grown hg6 (by simp; omega); have b6 := below_row b5 hg6 (by omega) b5.size; have bt6 := bt bt2 b6)
        | fail)
      have l23 : w2.heap.size < w3.heap.size := hs3
      have l34 : w3.heap.size < w4.heap.size := hs4
      have l46 : w4.heap.size ≤ w6.heap.size := by have := hg5.size; have := hg6.size; omega
      have l02 := bt2.size
      obtain ⟨B8, hB8⟩ : ∃ B, B = w2.heap.size := ⟨_, rfl⟩
      obtain ⟨B9, hB9⟩ : ∃ B, B = w3.heap.size := ⟨_, rfl⟩
      rw [← hB8] at hb56 l23 l02 ⊢
      rw [← hB9] at hb6 l23 l34 ⊢
      obtain ⟨BB, hBB⟩ : ∃ B, B = w6.heap.size := ⟨_, rfl⟩
      have l6 : B9 < BB := by omega
      have hBs : BB ≤ w6.heap.size := by omega
      clear hB8 hB9 hBB hb3 hb4 hb34 hb45 hb5 hg5 hg6 bw3 bw4 b34 b5 b6 hs3 hs4 bt2 l34 l46
      have hval : ∀ w, Sem.run Try.prog (callFunc 42 #[.pointer (some ⟨B8, 0, none⟩), .pointer (some ⟨B9, 0, none⟩)]) w = .ok (.enter 42 #[.pointer (some ⟨B8, 0, none⟩), .pointer (some ⟨B9, 0, none⟩)]) w := by intro w; simp [go_sem]
      go_loopw [6] (fun v wr => ∃ k j : Nat, Hid (j = 16 * k ∧ j < n + 16) ∧ wr.ownsRow BB 5 1 v j ((row L C k).map e8) ∧ Blk wr B8 (vb L) ∧ (∃ D, Hid (D = later C k) ∧ Blk wr B9 (vb D)) ∧ Below w.heap.size w wr ∧ BB ≤ wr.heap.size) (fun v _ => n - lenS v)
      case atStart => exact ⟨0, 0, Lib.hid (by omega), own_nil _ _ _ _, hb56, ⟨C, Lib.hid (later_zero C).symm, hb6⟩, bt6, hBs⟩
      case round =>
        obtain ⟨k, j, hj, hown, d8, ⟨D, hD, d9⟩, bt0, hsz⟩ := hrel
        clear hb56 hb6 bt6 hBs
        obtain ⟨A0, c0, rfl⟩ := own_form hown
        have hcap := own_cap hown
        have hDl : D.length = 16 := by rw [hD.out, later_len, HCl.out]
        by_cases hlt : j < n
        · have hst := Lib.hid (fun W h8 h9 => step_any B8 B9 L D HKl.out hDl W h8 h9 (by omega))
          have hNe := Lib.hid (show next D = later C (k + 1) by rw [hD.out, later_succ])
          have hEe := Lib.hid (show row L C (k + 1) = row L C k ++ encrypt L D by rw [row, block, hD.out])
          have hEl := Lib.hid (encrypt_len L D)
          obtain ⟨E, hE⟩ : ∃ E, E = encrypt L D := ⟨_, rfl⟩
          obtain ⟨N, hN⟩ : ∃ N, N = next D := ⟨_, rfl⟩
          rw [← hE, ← hN] at hst
          rw [← hE] at hEe hEl
          rw [← hN] at hNe
          have hltI : (j : Int) < (n : Int) := by omega
          have hjb : j ≤ 65536 := by have := HnB.out; omega
          have Hlt := Lib.hid hlt
          clear hE hN hDl hlt hcap
          go_wp2_with fail
          refine (hst.out _ d8 d9).mono ?_
          rintro e w7 ⟨⟨g, rfl, hbE, hg⟩, h87, h97, hgr⟩
          have hown7 := own_keep hown (Keep.of_grown (fp := [B9]) hgr (fun g e => by cases e; simp)) (fun g' hg' => by have := own_block hown hg'; simp; omega)
          have bt7 := below_row bt0 hgr (by omega) bt0.size
          have hs7 : BB ≤ w7.heap.size := Nat.le_trans hsz hgr.size
          have hbs := fun g' hg' => own_block (k := g') hown7 hg'
          go_wp2_with (at_builtin; refine wpList_append_rd _ rfl _ _ _ rfl BB 5 i0 _ 1 1 Try.underlying27 hi0' hz0 hz1 hz2 rfl (by omega) _ j _ rfl hown7 _ (some ⟨g, 0, none⟩) 16 16 (vb E) rfl (by rw [vb_len, hEl.out]) hbE.rd (vb_one _) (by simp only [maxLen]; omega) (by omega) hs7 ?_; intro v8 w8 hown8 hg8 hat8)
          go_roundw
          case rel => exact ⟨k + 1, j + 16, Lib.hid (by have := hj.out; have := Hlt.out; omega), by rw [hEe.out, List.map_append]; exact hown8, h87.grown hg8 (fun e => by have := hbs _ e.symm; omega), ⟨N, hNe, h97.grown hg8 (fun e => by have := hbs _ e.symm; omega)⟩, bt7.grown hg8 bt7.size (fun g' hg' => by have := hbs _ hg'; omega), Nat.le_trans hs7 hg8.size⟩
          case measure =>
            obtain ⟨A9, c9, rfl⟩ := own_form hown8
            have := Hlt.out
            simp [lenS]; omega
        · have hge' : n ≤ j := by omega
          have hltI : ¬ (j : Int) < (n : Int) := by omega
          have hcI : (n : Int) ≤ (c0 : Int) := by omega
          have hcN : n ≤ c0 := by omega
          have hmx := hcap.2
          have hrd := Rd.own hown
          have hrs := stream_of_row L C n k (by have := hj.out; omega)
          have hres := Lib.hid (show strB key C (n : Int) = (row L C k).take n by rw [hat1.out, hrs])
          have hrl := row_len L C k
          have Hrl := Lib.hid (show ((row L C k).take n).length = n by rw [List.length_take, hrl]; have := hj.out; omega)
          have hrd2 := hrd.take n
          rw [← List.map_take] at hrd2
          clear hcap hlt hrs hrl hge'
          go_wp2
          rw [hat0.out, hres.out]
          go_ret2
          exact ⟨A0, n, by rw [Hrl.out]; rfl, hrd2, by rw [Hrl.out]; exact Nat.le_refl _, by omega, bt0⟩
  · have hat0 := Lib.hid (show strF key nonce i = 4 by rw [strF, if_neg hok])
    have hat1 := Lib.hid (show strB key nonce i = [] by rw [strB, if_neg hok])
    rw [if_neg hok] at Hbg
    clear hok
    subst hn hm
    go_enter Try.func25, Try.ntmps25
    go_wp2_with fail
    refine (Hbg.out _ (Below.refl _ _)).mono ?_
    rintro e w2 ⟨⟨K, C, rfl, hKl, hCl, hKC⟩, bt2⟩
    have hszL := size240 sizeK hKl
    have hszC := sizeL hCl
    have hZL := Lib.hid (show (vb Z).length = (vb K).length by rw [vb_len, vb_len, hKl, HZ.out])
    have HCl := Lib.hid hCl
    clear hKl hCl hKC
    go_wp2_with (first
      | ((with_reducible show wpList _ _ _ (⟨some 8, _, _, _, _, _⟩ :: _) _ _); refine wpList_allocN rfl _ rfl (vb Z) zK ?_; intro w3 hb3 bw3 hs3)
      | ((with_reducible show wpList _ _ _ (⟨some 9, _, _, _, _, _⟩ :: _) _ _); refine wpList_allocN rfl _ rfl (vb zero16) zeroV16 ?_; intro w4 hb4 bw4 hs4; have hb34 := hb3.on bw4; have b34 := bt bw3 bw4)
      | ((with_reducible show wpList _ _ _ (⟨none, .store 29 (.tmp 8) _, _, _, _, _⟩ :: _) _ _); refine wpList_storeN rfl _ _ _ rfl rfl (ys := vb K) rfl hb34 hZL.out (vb_one _) hszL ?_; intro w5 hb5 hg5; have hb45 := hb4.grown hg5 (by simp; omega); have b5 := below_row b34 hg5 (Nat.le_refl _) b34.size)
      | ((with_reducible show wpList _ _ _ (⟨none, .store 22 (.tmp 9) _, _, _, _, _⟩ :: _) _ _); refine wpList_storeN rfl _ _ _ rfl rfl (ys := vb C) rfl hb45 (by rw [vb_len, vb_len, HCl.out]; rfl) (vb_one _) hszC ?_; intro w6 hb6 hg6; have b6 := below_row b5 hg6 (by omega) b5.size; have bt6 := bt bt2 b6)
      | fail)
    rw [hat0.out, hat1.out]
    go_ret2
    exact RetF.nil bt6
end Go.Proofs.Yteecbjpnnklbpaa.Ctr
