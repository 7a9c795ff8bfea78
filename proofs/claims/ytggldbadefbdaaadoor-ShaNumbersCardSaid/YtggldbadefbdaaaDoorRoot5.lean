/- The walks of sha.K, and of the reference's K, Ks, First. -/
import Derived.Test.YtggldbadefbdaaaDoorRoot4
import Derived.Test.YtggldbadefbdaaaDoorShaR3
import Derived.Test.YtggldbadefbdaaaDoorArrEq
namespace Go.Proofs.YtggldbadefbdaaaDoor.Sha
open Go.RowKit
set_option linter.unusedVariables false
set_option maxRecDepth 100000
def kInt (t : Int) : UInt32 := if t < 0 ∨ 63 < t then 0 else kAt t.toNat
def p32 (a b : List UInt32) (k : Nat) : List UInt32 := a.take k ++ b.drop k
theorem p32_zero (a b : List UInt32) : p32 a b 0 = b := by simp [p32]
theorem p32_all (a b : List UInt32) (n : Nat) (ha : a.length = n) (hb : b.length = n) : p32 a b n = a := by
  rw [p32, List.take_of_length_le (by omega), List.drop_of_length_le (by omega), List.append_nil]
theorem p32_len (a b : List UInt32) (k n : Nat) (ha : a.length = n) (hb : b.length = n) (hk : k ≤ n) : (p32 a b k).length = n := by simp [p32, ha, hb]; omega
theorem p32_set (a b : List UInt32) (k n : Nat) (ha : a.length = n) (hb : b.length = n) (hk : k < n) : (p32 a b k).set k (a.getD k 0) = p32 a b (k + 1) := by
  apply List.ext_getElem
  · rw [List.length_set, p32_len a b k n ha hb (by omega), p32_len a b (k + 1) n ha hb (by omega)]
  · intro i h1 h2
    rw [List.getElem_set]
    rw [List.length_set, p32_len a b k n ha hb (by omega)] at h1
    by_cases e : k = i
    · subst e
      rw [if_pos rfl]
      simp only [p32]
      rw [List.getElem_append_left (by simp; omega), List.getElem_take]
      simp [List.getD, List.getElem?_eq_getElem (show k < a.length by omega)]
    · rw [if_neg e]
      simp only [p32]
      by_cases l : i < k
      · rw [List.getElem_append_left (by simp; omega), List.getElem_append_left (by simp; omega), List.getElem_take, List.getElem_take]
      · rw [List.getElem_append_right (by simp; omega), List.getElem_append_right (by simp; omega), List.getElem_drop, List.getElem_drop]
        congr 1
        simp; omega
set_option maxHeartbeats 400000 in
theorem k_any (t : Int) (w : World) (h0 : -9223372036854775808 ≤ t) (h1 : t ≤ 9223372036854775807) (hk : Tab w) : Calls Tryd.prog 27 #[.int .i64 t] w fun e w' => e = .returned (e32 (kInt t)) ∧ w = w' := by
  by_cases hn : t < 0
  · have hr := Lib.hid (show kInt t = 0 by rw [kInt, if_pos (.inl hn)])
    go_enter Tryd.func27, Tryd.ntmps27
    go_wp2
    go_ret
    exact ⟨by rw [hr.out]; rfl, rfl⟩
  · by_cases hb : 63 < t
    · have hr := Lib.hid (show kInt t = 0 by rw [kInt, if_pos (.inr hb)])
      have hb' : 64 ≤ t := by omega
      clear hb
      go_enter Tryd.func27, Tryd.ntmps27
      go_wp2
      go_ret
      exact ⟨by rw [hr.out]; rfl, rfl⟩
    · obtain ⟨n, rfl⟩ : ∃ n : Nat, t = (n : Int) := ⟨t.toNat, by omega⟩
      have hr := Lib.hid (show kInt (n : Int) = kAt n by rw [kInt, if_neg (by omega), Int.toNat_natCast])
      have hn64 : n < 64 := by omega
      have hcell := hk.2 n hn64
      have hgt := hk.1
      have hI : (n : Int) < 64 := by omega
      have hge : decide ((64 : Int) ≤ (n : Int)) = false := by simp; omega
      clear hn hb
      go_enter Tryd.func27, Tryd.ntmps27
      go_wp2
      go_ret
      exact ⟨by rw [hr.out]; rfl, rfl⟩
theorem root_k (n : Nat) (h : n < 64) : (rootN (primeN n) 3 : Int) = c32 (kAt n) := by
  have := primes_ok ⟨n, h⟩
  unfold c32
  exact congrArg Int.ofNat this
set_option maxHeartbeats 400000 in
theorem rk_any (t : Int) (w : World) (h0 : -9223372036854775808 ≤ t) (h1 : t ≤ 9223372036854775807) : Calls Tryd.prog 28 #[.int .i64 t] w fun e w' => e = .returned (e32 (kInt t)) ∧ Below w.heap.size w w' := by
  by_cases hn : t < 0
  · have hr := Lib.hid (show kInt t = 0 by rw [kInt, if_pos (.inl hn)])
    go_enter Tryd.func28, Tryd.ntmps28
    go_wp2
    go_ret
    exact ⟨by rw [hr.out]; rfl, Below.refl _ _⟩
  · by_cases hb : 63 < t
    · have hr := Lib.hid (show kInt t = 0 by rw [kInt, if_pos (.inr hb)])
      go_enter Tryd.func28, Tryd.ntmps28
      go_wp2
      go_ret
      exact ⟨by rw [hr.out]; rfl, Below.refl _ _⟩
    · obtain ⟨n, rfl⟩ : ∃ n : Nat, t = (n : Int) := ⟨t.toNat, by omega⟩
      have hr := Lib.hid (show kInt (n : Int) = kAt n by rw [kInt, if_neg (by omega), Int.toNat_natCast])
      have hn64 : n < 64 := by omega
      have hpr := Lib.hid (prime_any n (by omega) w)
      have hrt := Lib.hid (root_any (primeN n) 3 (.inr rfl) (primes_lt ⟨n, hn64⟩) w)
      rw [root_k n hn64] at hrt
      obtain ⟨K, hK⟩ : ∃ K, K = kAt n := ⟨_, rfl⟩
      obtain ⟨Q, hQ⟩ : ∃ K, K = primeN n := ⟨_, rfl⟩
      rw [← hK] at hr hrt
      rw [← hQ] at hpr hrt
      have hge : decide ((63 : Int) < (n : Int)) = false := by simp; omega
      clear hK hQ hn hb
      go_enter Tryd.func28, Tryd.ntmps28
      go_wp2_with fail
      refine hpr.out.mono ?_
      rintro e w1 ⟨rfl, rfl⟩
      go_wp2_with fail
      refine hrt.out.mono ?_
      rintro e w1 ⟨rfl, b1⟩
      go_wp2_with fail
      go_ret
      exact ⟨by rw [hr.out]; rfl, b1⟩
theorem kInt_nat (n : Nat) (h : n < 64) : kInt (n : Int) = kTab.getD n 0 := by rw [kInt, if_neg (by omega), Int.toNat_natCast]; rfl
set_option maxHeartbeats 400000 in
theorem ks_any (w : World) : Calls Tryd.prog 30 #[] w fun e w' => e = .returned (arrV (vw kTab)) ∧ Below w.heap.size w w' := by
  have hZ : (List.replicate 64 (0 : UInt32)).length = 64 := rfl
  have hT := kTab_len
  have hkn := Lib.hid (fun (n : Nat) (h : n < 64) W => (show Calls Tryd.prog 28 #[.int .i64 (n : Int)] W fun e w' => e = .returned (e32 (kTab.getD n 0)) ∧ Below W.heap.size W w' by
    have := rk_any (n : Int) W (by omega) (by omega)
    rwa [kInt_nat n h] at this))
  have z28 := zero28
  obtain ⟨Z, hZe⟩ : ∃ Z, Z = List.replicate 64 (0 : UInt32) := ⟨_, rfl⟩
  rw [← hZe] at hZ z28
  obtain ⟨T, hTe⟩ : ∃ Z, Z = kTab := ⟨_, rfl⟩
  rw [← hTe] at hT hkn ⊢
  have hsz : (Tryd.prog.info? 28).map (·.size) = some (vw T).length := by rw [vw_len, hT]; exact size28
  have HZ := Lib.hid hZ
  have HT := Lib.hid hT
  clear hZ hT hZe hTe
  go_enter Tryd.func30, Tryd.ntmps30
  go_wp2_with (first
    | ((with_reducible show wpList _ _ _ (⟨some 0, _, _, _, _, _⟩ :: _) _ _); refine wpList_allocN rfl _ rfl (vw Z) z28 ?_; intro w1 hb1 bw1 hs1)
    | ((with_reducible show wpList _ _ _ (⟨some 1, _, _, _, _, _⟩ :: _) _ _); refine wpList_allocN rfl _ rfl (vw Z) z28 ?_; intro w2 hb2 bw2 hs2; have hb12 := hb1.on bw2; have bt2 := bt bw1 bw2)
    | fail)
  have l01 : w.heap.size < w1.heap.size := hs1
  obtain ⟨B1, hB1⟩ : ∃ B, B = w1.heap.size := ⟨_, rfl⟩
  rw [← hB1] at hb2 l01 ⊢
  clear hB1 hb1 bw1 bw2 hs1 hs2
  go_loopw [2] (fun i wr => ∃ k : Nat, k ≤ 64 ∧ i = .int .i64 k ∧ Blk wr w.heap.size (vw Z) ∧ Blk wr B1 (vw (p32 T Z k)) ∧ Below w.heap.size w wr) (fun i _ => 64 - (intOf i).toNat)
  case atStart => exact ⟨0, by omega, rfl, hb12, by rw [p32_zero]; exact hb2, bt2⟩
  case round =>
    obtain ⟨k, hk, rfl, d0, d1, bt0⟩ := hrel
    clear hb12 hb2 bt2
    by_cases hlt : k < 64
    · have hset := Lib.hid (p32_set T Z k 64 HT.out HZ.out hlt)
      have hc := Lib.hid (fun W => hkn.out k hlt W)
      obtain ⟨x, hx⟩ : ∃ x, x = T.getD k 0 := ⟨_, rfl⟩
      rw [← hx] at hset hc
      clear hx
      have hkI : (k : Int) < 64 := by omega
      go_wp2_with fail
      refine (hc.out _).mono ?_
      rintro e w3 ⟨rfl, b3⟩
      have e0 := d0.on b3
      have e1 := d1.on b3
      have bt3 := bt bt0 b3
      have hcell := Blk.word e1 (k := k) (by rw [p32_len _ _ k 64 HT.out HZ.out (by omega)]; exact hlt)
      have hf := e1.free k
      have hB := e1.lt
      go_wp2_with fail
      go_roundw
      case rel =>
        have hbs := e1.set (k := k) (e32 x)
        rw [vw_set, hset.out] at hbs
        exact ⟨k + 1, by omega, by go_num, e0.other _ (by omega), hbs, bset bt3 (by omega) _⟩
      case measure => simp [intOf]; omega
    · obtain rfl : k = 64 := by omega
      rw [p32_all _ _ 64 HT.out HZ.out] at d1
      go_wp2_with (first
        | ((with_reducible show wpList _ _ _ (⟨some 11, _, _, _, _, _⟩ :: _) _ _); refine wpList_loadA rfl _ _ rfl rfl d1 Tryd.underlying28 hsz ?_)
        | ((with_reducible show wpList _ _ _ (⟨none, .store 28 _ _, _, _, _, _⟩ :: _) _ _); refine wpList_storeN rfl _ _ _ rfl rfl (ys := vw T) rfl d0 (by rw [vw_len, vw_len, HZ.out, HT.out]) (vw_one _) hsz ?_; intro w9 hb9 hg9)
        | fail)
      exact bodyPost_ret (v := arrV (vw T)) (results_arr Tryd.results30 _ hb9 Tryd.underlying28 hsz rfl) rfl ⟨rfl, below_row bt0 hg9 (Nat.le_refl _) bt0.size⟩
theorem root_first (n : Nat) (h : n < 8) : (rootN (primeN n) 2 : Int) = c32 (first.list.getD n 0) := by
  have h0 := congrArg (fun l => l[n]?) first_ok
  simp only [List.getElem?_map, List.getElem?_range h, Option.map_some] at h0
  have hl : n < first.list.length := by rw [H8.list_len]; exact h
  rw [List.getElem?_eq_getElem hl] at h0
  simp only [Option.map_some, Option.some.injEq] at h0
  unfold c32
  simp only [List.getD, List.getElem?_eq_getElem hl, Option.getD_some]
  rw [h0]
set_option maxHeartbeats 400000 in
theorem rfirst_any (w : World) : Calls Tryd.prog 29 #[] w fun e w' => e = .returned (h8V first) ∧ Below w.heap.size w w' := by
  have hZ : (List.replicate 8 (0 : UInt32)).length = 8 := rfl
  have hT := H8.list_len first
  have hrt := Lib.hid (fun (n : Nat) (h : n < 8) W => (show Calls Tryd.prog 58 #[.int .u64 (primeN n : Int), .int .i64 2] W fun e w' => e = .returned (e32 (first.list.getD n 0)) ∧ Below W.heap.size W w' by
    have := root_any (primeN n) 2 (.inl rfl) (primes_lt ⟨n, by omega⟩) W
    rwa [root_first n h] at this))
  have hpr := Lib.hid (fun (n : Nat) (h : n < 8) W => prime_any n (by omega) W)
  obtain ⟨Z, hZe⟩ : ∃ Z, Z = List.replicate 8 (0 : UInt32) := ⟨_, rfl⟩
  have z23 := zero23
  rw [← hZe] at hZ z23
  rw [show h8V first = arrV (vw first.list) from rfl]
  obtain ⟨T, hTe⟩ : ∃ Z, Z = first.list := ⟨_, rfl⟩
  rw [← hTe] at hT hrt ⊢
  obtain ⟨pr, hpre⟩ : ∃ f, f = primeN := ⟨_, rfl⟩
  rw [← hpre] at hrt hpr
  have hsz : (Tryd.prog.info? 23).map (·.size) = some (vw T).length := by rw [vw_len, hT]; exact size23
  have HZ := Lib.hid hZ
  have HT := Lib.hid hT
  clear hZ hT hZe hTe hpre
  go_enter Tryd.func29, Tryd.ntmps29
  go_wp2_with (first
    | ((with_reducible show wpList _ _ _ (⟨some 0, _, _, _, _, _⟩ :: _) _ _); refine wpList_allocN rfl _ rfl (vw Z) z23 ?_; intro w1 hb1 bw1 hs1)
    | ((with_reducible show wpList _ _ _ (⟨some 1, _, _, _, _, _⟩ :: _) _ _); refine wpList_allocN rfl _ rfl (vw Z) z23 ?_; intro w2 hb2 bw2 hs2; have hb12 := hb1.on bw2; have bt2 := bt bw1 bw2)
    | fail)
  have l01 : w.heap.size < w1.heap.size := hs1
  obtain ⟨B1, hB1⟩ : ∃ B, B = w1.heap.size := ⟨_, rfl⟩
  rw [← hB1] at hb2 l01 ⊢
  clear hB1 hb1 bw1 bw2 hs1 hs2
  go_loopw [2] (fun i wr => ∃ k : Nat, k ≤ 8 ∧ i = .int .i64 k ∧ Blk wr w.heap.size (vw Z) ∧ Blk wr B1 (vw (p32 T Z k)) ∧ Below w.heap.size w wr) (fun i _ => 8 - (intOf i).toNat)
  case atStart => exact ⟨0, by omega, rfl, hb12, by rw [p32_zero]; exact hb2, bt2⟩
  case round =>
    obtain ⟨k, hk, rfl, d0, d1, bt0⟩ := hrel
    clear hb12 hb2 bt2
    by_cases hlt : k < 8
    · have hset := Lib.hid (p32_set T Z k 8 HT.out HZ.out hlt)
      have hc1 := Lib.hid (fun W => hpr.out k hlt W)
      have hc2 := Lib.hid (fun W => hrt.out k hlt W)
      obtain ⟨x, hx⟩ : ∃ x, x = T.getD k 0 := ⟨_, rfl⟩
      obtain ⟨q, hq⟩ : ∃ x, x = pr k := ⟨_, rfl⟩
      rw [← hx] at hset hc2
      rw [← hq] at hc1 hc2
      clear hx hq
      have hkI : (k : Int) < 8 := by omega
      go_wp2_with fail
      refine (hc1.out _).mono ?_
      rintro e w3 ⟨rfl, rfl⟩
      go_wp2_with fail
      refine (hc2.out _).mono ?_
      rintro e w3 ⟨rfl, b3⟩
      have e0 := d0.on b3
      have e1 := d1.on b3
      have bt3 := bt bt0 b3
      have hcell := Blk.word e1 (k := k) (by rw [p32_len _ _ k 8 HT.out HZ.out (by omega)]; exact hlt)
      have hf := e1.free k
      have hB := e1.lt
      go_wp2_with fail
      go_roundw
      case rel =>
        have hbs := e1.set (k := k) (e32 x)
        rw [vw_set, hset.out] at hbs
        exact ⟨k + 1, by omega, by go_num, e0.other _ (by omega), hbs, bset bt3 (by omega) _⟩
      case measure => simp [intOf]; omega
    · obtain rfl : k = 8 := by omega
      rw [p32_all _ _ 8 HT.out HZ.out] at d1
      go_wp2_with (first
        | ((with_reducible show wpList _ _ _ (⟨some 12, _, _, _, _, _⟩ :: _) _ _); refine wpList_loadA rfl _ _ rfl rfl d1 Tryd.underlying23 hsz ?_)
        | ((with_reducible show wpList _ _ _ (⟨none, .store 23 _ _, _, _, _, _⟩ :: _) _ _); refine wpList_storeN rfl _ _ _ rfl rfl (ys := vw T) rfl d0 (by rw [vw_len, vw_len, HZ.out, HT.out]) (vw_one _) hsz ?_; intro w9 hb9 hg9)
        | fail)
      exact bodyPost_ret (v := arrV (vw T)) (results_arr Tryd.results29 _ hb9 Tryd.underlying23 hsz rfl) rfl ⟨rfl, below_row bt0 hg9 (Nat.le_refl _) bt0.size⟩
end Go.Proofs.YtggldbadefbdaaaDoor.Sha
