/- The walks of mac.Of, mac.Two, mac.Check, of the reference's tags, and the example. -/
import Derived.Test.YtggldbadefbdaaaDoorMac3
import Derived.Test.YtggldbadefbdaaaDoorShaA
namespace Go.Proofs.YtggldbadefbdaaaDoor.Mac
open Go.RowKit
open Go.Proofs.YtggldbadefbdaaaDoor.Sha (Tab sum_any rsum_any sum_len sum)
open Go.Proofs.YtggldbadefbdaaaDoor.Cat (Pc PcAt Pcs cat lens)
set_option linter.unusedVariables false
set_option maxRecDepth 100000
set_option maxHeartbeats 400000 in
theorem of_any (A B : Option Addr) (k l : List UInt8) (n c o d : Nat) (w : World) (hn : n = k.length) (ho : o = l.length) (hr : Rd w w.heap.size A (k.map e8)) (hs : Rd w w.heap.size B (l.map e8)) (hkl : k.length ≤ 1000000000) (hl : l.length ≤ 500000000) (hk : Tab w) :
    Calls Tryd.prog 33 #[.slice A n c, .slice B o d] w fun e w' => RetB 5 w (mac k l) e w' := by
  subst hn ho
  have hcat : cat [⟨B, l, d⟩] = l := by simp [Cat.cat]
  have htag := tag_any A k k.length c w.heap.size [⟨B, l, d⟩] 1 1 (w.alloc (.cells #[.slice B l.length d] 24)) rfl rfl (hr.on (b1alloc _ _)) hkl (by simp)
    (by intro j hj
        match j, hj with
        | 0, _ => simp [Cat.Pc.val])
    (by intro p hp
        rw [List.mem_singleton] at hp
        subst hp
        exact hs.on (b1alloc _ _)) (by unfold Cat.lens; rw [hcat]; exact hl) (by simp) (hk.on (b1alloc _ _))
  rw [hcat] at htag
  clear hcat
  go_enter Tryd.func33, Tryd.ntmps33
  go_wp2_with fail
  refine htag.mono ?_
  clear htag
  rintro e w1 ⟨A1, c1, rfl, own1, b1⟩
  go_wp2
  go_ret
  exact RetB.after (b1alloc _ _) own1 b1
set_option maxHeartbeats 400000 in
theorem two_any (A B C : Option Addr) (k l m : List UInt8) (n c o d p f : Nat) (w : World) (hn : n = k.length) (ho : o = l.length) (hp : p = m.length) (hr : Rd w w.heap.size A (k.map e8)) (hs : Rd w w.heap.size B (l.map e8)) (ht : Rd w w.heap.size C (m.map e8))
    (hkl : k.length ≤ 1000000000) (hl : l.length ≤ 100000000) (hm : m.length ≤ 100000000) (hk : Tab w) :
    Calls Tryd.prog 36 #[.slice A n c, .slice B o d, .slice C p f] w fun e w' => RetB 5 w (two k l m) e w' := by
  subst hn ho hp
  have hu : ((UInt64.ofNat l.length).toNat : Int) = (l.length : Int) := by rw [UInt64.toNat_ofNat']; omega
  have hu' : (UInt64.ofNat l.length).toNat = l.length := by rw [UInt64.toNat_ofNat']; omega
  have hpt := Num.put_any (UInt64.ofNat l.length) _ hu.symm 4 4 rfl (by omega) (by omega) w
  rw [hu'] at hpt
  clear hu hu'
  go_enter Tryd.func36, Tryd.ntmps36
  go_wp2_with fail
  refine hpt.mono ?_
  clear hpt
  rintro e w1 ⟨A1, c1, rfl, own1, b1⟩
  have hl4 := Num.putL_len l.length 4
  have hcat : cat [⟨A1, Num.putL l.length 4, c1⟩, ⟨B, l, d⟩, ⟨C, m, f⟩] = Num.putL l.length 4 ++ l ++ m := by simp [Cat.cat]
  have htag := tag_any A k k.length c w1.heap.size [⟨A1, Num.putL l.length 4, c1⟩, ⟨B, l, d⟩, ⟨C, m, f⟩] 3 3 (w1.alloc (.cells #[.slice A1 (Num.putL l.length 4).length c1, .slice B l.length d, .slice C m.length f] 24)) rfl rfl ((hr.on b1).on (b1alloc _ _)) hkl (by simp)
    (by intro j hj
        match j, hj with
        | 0, _ => simp [Cat.Pc.val]
        | 1, _ => simp [Cat.Pc.val]
        | 2, _ => simp [Cat.Pc.val])
    (by intro p hp
        simp only [List.mem_cons, List.not_mem_nil, or_false] at hp
        rcases hp with rfl | rfl | rfl
        · exact (Rd.own own1).on (b1alloc _ _)
        · exact (hs.on b1).on (b1alloc _ _)
        · exact (ht.on b1).on (b1alloc _ _)) (by unfold Cat.lens; rw [hcat]; simp only [List.length_append, hl4]; omega) (by simp) ((hk.on b1).on (b1alloc _ _))
  rw [hcat] at htag
  clear hcat hl4
  go_wp2_with fail
  refine htag.mono ?_
  clear htag
  rintro e w2 ⟨A2, c2, rfl, own2, b2⟩
  go_wp2
  go_ret
  exact RetB.after (bt b1 (b1alloc _ _)) own2 b2
set_option maxHeartbeats 400000 in
theorem check_any (A B C : Option Addr) (k l m : List UInt8) (n c o d p f : Nat) (w : World) (hn : n = k.length) (ho : o = l.length) (hp : p = m.length) (hr : Rd w w.heap.size A (k.map e8)) (hs : Rd w w.heap.size B (l.map e8)) (ht : Rd w w.heap.size C (m.map e8))
    (hkl : k.length ≤ 1000000000) (hl : l.length ≤ 100000000) (hk : Tab w) :
    Calls Tryd.prog 38 #[.slice A n c, .slice B o d, .slice C p f] w fun e w' => e = .returned (.bool (R1.sameB (mac k l) m)) ∧ Below w.heap.size w w' := by
  subst hn ho hp
  go_enter Tryd.func38, Tryd.ntmps38
  go_wp2_with fail
  refine (of_any A B k l _ _ _ _ w rfl rfl hr hs hkl (by omega) hk).mono ?_
  rintro e w1 ⟨A1, c1, rfl, own1, b1⟩
  go_wp2_with fail
  refine (equal_any A1 C (mac k l) m _ _ _ _ w1 rfl rfl (Rd.own own1) (ht.on b1)).mono ?_
  rintro e w2 ⟨rfl, rfl⟩
  go_wp2
  go_ret
  exact ⟨rfl, b1⟩
set_option maxHeartbeats 400000 in
theorem rkey_any (A : Option Addr) (l : List UInt8) (n c : Nat) (w : World) (hn : n = l.length) (hr : Rd w w.heap.size A (l.map e8)) (hl : l.length ≤ 1000000000) :
    Calls Tryd.prog 35 #[.slice A n c] w fun e w' => RetB 5 w (key l) e w' := by
  subst hn
  by_cases h : 64 < l.length
  · have hkey := Lib.hid (show key l = padTo (sum l) 64 by rw [key, if_pos h])
    have hs := sum_len l
    go_enter Tryd.func35, Tryd.ntmps35
    go_wp2_with fail
    refine (rsum_any A l _ _ w rfl hr hl).mono ?_
    rintro e w1 ⟨A1, c1, rfl, own1, b1⟩
    go_wp2_with fail
    refine (rpad_any A1 (sum l) _ c1 64 64 rfl w1 rfl (by omega) (by omega) (Rd.own own1) (by omega)).mono ?_
    rintro e w2 ⟨A2, c2, rfl, own2, b2⟩
    clear hs
    go_wp2
    go_ret
    rw [hkey.out]
    exact RetB.after b1 own2 b2
  · have hkey := Lib.hid (show key l = padTo l 64 by rw [key, if_neg h])
    go_enter Tryd.func35, Tryd.ntmps35
    go_wp2_with fail
    refine (rpad_any A l _ c 64 64 rfl w rfl (by omega) (by omega) hr (by omega)).mono ?_
    rintro e w2 ⟨A2, c2, rfl, own2, b2⟩
    go_wp2
    go_ret
    rw [hkey.out]
    exact ⟨A2, c2, rfl, own2, b2⟩
theorem over_take (k : List UInt8) (c : UInt8) (j : Nat) (h : j < k.length) : (over k c).take (j + 1) = (over k c).take j ++ [k[j] ^^^ c] := by
  rw [List.take_succ_eq_append_getElem (by rw [over_len]; exact h)]; simp [over]
set_option maxHeartbeats 400000 in
theorem rover_any (A : Option Addr) (l : List UInt8) (n c : Nat) (x : UInt8) (m : Int) (hm : m = (x.toNat : Int)) (w : World) (hn : n = l.length) (hr : Rd w w.heap.size A (l.map e8)) (hl : l.length ≤ 1000000000) :
    Calls Tryd.prog 62 #[.slice A n c, .int .u8 m] w fun e w' => RetB 5 w (over (key l) x) e w' := by
  subst hm hn
  obtain ⟨i0, hi0, hz0, hz1, hz2⟩ := info_parts info8
  go_enter Tryd.func62, Tryd.ntmps62
  go_wp2_with fail
  refine (rkey_any A l _ c w rfl hr hl).mono ?_
  rintro e w1 ⟨A1, c1, rfl, own1, b1⟩
  have hkl := key_len l
  obtain ⟨K, hK⟩ : ∃ K, K = key l := ⟨_, rfl⟩
  rw [← hK] at own1 hkl ⊢
  have HK := Lib.hid hK
  rw [hkl] at own1 ⊢
  have Hkl := Lib.hid hkl
  clear hK hkl
  have hrK := Rd.own own1
  go_wp2_with fail
  go_loopw [5, 7] (fun v i wr => ∃ k : Nat, k ≤ 64 ∧ i = .int .i64 k ∧ wr.ownsRow w1.heap.size 5 1 v k (((over K x).take k).map e8) ∧ Below w1.heap.size w1 wr) (fun _ i _ => 64 - (intOf i).toNat)
  case atStart => exact ⟨0, by omega, rfl, own_nil _ _ _ _, Below.refl _ _⟩
  case round =>
    obtain ⟨k, hk, rfl, hown, bel⟩ := hrel
    by_cases hlt : k < 64
    · have hkK : k < K.length := by rw [Hkl.out]; exact hlt
      obtain ⟨b, off, rfl, hbb, hc⟩ := (hrK.below bel).get (k := k) (by simpa using hkK)
      rw [List.getElem_map] at hc
      have Ht := Lib.hid (over_take K x k hkK)
      obtain ⟨y, hy⟩ : ∃ y, y = K[k] := ⟨_, rfl⟩
      rw [← hy] at hc Ht
      have hxy := xor8 y x
      obtain ⟨p, hp⟩ : ∃ p, p = y ^^^ x := ⟨_, rfl⟩
      rw [← hp] at hxy Ht
      clear hy hp hkK
      go_wp2_with (at_builtin; refine wpList_append_rd _ rfl _ _ _ rfl w1.heap.size 5 i0 _ 1 1 Tryd.underlying24 hi0 hz0 hz1 hz2 rfl (by omega) _ k _ rfl (hown.alloc _) _ _ 1 1 [e8 p] rfl rfl (Rd.lit wr _ _ _ (wr.heap.size + 1) rfl (by omega)) (one_int _ _) (by simp only [maxLen]; omega) (by omega) (le_alloc bel.size _) ?_; intro v3 w3 hown3 hg3 hat3)
      go_roundw
      case rel => exact ⟨k + 1, by omega, by go_num, by rw [Ht.out, List.map_append]; exact hown3, (bel.alloc bel.size _).grown hg3 (le_alloc bel.size _) (fun g hg => own_block hown hg)⟩
      case measure => simp [intOf]; omega
    · obtain rfl : k = 64 := by omega
      have ht : (over K x).take 64 = over K x := List.take_of_length_le (by rw [over_len, Hkl.out]; omega)
      rw [ht] at hown
      clear ht
      go_wp2
      go_ret
      rw [← HK.out]
      exact RetB.mk (own_base hown b1.size) rfl (bt b1 bel)
end Go.Proofs.YtggldbadefbdaaaDoor.Mac
