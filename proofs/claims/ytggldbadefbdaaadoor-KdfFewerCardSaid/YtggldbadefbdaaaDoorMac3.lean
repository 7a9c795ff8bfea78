/- The walks of the package mac, and of the reference's tags. -/
import Derived.Test.YtggldbadefbdaaaDoorMac2
import Derived.Test.YtggldbadefbdaaaDoorShaS
import Derived.Test.YtggldbadefbdaaaDoorShaR3
import Derived.Deep.RegionWith
namespace Go.Proofs.YtggldbadefbdaaaDoor.Mac
open Go.RowKit
open Go.Proofs.YtggldbadefbdaaaDoor.Sha (Tab sum_any rsum_any sum_len sum)
set_option linter.unusedVariables false
set_option maxRecDepth 100000
theorem xor_rep (l : List UInt8) (c : UInt8) (n : Nat) (h : l.length = n) : xorL l (List.replicate n c) = over l c := by
  apply List.ext_getElem
  · rw [xorL_len, over_len]; simp [h]
  · intro i h1 h2; simp [xorL, over]
set_option maxHeartbeats 400000 in
theorem key_any (A : Option Addr) (l : List UInt8) (n c : Nat) (w : World) (hn : n = l.length) (hr : Rd w w.heap.size A (l.map e8)) (hl : l.length ≤ 1000000000) (hk : Tab w) :
    Calls Tryd.prog 32 #[.slice A n c] w fun e w' => RetB 5 w (key l) e w' := by
  subst hn
  by_cases h : 64 < l.length
  · have hkey := Lib.hid (show key l = padTo (sum l) 64 by rw [key, if_pos h])
    have hs := Lib.hid (sum_len l)
    go_enter Tryd.func32, Tryd.ntmps32
    go_wp2_with fail
    refine (sum_any A l _ _ w rfl hr hl hk).mono ?_
    rintro e w1 ⟨A1, c1, rfl, own1, b1⟩
    go_wp2_with fail
    refine (npad_any A1 (sum l) _ c1 64 64 rfl w1 rfl (by omega) (by omega) (Rd.own own1)).mono ?_
    rintro e w2 ⟨A2, c2, rfl, own2, b2⟩
    go_wp2
    go_ret
    rw [hkey.out]
    exact RetB.after b1 own2 b2
  · have hkey := Lib.hid (show key l = padTo l 64 by rw [key, if_neg h])
    go_enter Tryd.func32, Tryd.ntmps32
    go_wp2_with fail
    refine (npad_any A l _ c 64 64 rfl w rfl (by omega) (by omega) hr).mono ?_
    rintro e w2 ⟨A2, c2, rfl, own2, b2⟩
    go_wp2
    go_ret
    rw [hkey.out]
    exact ⟨A2, c2, rfl, own2, b2⟩
set_option maxHeartbeats 800000 in
theorem over_any (g : Nat) (A : Option Addr) (k : List UInt8) (n cap : Nat) (c : UInt8) (m : Int) (hm : m = (c.toNat : Int)) (w : World) (hn : n = 64) (hk : k.length = 64) (hg : g < w.heap.size) (hc : w.cell? ⟨g, 0, none⟩ = some (.slice A n cap)) (hr : Rd w w.heap.size A (k.map e8)) :
    Calls Tryd.prog 72 #[.int .u8 m, .pointer (some ⟨g, 0, none⟩)] w fun e w' => RetB 5 w (over k c) e w' := by
  subst hm hn
  have Hk := Lib.hid hk
  clear hk
  go_enter Tryd.func72, Tryd.ntmps72
  go_wp2
  go_region_with (first
    | (go_at_call 74; refine (repeat_any w.heap.size 0 1 c _ (by simp) (by simp)).mono ?_; rintro e w1 ⟨⟨A1, c1, rfl, hr1⟩, b1⟩; have hb1 : Below w.heap.size w w1 := bt (b1alloc w (.cells #[.int .u8 (c.toNat : Int)] 5)).drew b1; have hc1 : w1.cell? ⟨g, 0, none⟩ = some (.slice A 64 cap) := (hb1.cell (p := ⟨g, 0, none⟩) hg).trans hc)
    | (go_at_call 73; refine (xor_any A A1 k (List.replicate 64 c) 64 64 cap c1 _ Hk.out.symm rfl (hr.on hb1) hr1 (by rw [Hk.out]; omega) (by rw [List.length_replicate]; omega)).mono ?_; rw [xor_rep k c 64 Hk.out]; rintro e w2 ⟨A2, c2, rfl, own2, b2⟩))
  all_goals
    go_wp2
    go_ret
    exact RetB.after hb1 own2 b2
open Go.Proofs.YtggldbadefbdaaaDoor.Cat (Pc PcAt Pcs cat lens)
set_option maxHeartbeats 800000 in
theorem tag_any (A : Option Addr) (k : List UInt8) (n c : Nat) (g : Nat) (ps : List Pc) (o d : Nat) (w : World) (hn : n = k.length) (ho : o = ps.length) (hr : Rd w w.heap.size A (k.map e8)) (hkl : k.length ≤ 1000000000)
    (hg : g < w.heap.size) (hp : PcAt w g ps) (hps : Pcs w w.heap.size ps) (hl : lens ps ≤ 500000000) (hpl : ps.length ≤ 1000) (hk : Tab w) :
    Calls Tryd.prog 61 #[.slice A n c, .slice (some ⟨g, 0, none⟩) o d] w fun e w' => RetB 5 w (mac k (cat ps)) e w' := by
  subst hn ho
  obtain ⟨i0, hi0, hz0, hz1, hz2⟩ := info_parts info8
  go_enter Tryd.func61, Tryd.ntmps61
  go_wp2_with fail
  refine (key_any A k _ c w rfl hr hkl hk).mono ?_
  rintro e w1 ⟨A1, c1, rfl, own1, b1⟩
  have hkl := key_len k
  obtain ⟨K, hK⟩ : ∃ K, K = key k := ⟨_, rfl⟩
  rw [← hK] at own1 hkl ⊢
  have HK := Lib.hid hK
  clear hK
  have Hkl := Lib.hid hkl
  rw [hkl] at own1 ⊢
  clear hkl
  go_wp2_with fail
  have hcK : (w1.alloc (.cells #[.slice A1 64 c1] 24)).cell? ⟨w1.heap.size, 0, none⟩ = some (.slice A1 64 c1) := by simp
  have hrK := (Rd.own own1).on (b1alloc w1 (.cells #[.slice A1 64 c1] 24))
  have bW := bt b1 (b1alloc w1 (.cells #[.slice A1 64 c1] 24))
  have hgW : w1.heap.size < (w1.alloc (.cells #[.slice A1 64 c1] 24)).heap.size := by simp
  obtain ⟨W, hW⟩ : ∃ W, W = w1.alloc (.cells #[.slice A1 64 c1] 24) := ⟨_, rfl⟩
  rw [← hW] at hcK hrK bW hgW ⊢
  clear hW own1
  have hBs := bW.size
  refine (over_any w1.heap.size A1 K 64 c1 54 _ rfl W rfl Hkl.out hgW hcK hrK).mono ?_
  rintro e w2 ⟨A2, c2, rfl, own2, b2⟩
  have bt2 := bt bW b2
  have hl2 : (over K 54).length = 64 := by rw [over_len]; exact Hkl.out
  rw [hl2] at own2 ⊢
  have Hl2 := Lib.hid hl2
  clear hl2
  go_wp2_with fail
  refine (Cat.concat_any g ps _ d w2 rfl (Nat.lt_of_lt_of_le hg bt2.size) (hp.on bt2 hg) (hps.on bt2) (by omega) hpl).mono ?_
  rintro e w3 ⟨A3, c3, rfl, own3, b3⟩
  have bt3 := bt bt2 b3
  have own23 := own_on own2 b3
  have hls : (cat ps).length = lens ps := rfl
  rw [hls] at own3 ⊢
  have Hls := Lib.hid hls
  clear hls
  have hb3 : W.heap.size ≤ w3.heap.size := Nat.le_trans b2.size b3.size
  go_wp2_with (first
    | (at_builtin; refine wpList_append_rd _ rfl _ _ _ rfl W.heap.size 5 i0 _ 1 1 Tryd.underlying24 hi0 hz0 hz1 hz2 rfl (by omega) _ 64 _ rfl own23 _ A3 (lens ps) c3 ((cat ps).map e8) rfl (by rw [List.length_map, Hls.out]; omega) (Rd.own own3) (e8_one _) (by simp only [maxLen]; omega) (by omega) hb3 ?_; intro v4 w4 own4 hg4 hat4; obtain ⟨A4, c4, rfl⟩ := own_form own4)
    | fail)
  have bt4 := bt3.grown hg4 bt3.size (fun k hk => Nat.le_trans hBs (own_block own23 hk))
  rw [← List.map_append] at own4
  have hl4 : (over K 54 ++ cat ps).length = 64 + lens ps := by rw [List.length_append, Hl2.out, Hls.out]
  refine (sum_any A4 (over K 54 ++ cat ps) _ c4 w4 hl4.symm (Rd.own own4) (by omega) (hk.on bt4)).mono ?_
  rintro e w5 ⟨A5, c5, rfl, own5, b5⟩
  have bt5 := bt bt4 b5
  have hl5 := sum_len (over K 54 ++ cat ps)
  obtain ⟨I, hI⟩ : ∃ I, I = sum (over K 54 ++ cat ps) := ⟨_, rfl⟩
  rw [← hI] at own5 hl5 ⊢
  have HI := Lib.hid hI
  rw [hl5] at own5 ⊢
  have Hl5 := Lib.hid hl5
  have bW5 : Below W.heap.size W w5 := by
    have x3 : Below W.heap.size W w3 := bt b2 b3
    have x4 := x3.grown hg4 x3.size (fun k hk => own_block own23 hk)
    exact bt x4 b5
  clear hI hl5 hl4 own4 own23 own3 own2 hat4 hg4
  have hcK5 := (bW5.cell (p := ⟨w1.heap.size, 0, none⟩) hgW).trans hcK
  have hgK5 : w1.heap.size < w5.heap.size := Nat.lt_of_lt_of_le hgW bW5.size
  go_wp2_with fail
  refine (over_any w1.heap.size A1 K 64 c1 92 _ rfl w5 rfl Hkl.out hgK5 hcK5 (hrK.on bW5)).mono ?_
  rintro e w6 ⟨A6, c6, rfl, own6, b6⟩
  have bt6 := bt bt5 b6
  have hl6 : (over K 92).length = 64 := by rw [over_len]; exact Hkl.out
  rw [hl6] at own6 ⊢
  have Hl6 := Lib.hid hl6
  clear hl6
  have hI6 := (Rd.own own5).on b6
  have hs5 := bt5.size
  go_wp2_with (first
    | (at_builtin; refine wpList_append_rd _ rfl _ _ _ rfl w5.heap.size 5 i0 _ 1 1 Tryd.underlying24 hi0 hz0 hz1 hz2 rfl (by omega) _ 64 _ rfl own6 _ A5 32 c5 (I.map e8) rfl (by rw [List.length_map, Hl5.out]) hI6 (e8_one _) (by simp only [maxLen]; omega) (by omega) b6.size ?_; intro v7 w7 own7 hg7 hat7; obtain ⟨A7, c7, rfl⟩ := own_form own7)
    | fail)
  have bt7 := bt6.grown hg7 bt6.size (fun k hk => Nat.le_trans hs5 (own_block own6 hk))
  rw [← List.map_append] at own7
  have hl7 : (over K 92 ++ I).length = 64 + 32 := by rw [List.length_append, Hl6.out, Hl5.out]
  refine (sum_any A7 (over K 92 ++ I) _ c7 w7 hl7.symm (Rd.own own7) (by omega) (hk.on bt7)).mono ?_
  rintro e w8 ⟨A8, c8, rfl, own8, b8⟩
  have hres : mac k (cat ps) = sum (over K 92 ++ I) := by rw [mac, inner, HI.out, HK.out]
  have Hres := Lib.hid hres
  clear hres hl7
  go_wp2
  go_ret
  rw [Hres.out]
  exact RetB.after bt7 own8 b8
end Go.Proofs.YtggldbadefbdaaaDoor.Mac
