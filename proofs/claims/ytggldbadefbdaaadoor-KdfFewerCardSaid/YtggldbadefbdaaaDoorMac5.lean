/- The reference's tags. -/
import Derived.Test.YtggldbadefbdaaaDoorMac4
namespace Go.Proofs.YtggldbadefbdaaaDoor.Mac
open Go.RowKit
open Go.Proofs.YtggldbadefbdaaaDoor.Sha (Tab sum_any rsum_any sum_len sum)
open Go.Proofs.YtggldbadefbdaaaDoor.Cat (Pc PcAt Pcs cat lens)
set_option linter.unusedVariables false
set_option maxRecDepth 100000
set_option maxHeartbeats 400000 in
theorem rof_any (A B : Option Addr) (k l : List UInt8) (n c o d : Nat) (w : World) (hn : n = k.length) (ho : o = l.length) (hr : Rd w w.heap.size A (k.map e8)) (hs : Rd w w.heap.size B (l.map e8)) (hkl : k.length ≤ 1000000000) (hl : l.length ≤ 500000000) :
    Calls Tryd.prog 34 #[.slice A n c, .slice B o d] w fun e w' => RetB 5 w (mac k l) e w' := by
  subst hn ho
  have h1 : (over (key k) 54).length ≤ 64 := by rw [over_len, key_len]; omega
  have h2 : (over (key k) 92).length ≤ 64 := by rw [over_len, key_len]; omega
  have h3 : (inner k l).length ≤ 32 := by rw [show (inner k l).length = 32 from sum_len _]; omega
  go_enter Tryd.func34, Tryd.ntmps34
  go_wp2_with fail
  refine (rover_any A k _ c 54 _ rfl w rfl hr hkl).mono ?_
  rintro e w1 ⟨A1, c1, rfl, own1, b1⟩
  go_wp2_with fail
  refine (R1.join_any A1 B (over (key k) 54) l _ _ _ _ w1 rfl rfl (Rd.own own1) (hs.on b1) (by omega)).mono ?_
  rintro e w2 ⟨A2, c2, rfl, own2, b2⟩
  have bt2 := bt b1 b2
  go_wp2_with fail
  refine (rsum_any A2 (over (key k) 54 ++ l) _ _ w2 (by rw [List.length_append]) (Rd.own own2) (by rw [List.length_append]; omega)).mono ?_
  rintro e w3 ⟨A3, c3, rfl, own3, b3⟩
  have bt3 := bt bt2 b3
  rw [show sum (over (key k) 54 ++ l) = inner k l from rfl] at own3 ⊢
  go_wp2_with fail
  refine (rover_any A k _ c 92 _ rfl w3 rfl (hr.on bt3) hkl).mono ?_
  rintro e w4 ⟨A4, c4, rfl, own4, b4⟩
  have bt4 := bt bt3 b4
  go_wp2_with fail
  refine (R1.join_any A4 A3 (over (key k) 92) (inner k l) _ _ _ _ w4 rfl rfl (Rd.own own4) ((Rd.own own3).on b4) (by omega)).mono ?_
  rintro e w5 ⟨A5, c5, rfl, own5, b5⟩
  have bt5 := bt bt4 b5
  go_wp2_with fail
  refine (rsum_any A5 (over (key k) 92 ++ inner k l) _ _ w5 (by rw [List.length_append]) (Rd.own own5) (by rw [List.length_append]; omega)).mono ?_
  rintro e w6 ⟨A6, c6, rfl, own6, b6⟩
  clear h1 h2 h3
  go_wp2
  go_ret
  exact RetB.after bt5 own6 b6
set_option maxHeartbeats 400000 in
theorem rtwo_any (A B C : Option Addr) (k l m : List UInt8) (n c o d p f : Nat) (w : World) (hn : n = k.length) (ho : o = l.length) (hp : p = m.length) (hr : Rd w w.heap.size A (k.map e8)) (hs : Rd w w.heap.size B (l.map e8)) (ht : Rd w w.heap.size C (m.map e8))
    (hkl : k.length ≤ 1000000000) (hl : l.length ≤ 100000000) (hm : m.length ≤ 100000000) :
    Calls Tryd.prog 37 #[.slice A n c, .slice B o d, .slice C p f] w fun e w' => RetB 5 w (two k l m) e w' := by
  subst hn ho hp
  have hu : ((UInt64.ofNat l.length).toNat : Int) = (l.length : Int) := by rw [UInt64.toNat_ofNat']; omega
  have hu' : (UInt64.ofNat l.length).toNat = l.length := by rw [UInt64.toNat_ofNat']; omega
  have hpt := Num.rput_any (UInt64.ofNat l.length) _ hu.symm 4 4 rfl (by omega) (by omega) w
  rw [hu'] at hpt
  clear hu hu'
  have hl4 : (Num.putL l.length 4).length ≤ 4 := by rw [Num.putL_len]; omega
  go_enter Tryd.func37, Tryd.ntmps37
  go_wp2_with fail
  refine hpt.mono ?_
  clear hpt
  rintro e w1 ⟨A1, c1, rfl, own1, b1⟩
  go_wp2_with fail
  refine (R1.join_any A1 B (Num.putL l.length 4) l _ _ _ _ w1 rfl rfl (Rd.own own1) (hs.on b1) (by omega)).mono ?_
  rintro e w2 ⟨A2, c2, rfl, own2, b2⟩
  have bt2 := bt b1 b2
  go_wp2_with fail
  refine (R1.join_any A2 C (Num.putL l.length 4 ++ l) m _ _ _ _ w2 (by rw [List.length_append]) rfl (Rd.own own2) (ht.on bt2) (by rw [List.length_append]; omega)).mono ?_
  rintro e w3 ⟨A3, c3, rfl, own3, b3⟩
  have bt3 := bt bt2 b3
  go_wp2_with fail
  refine (rof_any A A3 k (Num.putL l.length 4 ++ l ++ m) _ _ _ _ w3 rfl (by simp only [List.length_append]; omega) (hr.on bt3) (Rd.own own3) hkl (by simp only [List.length_append]; omega)).mono ?_
  rintro e w4 ⟨A4, c4, rfl, own4, b4⟩
  clear hl4
  go_wp2
  go_ret
  exact RetB.after bt3 own4 b4
theorem mac_nil : (mac [] []).take 4 = [0xb6, 0x13, 0x67, 0x9a] := by decide +kernel
set_option maxHeartbeats 400000 in
theorem alive_any (w : World) (hk : Tab w) : Calls Tryd.prog 31 #[] w fun e w' => e = .returned (.bool true) ∧ Below w.heap.size w w' := by
  have hs := mac_nil
  have hl := mac_len [] []
  go_enter Tryd.func31, Tryd.ntmps31
  go_wp2_with fail
  refine (of_any none none [] [] 0 0 0 0 w rfl rfl (Rd.nil _ _ _) (Rd.nil _ _ _) (by simp) (by simp) hk).mono ?_
  rintro e w1 ⟨A, c, rfl, own1, bw1⟩
  obtain ⟨g, o, rfl, c0, c1, c2, c3⟩ := Sha.rd4 (Rd.own own1) hs
  rw [hl]
  clear own1 hs hl
  go_wp2
  go_ret
  exact ⟨rfl, bw1⟩
end Go.Proofs.YtggldbadefbdaaaDoor.Mac
