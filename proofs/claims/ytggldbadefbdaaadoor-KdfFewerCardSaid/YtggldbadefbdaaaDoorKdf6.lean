/- The walks of the reference's Derive, Chain, Mix; kdf.Mix, Extract, alive. -/
import Derived.Test.YtggldbadefbdaaaDoorKdf5
namespace Go.Proofs.YtggldbadefbdaaaDoor.Kdf
open Go.RowKit
open Go.Proofs.YtggldbadefbdaaaDoor.Sha (Tab)
open Go.Proofs.YtggldbadefbdaaaDoor.Mac (mac mac_len of_any rof_any)
set_option linter.unusedVariables false
set_option maxRecDepth 100000
set_option maxHeartbeats 800000 in
theorem rderive_any (A : Option Addr) (k lab : List UInt8) (n c : Nat) (w : World) (hn : n = k.length) (hr : Rd w w.heap.size A (k.map e8)) (bk : k.length ≤ 100000000) (bl : lab.length ≤ 100000) :
    Calls Tryd.prog 45 #[.slice A n c, .string ⟨lab.toArray⟩] w fun e w' => RetD w (derive k lab) e w' := by
  subst hn
  obtain ⟨t, ht⟩ : ∃ t, t = prefixB ++ lab := ⟨_, rfl⟩
  have hcat : (⟨#[111, 117, 98, 108, 105, 101, 116, 116, 101, 32]⟩ ++ ⟨lab.toArray⟩ : ByteArray) = ⟨t.toArray⟩ := by rw [ht]; exact ba_append prefixB lab
  have htl : t.length = 10 + lab.length := by rw [ht]; simp [prefixB]; omega
  have hsz := ba_size t
  have hrem : (t.length : Int).tmod 256 = ((t.length % 256 : Nat) : Int) := by rw [Int.tmod_eq_emod_of_nonneg (by omega)]; omega
  obtain ⟨q, hq⟩ : ∃ q, q = t.length % 256 := ⟨_, rfl⟩
  have hwr : IntKind.u8.wrap (q : Int) = ((UInt8.ofNat t.length).toNat : Int) := by rw [IntKind.wrap_u8, UInt8.toNat_ofNat', hq]; omega
  have hinfo : infoB lab = [0, 32, UInt8.ofNat t.length] ++ t := by rw [infoB, ← ht]
  have hil := infoB_len lab
  obtain ⟨b, hb⟩ : ∃ b, b = UInt8.ofNat t.length := ⟨_, rfl⟩
  rw [← hb] at hwr hinfo
  rw [← hq] at hrem
  have Hi := Lib.hid hinfo
  have Hil := Lib.hid hil
  have Htl := Lib.hid htl
  clear ht hinfo hil htl hb hq
  have ba := b1alloc w (.cells #[.int .u8 0, .int .u8 32, .int .u8 (b.toNat : Int)] 5)
  have hr3 : Rd (w.alloc (.cells #[.int .u8 0, .int .u8 32, .int .u8 (b.toNat : Int)] 5)) (w.alloc (.cells #[.int .u8 0, .int .u8 32, .int .u8 (b.toNat : Int)] 5)).heap.size (some ⟨w.heap.size, 0, none⟩) ([0, 32, b].map e8) := fun _ =>
    ⟨w.heap.size, 0, rfl, by simp, fun i hi => by
      match i, hi with
      | 0, _ => simp
      | 1, _ => simp
      | 2, _ => simp⟩
  obtain ⟨c1, w1, hrun, b1, hs1, hc1, hcell⟩ := run_conv_new (P := Tryd.prog) (w.alloc (.cells #[.int .u8 0, .int .u8 32, .int .u8 (b.toNat : Int)] 5)) 9 24 5 t Tryd.underlying9 Tryd.underlying24 Tryd.underlying5
  have hr4 : Rd w1 w1.heap.size (some ⟨(w.alloc (.cells #[.int .u8 0, .int .u8 32, .int .u8 (b.toNat : Int)] 5)).heap.size, 0, none⟩) (t.map e8) := fun _ => ⟨_, _, rfl, hs1, hcell⟩
  have hr5 := hr3.on b1
  have bb := bt ba b1
  clear hcell hr3 hs1 hc1 b1 ba
  rw [show (w.alloc (.cells #[.int .u8 0, .int .u8 32, .int .u8 (b.toNat : Int)] 5)).heap.size = w.heap.size + 1 by simp] at hr4 hrun
  go_enter Tryd.func45, Tryd.ntmps45
  go_wp2_with fail
  refine (R1.join_any (some ⟨w.heap.size, 0, none⟩) (some ⟨w.heap.size + 1, 0, none⟩) [0, 32, b] t _ _ _ _ w1 rfl rfl hr5 hr4 (by have := Htl.out; simp; omega)).mono ?_
  rintro e w2 ⟨A2, c2, rfl, own2, b2⟩
  have bt2 := bt bb b2
  rw [← Hi.out] at own2 ⊢
  have hr2 := Rd.own own2
  go_wp2_with fail
  refine (rexpand_yes A A2 k (infoB lab) _ _ _ _ 32 _ rfl (by omega) (by omega) w2 rfl rfl (hr.on bt2) hr2 bk (by rw [Hil.out]; omega)).mono ?_
  rintro e w4 ⟨A4, c4, rfl, hr4, -, -, b4⟩
  rw [show expand k (infoB lab) 32 = derive k lab from rfl] at hr4 ⊢
  have hdl := derive_len k lab
  go_wp2_with fail
  go_ret
  exact ⟨A4, c4, rfl, hr4, bt bt2 b4⟩
set_option maxHeartbeats 800000 in
theorem rchain_any (A : Option Addr) (k lab : List UInt8) (n c : Nat) (z : Int) (w : World) (m : Nat) (hm : min (max z 0) 1000 = (m : Int)) (hn : n = k.length) (hr : Rd w w.heap.size A (k.map e8)) (bk : k.length ≤ 10000000) (bl : lab.length ≤ 100000) :
    Calls Tryd.prog 48 #[.slice A n c, .string ⟨lab.toArray⟩, .int .i64 z] w fun e w' => RetD w (chain k lab m) e w' := by
  subst hn
  obtain ⟨i0, hi0, hz0, hz1, hz2⟩ := info_parts info8
  have Hm := Lib.hid hm
  have hm1 : m ≤ 1000 := by omega
  clear hm
  go_enter Tryd.func48, Tryd.ntmps48
  go_wp2_with (at_builtin; refine wpList_append_rd _ rfl _ _ _ rfl w.heap.size 5 i0 _ 1 1 Tryd.underlying24 hi0 hz0 hz1 hz2 rfl (by omega) (.slice (some ⟨w.heap.size, 0, none⟩) 0 0) 0 [] rfl (Sl.own_empty w _ _ (Nat.le_refl _)) w.heap.size A k.length c (k.map e8) rfl (by simp) (hr.below (b1alloc _ _)) (e8_one _) (by simp only [maxLen]; omega) (by omega) (by simp) ?_; intro v1 w1 own1 hg1 hat1; have b1 : Below w.heap.size w w1 := (b1alloc _ _).grown hg1 (by simp) (fun k hk => by simp [Value.ownBlock] at hk; omega); obtain ⟨A1, c1, rfl⟩ := own_form own1; rw [Nat.zero_add, List.nil_append] at own1; rw [Nat.zero_add])
  have hr1 := Rd.own own1
  go_loopw [7, 8] (fun v i wr => ∃ (j : Nat) (Al : Option Addr) (cl : Nat), j ≤ m ∧ i = .int .i64 (j : Int) ∧ v = .slice Al (chain k lab j).length cl ∧ Rd wr wr.heap.size Al ((chain k lab j).map e8) ∧ Below w.heap.size w wr) (fun _ i _ => 1001 - (intOf i).toNat)
  case atStart => exact ⟨0, A1, c1, by omega, rfl, rfl, hr1, b1⟩
  case round =>
    obtain ⟨j, Al, cl, hj, rfl, rfl, hrl, bel⟩ := hrel
    have hle := Lib.hid (chain_le k lab j)
    have hsc := Lib.hid (chain_succ k lab j)
    obtain ⟨T, hT⟩ : ∃ T, T = chain k lab j := ⟨_, rfl⟩
    rw [← hT] at hle hsc hrl ⊢
    have HT := Lib.hid hT
    clear hT
    by_cases hlt : j < m
    · have hlt1 : ((j : Int) < z) = True := eq_true (by have := Hm.out; omega)
      have hlt2 : ((j : Int) < 1000) = True := eq_true (by omega)
      go_wp2_with fail
      have hder := rderive_any Al T lab _ cl wr rfl hrl (by have := hle.out; omega) bl
      obtain ⟨D, hD⟩ : ∃ D, D = derive T lab := ⟨_, rfl⟩
      rw [← hD] at hder hsc
      have HD := Lib.hid hD
      clear hD
      refine hder.mono ?_
      clear hder
      rintro e w3 ⟨A3, c3, rfl, r3, b3⟩
      go_wp2_with fail
      go_roundw
      case rel =>
        refine ⟨j + 1, A3, c3, by omega, by go_num, ?_, ?_, bt bel b3⟩
        · rw [hsc.out]
        · rw [hsc.out]; exact r3
      case measure => simp [intOf]; omega
    · have hjm : j = m := by omega
      subst hjm
      by_cases hz : (j : Int) < z
      · have hlt1 : ((j : Int) < z) = True := eq_true hz
        have hlt2 : ((j : Int) < 1000) = False := eq_false (by have := Hm.out; omega)
        clear hz hlt
        go_wp2_with fail
        go_ret
        exact ⟨Al, cl, (by rw [← HT.out]; rfl), by rw [← HT.out]; exact hrl, bel⟩
      · have hlt1 : ((j : Int) < z) = False := eq_false hz
        clear hz hlt
        go_wp2_with fail
        go_ret
        exact ⟨Al, cl, (by rw [← HT.out]; rfl), by rw [← HT.out]; exact hrl, bel⟩
theorem rmix_any (A B : Option Addr) (k l : List UInt8) (n c o d : Nat) (w : World) (hn : n = k.length) (ho : o = l.length) (hr : Rd w w.heap.size A (k.map e8)) (hs : Rd w w.heap.size B (l.map e8)) (hkl : k.length ≤ 1000000000) (hl : l.length ≤ 500000000) :
    Calls Tryd.prog 47 #[.slice A n c, .slice B o d] w fun e w' => RetB 5 w (mac k l) e w' := by
  subst hn ho
  go_enter Tryd.func47, Tryd.ntmps47
  go_wp2_with fail
  refine (rof_any A B k l _ c _ d w rfl rfl hr hs hkl hl).mono ?_
  rintro e w1 ⟨A1, c1, rfl, own1, b1⟩
  go_wp2
  go_ret
  exact ⟨A1, c1, rfl, own1, b1⟩
theorem extract_any (A B : Option Addr) (k l : List UInt8) (n c o d : Nat) (w : World) (hn : n = k.length) (ho : o = l.length) (hr : Rd w w.heap.size A (k.map e8)) (hs : Rd w w.heap.size B (l.map e8)) (hkl : k.length ≤ 1000000000) (hl : l.length ≤ 500000000) (hk : Tab w) :
    Calls Tryd.prog 42 #[.slice A n c, .slice B o d] w fun e w' => RetB 5 w (mac k l) e w' := by
  subst hn ho
  go_enter Tryd.func42, Tryd.ntmps42
  go_wp2_with fail
  refine (of_any A B k l _ c _ d w rfl rfl hr hs hkl hl hk).mono ?_
  rintro e w1 ⟨A1, c1, rfl, own1, b1⟩
  go_wp2
  go_ret
  exact ⟨A1, c1, rfl, own1, b1⟩
theorem mix_any (A B : Option Addr) (k l : List UInt8) (n c o d : Nat) (w : World) (hn : n = k.length) (ho : o = l.length) (hr : Rd w w.heap.size A (k.map e8)) (hs : Rd w w.heap.size B (l.map e8)) (hkl : k.length ≤ 1000000000) (hl : l.length ≤ 500000000) (hk : Tab w) :
    Calls Tryd.prog 46 #[.slice A n c, .slice B o d] w fun e w' => RetB 5 w (mac k l) e w' := by
  subst hn ho
  go_enter Tryd.func46, Tryd.ntmps46
  go_wp2_with fail
  refine (extract_any A B k l _ c _ d w rfl rfl hr hs hkl hl hk).mono ?_
  rintro e w1 ⟨A1, c1, rfl, own1, b1⟩
  go_wp2
  go_ret
  exact ⟨A1, c1, rfl, own1, b1⟩
theorem alive_any (w : World) (hk : Tab w) : Calls Tryd.prog 39 #[] w fun e w' => e = .returned (.bool true) ∧ Below w.heap.size w w' := by
  have hl := derive_len [] [97]
  go_enter Tryd.func39, Tryd.ntmps39
  go_wp2_with fail
  refine (derive_any none [] [97] 0 0 w rfl (Rd.nil _ _ _) (by simp) (by simp) hk).mono ?_
  rintro e w1 ⟨A, c, rfl, own1, bw1⟩
  rw [hl]
  clear own1 hl
  go_wp2
  go_ret
  exact ⟨rfl, bw1⟩
end Go.Proofs.YtggldbadefbdaaaDoor.Kdf
