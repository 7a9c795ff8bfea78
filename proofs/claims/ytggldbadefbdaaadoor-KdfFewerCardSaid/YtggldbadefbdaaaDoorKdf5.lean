/- The walks of the reference's Expand, Derive, Chain, Mix; kdf.Mix, Extract, alive. -/
import Derived.Test.YtggldbadefbdaaaDoorKdf4
namespace Go.Proofs.YtggldbadefbdaaaDoor.Kdf
open Go.RowKit
open Go.Proofs.YtggldbadefbdaaaDoor.Sha (Tab)
open Go.Proofs.YtggldbadefbdaaaDoor.Mac (mac mac_len of_any rof_any)
set_option linter.unusedVariables false
set_option maxRecDepth 100000
set_option maxHeartbeats 800000 in
theorem rexpand_no (A B : Option Addr) (n c o d : Nat) (s : Int) (hs0 : -9223372036854775808 ≤ s) (hs1 : s ≤ 9223372036854775807) (h : s < 1 ∨ 8160 < s) (w : World) :
    Calls Tryd.prog 41 #[.slice A n c, .slice B o d, .int .i64 s] w fun e w' => RetR w [] 2 e w' := by
  rcases h with h | h
  all_goals
    go_enter Tryd.func41, Tryd.ntmps41
    go_wp2
    try go_step3
    try go_wp2
    try rw [Exit.noGoto_ret]
    go_ret2
    exact ⟨none, 0, rfl, Rd.nil _ _ _, by simp, by simp [maxLen], Below.refl _ _⟩
set_option maxHeartbeats 1600000 in
theorem rexpand_yes (A B : Option Addr) (k info : List UInt8) (n c o d : Nat) (s : Nat) (z : Int) (hz : z = (s : Int)) (h1 : 1 ≤ s) (h2 : s ≤ 8160) (w : World) (hn : n = k.length) (ho : o = info.length) (hr : Rd w w.heap.size A (k.map e8)) (hi : Rd w w.heap.size B (info.map e8))
    (bk : k.length ≤ 100000000) (bi : info.length ≤ 1000000) :
    Calls Tryd.prog 41 #[.slice A n c, .slice B o d, .int .i64 z] w fun e w' => RetR w (expand k info s) 0 e w' := by
  subst hz hn ho
  obtain ⟨i0, hi0, hz0, hz1, hz2⟩ := info_parts info8
  have t1 : ((s : Int) < 1) = False := eq_false (by omega)
  have t2 : (8160 < (s : Int)) = False := eq_false (by omega)
  have hmany := Lib.hid (show 32 * (many s - 1) < s ∧ s ≤ 32 * many s ∧ 1 ≤ many s ∧ many s ≤ 255 by unfold many; omega)
  go_enter Tryd.func41, Tryd.ntmps41
  go_wp2_with fail
  go_loopw [8, 9, 10] (fun v t i wr => ∃ (j : Nat) (Al : Option Addr) (cl : Nat), j ≤ many s ∧ i = .int .i64 ((j : Int) + 1) ∧ wr.ownsRow w.heap.size 5 1 v (32 * j) ((tags k info j).map e8) ∧
    t = .slice Al (tag k info j).length cl ∧ Rd wr wr.heap.size Al ((tag k info j).map e8) ∧ Below w.heap.size w wr) (fun _ _ i _ => 300 - (intOf i).toNat)
  case atStart => exact ⟨0, none, 0, by omega, rfl, own_nil _ _ _ _, rfl, Rd.nil _ _ _, Below.refl _ _⟩
  case round =>
    obtain ⟨j, Al, cl, hj, rfl, hown, rfl, hrl, bel⟩ := hrel
    obtain ⟨m1, m2, m3, m4⟩ := hmany.out
    obtain ⟨Ao, co, rfl⟩ := own_form hown
    have hcap := own_cap hown
    by_cases hjm : j < many s
    · have hlt : (32 * (j : Int) < (s : Int)) = True := eq_true (by omega)
      have htags := Lib.hid (show tags k info (j + 1) = tags k info j ++ tag k info (j + 1) from rfl)
      have hle := Lib.hid (tag_le k info j)
      have hj1 : j + 1 ≤ 255 := by omega
      have hcv : IntKind.u8.wrap ((j : Int) + 1) = ((UInt8.ofNat (j + 1)).toNat : Int) := by have := wrap8 (j + 1); push_cast at this; exact this
      have hsucc := Lib.hid (show tag k info (j + 1) = mac k (tag k info j ++ info ++ [UInt8.ofNat (j + 1)]) from rfl)
      obtain ⟨b, hb⟩ : ∃ b, b = UInt8.ofNat (j + 1) := ⟨_, rfl⟩
      rw [← hb] at hcv hsucc
      have Hb := Lib.hid hb
      clear hb
      obtain ⟨T0, hT0⟩ : ∃ T, T = tag k info j := ⟨_, rfl⟩
      rw [← hT0] at hle hsucc hrl ⊢
      have HT0 := Lib.hid hT0
      clear hT0
      go_wp2_with fail
      refine (R1.join_any Al B T0 info _ _ _ _ wr rfl rfl hrl (hi.on bel) (by have := hle.out; omega)).mono ?_
      rintro e w3 ⟨A3, c3, rfl, own3, b3⟩
      have hll : (T0 ++ info).length = T0.length + info.length := List.length_append
      rw [hll] at own3 ⊢
      have Hll := Lib.hid hll
      clear hll
      go_wp2_with fail
      have ba := b1alloc w3 (.cells #[e8 b] 5)
      refine (R1.join_any A3 (some ⟨w3.heap.size, 0, none⟩) (T0 ++ info) [b] _ _ _ _ _ Hll.out.symm rfl ((Rd.own own3).on ba) (rd_byte (by simp) (by simp)) (by rw [Hll.out, List.length_singleton]; have := hle.out; omega)).mono ?_
      rintro e w4 ⟨A4, c4, rfl, own4, b4⟩
      have b34 := bt (bt bel b3) (bt ba b4)
      have hl4 : (T0 ++ info ++ [b]).length = T0.length + info.length + 1 := by rw [List.length_append, Hll.out, List.length_singleton]
      rw [hl4] at own4 ⊢
      have Hl4 := Lib.hid hl4
      clear hl4
      have hof := rof_any A A4 k (T0 ++ info ++ [b]) _ c _ c4 w4 rfl Hl4.out.symm (hr.on b34) (Rd.own own4) (by omega) (by rw [Hl4.out]; have := hle.out; omega)
      obtain ⟨T, hT⟩ : ∃ T, T = mac k (T0 ++ info ++ [b]) := ⟨_, rfl⟩
      have hlen : T.length = 32 := by rw [hT]; exact mac_len _ _
      rw [← hT] at hof hsucc
      clear hT
      have HL := Lib.hid hlen
      clear hlen
      go_wp2_with fail
      refine hof.mono ?_
      clear hof
      rintro e w5 ⟨A5, c5, rfl, own5, b5⟩
      rw [HL.out] at own5 ⊢
      have bel5 := bt b34 b5
      have hap5 := own_at_base own5
      have hr5 := Rd.own own5
      have hown5 := own_on (own_on (own_on (own_on hown b3) ba) b4) b5
      go_wp2_with (at_builtin; refine wpList_append_rd _ rfl _ _ _ rfl w.heap.size 5 i0 _ 1 1 Tryd.underlying24 hi0 hz0 hz1 hz2 rfl (by omega) _ (32 * j) _ (by rfl) hown5 _ A5 32 c5 (T.map e8) (by rfl) (by rw [List.length_map, HL.out]) hr5 (e8_one _) (by simp only [maxLen]; omega) (by omega) bel5.size ?_; intro v6 w6 own6 hg6 hat6; obtain ⟨A6, c6, rfl⟩ := own_form own6)
      go_roundw
      case rel =>
        have hr6 := rd_apart hr5 hg6 (fun a ha e => by have h1 := (hap5 a ha).1; have h2 := (hown.lt _ e.symm).2; have := b34.size; have := bel.size; have := b3.size; have := ba.size; have := b4.size; omega)
        refine ⟨j + 1, A5, c5, by omega, by go_num, ?_, ?_, ?_, bel5.grown hg6 bel5.size (fun g hg => own_block hown5 hg)⟩
        · rw [htags.out, hsucc.out, List.map_append, show 32 * (j + 1) = 32 * j + 32 by omega]; exact own6
        · rw [hsucc.out, HL.out]
        · rw [hsucc.out]; exact hr6
      case measure => simp [intOf]; omega
    · have hlt : (32 * (j : Int) < (s : Int)) = False := eq_false (by omega)
      have hjm : many s = j := by omega
      have hall : expand k info s = (tags k info j).take s := by rw [expand, hjm]
      have hlen : (expand k info s).length = s := expand_len k info s
      have hr6 := (Rd.own hown).take s
      rw [← List.map_take, ← hall] at hr6
      have Hall := Lib.hid hall
      have Hlen := Lib.hid hlen
      clear hall hlen
      have hc1 : (s : Int) ≤ (co : Int) := by omega
      go_wp2_with fail
      go_ret2
      exact ⟨Ao, co, by rw [Hlen.out]; rfl, hr6, by rw [Hlen.out]; omega, hcap.2, bel⟩
end Go.Proofs.YtggldbadefbdaaaDoor.Kdf
