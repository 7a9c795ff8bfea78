/- The walks of kdf.Chain, Mix, Extract, alive; the reference's Expand, Derive, Chain, Mix. -/
import Derived.Test.YtggldbadefbdaaaDoorKdf3
import Derived.Test.YtggldbadefbdaaaDoorSlices
import Derived.Lib.MinMax
namespace Go.Proofs.YtggldbadefbdaaaDoor.Kdf
open Go.RowKit
open Go.Proofs.YtggldbadefbdaaaDoor.Sha (Tab)
open Go.Proofs.YtggldbadefbdaaaDoor.Mac (mac mac_len of_any rof_any)
set_option linter.unusedVariables false
set_option maxRecDepth 100000
theorem chain_le (k lab : List UInt8) (j : Nat) : (chain k lab j).length ≤ k.length + 32 := by
  cases j with
  | zero => simp [chain]
  | succ j => rw [chain, derive_len]; omega
theorem chain_succ (k lab : List UInt8) (j : Nat) : chain k lab (j + 1) = derive (chain k lab j) lab := rfl
set_option maxHeartbeats 800000 in
theorem chain_any (A : Option Addr) (k lab : List UInt8) (n c : Nat) (z : Int) (w : World) (m : Nat) (hm : min (max z 0) 1000 = (m : Int)) (hn : n = k.length) (hr : Rd w w.heap.size A (k.map e8)) (bk : k.length ≤ 100000000) (bl : lab.length ≤ 100000) (hk : Tab w) :
    Calls Tryd.prog 43 #[.slice A n c, .string ⟨lab.toArray⟩, .int .i64 z] w fun e w' => RetD w (chain k lab m) e w' := by
  subst hn
  have hm1 : m ≤ 1000 := by omega
  go_enter Tryd.func43, Tryd.ntmps43
  go_wp2_with fail
  refine (Sl.clone_any A k _ c w rfl hr (by omega)).mono ?_
  rintro e w1 ⟨A1, c1, rfl, own1, b1⟩
  have hr1 := Rd.own own1
  go_wp2_with fail
  go_loopw [7, 13] (fun v i wr => ∃ (j : Nat) (Al : Option Addr) (cl : Nat), j ≤ m ∧ i = .int .i64 (j : Int) ∧ v = .slice Al (chain k lab j).length cl ∧ Rd wr wr.heap.size Al ((chain k lab j).map e8) ∧ Below w.heap.size w wr) (fun _ i _ => 1001 - (intOf i).toNat)
  case atStart => exact ⟨0, A1, c1, by omega, rfl, rfl, hr1, b1⟩
  case round =>
    obtain ⟨j, Al, cl, hj, rfl, rfl, hrl, bel⟩ := hrel
    have hle := Lib.hid (chain_le k lab j)
    have hsc := Lib.hid (chain_succ k lab j)
    obtain ⟨T, hT⟩ : ∃ T, T = chain k lab j := ⟨_, rfl⟩
    rw [← hT] at hle hsc hrl ⊢
    have HT := Lib.hid hT
    clear hT
    by_cases hlt : j < m
    · have hlt' : ((j : Int) < (m : Int)) = True := by simp; omega
      go_wp2_with fail
      have hder := derive_any Al T lab _ cl wr rfl hrl (by have := hle.out; omega) bl (hk.on bel)
      obtain ⟨D, hD⟩ : ∃ D, D = derive T lab := ⟨_, rfl⟩
      rw [← hD] at hder hsc
      have HD := Lib.hid hD
      clear hD
      refine hder.mono ?_
      clear hder
      rintro e w3 ⟨A3, c3, rfl, r3, b3⟩
      go_wp2_with fail
      go_roundw
      case rel =>
        refine ⟨j + 1, A3, c3, by omega, by go_num, ?_, ?_, bt bel b3⟩
        · rw [hsc.out]
        · rw [hsc.out]; exact r3
      case measure => simp [intOf]; omega
    · have hjm : j = m := by omega
      have hlt' : ((j : Int) < (m : Int)) = False := by simp; omega
      subst hjm
      go_wp2_with fail
      go_ret
      exact ⟨Al, cl, (by rw [← HT.out]; rfl), by rw [← HT.out]; exact hrl, bel⟩
end Go.Proofs.YtggldbadefbdaaaDoor.Kdf
