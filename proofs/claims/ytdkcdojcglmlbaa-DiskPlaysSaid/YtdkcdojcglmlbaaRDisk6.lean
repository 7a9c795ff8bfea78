/- The reference's disk: the walk of Writes. -/
import Derived.Test.YtdkcdojcglmlbaaRDisk5
namespace Go.Proofs.Ytdkcdojcglmlbaa.Disk
open Go.RowKit
set_option linter.unusedVariables false
set_option maxRecDepth 100000
theorem sameB_refl (l : List UInt8) : R1.sameB l l = true := by
  simp [R1.sameB]
set_option maxHeartbeats 4000000 in
/-- two rows of the same writes -/
theorem writes_any (w : World) (fp : List Nat) (u v : Value) (l : List Wr) (hu : WRow w fp u l) (hv : WRow w fp v l) (hl : l.length ≤ 1000000) (h512 : ∀ x ∈ l, x.2.length = 512) :
    Calls Try.prog 70 #[u, v] w fun e w' => e = .returned (.bool true) ∧ Below w.heap.size w w' := by
  obtain ⟨A, c, acs, rfl, hu1, hu2, hu3, hu4, hu5, hu6⟩ := hu
  obtain ⟨B, d, bcs, rfl, hv1, hv2, hv3, hv4, hv5, hv6⟩ := hv
  have hne : ((l.length : Int) != (l.length : Int)) = false := by simp
  go_enter Try.func70, Try.ntmps70
  go_wp2
  go_loopw [5] (fun i wr => ∃ k : Nat, k ≤ l.length ∧ i = .int .i64 k ∧ Below w.heap.size w wr) (fun i _ => l.length - (intOf i).toNat)
  case atStart => exact ⟨0, by omega, rfl, Below.refl _ _⟩
  case round =>
    obtain ⟨k, hk, rfl, bel⟩ := hrel
    by_cases hlt : k < l.length
    · obtain ⟨b, off, C, e, rfl, hb, g0, g1, g2, g3, g4⟩ := EntN.get (hu5.on bel) (hu6.keep (Keep.of_below bel fp) (Fresh.refl _ _)) hu3 hlt
      obtain ⟨b', off', C', e', rfl, hb', k0, k1, k2, k3, k4⟩ := EntN.get (hv5.on bel) (hv6.keep (Keep.of_below bel fp) (Fresh.refl _ _)) hv3 hlt
      have hx := h512 _ (List.getElem_mem hlt)
      obtain ⟨y, hy⟩ : ∃ y, y = l[k] := ⟨_, rfl⟩
      rw [← hy] at g0 g1 g4 k0 k1 k4 hx
      have hpp : ((y.1 : Int) != (y.1 : Int)) = false := by simp
      have Hs := Lib.hid (fun (W : World) (bW : Below wr.heap.size wr W) => R1.same_any C C' y.2 y.2 y.2.length y.2.length e e' W rfl rfl (g4.on bW).rd (k4.on bW).rd (by omega) (by omega))
      rw [sameB_refl] at Hs
      have hbd : Below wr.heap.size wr wr.drew := (Below.refl _ _).drew
      clear hy hx g4 k4 hu5 hu6 hv5 hv6 hu4 hv4 g2 g3 k2 k3
      go_wp2_with (fail)
      have hS : ∀ W, Below wr.heap.size wr W → W.cell? ⟨b, off + k * 2, none⟩ = some (.int .i64 (y.1 : Int)) ∧ W.cell? ⟨b, off + k * 2 + 1, none⟩ = some (.slice C y.2.length e) ∧ W.cell? ⟨b', off' + k * 2, none⟩ = some (.int .i64 (y.1 : Int)) ∧ W.cell? ⟨b', off' + k * 2 + 1, none⟩ = some (.slice C' y.2.length e') := fun W bW =>
        ⟨(bW.cell (p := ⟨b, _, none⟩) hb).trans g0, (bW.cell (p := ⟨b, _, none⟩) hb).trans g1, (bW.cell (p := ⟨b', _, none⟩) hb').trans k0, (bW.cell (p := ⟨b', _, none⟩) hb').trans k1⟩
      go_region_held3 (fun w' => w'.cell? ⟨b, off + k * 2, none⟩ = some (.int .i64 (y.1 : Int)) ∧ w'.cell? ⟨b, off + k * 2 + 1, none⟩ = some (.slice C y.2.length e) ∧ w'.cell? ⟨b', off' + k * 2, none⟩ = some (.int .i64 (y.1 : Int)) ∧ w'.cell? ⟨b', off' + k * 2 + 1, none⟩ = some (.slice C' y.2.length e')) (first | exact hS _ hbd | exact hS _ b8 | exact hS _ (undrew b8)) ((go_at_call 19; refine (Hs.out _ hbd).mono ?_; rintro e w8 ⟨rfl, b8⟩))
      have bw8 := Lib.hid (show Below w.heap.size w w8 from bt bel (undrew b8))
      go_wp2
      go_roundw
      case rel => exact ⟨k + 1, by omega, by go_num, bw8.out⟩
      case measure => simp [intOf]; omega
    · obtain rfl : k = l.length := by omega
      go_wp2
      go_ret
      exact ⟨rfl, bel⟩
end Go.Proofs.Ytdkcdojcglmlbaa.Disk
