/- The library's slices.Grow (of nil) and slices.Concat at bytes. -/
import Derived.Test.YtggldbadefbdaaaDoorBase
import Derived.Test.YtggldbadefbdaaaDoorRows
import Derived.Outline
import Derived.WalkSpells
namespace Go.Proofs.YtggldbadefbdaaaDoor.Cat
open Go.RowKit
set_option linter.unusedVariables false
set_option maxRecDepth 100000
theorem info8 : (Tryd.prog.info? 5).map (fun i => (i.zero, i.size, i.bytes)) = some (some (.int .u8 0), 1, 1) := by kernel_rfl

/-- slices of bytes, one behind the other in a block -/
structure Pc where
  a : Option Addr
  l : List UInt8
  c : Nat
def Pc.val (p : Pc) : Value := .slice p.a p.l.length p.c
/-- they read so -/
def Pcs (w : World) (B : Nat) (ps : List Pc) : Prop := ∀ p ∈ ps, Rd w B p.a (p.l.map e8)
theorem Pcs.on {w w' : World} {ps : List Pc} (h : Pcs w w.heap.size ps) (b : Below w.heap.size w w') : Pcs w' w'.heap.size ps := fun p hp => (h p hp).on b
def cat (ps : List Pc) : List UInt8 := ps.flatMap (·.l)
def lens (ps : List Pc) : Nat := (cat ps).length
theorem cat_snoc (ps : List Pc) (k : Nat) (h : k < ps.length) : cat (ps.take (k + 1)) = cat (ps.take k) ++ ps[k].l := by
  unfold cat; rw [List.take_succ_eq_append_getElem h, List.flatMap_append]; simp
theorem lens_snoc (ps : List Pc) (k : Nat) (h : k < ps.length) : lens (ps.take (k + 1)) = lens (ps.take k) + ps[k].l.length := by
  unfold lens; rw [cat_snoc ps k h, List.length_append]
theorem lens_le (ps : List Pc) (k : Nat) : lens (ps.take k) ≤ lens ps := by
  have h : cat ps = cat (ps.take k) ++ cat (ps.drop k) := by unfold cat; rw [← List.flatMap_append, List.take_append_drop]
  unfold lens; rw [h, List.length_append]; omega

set_option maxHeartbeats 400000 in
theorem grow_any (n : Nat) (m : Int) (hm : m = (n : Int)) (w : World) (hn : n ≤ 1000000000000) :
    Calls Tryd.prog 69 #[.slice none 0 0, .int .i64 m] w fun e w' => ∃ A c, e = .returned (.slice A 0 c) ∧ w'.ownsRow w.heap.size 5 1 (.slice A 0 c) 0 [] ∧ Below w.heap.size w w' := by
  subst hm
  by_cases h : n = 0
  · subst h
    go_enter Tryd.func69, Tryd.ntmps69
    go_wp2
    go_ret
    exact ⟨none, 0, rfl, own_nil _ _ _ _, Below.refl _ _⟩
  · have h0 : 0 < (n : Int) := by omega
    have h5 : Tryd.t5.bytes = 1 := by kernel_rfl
    have hx : ¬ (281474976710656 < (n : Int)) := by omega
    have hy : Builtin.nextslicecap n 0 = n := by unfold Builtin.nextslicecap; rw [if_pos (by omega)]
    have hz : ¬ (281474976710656 < n) := by omega
    go_enter Tryd.func69, Tryd.ntmps69
    go_wp2_with fail
    have hge := grownCap_ge w n 0 5
    have hcm := grownCap_le_maxLen w n 0 5 (by unfold maxLen; omega)
    refine bodyPost_ret (results_tmp rfl _ _ _) rfl ⟨_, _, rfl, ⟨by simp, .inr ⟨w.heap.size, grownCap w n 0 5, _, rfl, Nat.le_refl _, (heap_drew _).symm ▸ heap_alloc_new w _, by omega, hcm, ?_, by simp⟩⟩, (b1alloc _ _).drew⟩
    simp only [Array.size_append, size_zeroCells]
    simp only [grownCap] at hge ⊢
    simp
    omega
/-- the slices' cells lie one behind the other in a block -/
def PcAt (w : World) (g : Nat) (ps : List Pc) : Prop := ∀ k (h : k < ps.length), w.cell? ⟨g, k, none⟩ = some ps[k].val
theorem PcAt.on {w w' : World} {g : Nat} {ps : List Pc} (h : PcAt w g ps) (b : Below w.heap.size w w') (hg : g < w.heap.size) : PcAt w' g ps := fun k hk => (b.cell (p := ⟨g, k, none⟩) hg).trans (h k hk)
set_option maxHeartbeats 400000 in
theorem concat_any (g : Nat) (ps : List Pc) (n c : Nat) (w : World) (hn : n = ps.length) (hg : g < w.heap.size) (hp : PcAt w g ps) (hr : Pcs w w.heap.size ps) (hl : lens ps ≤ 1000000000000) (hpl : ps.length ≤ 1000) :
    Calls Tryd.prog 57 #[.slice (some ⟨g, 0, none⟩) n c] w fun e w' => RetB 5 w (cat ps) e w' := by
  subst hn
  obtain ⟨i0, hi0, hz0, hz1, hz2⟩ := info_parts info8
  have HL := Lib.hid hl
  clear hl
  go_enter Tryd.func57, Tryd.ntmps57
  go_wp2_with fail
  go_loop [3, 11] (fun s i => ∃ k : Nat, k ≤ ps.length ∧ i = .int .i64 k ∧ s = .int .i64 (lens (ps.take k) : Int)) (fun _ i => ps.length - (intOf i).toNat)
  case atStart => exact ⟨0, by omega, rfl, rfl⟩
  case round =>
    obtain ⟨k, hk, rfl, rfl⟩ := hrel
    by_cases hlt : k < ps.length
    · have hc := hp k hlt
      unfold Pc.val at hc
      have hs := lens_snoc ps k hlt
      have hle := lens_le ps (k + 1)
      have hL := HL.out
      obtain ⟨p, hp'⟩ : ∃ p, p = ps[k] := ⟨_, rfl⟩
      rw [← hp'] at hc hs
      obtain ⟨S, hS⟩ : ∃ S, S = lens (ps.take k) := ⟨_, rfl⟩
      rw [← hS] at hs ⊢
      have Hs := Lib.hid hs
      have hb : S + p.l.length ≤ 1000000000000 := by omega
      clear hs hle hL hp' hS
      go_wp2
      go_round
      case rel => exact ⟨k + 1, by omega, by go_num, by rw [Hs.out]; go_num⟩
      case measure => simp [intOf]; omega
    · obtain rfl : k = ps.length := by omega
      have ht := Lib.hid (show lens (ps.take ps.length) = lens ps by rw [List.take_length])
      rw [ht.out]
      have hL := HL.out
      obtain ⟨S, hS⟩ : ∃ S, S = lens ps := ⟨_, rfl⟩
      rw [← hS] at hL ⊢
      have HS := Lib.hid hS
      clear hS
      go_wp2_with (go_at_call 69; refine (grow_any S _ rfl _ hL).mono ?_; rintro e w1 ⟨A1, c1, rfl, hown1, bw1⟩)
      have hpp := hp.on bw1 hg
      have hrr := hr.on bw1
      go_loopw [6, 27] (fun v i wr => ∃ k : Nat, k ≤ ps.length ∧ i = .int .i64 k ∧ wr.ownsRow w.heap.size 5 1 v (lens (ps.take k)) ((cat (ps.take k)).map e8) ∧ Below w.heap.size w wr) (fun _ i _ => ps.length - (intOf i).toNat)
      case atStart => exact ⟨0, by omega, rfl, hown1, bw1⟩
      case round =>
        obtain ⟨k, hk, rfl, hown, bw⟩ := hrel
        by_cases hlt : k < ps.length
        · have hc := hp.on bw hg k hlt
          have hrd := (hr ps[k] (List.getElem_mem hlt)).on bw
          unfold Pc.val at hc
          have hs := lens_snoc ps k hlt
          have hcs := cat_snoc ps k hlt
          have hle := lens_le ps (k + 1)
          have hS := HS.out
          obtain ⟨p, hp'⟩ : ∃ p, p = ps[k] := ⟨_, rfl⟩
          rw [← hp'] at hc hs hcs hrd
          have Hs := Lib.hid hs
          have Hcs := Lib.hid hcs
          have hb : lens (ps.take k) + p.l.length ≤ 1000000000000 := by omega
          clear hs hle hp' hS hcs
          go_wp2_with (at_builtin; refine wpList_append_rd _ rfl _ _ _ rfl w.heap.size 5 i0 _ 1 1 Tryd.underlying24 hi0 hz0 hz1 hz2 rfl (by omega) _ (lens (ps.take k)) _ rfl hown _ p.a p.l.length p.c (p.l.map e8) rfl (by simp) hrd (e8_one _) (by simp only [maxLen]; omega) (by omega) bw.size ?_; intro v1 w3 hown3 hg3 hat3)
          go_roundw
          case rel => exact ⟨k + 1, by omega, by go_num, by rw [Hs.out, Hcs.out, List.map_append]; exact hown3, bw.grown hg3 bw.size (fun g hg => own_block hown hg)⟩
          case measure => simp [intOf]; omega
        · obtain rfl : k = ps.length := by omega
          rw [List.take_length] at hown
          go_wp2
          go_ret
          exact RetB.mk hown rfl bw
end Go.Proofs.YtggldbadefbdaaaDoor.Cat
