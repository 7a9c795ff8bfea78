/- What the root laws share: a disk and a suite that were just made, the reference's Sector and Is, the example. -/
import Derived.Test.YtkapamolligmkaaRtPlain
namespace Go.Proofs.Ytkapamolligmkaa.Rt
open Go.RowKit
open Go.Proofs.Ytkapamolligmkaa.Disk (St DAt Did write_any flush_any read_any New8 Told8 new)
open Go.Proofs.Ytkapamolligmkaa.Sec (X SymAt text sumOf sumAfter ckS blankB rightF encode_sym decode_sym isBlank_any right_0 xv RetX X0 five5x symbolic_any)
set_option linter.unusedVariables false
set_option maxRecDepth 100000
theorem new2_any (w : World) : Calls Try.prog 7 #[.int .i64 2] w fun e w' => ∃ g fp, e = .returned (.tuple #[.pointer (some ⟨g, 0, none⟩), .int .i64 0]) ∧ DAt w' g fp (new 2) ∧ (∀ j ∈ fp, w.heap.size ≤ j) ∧ Below w.heap.size w w' := by
  refine (Disk.new_any 2 w (by omega) (by omega)).mono ?_
  rintro e w' ⟨h, b⟩
  rw [if_neg (by omega)] at h
  obtain ⟨g, fp, he, hd, hf⟩ := h
  exact ⟨g, fp, he, hd, hf, b⟩
theorem rsector_any (gen : UInt64) (A : Option Addr) (n c : Nat) (w : World) : Calls Try.prog 16 #[.int .u64 (gen.toNat : Int), .slice A n c] w fun e w' => e = .returned (.agg #[.int .i64 1, .int .u64 0, .int .i64 0, .int .u64 (gen.toNat : Int), .slice A n c]) ∧ Below w.heap.size w w' := by
  go_enter Try.func16, Try.ntmps16
  go_wp2
  refine bodyPost_ret (v := .agg #[.int .i64 1, .int .u64 0, .int .i64 0, .int .u64 (gen.toNat : Int), .slice A n c]) (by simp [results, Try.results16, go_sem]) rfl ⟨rfl, ?_⟩
  first | exact b1alloc _ _ | exact bset5 (b1alloc _ _) (Nat.le_refl _) | (repeat refine bset ?_ (Nat.le_refl _) _); exact b1alloc _ _
set_option maxHeartbeats 1000000 in
theorem alive_any (w : World) : Calls Try.prog 6 #[] w fun e w' => e = .returned (.bool true) ∧ Below w.heap.size w w' := by
  obtain ⟨i0, hi0, hz0, hz1, hz2⟩ := info_parts Sec.info8'
  obtain ⟨key, hkey⟩ : ∃ key, key = List.replicate 32 (0 : UInt8) := ⟨_, rfl⟩
  have hkl : key.length = 32 := by rw [hkey]; simp
  have hcells : (List.replicate 32 (Value.int .u8 0)) = key.map e8 := by rw [hkey]; rfl
  have hp : (place 3).toNat = 1 := by decide
  have hp1 : (place 1).toNat = 1 := by decide
  obtain ⟨q1, q2, q3⟩ := up_new.wr 3 (bOf_len [] 3 key)
  have hst : Disk.kept (wr (new 2) 3 (bOf [] 3 key)).1.all (place 3).toNat = bOf [] 3 key := by rw [q3, kept_after]
  have g3 : got (lOf [] 3 key) (wr (new 2) 3 (bOf [] 3 key)).1 3 = (key, 0) := by rw [q2.got_good (x := xOf 3 key) (by rw [hst]; exact bOf_good [] hkl), isRoot_own hkl]; rfl
  have g1 : got (lOf [] 3 key) (wr (new 2) 3 (bOf [] 3 key)).1 1 = ([], 11) := by
    rw [q2.got_good (gen := 1) (x := xOf 3 key) (by rw [show (place 1).toNat = (place 3).toNat from rfl, hst]; exact bOf_good [] hkl), isRoot_other (by decide)]; rfl
  have hz := wr_sz (new 2) 3 (bOf [] 3 key)
  have h0 : (new 2).sz = 0 := rfl
  have hll : (lOf [] 3 key).length ≤ 1000000 := by unfold lOf sumAfter; simp
  have hP := fun g fp gS bS A c W h hr => put_any g fp (new 2) gS bS [] 3 key A c W h (by simp) (by rw [h0]; omega) hkl hr
  obtain ⟨R, hR⟩ : ∃ R, R = wr (new 2) 3 (bOf [] 3 key) := ⟨_, rfl⟩
  obtain ⟨L, hL⟩ : ∃ L, L = lOf [] 3 key := ⟨_, rfl⟩
  rw [← hR] at q1 hP g3 g1 hz
  rw [← hL] at hP g3 g1 hll
  rw [q1] at hP
  have hG1 := fun g fp gS bS W h => get_any g fp R.1 gS bS L 1 W h hll (by omega)
  have hG3 := fun g fp gS bS W h => get_any g fp R.1 gS bS L 3 W h hll (by omega)
  rw [g1] at hG1
  rw [g3] at hG3
  rw [show (((3 : UInt64).toNat : Nat) : Int) = 3 from rfl] at hP hG3
  rw [show (((1 : UInt64).toNat : Nat) : Int) = 1 from rfl] at hG1
  have HP := Lib.hid hP
  have HG1 := Lib.hid hG1
  have HG3 := Lib.hid hG3
  have HC := Lib.hid hcells
  have HKL := Lib.hid hkl
  clear q1 q2 q3 hst g3 g1 hP hG1 hG3 hR hL hcells hkey hp hp1 hkl
  go_enter Try.func6, Try.ntmps6
  go_wp2_with (first
    | (go_at_call 7; refine (new2_any w).mono ?_; rintro e w1 ⟨g, fp, rfl, hD, hfp, b1⟩)
    | (go_at_call 8; refine (symbolic_any _).mono ?_; rintro e w2 ⟨gS, bS, rfl, hS, hgS, hbS, b2⟩; have H2 := Here.start hD hfp b1 hS hgS hbS b2)
    | (at_make; refine wpList_make_full _ rfl _ _ _ rfl w2.heap.size 5 i0 _ 1 Try.underlying23 hi0 hz0 hz1 _ _ _ _ 32 rfl rfl rfl rfl (by rw [hz2]; omega) (by simp only [maxLen]; omega) (Nat.le_refl _) ?_; intro w3 own3 b3))
  have b3' : Below w2.heap.size w2 w3 := (Below.refl _ _).grown b3 (Nat.le_refl _) (by simp)
  rw [made_int, HC.out] at own3
  have H3 := H2.on b3'
  have tG : True := trivial
  go_wp2_with (first
    | (go_at_call 9; refine (HP.out _ _ _ _ _ _ _ H3.both (Rd.own own3)).mono ?_; rintro e w4 ⟨rfl, T4⟩; obtain ⟨fp4, H4, _, _⟩ := H3.turn T4)
    | (go_at_call 10; have _t := tG; refine (HG1.out _ _ _ _ _ H4.both).mono ?_; rintro e w5 ⟨⟨A5, c5, rfl, _, _, _⟩, b5⟩; have H5 := H4.on b5; clear tG)
    | (go_at_call 10; refine (HG3.out _ _ _ _ _ H5.both).mono ?_; rintro e w6 ⟨⟨A6, c6, rfl, _, _, _⟩, b6⟩; rw [HKL.out]; have H6 := H5.on b6))
  go_ret
  exact ⟨rfl, H6.bel⟩
end Go.Proofs.Ytkapamolligmkaa.Rt
