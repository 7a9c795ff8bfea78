/- The key above all: root.write, Put, Erase, Blank and what they come to. -/
import Derived.Test.YtkapamolligmkaaBoth
import Derived.Test.YtkapamolligmkaaDisk10
import Derived.Deep.RegionWith
namespace Go.Proofs.Ytkapamolligmkaa.Rt
open Go.RowKit
open Go.Proofs.Ytkapamolligmkaa.Disk (St DAt Did write_any flush_any read_any New8 Told8)
open Go.Proofs.Ytkapamolligmkaa.Sec (X SymAt text sumOf sumAfter ckS blankB rightF encode_sym decode_sym isBlank_any)
set_option linter.unusedVariables false
set_option maxRecDepth 100000
theorem _root_.Go.Proofs.Ytkapamolligmkaa.Keep.of_below5 {w w5 w' : World} {fp : List Nat} (k : Keep fp w5 w') (b : Below w.heap.size w w5) : Keep fp w w' := (Keep.of_below b fp).trans k (Fresh.refl _ _)
theorem _root_.Go.Proofs.Ytkapamolligmkaa.Fresh.of_size {w w5 : World} {fp fp' : List Nat} (f : Fresh w5 fp fp') (b : Below w.heap.size w w5) : Fresh w fp fp' := fun j hj => (f j hj).imp id (fun h => Nat.le_trans b.size h)
def place (gen : UInt64) : Int := (gen.toNat : Int) % 2
theorem place_ok (gen : UInt64) : 0 ≤ place gen ∧ place gen ≤ 1 := by unfold place; omega
/-- bytes at the place of a gen, flushed -/
def wr (s : St) (gen : UInt64) (b : List UInt8) : St × Int := if (Disk.write s (place gen) b).2 = 0 then Disk.flush (Disk.write s (place gen) b).1 else Disk.write s (place gen) b
theorem wr_no {s : St} {gen : UInt64} {b : List UInt8} (h : (Disk.write s (place gen) b).2 ≠ 0) : wr s gen b = Disk.write s (place gen) b := if_neg h
theorem wr_yes {s : St} {gen : UInt64} {b : List UInt8} (h : (Disk.write s (place gen) b).2 = 0) : wr s gen b = Disk.flush (Disk.write s (place gen) b).1 := if_pos h
theorem wr_sz (s : St) (gen : UInt64) (b : List UInt8) : (wr s gen b).1.sz ≤ s.sz + 3 := by
  unfold wr
  have h1 := Disk.sz_write s (place gen) b
  split
  · have h2 := Disk.sz_flush (Disk.write s (place gen) b).1
    omega
  · omega
theorem root_any (gen : UInt64) (m : Int) (hm : m = (gen.toNat : Int)) (w : World) : Calls Try.prog 26 #[.int .u64 m] w fun e w' => e = .returned (.int .i64 (place gen)) ∧ w = w' := by
  have hl := gen.toNat_lt
  have h1 : (gen.toNat : Int) % 2 = (gen.toNat : Int).tmod 2 := by rw [Int.tmod_eq_emod_of_nonneg (by omega)]
  subst hm
  have hw : IntKind.i64.wrap ((gen.toNat : Int) % 2) = (gen.toNat : Int) % 2 := wrap_small (by omega) (by omega)
  go_enter Try.func26, Try.ntmps26
  go_wp2
  go_ret
  exact ⟨rfl, rfl⟩
theorem write1_any (g : Nat) (fp : List Nat) (s : St) (p : Int) (A : Option Addr) (n c : Nat) (b : List UInt8) (a0 a1 a2 : Nat) (w : World) (h : DAt w g fp s) (hs : s.sz ≤ 999999999) (hn : n = b.length) (hr : RdN w fp A (b.map e8))
    (c0 : w.cell? ⟨a0, 0, none⟩ = some (.pointer (some ⟨g, 0, none⟩))) (c1 : w.cell? ⟨a1, 0, none⟩ = some (.int .i64 p)) (c2 : w.cell? ⟨a2, 0, none⟩ = some (.slice A n c)) :
    Calls Try.prog 43 #[.pointer (some ⟨a0, 0, none⟩), .pointer (some ⟨a1, 0, none⟩), .pointer (some ⟨a2, 0, none⟩)] w (Did w g fp (Disk.write s p b)) := by
  subst hn
  have hw := write_any g fp s p A _ c b w h hs rfl hr
  obtain ⟨r, hr⟩ : ∃ r, r = Disk.write s p b := ⟨_, rfl⟩
  rw [← hr] at hw ⊢
  have HW := Lib.hid hw
  clear hw hr
  go_enter Try.func43, Try.ntmps43
  go_wp2_with (go_at_call 44; refine (HW.out).mono ?_; rintro e w' ⟨rfl, hd⟩)
  go_ret
  exact ⟨rfl, hd⟩
set_option maxHeartbeats 1000000 in
theorem wr_any (g : Nat) (fp : List Nat) (s : St) (gen : UInt64) (m : Int) (hm : m = (gen.toNat : Int)) (A : Option Addr) (n c : Nat) (b : List UInt8) (w : World) (h : DAt w g fp s) (hs : s.sz ≤ 90000000) (hn : n = b.length) (hr : RdN w fp A (b.map e8)) :
    Calls Try.prog 27 #[.pointer (some ⟨g, 0, none⟩), .int .u64 m, .slice A n c] w (Did w g fp (wr s gen b)) := by
  subst hn
  subst hm
  have hm1 : ∀ (x : Array Value) (w : World), Sem.run Try.prog (callFunc 43 x) w = .ok (.enter 43 x) w := by intro x w; simp [go_sem]
  have hm2 : ∀ (x : Array Value) (w : World), Sem.run Try.prog (callFunc 45 x) w = .ok (.enter 45 x) w := by intro x w; simp [go_sem]
  have zF := Lib.hid (show ∀ w, (zeroValue 95).run Try.prog w = .ok (arrV [.nilFunc, .nilFunc]) w from fun w => by kernel_rfl)
  have szF : (Try.prog.info? 95).map (·.size) = some 2 := by kernel_rfl
  have b3 := b3alloc w (.cells #[.pointer (some ⟨g, 0, none⟩)] 25) (.cells #[.slice A b.length c] 23) (.cells #[.int .i64 (place gen)] 3)
  have q0 : Box (((w.alloc (.cells #[.pointer (some ⟨g, 0, none⟩)] 25)).alloc (.cells #[.slice A b.length c] 23)).alloc (.cells #[.int .i64 (place gen)] 3)) w.heap.size _ := ((Box.new w _ _).alloc _).alloc _
  have q1 : Box (((w.alloc (.cells #[.pointer (some ⟨g, 0, none⟩)] 25)).alloc (.cells #[.slice A b.length c] 23)).alloc (.cells #[.int .i64 (place gen)] 3)) (w.heap.size + 1) (.slice A b.length c) := by simpa using (Box.new (w.alloc (.cells #[.pointer (some ⟨g, 0, none⟩)] 25)) 23 (.slice A b.length c)).alloc (.cells #[.int .i64 (place gen)] 3)
  have q2 : Box (((w.alloc (.cells #[.pointer (some ⟨g, 0, none⟩)] 25)).alloc (.cells #[.slice A b.length c] 23)).alloc (.cells #[.int .i64 (place gen)] 3)) (w.heap.size + 1 + 1) (.int .i64 (place gen)) := by simpa using Box.new ((w.alloc (.cells #[.pointer (some ⟨g, 0, none⟩)] 25)).alloc (.cells #[.slice A b.length c] 23)) 3 (.int .i64 (place gen))
  go_enter Try.func27, Try.ntmps27
  go_wp2
  go_step3
  go_wp2_with (first
    | (go_at_call 26; refine (root_any gen _ (by rfl) _).mono ?_; rintro e w' ⟨rfl, rfl⟩)
    | ((with_reducible show wpList _ _ _ (⟨some 8, _, _, _, _, _⟩ :: _) _ _); refine Disk.wpList_allocT rfl _ rfl [.nilFunc, .nilFunc] zF.out ?_; intro w4 hb4 bw4)
    | ((with_reducible show wpList _ _ _ (⟨none, .store 95 _ _, _, _, _, _⟩ :: _) _ _); refine Disk.wpList_storeT rfl _ _ _ rfl rfl (ys := [.func (.func 43) #[] #[.pointer (some ⟨w.heap.size, 0, none⟩), .pointer (some ⟨w.heap.size + 1 + 1, 0, none⟩), .pointer (some ⟨w.heap.size + 1, 0, none⟩)], .func (.func 45) #[.pointer (some ⟨g, 0, none⟩)] #[]]) rfl hb4 rfl (by simp [Value.oneCell']) szF ?_; intro w5 hb5 hg5)
    | ((with_reducible show wpList _ _ _ (⟨some 18, _, _, _, _, _⟩ :: _) _ _); refine wpList_loadA rfl _ _ rfl rfl hb5.blk Try.underlying95 szF ?_))
  go_frame
  go_step3
  go_wp2_with ((with_reducible show wpList _ _ _ (⟨some 18, _, _, _, _, _⟩ :: _) _ _); refine wpList_loadA rfl _ _ rfl rfl hb5.blk Try.underlying95 szF ?_)
  have hsz4 := bw4.size
  have hszW : (((w.alloc (.cells #[.pointer (some ⟨g, 0, none⟩)] 25)).alloc (.cells #[.slice A b.length c] 23)).alloc (.cells #[.int .i64 (place gen)] 3)).heap.size = w.heap.size + 1 + 1 + 1 := by simp
  have bel5 : Below w.heap.size w w5 := below_row (bt b3 bw4) hg5 (by omega) (bt b3 bw4).size
  have k0 := ((q0.below bw4 (by omega)).kept hg5 (by rw [hszW]; simp; omega)).cell
  have k1 := ((q1.below bw4 (by omega)).kept hg5 (by rw [hszW]; simp)).cell
  have k2 := ((q2.below bw4 (by omega)).kept hg5 (by rw [hszW]; simp)).cell
  have hlt5 : w.heap.size + 1 + 1 + 1 < w5.heap.size := by have := hg5.size; have := hb4.blk.lt; omega
  clear hszW hsz4 q0 q1 q2 b3 bw4 hg5 hb4 hb5
  obtain ⟨r1, hr1⟩ : ∃ r, r = Disk.write s (place gen) b := ⟨_, rfl⟩
  obtain ⟨R, hR⟩ : ∃ r, r = wr s gen b := ⟨_, rfl⟩
  rw [← hR]
  have Hr1 := Lib.hid hr1
  have HR := Lib.hid hR
  have HRn := Lib.hid (show r1.2 ≠ 0 → R = r1 from fun h => by rw [hR, hr1]; exact wr_no (by rw [← hr1]; exact h))
  have HRy := Lib.hid (show r1.2 = 0 → R = Disk.flush r1.1 from fun h => by rw [hR, hr1]; exact wr_yes (by rw [← hr1]; exact h))
  have hz1 : r1.1.sz ≤ s.sz + 2 := by rw [hr1]; exact Disk.sz_write _ _ _
  clear hr1 hR
  have Hc1 := Lib.hid (write1_any g fp s (place gen) A _ c b w.heap.size (w.heap.size + 1 + 1) (w.heap.size + 1) w5 (h.on bel5) (by omega) rfl (hr.on bel5) k0 k2 k1)
  rw [← Hr1.out] at Hc1
  have i0 : ∀ W, (Instr.index 95 (arrV [.func (.func 43) #[] #[.pointer (some ⟨w.heap.size, 0, none⟩), .pointer (some ⟨w.heap.size + 1 + 1, 0, none⟩), .pointer (some ⟨w.heap.size + 1, 0, none⟩)], .func (.func 45) #[.pointer (some ⟨g, 0, none⟩)] #[]]) (.int .i64 0)).run Try.prog W = .ok (.func (.func 43) #[] #[.pointer (some ⟨w.heap.size, 0, none⟩), .pointer (some ⟨w.heap.size + 1 + 1, 0, none⟩), .pointer (some ⟨w.heap.size + 1, 0, none⟩)]) W := fun W => by kernel_rfl
  have i1 : ∀ W, (Instr.index 95 (arrV [.func (.func 43) #[] #[.pointer (some ⟨w.heap.size, 0, none⟩), .pointer (some ⟨w.heap.size + 1 + 1, 0, none⟩), .pointer (some ⟨w.heap.size + 1, 0, none⟩)], .func (.func 45) #[.pointer (some ⟨g, 0, none⟩)] #[]]) (.int .i64 1)).run Try.prog W = .ok (.func (.func 45) #[.pointer (some ⟨g, 0, none⟩)] #[]) W := fun W => by kernel_rfl
  go_loopw [19] (fun i wr => ∃ k : Nat, k ≤ 2 ∧ i = .int .i64 k ∧ Below w.heap.size w w5 ∧ ((k = 0 ∧ wr = w5) ∨ (k = 1 ∧ r1.2 = 0 ∧ ∃ fp1, DAt wr g fp1 r1.1 ∧ Keep fp w wr ∧ Fresh w fp fp1) ∨ (k = 2 ∧ R.2 = 0 ∧ ∃ fp1, DAt wr g fp1 R.1 ∧ Keep fp w wr ∧ Fresh w fp fp1))) (fun i _ => 2 - (intOf i).toNat)
  case atStart => exact ⟨0, by omega, rfl, bel5, .inl ⟨rfl, rfl⟩⟩
  case round =>
    obtain ⟨k, hk, rfl, _, hcs⟩ := hrel
    rcases hcs with ⟨rfl, rfl⟩ | ⟨rfl, h0, fp1, hD1, hK1, hF1⟩ | ⟨rfl, h0, fp1, hD1, hK1, hF1⟩
    · by_cases h0 : r1.2 = 0
      · have t0 := bne_no h0
        go_wp2_with (go_at_call 43; refine (Hc1.out).mono ?_; rintro e w' ⟨rfl, fp1, hD1, hK1, hF1⟩)
        case roundEnd => exact ⟨⟨1, by omega, rfl, bel5, .inr (.inl ⟨rfl, h0, fp1, hD1, hK1.of_below5 bel5, hF1.of_size bel5⟩)⟩, by simp [intOf]⟩
      · have t0 := bne_yes h0
        go_wp2_with (go_at_call 43; refine (Hc1.out).mono ?_; rintro e w' ⟨rfl, fp1, hD1, hK1, hF1⟩)
        try rw [Exit.noGoto_ret]
        go_ret
        rw [HRn.out h0]
        exact ⟨rfl, fp1, hD1, hK1.of_below5 bel5, hF1.of_size bel5⟩
    · have hz2 : r1.1.sz ≤ 100000000 := by omega
      have Hc2 := Lib.hid (Disk.flush_any g fp1 r1.1 wr hD1 hz2)
      rw [← HRy.out h0] at Hc2
      by_cases h1 : R.2 = 0
      · have t0 := bne_no h1
        go_wp2_with (go_at_call 45; refine (Hc2.out).mono ?_; rintro e w' ⟨rfl, fp2, hD2, hK2, hF2⟩)
        case roundEnd => exact ⟨⟨2, by omega, rfl, bel5, .inr (.inr ⟨rfl, h1, fp2, hD2, hK1.trans hK2 hF1, hF1.trans hK1.size hF2⟩)⟩, by simp [intOf]⟩
      · have t0 := bne_yes h1
        go_wp2_with (go_at_call 45; refine (Hc2.out).mono ?_; rintro e w' ⟨rfl, fp2, hD2, hK2, hF2⟩)
        try rw [Exit.noGoto_ret]
        go_ret
        exact ⟨rfl, fp2, hD2, hK1.trans hK2 hF1, hF1.trans hK1.size hF2⟩
    · go_wp2
      try rw [Exit.noGoto_ret]
      go_ret
      rw [← HR.out]
      exact ⟨by rw [h0]; rfl, fp1, hD1, hK1, hF1⟩
end Go.Proofs.Ytkapamolligmkaa.Rt
