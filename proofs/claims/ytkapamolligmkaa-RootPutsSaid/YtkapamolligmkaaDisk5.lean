/- The walks of disk.Put, Flush, Kept, Arm, New. -/
import Derived.Test.YtkapamolligmkaaDisk4
namespace Go.Proofs.Ytkapamolligmkaa.Disk
open Go.RowKit
set_option linter.unusedVariables false
set_option maxRecDepth 100000

set_option maxHeartbeats 1000000 in
theorem put_any (g : Nat) (fp : List Nat) (s : St) (p : Int) (A : Option Addr) (n c : Nat) (b : List UInt8) (w : World) (h : DAt w g fp s) (hs : s.sz ≤ 999999999) (hn : n = b.length) (hr : Rd w w.heap.size A (b.map e8)) :
    Calls Try.prog 20 #[.pointer (some ⟨g, 0, none⟩), .int .i64 p, .slice A n c] w (Did w g fp (put s p b)) := by
  subst hn
  have has := Lib.hid (asked_any g fp s p w h)
  by_cases hp : p < 0 ∨ (s.size : Int) ≤ p
  · have hw : put s p b = (s, 2) := by unfold put; rw [if_pos hp]
    have hf : askF s p = 2 := if_pos hp
    rw [hf] at has
    rw [hw]
    clear hw hp hf
    go_enter Try.func20, Try.ntmps20
    go_wp2_with fail
    refine has.out.mono ?_
    rintro e w1 ⟨rfl, rfl⟩
    go_wp2
    go_ret
    exact Did.same h rfl
  · have hf : askF s p = 0 := if_neg hp
    rw [hf] at has
    by_cases hl : b.length = 512
    · have hw : put s p b = ({ s with all := s.all ++ [(p.toNat, b)] }, 0) := by unfold put; rw [if_neg hp, if_neg (by omega)]
      rw [hw]
      obtain ⟨q, rfl⟩ : ∃ q : Nat, p = (q : Int) := ⟨p.toNat, by omega⟩
      rw [Int.toNat_natCast]
      obtain ⟨vk, vp, va, acs, hL⟩ := h
      obtain ⟨b0, off, rfl, hb0, hbc⟩ := hr (by intro e; have := congrArg List.length e; simp [hl] at this)
      have hrg : w.rangeAt b0 off (b.map e8) := fun j v hv => by
        obtain ⟨hj, rfl⟩ := List.getElem?_eq_some_iff.1 hv
        exact hbc j hj
      have harr : ∀ w, (Instr.arrayAt 83 (.slice (some ⟨b0, off, none⟩) b.length c)).run Try.prog w = .ok (.pointer (some ⟨b0, off, none⟩)) w := fun w => by rw [hl]; exact arrayAt_any _ c w
      have hszb := szBl hl
      have hub := Try.underlying83
      have hlI : ((b.length : Int) != 512) = false := by rw [bne_eq_false_iff_eq]; omega
      have hk := Lib.hid (keep_any g fp s vk vp va acs q b w hL (by omega) (by omega) hl)
      clear hw hp hf hl hbc
      go_enter Try.func20, Try.ntmps20
      go_wp2_with fail
      refine has.out.mono ?_
      rintro e w1 ⟨rfl, rfl⟩
      go_wp2_with ((with_reducible show wpList _ _ _ (⟨some 21, _, _, _, _, _⟩ :: _) _ _); refine wpList_load_mid rfl _ _ rfl b0 off rfl (b.map e8) _ hrg hub rfl hszb ?_)
      refine hk.out.mono ?_
      rintro e w2 ⟨rfl, fp2, va2, acs2, hL2, k2, f2⟩
      have fin := Lib.hid (show Did w g fp ({ s with all := s.all ++ [(q, b)] }, 0) _ w2 from ⟨rfl, fp2, ⟨_, _, _, _, hL2⟩, k2, f2⟩)
      clear hL2 k2 f2
      go_wp2
      go_ret
      exact fin.out
    · have hw : put s p b = (s, 4) := by unfold put; rw [if_neg hp, if_pos hl]
      rw [hw]
      have hlI : ((b.length : Int) != 512) = true := by rw [bne_iff_ne]; omega
      clear hw hp hf
      go_enter Try.func20, Try.ntmps20
      go_wp2_with fail
      refine has.out.mono ?_
      rintro e w1 ⟨rfl, rfl⟩
      go_wp2
      go_ret
      exact Did.same h rfl
set_option maxHeartbeats 400000 in
theorem arm_any (g : Nat) (fp : List Nat) (s : St) (f : Int) (w : World) (h : DAt w g fp s) (h0 : -9223372036854775808 ≤ f) (h1 : f ≤ 9223372036854775807) :
    Calls Try.prog 23 #[.pointer (some ⟨g, 0, none⟩), .int .i64 f] w fun e w' => e = .returned (.tuple #[]) ∧ DAt w' g fp (arm s f) ∧ Keep [g] w w' := by
  obtain ⟨vk, vp, va, acs, hL⟩ := h
  obtain ⟨_, _, _, c3, c4, c5, fr⟩ := six hL.blk
  have hblk := Lib.hid hL.blk
  have fin : ∀ x : Int, x = max f (-1) → DAt (w.setCell ⟨g, 3, none⟩ (.int .i64 x)) g fp (arm s f) ∧ Keep [g] w (w.setCell ⟨g, 3, none⟩ (.int .i64 x)) := fun x hx =>
    ⟨⟨vk, vp, va, acs, hL.turn (keep_set _ _ _ _) (by subst hx; simp [World.setCell, Array.getElem?_modify, hblk.out, arm]) rfl rfl rfl (ok_arm hL.ok h1)⟩, keep_set _ _ _ _⟩
  have Fin := Lib.hid fin
  clear hL fin
  go_enter Try.func23, Try.ntmps23
  go_wp2
  go_end0
  exact ⟨rfl, Fin.out _ (by omega)⟩
theorem arm_nil (f : Int) (w : World) : Calls Try.prog 23 #[.pointer none, .int .i64 f] w fun e w' => e = .returned (.tuple #[]) ∧ w = w' := by
  go_enter Try.func23, Try.ntmps23
  go_wp2
  go_end0
  exact ⟨rfl, rfl⟩
/-- a new slice of bytes comes back -/
def New8 (w w' : World) (l : List UInt8) (v : Value) : Prop := ∃ A c, v = .slice A l.length c ∧ l.length ≤ c ∧ c ≤ maxLen ∧ (l.map e8 ≠ [] → ∃ b off, A = some ⟨b, off, none⟩ ∧ w.heap.size ≤ b ∧ b < w'.heap.size ∧ ∀ i (h : i < (l.map e8).length), w'.cell? ⟨b, off + i, none⟩ = some (l.map e8)[i])
theorem New8.nil (w w' : World) : New8 w w' [] (.slice none 0 0) := ⟨none, 0, rfl, Nat.le_refl _, by unfold maxLen; omega, fun h => absurd rfl h⟩
theorem New8.blk {w w' : World} {l : List UInt8} {b n : Nat} (hb : w.heap.size ≤ b) (h : Blk w' b (l.map e8)) (hn : l.length = n) (hm : l.length ≤ maxLen) : New8 w w' l (.slice (some ⟨b, 0, none⟩) n n) := by
  subst hn
  exact ⟨_, _, rfl, Nat.le_refl _, hm, fun _ => ⟨b, 0, rfl, hb, h.lt, fun i hi => by rw [Nat.zero_add]; exact h.cell hi⟩⟩
theorem New8.rdN {w w' : World} {l : List UInt8} {v : Value} (h : New8 w w' l v) {fp : List Nat} (hf : ∀ j ∈ fp, j < w.heap.size) : ∃ A c, v = .slice A l.length c ∧ l.length ≤ c ∧ c ≤ maxLen ∧ RdN w' fp A (l.map e8) := by
  obtain ⟨A, c, rfl, h1, h2, h3⟩ := h
  refine ⟨A, c, rfl, h1, h2, fun hne => ?_⟩
  obtain ⟨b, off, rfl, hb, hlt, hc⟩ := h3 hne
  exact ⟨b, off, rfl, hlt, fun e => by have := hf b e; omega, hc⟩
theorem zeroB (w : World) : (zeroValue 83).run Try.prog w = .ok (arrV (zero512.map e8)) w := by kernel_rfl
set_option maxHeartbeats 800000 in
theorem kept_any (g : Nat) (fp : List Nat) (s : St) (p : Int) (w : World) (h : DAt w g fp s) :
    Calls Try.prog 14 #[.pointer (some ⟨g, 0, none⟩), .int .i64 p] w fun e w' => ∃ v, e = .returned v ∧ New8 w w' (keptAt s p) v ∧ Below w.heap.size w w' := by
  have has := Lib.hid (asked_any g fp s p w h)
  by_cases hp : p < 0 ∨ (s.size : Int) ≤ p
  · have hw : keptAt s p = [] := if_pos hp
    have hf : askF s p = 2 := if_pos hp
    rw [hf] at has
    rw [hw]
    clear hw hp hf
    go_enter Try.func14, Try.ntmps14
    go_wp2_with fail
    refine has.out.mono ?_
    rintro e w1 ⟨rfl, rfl⟩
    go_wp2
    go_ret
    exact ⟨_, rfl, New8.nil _ _, Below.refl _ _⟩
  · have hf : askF s p = 0 := if_neg hp
    have hw : keptAt s p = kept s.all p.toNat := if_neg hp
    rw [hf] at has
    rw [hw]
    obtain ⟨q, rfl⟩ : ∃ q : Nat, p = (q : Int) := ⟨p.toNat, by omega⟩
    rw [Int.toNat_natCast]
    obtain ⟨vk, vp, va, acs, hL⟩ := h
    have hqs : q < s.size := by omega
    obtain ⟨gk, ck, rfl, _⟩ := own_some hL.kept (by omega)
    obtain ⟨c0, _, _, _, _, _, fr⟩ := six hL.blk
    have hkl := kept_len hL.ok.all q
    have hrg : w.rangeAt gk (q * 512) ((kept s.all q).map e8) := own_range hL.kept (fun j hj => by
      rw [List.length_map, hkl] at hj
      have := flat_at (fun x => (kept s.all x).map e8) 512 (List.range s.size) (fun x _ => by rw [List.length_map, kept_len hL.ok.all]) q j (by simpa using hqs) hj
      rw [List.getElem_range] at this
      exact this)
    obtain ⟨K, hK⟩ : ∃ K, K = kept s.all q := ⟨_, rfl⟩
    rw [← hK] at hrg hkl ⊢
    have hszb := szBl hkl
    have hub := Try.underlying83
    have hqI : (q : Int) < (s.size : Int) := by omega
    have hsz0 : (Try.prog.info? 83).map (·.size) = some (K.map e8).length := hszb
    have Hkl := Lib.hid hkl
    clear hw hp hf hK hkl hL
    go_enter Try.func14, Try.ntmps14
    go_wp2_with fail
    refine has.out.mono ?_
    rintro e w1 ⟨rfl, rfl⟩
    go_wp2_with (first
      | ((with_reducible show wpList _ _ _ (⟨some 16, _, _, _, _, _⟩ :: _) _ _); refine wpList_load_mid rfl _ _ rfl gk (q * 512) rfl (K.map e8) _ hrg hub rfl hszb ?_)
      | ((with_reducible show wpList _ _ _ (⟨some 5, _, _, _, _, _⟩ :: _) _ _); refine wpList_allocN rfl _ rfl (zero512.map e8) zeroB ?_; intro w1 hb1 bw1 hs1)
      | ((with_reducible show wpList _ _ _ (⟨none, .store 83 (.tmp 5) _, _, _, _, _⟩ :: _) _ _); refine wpList_storeN rfl _ _ _ rfl rfl (ys := K.map e8) rfl hb1 (by rw [List.length_map, List.length_map, Hkl.out]; rfl) (e8_one _) hszb ?_; intro w2 hb2 hg2))
    go_ret
    exact ⟨_, rfl, New8.blk (Nat.le_refl _) hb2 Hkl.out (by rw [Hkl.out]; unfold maxLen; omega), below_row bw1 hg2 (Nat.le_refl _) bw1.size⟩
theorem kept_nil' (p : Int) (w : World) : Calls Try.prog 14 #[.pointer none, .int .i64 p] w fun e w' => e = .returned (.slice none 0 0) ∧ w = w' := by
  go_enter Try.func14, Try.ntmps14
  go_wp2_with fail
  refine (asked_nil p w).mono ?_
  rintro e w1 ⟨rfl, rfl⟩
  go_wp2
  go_ret
  exact ⟨rfl, rfl⟩
theorem infoB : (Try.prog.info? 83).map (fun i => (i.zero, i.size, i.bytes)) = some (some (arrV (zero512.map e8)), 512, 512) := by kernel_rfl
theorem made_flat (n : Nat) : (madeCells (arrV (zero512.map e8)).cells (n * 512)).toList = kcells n [] := by
  have h1 : kcells n [] = List.replicate (n * 512) (e8 0) := by
    rw [List.eq_replicate_iff]
    refine ⟨by rw [kcells, flat_len _ 512 _ (fun q _ => by rw [List.length_map, kept_nil, zero512_len]), List.length_range], fun v hv => ?_⟩
    obtain ⟨q, _, hq⟩ := List.mem_flatMap.1 hv
    obtain ⟨x, hx, rfl⟩ := List.mem_map.1 hq
    rw [kept_nil, zero512, List.mem_replicate] at hx
    rw [hx.2]
  rw [h1, List.eq_replicate_iff]
  refine ⟨by simp [madeCells], fun v hv => ?_⟩
  have hz : (arrV (zero512.map e8)).cells = (List.replicate 512 (e8 0)).toArray := by rw [arrV_cells, zero512, List.map_replicate]
  rw [hz] at hv
  simp only [madeCells, Array.toList_map, Array.toList_range, List.mem_map, List.mem_range] at hv
  obtain ⟨i, _, rfl⟩ := hv
  have : i % (List.replicate 512 (e8 0)).toArray.size < (List.replicate 512 (e8 0)).toArray.size := Nat.mod_lt _ (by simp)
  rw [getElem!_pos (List.replicate 512 (e8 0)).toArray _ this, List.getElem_toArray, List.getElem_replicate]
set_option maxHeartbeats 800000 in
theorem new_any (n : Int) (w : World) (h0 : -9223372036854775808 ≤ n) (h1 : n ≤ 9223372036854775807) :
    Calls Try.prog 7 #[.int .i64 n] w fun e w' => (if n < 1 ∨ 1024 < n then e = .returned (.tuple #[.pointer none, .int .i64 2]) else ∃ g fp, e = .returned (.tuple #[.pointer (some ⟨g, 0, none⟩), .int .i64 0]) ∧ DAt w' g fp (new n.toNat) ∧ ∀ j ∈ fp, w.heap.size ≤ j) ∧ Below w.heap.size w w' := by
  by_cases hb : n < 1 ∨ 1024 < n
  · simp only [if_pos hb]
    by_cases ha : n < 1
    · clear hb
      go_enter Try.func7, Try.ntmps7
      go_wp2
      go_ret2
      exact ⟨rfl, Below.refl _ _⟩
    · have hc : 1024 < n := by omega
      clear hb
      go_enter Try.func7, Try.ntmps7
      go_wp2
      go_ret2
      exact ⟨rfl, Below.refl _ _⟩
  · simp only [if_neg hb]
    obtain ⟨m, rfl⟩ : ∃ m : Nat, n = (m : Int) := ⟨n.toNat, by omega⟩
    have ha : ¬ (m : Int) < 1 := fun h => hb (.inl h)
    have hc : ¬ 1024 < (m : Int) := fun h => hb (.inr h)
    obtain ⟨i0, hi0, hz0, hz1, hz2⟩ := info_parts infoB
    clear hb
    go_enter Try.func7, Try.ntmps7
    go_wp2_with ((with_reducible show wpList _ _ _ (⟨some 11, _, _, _, _, _⟩ :: _) _ _); refine wpList_make_full _ rfl _ _ _ rfl 0 83 i0 _ 512 Try.underlying59 hi0 hz0 hz1 _ _ _ _ m rfl rfl rfl rfl (by rw [hz2]; omega) (by simp only [maxLen]; omega) (Nat.zero_le _) ?_; intro w1 own1 hg1)
    go_ret2
    rw [made_flat] at own1
    have b1 : Below w.heap.size w w1 := (Below.refl _ _).grown hg1 (Nat.le_refl _) (by simp)
    have hgl : w.heap.size < w1.heap.size := (own1.lt _ rfl).2
    refine ⟨⟨w1.heap.size, rfl, [w1.heap.size, w.heap.size], ⟨_, _, _, [], ⟨heap_alloc_new w1 _, own1.alloc _, own_nil _ _ _ _, own_nil _ _ _ _, fun i hi => absurd hi (by simp [new]), by simp, fun j hj => ?_, fun j hj => ?_, fun j hj => ?_, ?_, ok_new (by omega) (by omega)⟩⟩, ?_⟩, bt b1 (b1alloc _ _)⟩
    · simp [Value.ownBlock] at hj; simp [hj]
    · simp [Value.ownBlock] at hj
    · simp [Value.ownBlock] at hj
    · intro j hj; simp at hj; rcases hj with rfl | rfl <;> simp <;> omega
    · intro j hj; simp at hj; rcases hj with rfl | rfl <;> omega
end Go.Proofs.Ytkapamolligmkaa.Disk
