/- The walk of the statements' own example. -/
import Derived.Test.YteecbjpnnklbpaaCtr6
namespace Go.Proofs.Yteecbjpnnklbpaa.Ctr
open Go.RowKit
open Go.Proofs.Yteecbjpnnklbpaa.Aes
set_option linter.unusedVariables false
set_option maxRecDepth 100000
def cEx : List UInt8 := zero16.set 15 255
theorem cEx_len : cEx.length = 16 := rfl
theorem cEx_next : next cEx = [0, 0, 0, 0, 0, 0, 0, 0, 0, 0, 0, 0, 0, 0, 1, 0] := by decide +kernel
theorem strF_ok {key nonce : List UInt8} (hk : key.length = 32) (hn : nonce.length = 16) {i : Int} (h0 : 0 ≤ i) (h1 : i ≤ 65536) : strF key nonce i = 0 := by
  rw [strF, if_pos ⟨hk, hn⟩, if_neg (by omega)]
theorem strB_ok_len {key nonce : List UInt8} (hk : key.length = 32) (hn : nonce.length = 16) {i : Nat} (h1 : i ≤ 65536) : (strB key nonce (i : Int)).length = i := by
  rw [strB, if_pos ⟨hk, hn⟩, if_neg (by omega), stream_len]; omega
theorem mk_run (n : Nat) (hn : n ≤ 1000) : ∃ O : Obj, (∀ W, (Instr.makeSlice 27 (.int .i64 (n : Int)) (.int .i64 (n : Int))).run Try.prog W = .ok (.slice (some ⟨W.heap.size, 0, none⟩) n n) (W.alloc O)) ∧ ∀ W : World, Blk (W.alloc O) W.heap.size (vb (List.replicate n 0)) := by
  obtain ⟨i0, hi0, hz0, hz1, hz2⟩ := info_parts info8
  refine ⟨.cells (madeCells (Value.int .u8 0).cells (n * i0.size)) 5, fun W => ?_, fun W => ⟨5, ?_⟩⟩
  · have hr := run_make (P := Try.prog) W 27 5 i0 _ Try.underlying27 hi0 hz0 .i64 .i64 n n (by omega) (by omega) (by rw [hz2]; omega) (by omega)
    simpa using hr
  · have h1 : (madeCells (Value.int .u8 0).cells (n * i0.size)) = (vb (List.replicate n 0)).toArray := by
      apply Array.ext'
      rw [hz1, made_int]
      simp [vb, List.map_replicate]
    rw [h1]
    exact heap_alloc_new W _
set_option maxHeartbeats 200000 in
theorem alive_any (w : World) : Calls Try.prog 22 #[] w fun e w' => e = .returned (.bool true) ∧ Below w.heap.size w w' := by
  obtain ⟨i0, hi0, hz0, hz1, hz2⟩ := info_parts info8
  have hnx := fun W => next_any cEx cEx_len W
  rw [cEx_next] at hnx
  have hszc := sizeL cEx_len
  have hszN := sizeL (l := [0, 0, 0, 0, 0, 0, 0, 0, 0, 0, 0, 0, 0, 0, 1, 0]) rfl
  obtain ⟨N, hN⟩ : ∃ N : List UInt8, N = [0, 0, 0, 0, 0, 0, 0, 0, 0, 0, 0, 0, 0, 0, 1, 0] := ⟨_, rfl⟩
  rw [← hN] at hnx hszN
  have hN14 := Lib.hid (show N.getD 14 0 = 1 by rw [hN]; rfl)
  have hN15 := Lib.hid (show N.getD 15 0 = 0 by rw [hN]; rfl)
  have hNl := Lib.hid (show N.length = 16 by rw [hN]; rfl)
  obtain ⟨C, hC⟩ : ∃ C, C = cEx := ⟨_, rfl⟩
  rw [← hC] at hnx hszc
  have hCe := Lib.hid (show zero16.set 15 255 = C by rw [hC]; rfl)
  have Hnx := Lib.hid hnx
  clear hN hC hnx
  go_enter Try.func22, Try.ntmps22
  go_wp2_with (first
    | ((with_reducible show wpList _ _ _ (⟨some 1, _, _, _, _, _⟩ :: _) _ _); refine wpList_allocN rfl _ rfl (vb zero16) zeroV16 ?_; intro w1 hb1 bw1 hs1; have hcell := Blk.byte hb1 (k := 15) (by decide); have hf := hb1.free 15; have hB := hb1.lt; have hbs := hb1.set (k := 15) (e8 255); rw [vb_set, hCe.out] at hbs; have btr := bset_new bw1 15 (e8 255))
    | ((with_reducible show wpList _ _ _ (⟨some 6, _, _, _, _, _⟩ :: _) _ _); refine wpList_loadA rfl _ _ rfl rfl hbs Try.underlying22 hszc ?_)
    | fail)
  refine (Hnx.out _).mono ?_
  rintro e w2 ⟨rfl, b2⟩
  have bt2 : Below w.heap.size w w2 := bt btr b2
  go_wp2_with (first
    | ((with_reducible show wpList _ _ _ (⟨some 2, _, _, _, _, _⟩ :: _) _ _); refine wpList_allocN rfl _ rfl (vb zero16) zeroV16 ?_; intro w3 hb3 bw3 hs3)
    | ((with_reducible show wpList _ _ _ (⟨none, .store 22 (.tmp 2) _, _, _, _, _⟩ :: _) _ _); refine wpList_storeN rfl _ _ _ rfl rfl (ys := vb N) rfl hb3 (by rw [vb_len, vb_len, hNl.out]; rfl) (vb_one _) hszN ?_; intro w4 hb4 hg4; have bt4 := bt bt2 (below_row bw3 hg4 (Nat.le_refl _) bw3.size); have n14 := Blk.byte hb4 (k := 14) (by rw [hNl.out]; omega); have n15 := Blk.byte hb4 (k := 15) (by rw [hNl.out]; omega); rw [hN14.out] at n14; rw [hN15.out] at n15; have l4 := hb4.lt)
    | fail)
  obtain ⟨OA, hA, hAb⟩ := mk_run 32 (by omega)
  obtain ⟨OB, hB', hBb⟩ := mk_run 16 (by omega)
  have hk32 : (List.replicate 32 (0 : UInt8)).length = 32 := rfl
  have hn16 : (List.replicate 16 (0 : UInt8)).length = 16 := rfl
  obtain ⟨KA, hKA⟩ : ∃ l : List UInt8, l = List.replicate 32 0 := ⟨_, rfl⟩
  obtain ⟨KB, hKB⟩ : ∃ l : List UInt8, l = List.replicate 16 0 := ⟨_, rfl⟩
  rw [← hKA] at hk32 hAb
  rw [← hKB] at hn16 hBb
  clear hKA hKB
  have hf0 := strF_ok hk32 hn16 (i := 3) (by omega) (by omega)
  have hb0 := strB_ok_len hk32 hn16 (i := 3) (by omega)
  have hstm := fun A B c d W hc hcm hd hdm hr hq => stream_any A B KA KB 32 c 16 d 3 W hk32.symm hn16.symm hc hcm hd hdm hr hq (by omega) (by omega)
  rw [hf0] at hstm
  obtain ⟨S, hS⟩ : ∃ S, S = strB KA KB 3 := ⟨_, rfl⟩
  rw [← hS] at hstm
  have hSl : S.length = 3 := by rw [hS]; exact hb0
  have Hstm := Lib.hid hstm
  have HSl := Lib.hid hSl
  clear hS hstm hSl hf0 hb0 hk32 hn16
  have hA' : ∀ W, (Instr.makeSlice 27 (.int .i64 32) (.int .i64 32)).run Try.prog W = .ok (.slice (some ⟨W.heap.size, 0, none⟩) 32 32) (W.alloc OA) := hA
  have hB'' : ∀ W, (Instr.makeSlice 27 (.int .i64 16) (.int .i64 16)).run Try.prog W = .ok (.slice (some ⟨W.heap.size, 0, none⟩) 16 16) (W.alloc OB) := hB'
  clear hA hB'
  have r1 : Rd ((w4.alloc OA).alloc OB) ((w4.alloc OA).alloc OB).heap.size (some ⟨w4.heap.size, 0, none⟩) (vb KA) := ((hAb w4).alloc OB).rd
  have r2 : Rd ((w4.alloc OA).alloc OB) ((w4.alloc OA).alloc OB).heap.size (some ⟨w4.heap.size + 1, 0, none⟩) (vb KB) := by
    have := (hBb (w4.alloc OA)).rd
    simpa using this
  have r3 : Rd ((w4.alloc OB).alloc OA) ((w4.alloc OB).alloc OA).heap.size (some ⟨w4.heap.size + 1, 0, none⟩) (vb KA) := by
    have := (hAb (w4.alloc OB)).rd
    simpa using this
  have r4 : Rd ((w4.alloc OB).alloc OA) ((w4.alloc OB).alloc OA).heap.size (some ⟨w4.heap.size, 0, none⟩) (vb KB) := ((hBb w4).alloc OA).rd
  have c1 : Calls Try.prog 25 #[.slice (some ⟨w4.heap.size, 0, none⟩) 32 32, .slice (some ⟨w4.heap.size + 1, 0, none⟩) 16 16, .int .i64 3] ((w4.alloc OA).alloc OB).drew (fun e w' => RetF ((w4.alloc OA).alloc OB).drew S 0 e w') :=
    Hstm.out _ _ 32 16 ((w4.alloc OA).alloc OB).drew (Nat.le_refl _) (by unfold maxLen; omega) (Nat.le_refl _) (by unfold maxLen; omega) r1 r2
  have c2 : Calls Try.prog 25 #[.slice (some ⟨w4.heap.size + 1, 0, none⟩) 32 32, .slice (some ⟨w4.heap.size, 0, none⟩) 16 16, .int .i64 3] ((w4.alloc OB).alloc OA).drew (fun e w' => RetF ((w4.alloc OB).alloc OA).drew S 0 e w') :=
    Hstm.out _ _ 32 16 ((w4.alloc OB).alloc OA).drew (Nat.le_refl _) (by unfold maxLen; omega) (Nat.le_refl _) (by unfold maxLen; omega) r3 r4
  have C1 := Lib.hid c1
  have C2 := Lib.hid c2
  have k1 : Below w4.heap.size w4 ((w4.alloc OA).alloc OB).drew := (bt (b1alloc w4 OA) (b1alloc _ OB)).drew
  have k2 : Below w4.heap.size w4 ((w4.alloc OB).alloc OA).drew := (bt (b1alloc w4 OB) (b1alloc _ OA)).drew
  clear r1 r2 r3 r4 hAb hBb c1 c2
  go_region_held3 (fun w' => True) (trivial)
    (first
    | (go_at_call 25; (with_reducible show Calls _ _ #[.slice (some ⟨w4.heap.size, 0, none⟩) 32 32, _, _] _ _); refine C1.out.mono ?_; rintro e w5 ⟨A5, c5, rfl, hr5, hc5, hm5, b5⟩; have bs : Below w4.heap.size w4 w5 := bt k1 b5)
    | (go_at_call 25; (with_reducible show Calls _ _ #[.slice (some ⟨w4.heap.size + 1, 0, none⟩) 32 32, _, _] _ _); refine C2.out.mono ?_; rintro e w5 ⟨A5, c5, rfl, hr5, hc5, hm5, b5⟩; have bs : Below w4.heap.size w4 w5 := bt k2 b5)
    | fail)
  all_goals
    have p14 := (bs.cell (p := ⟨w2.heap.size, 14, none⟩) l4).trans n14
    have p15 := (bs.cell (p := ⟨w2.heap.size, 15, none⟩) l4).trans n15
    have bt5 := bt bt4 bs
    rw [HSl.out]
    clear n14 n15 hcell hA' hB'' k1 k2
    go_wp2
    go_ret
    exact ⟨rfl, bt5⟩
end Go.Proofs.Yteecbjpnnklbpaa.Ctr
