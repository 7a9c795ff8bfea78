/- The walks of aes.Sub, Shift, Add, and of the reference's. -/
import Derived.Test.YteecbjpnnklbpaaAesPlain
import Derived.Test.YteecbjpnnklbpaaArr2
import Derived.Test.YteecbjpnnklbpaaGf3
namespace Go.Proofs.Yteecbjpnnklbpaa.Aes
open Go.RowKit
open Go.Proofs.Yteecbjpnnklbpaa.Gf
set_option linter.unusedVariables false
set_option maxRecDepth 100000
/-- bytes as cells -/
def vb (l : List UInt8) : List Value := l.map e8
theorem vb_len (l : List UInt8) : (vb l).length = l.length := by simp [vb]
theorem vb_one (l : List UInt8) : ∀ v ∈ vb l, v.oneCell' = true := by
  intro v hv
  simp only [vb, List.mem_map] at hv
  obtain ⟨x, _, rfl⟩ := hv
  rfl
theorem vb_set (l : List UInt8) (k : Nat) (x : UInt8) : (vb l).set k (e8 x) = vb (l.set k x) := by simp [vb, List.map_set]
theorem _root_.Go.Proofs.Yteecbjpnnklbpaa.Blk.byte {w : World} {g : Nat} {l : List UInt8} (h : Blk w g (vb l)) {k : Nat} (hk : k < l.length) : w.cell? ⟨g, k, none⟩ = some (e8 (l.getD k 0)) := by
  rw [h.cell (by rw [vb_len]; exact hk)]
  simp [vb, List.getD, List.getElem?_eq_getElem hk]
/-- a state as a value -/
def stV (l : List UInt8) : Value := arrV (vb l)
def zero16 : List UInt8 := List.replicate 16 0
theorem size16 : (Try.prog.info? 22).map (·.size) = some 16 := by kernel_rfl
theorem zeroV16 (w : World) : (zeroValue 22).run Try.prog w = .ok (arrV (vb zero16)) w := by kernel_rfl
theorem sizeL {l : List UInt8} (h : l.length = 16) : (Try.prog.info? 22).map (·.size) = some (vb l).length := by rw [vb_len, h]; exact size16
theorem index16 (l : List UInt8) (k : Nat) (hl : l.length = 16) (hk : k < 16) (w : World) : (Instr.index 22 (arrV (vb l)) (.int .i64 (k : Int))).run Try.prog w = .ok (e8 (l.getD k 0)) w :=
  run_index_ints (P := Try.prog) (n := 16) (k := .i64) Try.underlying22 Try.underlying5 (by kernel_rfl) hk (by simp [vb, hl, hk, List.getD]) w
set_option maxHeartbeats 400000 in
theorem sub_any (s : List UInt8) (hs : s.length = 16) (w : World) : Calls Try.prog 9 #[stV s] w fun e w' => e = .returned (stV (sub s)) ∧ Below w.heap.size w w' := by
  have Hs := Lib.hid hs
  have hsz := sizeL hs
  have hl2 : (sub s).length = 16 := by rw [sub_len]; exact hs
  have hsz2 := sizeL hl2
  have Hl2 := Lib.hid hl2
  clear hs hl2
  unfold stV
  go_enter Try.func9, Try.ntmps9
  go_wp2_with (first
    | (refine wpList_boxN rfl _ _ rfl (vb s) rfl ?_; intro w1 hb1 bw1 hs1)
    | (refine wpList_allocN rfl _ rfl (vb zero16) zeroV16 ?_; intro w2 hb2 bw2 hs2; have hb12 := hb1.on bw2; have bt2 := bt bw1 bw2)
    | (refine wpList_loadA rfl _ _ rfl rfl hb12 Try.underlying22 hsz ?_)
    | fail)
  have hB2 := bw1.size
  have l01 : w.heap.size < w1.heap.size := hs1
  obtain ⟨B1, hB1⟩ : ∃ B, B = w1.heap.size := ⟨_, rfl⟩
  rw [← hB1] at hb2 l01 ⊢
  clear hB1 hb1 bw1 bw2 hs1 hs2 hB2
  go_loopw [6] (fun i wr => ∃ k : Nat, k ≤ 16 ∧ i = .int .i64 k ∧ Blk wr w.heap.size (vb (part (sub s) s k)) ∧ Blk wr B1 (vb zero16) ∧ Below w.heap.size w wr) (fun i _ => 16 - (intOf i).toNat)
  case atStart => exact ⟨0, by omega, rfl, by rw [part_zero]; exact hb12, hb2, bt2⟩
  case round =>
    obtain ⟨k, hk, rfl, d0, d1, bt⟩ := hrel
    by_cases hlt : k < 16
    · have hix := index16 s k Hs.out hlt
      have hset := Lib.hid (part_set (sub s) s k 16 Hl2.out Hs.out hlt)
      have hc := Blk.byte d0 (k := k) (by rw [part_len _ _ k 16 Hl2.out Hs.out (by omega)]; exact hlt)
      have hf := d0.free k
      have hsa := Lib.hid (sub_at s k (by rw [Hs.out]; exact hlt))
      obtain ⟨x, hx⟩ : ∃ x, x = s.getD k 0 := ⟨_, rfl⟩
      rw [← hx] at hix hsa
      have hB := d0.lt
      clear hx
      go_wp2_with (go_at_call 33; refine (box_any x _ rfl _).mono ?_; rintro e w' ⟨rfl, rfl⟩)
      go_roundw
      case rel =>
        have hbs := d0.set (k := k) (e8 (box x))
        have hst := hset.out
        rw [hsa.out] at hst
        rw [vb_set, hst] at hbs
        exact ⟨k + 1, by omega, by go_num, hbs, d1.other _ (by omega), bt.setCell (Nat.le_refl _) _⟩
      case measure => simp [intOf]; omega
    · obtain rfl : k = 16 := by omega
      rw [part_all _ _ 16 Hl2.out Hs.out] at d0
      go_wp2_with (first
        | (refine wpList_loadA rfl _ _ rfl rfl d0 Try.underlying22 hsz2 ?_)
        | (refine wpList_storeN rfl _ _ _ rfl rfl (ys := vb (sub s)) rfl d1 (by rw [vb_len, vb_len, Hl2.out]; rfl) (vb_one _) hsz2 ?_; intro w9 hb9 hg9))
      exact bodyPost_ret (v := arrV (vb (sub s))) (results_arr Try.results9 _ hb9 Try.underlying22 hsz2 rfl) rfl ⟨rfl, below_row bt hg9 (by omega) bt.size⟩
set_option maxHeartbeats 400000 in
theorem rsub_any (s : List UInt8) (hs : s.length = 16) (w : World) : Calls Try.prog 10 #[stV s] w fun e w' => e = .returned (stV (sub s)) ∧ Below w.heap.size w w' := by
  have Hs := Lib.hid hs
  have hsz := sizeL hs
  have hl2 : (sub s).length = 16 := by rw [sub_len]; exact hs
  have hsz2 := sizeL hl2
  have Hl2 := Lib.hid hl2
  clear hs hl2
  unfold stV
  go_enter Try.func10, Try.ntmps10
  go_wp2_with (first
    | (refine wpList_boxN rfl _ _ rfl (vb s) rfl ?_; intro w1 hb1 bw1 hs1)
    | (refine wpList_allocN rfl _ rfl (vb zero16) zeroV16 ?_; intro w2 hb2 bw2 hs2; have hb12 := hb1.on bw2; have bt2 := bt bw1 bw2)
    | fail)
  have hB2 := bw1.size
  have l01 : w.heap.size < w1.heap.size := hs1
  obtain ⟨B1, hB1⟩ : ∃ B, B = w1.heap.size := ⟨_, rfl⟩
  rw [← hB1] at hb2 l01 ⊢
  clear hB1 hb1 bw1 bw2 hs1 hs2 hB2
  go_loopw [3] (fun i wr => ∃ k : Nat, k ≤ 16 ∧ i = .int .i64 k ∧ Blk wr w.heap.size (vb (part (sub s) s k)) ∧ Blk wr B1 (vb zero16) ∧ Below w.heap.size w wr) (fun i _ => 16 - (intOf i).toNat)
  case atStart => exact ⟨0, by omega, rfl, by rw [part_zero]; exact hb12, hb2, bt2⟩
  case round =>
    obtain ⟨k, hk, rfl, d0, d1, bt⟩ := hrel
    by_cases hlt : k < 16
    · have hset := Lib.hid (part_set (sub s) s k 16 Hl2.out Hs.out hlt)
      have hc := Blk.byte d0 (k := k) (by rw [part_len _ _ k 16 Hl2.out Hs.out (by omega)]; exact hlt)
      rw [part_old _ _ k k 16 Hl2.out Hs.out (Nat.le_refl _) hlt] at hc
      have hsa := Lib.hid (sub_at s k (by rw [Hs.out]; exact hlt))
      obtain ⟨x, hx⟩ : ∃ x, x = s.getD k 0 := ⟨_, rfl⟩
      rw [← hx] at hc hsa
      have hB := d0.lt
      have hf := d0.free k
      clear hx
      go_wp2_with fail
      refine (rbox_any x _ rfl _).mono ?_
      rintro e w5 ⟨rfl, b5⟩
      have hc5 := (b5.cell (p := ⟨w.heap.size, k, none⟩) hB).trans hc
      have e0 := d0.on b5
      have e1 := d1.on b5
      have hB5 := e0.lt
      have hf5 := e0.free k
      have bt5 := bt.trans (b5.mono bt.size)
      clear hc hB hf
      go_wp2_with fail
      go_roundw
      case rel =>
        have hbs := e0.set (k := k) (e8 (box x))
        have hst := hset.out
        rw [hsa.out] at hst
        rw [vb_set, hst] at hbs
        exact ⟨k + 1, by omega, by go_num, hbs, e1.other _ (by omega), bt5.setCell (Nat.le_refl _) _⟩
      case measure => simp [intOf]; omega
    · obtain rfl : k = 16 := by omega
      rw [part_all _ _ 16 Hl2.out Hs.out] at d0
      go_wp2_with (first
        | (refine wpList_loadA rfl _ _ rfl rfl d0 Try.underlying22 hsz2 ?_)
        | (refine wpList_storeN rfl _ _ _ rfl rfl (ys := vb (sub s)) rfl d1 (by rw [vb_len, vb_len, Hl2.out]; rfl) (vb_one _) hsz2 ?_; intro w9 hb9 hg9))
      exact bodyPost_ret (v := arrV (vb (sub s))) (results_arr Try.results10 _ hb9 Try.underlying22 hsz2 rfl) rfl ⟨rfl, below_row bt hg9 (by omega) bt.size⟩
set_option maxHeartbeats 400000 in
theorem add_any (s t : List UInt8) (hs : s.length = 16) (ht : t.length = 16) (w : World) : Calls Try.prog 15 #[stV s, stV t] w fun e w' => e = .returned (stV (add s t)) ∧ Below w.heap.size w w' := by
  have Hs := Lib.hid hs
  have Ht := Lib.hid ht
  have hsz := sizeL hs
  have hszt := sizeL ht
  have hl2 := add_len s t
  have hsz2 := sizeL hl2
  have Hl2 := Lib.hid hl2
  clear hs hl2 ht
  unfold stV
  go_enter Try.func15, Try.ntmps15
  go_wp2_with (first
    | ((with_reducible show wpList _ _ _ (⟨some 2, _, _, _, _, _⟩ :: _) _ _); refine wpList_boxN rfl _ _ rfl (vb s) rfl ?_; intro w1 hb1 bw1 hs1)
    | ((with_reducible show wpList _ _ _ (⟨some 3, _, _, _, _, _⟩ :: _) _ _); refine wpList_boxN rfl _ _ rfl (vb t) rfl ?_; intro w2 hb2 bw2 hs2; have hb12 := hb1.on bw2; have bt2 := bt bw1 bw2)
    | (refine wpList_allocN rfl _ rfl (vb zero16) zeroV16 ?_; intro w3 hb3 bw3 hs3; have hb13 := hb12.on bw3; have hb23 := hb2.on bw3; have bt3 := bt bt2 bw3)
    | (refine wpList_loadA rfl _ _ rfl rfl hb23 Try.underlying22 hszt ?_)
    | fail)
  have l01 : w.heap.size < w1.heap.size := hs1
  have l12 : w1.heap.size < w2.heap.size := hs2
  obtain ⟨B1, hB1⟩ : ∃ B, B = w1.heap.size := ⟨_, rfl⟩
  obtain ⟨B2, hB2⟩ : ∃ B, B = w2.heap.size := ⟨_, rfl⟩
  rw [← hB1] at hb23 l01 l12 ⊢
  rw [← hB2] at hb3 l12 ⊢
  clear hB1 hB2 hb1 hb2 hb12 bw1 bw2 bw3 hs1 hs2 hs3 bt2
  go_loopw [8] (fun i wr => ∃ k : Nat, k ≤ 16 ∧ i = .int .i64 k ∧ Blk wr w.heap.size (vb (part (add s t) s k)) ∧ Blk wr B2 (vb zero16) ∧ Below w.heap.size w wr) (fun i _ => 16 - (intOf i).toNat)
  case atStart => exact ⟨0, by omega, rfl, by rw [part_zero]; exact hb13, hb3, bt3⟩
  case round =>
    obtain ⟨k, hk, rfl, d0, d1, bt⟩ := hrel
    by_cases hlt : k < 16
    · have hix := index16 t k Ht.out hlt
      have hset := Lib.hid (part_set (add s t) s k 16 Hl2.out Hs.out hlt)
      have hc := Blk.byte d0 (k := k) (by rw [part_len _ _ k 16 Hl2.out Hs.out (by omega)]; exact hlt)
      rw [part_old _ _ k k 16 Hl2.out Hs.out (Nat.le_refl _) hlt] at hc
      have hf := d0.free k
      have hsa := Lib.hid (of16_at (fun i => s.getD i 0 ^^^ t.getD i 0) k hlt)
      obtain ⟨x, hx⟩ : ∃ x, x = s.getD k 0 := ⟨_, rfl⟩
      obtain ⟨y, hy⟩ : ∃ y, y = t.getD k 0 := ⟨_, rfl⟩
      rw [← hx] at hc hsa
      rw [← hy] at hix hsa
      have hB := d0.lt
      clear hx hy
      go_wp2
      go_roundw
      case rel =>
        have hbs := d0.set (k := k) (e8 (x ^^^ y))
        have hst := hset.out
        rw [show (add s t).getD k 0 = x ^^^ y from hsa.out] at hst
        rw [vb_set, hst] at hbs
        rw [xor8]
        exact ⟨k + 1, by omega, by go_num, hbs, d1.other _ (by omega), bt.setCell (Nat.le_refl _) _⟩
      case measure => simp [intOf]; omega
    · obtain rfl : k = 16 := by omega
      rw [part_all _ _ 16 Hl2.out Hs.out] at d0
      go_wp2_with (first
        | (refine wpList_loadA rfl _ _ rfl rfl d0 Try.underlying22 hsz2 ?_)
        | (refine wpList_storeN rfl _ _ _ rfl rfl (ys := vb (add s t)) rfl d1 (by rw [vb_len, vb_len, Hl2.out]; rfl) (vb_one _) hsz2 ?_; intro w9 hb9 hg9))
      exact bodyPost_ret (v := arrV (vb (add s t))) (results_arr Try.results15 _ hb9 Try.underlying22 hsz2 rfl) rfl ⟨rfl, below_row bt hg9 (by omega) bt.size⟩
end Go.Proofs.Yteecbjpnnklbpaa.Aes
