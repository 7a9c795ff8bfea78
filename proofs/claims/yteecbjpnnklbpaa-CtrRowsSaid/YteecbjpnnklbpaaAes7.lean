/- The walk of aes.turned. -/
import Derived.Test.YteecbjpnnklbpaaAes6
namespace Go.Proofs.Yteecbjpnnklbpaa.Aes
open Go.RowKit
open Go.Proofs.Yteecbjpnnklbpaa.Gf
set_option linter.unusedVariables false
set_option maxRecDepth 100000
def zero4 : List UInt8 := [0, 0, 0, 0]
theorem size4L (x : Col) : (Try.prog.info? 51).map (·.size) = some (vb (colL x)).length := size4
theorem index4 (x : Col) (k : Nat) (hk : k < 4) (w : World) : (Instr.index 51 (arrV (vb (colL x))) (.int .i64 (k : Int))).run Try.prog w = .ok (e8 (colGet x k)) w := by
  rw [← colL_get x k hk]
  refine run_index_ints (P := Try.prog) (n := 4) (k := .i64) Try.underlying51 Try.underlying5 (by kernel_rfl) hk ?_ w
  match k, hk with
  | 0, _ => rfl
  | 1, _ => rfl
  | 2, _ => rfl
  | 3, _ => rfl
/-- the first k bytes boxed -/
def boxP (x : Col) (k : Nat) : List UInt8 := part (colL (boxC x)) (colL x) k
theorem boxP_set (x : Col) (k : Nat) (h : k < 4) : (boxP x k).set k (box (colGet x k)) = boxP x (k + 1) := by
  have := part_set (colL (boxC x)) (colL x) k 4 rfl rfl h
  rw [colL_get _ _ h] at this
  rw [boxP, boxP, ← this]
  congr 1
  match k, h with
  | 0, _ => rfl
  | 1, _ => rfl
  | 2, _ => rfl
  | 3, _ => rfl
set_option maxHeartbeats 800000 in
theorem turned_any (x : Col) (i : Nat) (m : Int) (hm : m = (i : Int)) (h8 : 8 ≤ i) (hi : i < 60) (w : World) : Calls Try.prog 37 #[arrV (vb (colL x)), .int .i64 m] w fun e w' => e = .returned (arrV (vb (colL (turn x i)))) ∧ Below w.heap.size w w' := by
  subst hm
  have t8 : ((i : Int)).tmod 8 = ((i % 8 : Nat) : Int) := by rw [Int.tmod_eq_emod_of_nonneg (by omega)]; omega
  have t4 : ((i : Int)).tmod 4 = ((i % 4 : Nat) : Int) := by rw [Int.tmod_eq_emod_of_nonneg (by omega)]; omega
  by_cases e4 : i % 4 = 0
  · by_cases e8' : i % 8 = 0
    · have ht := Lib.hid (show colL (turn x i) = (colL (boxC (rotC x))).set 0 (box (rotC x).a ^^^ pow 2 (i / 8 - 1)) by unfold turn; rw [if_pos e8']; rfl)
      rw [e4] at t4
      rw [e8'] at t8
      obtain ⟨p, hp⟩ : ∃ p, p = i / 8 - 1 := ⟨_, rfl⟩
      have hp8 : p < 8 := by omega
      have tq : ((i : Int)).tdiv 8 = ((p + 1 : Nat) : Int) := by rw [Int.tdiv_eq_ediv_of_nonneg (by omega)]; omega
      have wq : IntKind.i64.wrap (((p + 1 : Nat) : Int) - 1) = (p : Int) := by rw [IntKind.wrap_i64]; omega
      have wp1 : IntKind.i64.wrap ((p + 1 : Nat) : Int) = ((p + 1 : Nat) : Int) := by rw [IntKind.wrap_i64]; omega
      have hex : expo (p : Int) = p := by unfold expo; rw [if_neg (by omega)]; omega
      obtain ⟨p1, hp1⟩ : ∃ q, q = p + 1 := ⟨_, rfl⟩
      rw [← hp1] at tq wq wp1
      rw [← hp] at ht
      have hpw := power_any 2 2 (p : Int) rfl (by omega) (by omega)
      rw [hex] at hpw
      obtain ⟨P, hP⟩ : ∃ P, P = pow 2 p := ⟨_, rfl⟩
      rw [← hP] at ht hpw
      have Hpw := Lib.hid hpw
      clear hpw hP hp1 hp hex e4 e8'
      obtain ⟨X, hX⟩ : ∃ X, X = rotC x := ⟨_, rfl⟩
      have hXv : colL X = [x.b, x.c, x.d, x.a] := by rw [hX]; rfl
      rw [← hX] at ht
      have HXv := Lib.hid hXv
      clear hX hXv
      go_enter Try.func37, Try.ntmps37
      go_wp2_with (first
        | ((with_reducible show wpList _ _ _ (⟨some 2, _, _, _, _, _⟩ :: _) _ _); refine wpList_boxN rfl _ _ rfl (vb (colL x)) rfl ?_; intro w1 hb1 bw1 hs1)
        | ((with_reducible show wpList _ _ _ (⟨some 4, _, _, _, _, _⟩ :: _) _ _); refine wpList_allocN rfl _ rfl (vb zero4) zeroV4 ?_; intro w2 hb2 bw2 hs2; have hb12 := hb1.on bw2; have bt2 := bt bw1 bw2; have g0 := Blk.byte hb12 (k := 0) (by simp [colL]); have g1 := Blk.byte hb12 (k := 1) (by simp [colL]); have g2 := Blk.byte hb12 (k := 2) (by simp [colL]); have g3 := Blk.byte hb12 (k := 3) (by simp [colL]); rw [show (colL x).getD 0 0 = x.a from rfl] at g0; rw [show (colL x).getD 1 0 = x.b from rfl] at g1; rw [show (colL x).getD 2 0 = x.c from rfl] at g2; rw [show (colL x).getD 3 0 = x.d from rfl] at g3; have lt0 := hb12.lt; have hlt1 : w.heap.size ≠ w1.heap.size := by omega)
        | ((with_reducible show wpList _ _ _ (⟨none, .store 51 (.tmp 2) _, _, _, _, _⟩ :: _) _ _); refine wpList_storeN rfl _ _ _ rfl rfl (ys := vb (colL X)) (by rw [HXv.out]; rfl) hb12 rfl (vb_one _) (size4L X) ?_; intro w3 hb13 hg3; have hb23 := hb2.grown hg3 (by simp; omega); have bt3 := below_row bt2 hg3 (Nat.le_refl _) bt2.size)
        | ((with_reducible show wpList _ _ _ (⟨some 23, _, _, _, _, _⟩ :: _) _ _); refine wpList_loadA rfl _ _ rfl rfl hb13 Try.underlying51 (size4L X) ?_)
        | fail)
      have l01 : w.heap.size < w1.heap.size := hs1
      obtain ⟨B1, hB1⟩ : ∃ B, B = w1.heap.size := ⟨_, rfl⟩
      rw [← hB1] at hb23 l01 ⊢
      have hbX := hb13
      have hb2X := hb23
      have btX := bt3
      clear hB1 hb1 hb12 hb2 bw1 bw2 hs1 hs2 bt2 g0 g1 g2 g3 lt0 hlt1 hb13 hb23 bt3 hg3
      go_loopw [5, 6, 24] (fun _ _ i wr => ∃ k : Nat, k ≤ 4 ∧ i = .int .i64 k ∧ Blk wr w.heap.size (vb (boxP X k)) ∧ Blk wr B1 (vb zero4) ∧ Below w.heap.size w wr) (fun _ _ i _ => 4 - (intOf i).toNat)
      case atStart => exact ⟨0, by omega, rfl, by rw [boxP, part_zero]; exact hbX, hb2X, btX⟩
      case round =>
        obtain ⟨k, hk, rfl, d0, d1, bt0⟩ := hrel
        clear hbX hb2X btX
        by_cases hlt : k < 4
        · have hix := index4 X k hlt
          have hset := Lib.hid (boxP_set X k hlt)
          have hc := Blk.byte d0 (k := k) (by rw [boxP, part_len _ _ k 4 rfl rfl (by omega)]; exact hlt)
          have hf := d0.free k
          have hB := d0.lt
          obtain ⟨y, hy⟩ : ∃ y, y = colGet X k := ⟨_, rfl⟩
          rw [← hy] at hix hset
          clear hy
          go_wp2_with (go_at_call 33; refine (box_any y _ rfl _).mono ?_; rintro e w' ⟨rfl, rfl⟩)
          go_roundw
          case rel =>
            have hbs := d0.set (k := k) (e8 (box y))
            rw [vb_set, hset.out] at hbs
            exact ⟨k + 1, by omega, by go_num, hbs, d1.other _ (by omega), bt0.setCell (Nat.le_refl _) _⟩
          case measure => simp [intOf]; omega
        · obtain rfl : k = 4 := by omega
          rw [boxP, part_all _ _ 4 rfl rfl] at d0
          have hc0 := Blk.byte d0 (k := 0) (by simp [colL])
          rw [show (colL (boxC X)).getD 0 0 = box X.a from rfl] at hc0
          have hf0 := d0.free 0
          have hB := d0.lt
          obtain ⟨y, hy⟩ : ∃ y, y = box X.a := ⟨_, rfl⟩
          rw [← hy] at hc0 ht
          have Hy := Lib.hid hy
          clear hy
          go_wp2
          refine region_inb_tail 8 (by kernel_rfl) (by kernel_rfl) ?_
          simp only [List.take_succ_cons, List.take_zero, List.drop_succ_cons, List.drop_zero]
          have inbNe := InB.some
          have inbW := @wrap_small
          have inbU := IntKind.wrap_u8'
          repeat (refine wpQuiet_step (fun K hK => ?_); go_simp; first | (refine hK _ ?_; clear hK K) | (apply Exists.intro; refine ⟨?_, hK _ ?_⟩; (· (intro w' hw'; first | (go_at_call 49; refine (Hpw.out _).mono ?_; rintro e w1 ⟨rfl, rfl⟩; exact ⟨rfl, hw'⟩) | (have hcw := hw'.cell; go_simp; exact rfl))); clear hK K))
          refine wpQuiet_nil ?_
          intro wq hq
          clear inbNe inbW inbU
          have q0 := d0.on hq.below
          have q1 := d1.on hq.below
          have btq := bt bt0 hq.below
          have hc1 := (hq.below.cell (p := ⟨w.heap.size, 0, none⟩) hB).trans hc0
          have hf1 := q0.free 0
          clear hq
          rw [xor8]
          have hbs := q0.set (k := 0) (e8 (y ^^^ P))
          rw [vb_set, ← ht.out] at hbs
          have r1 := q1.other (k := 0) (b := w.heap.size) (e8 (y ^^^ P)) (by omega)
          have btr := bset_new btq 0 (e8 (y ^^^ P))
          go_wp2_with (first
            | ((with_reducible show wpList _ _ _ (⟨some 44, _, _, _, _, _⟩ :: _) _ _); refine wpList_loadA rfl _ _ rfl rfl hbs Try.underlying51 (size4L (turn x i)) ?_)
            | ((with_reducible show wpList _ _ _ (⟨none, .store 51 (.tmp 4) _, _, _, _, _⟩ :: _) _ _); refine wpList_storeN rfl _ _ _ rfl rfl (ys := vb (colL (turn x i))) rfl r1 rfl (vb_one _) (size4L _) ?_; intro w9 hb9 hg9)
            | fail)
          exact bodyPost_ret (v := arrV (vb (colL (turn x i)))) (results_arr Try.results37 _ hb9 Try.underlying51 (size4L _) rfl) rfl ⟨rfl, below_row btr hg9 (by omega) btr.size⟩
    · have f8 : (((i % 8 : Nat) : Int) == 0) = false := beq_no (by omega)
      have ht := Lib.hid (show turn x i = boxC x by unfold turn; rw [if_neg e8', if_pos e4])
      rw [e4] at t4
      obtain ⟨q8, hq8⟩ : ∃ q, q = i % 8 := ⟨_, rfl⟩
      rw [← hq8] at t8 f8
      clear hq8 e4 e8'
      obtain ⟨X, hX⟩ : ∃ X, X = x := ⟨_, rfl⟩
      subst hX
      go_enter Try.func37, Try.ntmps37
      go_wp2_with (first
        | ((with_reducible show wpList _ _ _ (⟨some 2, _, _, _, _, _⟩ :: _) _ _); refine wpList_boxN rfl _ _ rfl (vb (colL X)) rfl ?_; intro w1 hb1 bw1 hs1)
        | ((with_reducible show wpList _ _ _ (⟨some 4, _, _, _, _, _⟩ :: _) _ _); refine wpList_allocN rfl _ rfl (vb zero4) zeroV4 ?_; intro w2 hb2 bw2 hs2; have hb12 := hb1.on bw2; have bt2 := bt bw1 bw2)
        | ((with_reducible show wpList _ _ _ (⟨some 23, _, _, _, _, _⟩ :: _) _ _); refine wpList_loadA rfl _ _ rfl rfl hb12 Try.underlying51 (size4L X) ?_)
        | fail)
      have l01 : w.heap.size < w1.heap.size := hs1
      obtain ⟨B1, hB1⟩ : ∃ B, B = w1.heap.size := ⟨_, rfl⟩
      rw [← hB1] at hb2 l01 ⊢
      have hbX := hb12
      have hb2X := hb2
      have btX := bt2
      clear hB1 hb1 hb12 hb2 bw1 bw2 hs1 hs2 bt2
      go_loopw [5, 6, 24] (fun _ _ i wr => ∃ k : Nat, k ≤ 4 ∧ i = .int .i64 k ∧ Blk wr w.heap.size (vb (boxP X k)) ∧ Blk wr B1 (vb zero4) ∧ Below w.heap.size w wr) (fun _ _ i _ => 4 - (intOf i).toNat)
      case atStart => exact ⟨0, by omega, rfl, by rw [boxP, part_zero]; exact hbX, hb2X, btX⟩
      case round =>
        obtain ⟨k, hk, rfl, d0, d1, bt0⟩ := hrel
        clear hbX hb2X btX
        by_cases hlt : k < 4
        · have hix := index4 X k hlt
          have hset := Lib.hid (boxP_set X k hlt)
          have hc := Blk.byte d0 (k := k) (by rw [boxP, part_len _ _ k 4 rfl rfl (by omega)]; exact hlt)
          have hf := d0.free k
          have hB := d0.lt
          obtain ⟨y, hy⟩ : ∃ y, y = colGet X k := ⟨_, rfl⟩
          rw [← hy] at hix hset
          clear hy
          go_wp2_with (go_at_call 33; refine (box_any y _ rfl _).mono ?_; rintro e w' ⟨rfl, rfl⟩)
          go_roundw
          case rel =>
            have hbs := d0.set (k := k) (e8 (box y))
            rw [vb_set, hset.out] at hbs
            exact ⟨k + 1, by omega, by go_num, hbs, d1.other _ (by omega), bt0.setCell (Nat.le_refl _) _⟩
          case measure => simp [intOf]; omega
        · obtain rfl : k = 4 := by omega
          rw [boxP, part_all _ _ 4 rfl rfl] at d0
          go_wp2_with (first
            | ((with_reducible show wpList _ _ _ (⟨some 44, _, _, _, _, _⟩ :: _) _ _); refine wpList_loadA rfl _ _ rfl rfl d0 Try.underlying51 (size4L (boxC X)) ?_)
            | ((with_reducible show wpList _ _ _ (⟨none, .store 51 (.tmp 4) _, _, _, _, _⟩ :: _) _ _); refine wpList_storeN rfl _ _ _ rfl rfl (ys := vb (colL (boxC X))) rfl d1 rfl (vb_one _) (size4L _) ?_; intro w9 hb9 hg9)
            | fail)
          rw [ht.out]
          exact bodyPost_ret (v := arrV (vb (colL (boxC X)))) (results_arr Try.results37 _ hb9 Try.underlying51 (size4L _) rfl) rfl ⟨rfl, below_row bt0 hg9 (by omega) bt0.size⟩
  · have e8' : i % 8 ≠ 0 := by omega
    have f8 : (((i % 8 : Nat) : Int) == 0) = false := beq_no (by omega)
    have f4 : (((i % 4 : Nat) : Int) != 0) = true := bne_yes (by omega)
    have ht := Lib.hid (show turn x i = x by unfold turn; rw [if_neg e8', if_neg e4])
    obtain ⟨q8, hq8⟩ : ∃ q, q = i % 8 := ⟨_, rfl⟩
    obtain ⟨q4, hq4⟩ : ∃ q, q = i % 4 := ⟨_, rfl⟩
    rw [← hq8] at t8 f8
    rw [← hq4] at t4 f4
    clear hq8 hq4 e4 e8'
    go_enter Try.func37, Try.ntmps37
    go_wp2_with (first
      | ((with_reducible show wpList _ _ _ (⟨some 2, _, _, _, _, _⟩ :: _) _ _); refine wpList_boxN rfl _ _ rfl (vb (colL x)) rfl ?_; intro w1 hb1 bw1 hs1)
      | ((with_reducible show wpList _ _ _ (⟨some 4, _, _, _, _, _⟩ :: _) _ _); refine wpList_allocN rfl _ rfl (vb zero4) zeroV4 ?_; intro w2 hb2 bw2 hs2; have hb12 := hb1.on bw2; have bt2 := bt bw1 bw2)
      | ((with_reducible show wpList _ _ _ (⟨some 22, _, _, _, _, _⟩ :: _) _ _); refine wpList_loadA rfl _ _ rfl rfl hb12 Try.underlying51 (size4L x) ?_)
      | ((with_reducible show wpList _ _ _ (⟨none, .store 51 (.tmp 4) _, _, _, _, _⟩ :: _) _ _); refine wpList_storeN rfl _ _ _ rfl rfl (ys := vb (colL x)) rfl hb2 rfl (vb_one _) (size4L x) ?_; intro w9 hb9 hg9)
      | fail)
    rw [ht.out]
    exact bodyPost_ret (v := arrV (vb (colL x))) (results_arr Try.results37 _ hb9 Try.underlying51 (size4L x) rfl) rfl ⟨rfl, below_row bt2 hg9 (by omega) bt2.size⟩
end Go.Proofs.Yteecbjpnnklbpaa.Aes
