/- Texts of this claim, joined: Aes7, Aes8, Aes9, Aes10, Aes11, Aes12, Aes13, Aes14, Aes15. -/
import Derived.Test.YteecbjpnnklbpaaDoorGC
import Derived.Test.YteecbjpnnklbpaaDoorGA
/- The walk of aes.turned. -/
namespace Go.Proofs.YteecbjpnnklbpaaDoor.Aes
open Go.RowKit
open Go.Proofs.YteecbjpnnklbpaaDoor.Gf
set_option linter.unusedVariables false
set_option maxRecDepth 100000
def zero4 : List UInt8 := [0, 0, 0, 0]
theorem size4L (x : Col) : (Tryd.prog.info? 112).map (·.size) = some (vb (colL x)).length := size4
theorem index4 (x : Col) (k : Nat) (hk : k < 4) (w : World) : (Instr.index 112 (arrV (vb (colL x))) (.int .i64 (k : Int))).run Tryd.prog w = .ok (e8 (colGet x k)) w := by
  rw [← colL_get x k hk]
  refine run_index_ints (P := Tryd.prog) (n := 4) (k := .i64) Tryd.underlying112 Tryd.underlying5 (by kernel_rfl) hk ?_ w
  match k, hk with
  | 0, _ => rfl
  | 1, _ => rfl
  | 2, _ => rfl
  | 3, _ => rfl
/-- the first k bytes boxed -/
def boxP (x : Col) (k : Nat) : List UInt8 := part (colL (boxC x)) (colL x) k
theorem boxP_set (x : Col) (k : Nat) (h : k < 4) : (boxP x k).set k (box (colGet x k)) = boxP x (k + 1) := by
  have := part_set (colL (boxC x)) (colL x) k 4 rfl rfl h
  rw [colL_get _ _ h] at this
  rw [boxP, boxP, ← this]
  congr 1
  match k, h with
  | 0, _ => rfl
  | 1, _ => rfl
  | 2, _ => rfl
  | 3, _ => rfl
set_option maxHeartbeats 800000 in
theorem turned_any (x : Col) (i : Nat) (m : Int) (hm : m = (i : Int)) (h8 : 8 ≤ i) (hi : i < 60) (w : World) : Calls Tryd.prog 108 #[arrV (vb (colL x)), .int .i64 m] w fun e w' => e = .returned (arrV (vb (colL (turn x i)))) ∧ Below w.heap.size w w' := by
  subst hm
  have t8 : ((i : Int)).tmod 8 = ((i % 8 : Nat) : Int) := by rw [Int.tmod_eq_emod_of_nonneg (by omega)]; omega
  have t4 : ((i : Int)).tmod 4 = ((i % 4 : Nat) : Int) := by rw [Int.tmod_eq_emod_of_nonneg (by omega)]; omega
  by_cases e4 : i % 4 = 0
  · by_cases e8' : i % 8 = 0
    · have ht := Lib.hid (show colL (turn x i) = (colL (boxC (rotC x))).set 0 (box (rotC x).a ^^^ pow 2 (i / 8 - 1)) by unfold turn; rw [if_pos e8']; rfl)
      rw [e4] at t4
      rw [e8'] at t8
      obtain ⟨p, hp⟩ : ∃ p, p = i / 8 - 1 := ⟨_, rfl⟩
      have hp8 : p < 8 := by omega
      have tq : ((i : Int)).tdiv 8 = ((p + 1 : Nat) : Int) := by rw [Int.tdiv_eq_ediv_of_nonneg (by omega)]; omega
      have wq : IntKind.i64.wrap (((p + 1 : Nat) : Int) - 1) = (p : Int) := by rw [IntKind.wrap_i64]; omega
      have wp1 : IntKind.i64.wrap ((p + 1 : Nat) : Int) = ((p + 1 : Nat) : Int) := by rw [IntKind.wrap_i64]; omega
      have hex : expo (p : Int) = p := by unfold expo; rw [if_neg (by omega)]; omega
      obtain ⟨p1, hp1⟩ : ∃ q, q = p + 1 := ⟨_, rfl⟩
      rw [← hp1] at tq wq wp1
      rw [← hp] at ht
      have hpw := power_any 2 2 (p : Int) rfl (by omega) (by omega)
      rw [hex] at hpw
      obtain ⟨P, hP⟩ : ∃ P, P = pow 2 p := ⟨_, rfl⟩
      rw [← hP] at ht hpw
      have Hpw := Lib.hid hpw
      clear hpw hP hp1 hp hex e4 e8'
      obtain ⟨X, hX⟩ : ∃ X, X = rotC x := ⟨_, rfl⟩
      have hXv : colL X = [x.b, x.c, x.d, x.a] := by rw [hX]; rfl
      rw [← hX] at ht
      have HXv := Lib.hid hXv
      clear hX hXv
      go_enter Tryd.func108, Tryd.ntmps108
      go_wp2_with (first
        | ((with_reducible show wpList _ _ _ (⟨some 2, _, _, _, _, _⟩ :: _) _ _); refine wpList_boxN rfl _ _ rfl (vb (colL x)) rfl ?_; intro w1 hb1 bw1 hs1)
        | ((with_reducible show wpList _ _ _ (⟨some 4, _, _, _, _, _⟩ :: _) _ _); refine wpList_allocN rfl _ rfl (vb zero4) zeroV4 ?_; intro w2 hb2 bw2 hs2; have hb12 := hb1.on bw2; have bt2 := bt bw1 bw2; have g0 := Blk.byte hb12 (k := 0) (by simp [colL]); have g1 := Blk.byte hb12 (k := 1) (by simp [colL]); have g2 := Blk.byte hb12 (k := 2) (by simp [colL]); have g3 := Blk.byte hb12 (k := 3) (by simp [colL]); rw [show (colL x).getD 0 0 = x.a from rfl] at g0; rw [show (colL x).getD 1 0 = x.b from rfl] at g1; rw [show (colL x).getD 2 0 = x.c from rfl] at g2; rw [show (colL x).getD 3 0 = x.d from rfl] at g3; have lt0 := hb12.lt; have hlt1 : w.heap.size ≠ w1.heap.size := by omega)
        | ((with_reducible show wpList _ _ _ (⟨none, .store 112 (.tmp 2) _, _, _, _, _⟩ :: _) _ _); refine wpList_storeN rfl _ _ _ rfl rfl (ys := vb (colL X)) (by rw [HXv.out]; rfl) hb12 rfl (vb_one _) (size4L X) ?_; intro w3 hb13 hg3; have hb23 := hb2.grown hg3 (by simp; omega); have bt3 := below_row bt2 hg3 (Nat.le_refl _) bt2.size)
        | ((with_reducible show wpList _ _ _ (⟨some 23, _, _, _, _, _⟩ :: _) _ _); refine wpList_loadA rfl _ _ rfl rfl hb13 Tryd.underlying112 (size4L X) ?_)
        | fail)
      have l01 : w.heap.size < w1.heap.size := hs1
      obtain ⟨B1, hB1⟩ : ∃ B, B = w1.heap.size := ⟨_, rfl⟩
      rw [← hB1] at hb23 l01 ⊢
      have hbX := hb13
      have hb2X := hb23
      have btX := bt3
      clear hB1 hb1 hb12 hb2 bw1 bw2 hs1 hs2 bt2 g0 g1 g2 g3 lt0 hlt1 hb13 hb23 bt3 hg3
      go_loopw [5, 6, 24] (fun _ _ i wr => ∃ k : Nat, k ≤ 4 ∧ i = .int .i64 k ∧ Blk wr w.heap.size (vb (boxP X k)) ∧ Blk wr B1 (vb zero4) ∧ Below w.heap.size w wr) (fun _ _ i _ => 4 - (intOf i).toNat)
      case atStart => exact ⟨0, by omega, rfl, by rw [boxP, part_zero]; exact hbX, hb2X, btX⟩
      case round =>
        obtain ⟨k, hk, rfl, d0, d1, bt0⟩ := hrel
        clear hbX hb2X btX
        by_cases hlt : k < 4
        · have hix := index4 X k hlt
          have hset := Lib.hid (boxP_set X k hlt)
          have hc := Blk.byte d0 (k := k) (by rw [boxP, part_len _ _ k 4 rfl rfl (by omega)]; exact hlt)
          have hf := d0.free k
          have hB := d0.lt
          obtain ⟨y, hy⟩ : ∃ y, y = colGet X k := ⟨_, rfl⟩
          rw [← hy] at hix hset
          clear hy
          go_wp2_with (go_at_call 110; refine (box_any y _ rfl _).mono ?_; rintro e w' ⟨rfl, rfl⟩)
          go_roundw
          case rel =>
            have hbs := d0.set (k := k) (e8 (box y))
            rw [vb_set, hset.out] at hbs
            exact ⟨k + 1, by omega, by go_num, hbs, d1.other _ (by omega), bt0.setCell (Nat.le_refl _) _⟩
          case measure => simp [intOf]; omega
        · obtain rfl : k = 4 := by omega
          rw [boxP, part_all _ _ 4 rfl rfl] at d0
          have hc0 := Blk.byte d0 (k := 0) (by simp [colL])
          rw [show (colL (boxC X)).getD 0 0 = box X.a from rfl] at hc0
          have hf0 := d0.free 0
          have hB := d0.lt
          obtain ⟨y, hy⟩ : ∃ y, y = box X.a := ⟨_, rfl⟩
          rw [← hy] at hc0 ht
          have Hy := Lib.hid hy
          clear hy
          go_wp2
          refine region_inb_tail 8 (by kernel_rfl) (by kernel_rfl) ?_
          simp only [List.take_succ_cons, List.take_zero, List.drop_succ_cons, List.drop_zero]
          have inbNe := InB.some
          have inbW := @wrap_small
          have inbU := IntKind.wrap_u8'
          repeat (refine wpQuiet_step (fun K hK => ?_); go_simp; first | (refine hK _ ?_; clear hK K) | (apply Exists.intro; refine ⟨?_, hK _ ?_⟩; (· (intro w' hw'; first | (go_at_call 120; refine (Hpw.out _).mono ?_; rintro e w1 ⟨rfl, rfl⟩; exact ⟨rfl, hw'⟩) | (have hcw := hw'.cell; go_simp; exact rfl))); clear hK K))
          refine wpQuiet_nil ?_
          intro wq hq
          clear inbNe inbW inbU
          have q0 := d0.on hq.below
          have q1 := d1.on hq.below
          have btq := bt bt0 hq.below
          have hc1 := (hq.below.cell (p := ⟨w.heap.size, 0, none⟩) hB).trans hc0
          have hf1 := q0.free 0
          clear hq
          rw [xor8]
          have hbs := q0.set (k := 0) (e8 (y ^^^ P))
          rw [vb_set, ← ht.out] at hbs
          have r1 := q1.other (k := 0) (b := w.heap.size) (e8 (y ^^^ P)) (by omega)
          have btr := bset_new btq 0 (e8 (y ^^^ P))
          go_wp2_with (first
            | ((with_reducible show wpList _ _ _ (⟨some 44, _, _, _, _, _⟩ :: _) _ _); refine wpList_loadA rfl _ _ rfl rfl hbs Tryd.underlying112 (size4L (turn x i)) ?_)
            | ((with_reducible show wpList _ _ _ (⟨none, .store 112 (.tmp 4) _, _, _, _, _⟩ :: _) _ _); refine wpList_storeN rfl _ _ _ rfl rfl (ys := vb (colL (turn x i))) rfl r1 rfl (vb_one _) (size4L _) ?_; intro w9 hb9 hg9)
            | fail)
          exact bodyPost_ret (v := arrV (vb (colL (turn x i)))) (results_arr Tryd.results108 _ hb9 Tryd.underlying112 (size4L _) rfl) rfl ⟨rfl, below_row btr hg9 (by omega) btr.size⟩
    · have f8 : (((i % 8 : Nat) : Int) == 0) = false := beq_no (by omega)
      have ht := Lib.hid (show turn x i = boxC x by unfold turn; rw [if_neg e8', if_pos e4])
      rw [e4] at t4
      obtain ⟨q8, hq8⟩ : ∃ q, q = i % 8 := ⟨_, rfl⟩
      rw [← hq8] at t8 f8
      clear hq8 e4 e8'
      obtain ⟨X, hX⟩ : ∃ X, X = x := ⟨_, rfl⟩
      subst hX
      go_enter Tryd.func108, Tryd.ntmps108
      go_wp2_with (first
        | ((with_reducible show wpList _ _ _ (⟨some 2, _, _, _, _, _⟩ :: _) _ _); refine wpList_boxN rfl _ _ rfl (vb (colL X)) rfl ?_; intro w1 hb1 bw1 hs1)
        | ((with_reducible show wpList _ _ _ (⟨some 4, _, _, _, _, _⟩ :: _) _ _); refine wpList_allocN rfl _ rfl (vb zero4) zeroV4 ?_; intro w2 hb2 bw2 hs2; have hb12 := hb1.on bw2; have bt2 := bt bw1 bw2)
        | ((with_reducible show wpList _ _ _ (⟨some 23, _, _, _, _, _⟩ :: _) _ _); refine wpList_loadA rfl _ _ rfl rfl hb12 Tryd.underlying112 (size4L X) ?_)
        | fail)
      have l01 : w.heap.size < w1.heap.size := hs1
      obtain ⟨B1, hB1⟩ : ∃ B, B = w1.heap.size := ⟨_, rfl⟩
      rw [← hB1] at hb2 l01 ⊢
      have hbX := hb12
      have hb2X := hb2
      have btX := bt2
      clear hB1 hb1 hb12 hb2 bw1 bw2 hs1 hs2 bt2
      go_loopw [5, 6, 24] (fun _ _ i wr => ∃ k : Nat, k ≤ 4 ∧ i = .int .i64 k ∧ Blk wr w.heap.size (vb (boxP X k)) ∧ Blk wr B1 (vb zero4) ∧ Below w.heap.size w wr) (fun _ _ i _ => 4 - (intOf i).toNat)
      case atStart => exact ⟨0, by omega, rfl, by rw [boxP, part_zero]; exact hbX, hb2X, btX⟩
      case round =>
        obtain ⟨k, hk, rfl, d0, d1, bt0⟩ := hrel
        clear hbX hb2X btX
        by_cases hlt : k < 4
        · have hix := index4 X k hlt
          have hset := Lib.hid (boxP_set X k hlt)
          have hc := Blk.byte d0 (k := k) (by rw [boxP, part_len _ _ k 4 rfl rfl (by omega)]; exact hlt)
          have hf := d0.free k
          have hB := d0.lt
          obtain ⟨y, hy⟩ : ∃ y, y = colGet X k := ⟨_, rfl⟩
          rw [← hy] at hix hset
          clear hy
          go_wp2_with (go_at_call 110; refine (box_any y _ rfl _).mono ?_; rintro e w' ⟨rfl, rfl⟩)
          go_roundw
          case rel =>
            have hbs := d0.set (k := k) (e8 (box y))
            rw [vb_set, hset.out] at hbs
            exact ⟨k + 1, by omega, by go_num, hbs, d1.other _ (by omega), bt0.setCell (Nat.le_refl _) _⟩
          case measure => simp [intOf]; omega
        · obtain rfl : k = 4 := by omega
          rw [boxP, part_all _ _ 4 rfl rfl] at d0
          go_wp2_with (first
            | ((with_reducible show wpList _ _ _ (⟨some 44, _, _, _, _, _⟩ :: _) _ _); refine wpList_loadA rfl _ _ rfl rfl d0 Tryd.underlying112 (size4L (boxC X)) ?_)
            | ((with_reducible show wpList _ _ _ (⟨none, .store 112 (.tmp 4) _, _, _, _, _⟩ :: _) _ _); refine wpList_storeN rfl _ _ _ rfl rfl (ys := vb (colL (boxC X))) rfl d1 rfl (vb_one _) (size4L _) ?_; intro w9 hb9 hg9)
            | fail)
          rw [ht.out]
          exact bodyPost_ret (v := arrV (vb (colL (boxC X)))) (results_arr Tryd.results108 _ hb9 Tryd.underlying112 (size4L _) rfl) rfl ⟨rfl, below_row bt0 hg9 (by omega) bt0.size⟩
  · have e8' : i % 8 ≠ 0 := by omega
    have f8 : (((i % 8 : Nat) : Int) == 0) = false := beq_no (by omega)
    have f4 : (((i % 4 : Nat) : Int) != 0) = true := bne_yes (by omega)
    have ht := Lib.hid (show turn x i = x by unfold turn; rw [if_neg e8', if_neg e4])
    obtain ⟨q8, hq8⟩ : ∃ q, q = i % 8 := ⟨_, rfl⟩
    obtain ⟨q4, hq4⟩ : ∃ q, q = i % 4 := ⟨_, rfl⟩
    rw [← hq8] at t8 f8
    rw [← hq4] at t4 f4
    clear hq8 hq4 e4 e8'
    go_enter Tryd.func108, Tryd.ntmps108
    go_wp2_with (first
      | ((with_reducible show wpList _ _ _ (⟨some 2, _, _, _, _, _⟩ :: _) _ _); refine wpList_boxN rfl _ _ rfl (vb (colL x)) rfl ?_; intro w1 hb1 bw1 hs1)
      | ((with_reducible show wpList _ _ _ (⟨some 4, _, _, _, _, _⟩ :: _) _ _); refine wpList_allocN rfl _ rfl (vb zero4) zeroV4 ?_; intro w2 hb2 bw2 hs2; have hb12 := hb1.on bw2; have bt2 := bt bw1 bw2)
      | ((with_reducible show wpList _ _ _ (⟨some 22, _, _, _, _, _⟩ :: _) _ _); refine wpList_loadA rfl _ _ rfl rfl hb12 Tryd.underlying112 (size4L x) ?_)
      | ((with_reducible show wpList _ _ _ (⟨none, .store 112 (.tmp 4) _, _, _, _, _⟩ :: _) _ _); refine wpList_storeN rfl _ _ _ rfl rfl (ys := vb (colL x)) rfl hb2 rfl (vb_one _) (size4L x) ?_; intro w9 hb9 hg9)
      | fail)
    rw [ht.out]
    exact bodyPost_ret (v := arrV (vb (colL x))) (results_arr Tryd.results108 _ hb9 Tryd.underlying112 (size4L x) rfl) rfl ⟨rfl, below_row bt2 hg9 (by omega) bt2.size⟩
end Go.Proofs.YteecbjpnnklbpaaDoor.Aes

/- Parts of blocks: laws for rows of 4 and 16 bytes within one of 240. -/
namespace Go.Proofs.YteecbjpnnklbpaaDoor.Aes
open Go.RowKit
open Go.Proofs.YteecbjpnnklbpaaDoor.Gf
set_option linter.unusedVariables false
set_option maxRecDepth 100000
def zero240 : List UInt8 := List.replicate 240 0
theorem zero240_len : zero240.length = 240 := List.length_replicate ..
theorem size240 {l : List UInt8} {t : TypeId} (h : (Tryd.prog.info? t).map (·.size) = some 240) (hl : l.length = 240) : (Tryd.prog.info? t).map (·.size) = some (vb l).length := by rw [vb_len, hl]; exact h
theorem range_sub {w : World} {g o : Nat} {L l : List UInt8} (h : Blk w g (vb L)) (hb : o + l.length ≤ L.length) (hl : ∀ j, j < l.length → L.getD (o + j) 0 = l.getD j 0) : w.rangeAt g o (vb l) := fun j v hv => by
  have hj : j < l.length := by have := (List.getElem?_eq_some_iff.1 hv).1; rwa [vb_len] at this
  rw [Blk.byte h (k := o + j) (by omega), hl j hj]
  simp [vb, List.getElem?_eq_getElem hj] at hv
  simp [List.getD, List.getElem?_eq_getElem hj, hv]
theorem there_sub {w : World} {g o n : Nat} {xs : List Value} (h : Blk w g xs) (hb : o + n ≤ xs.length) : w.there g o n := fun j hj => by
  rw [h.cell (show o + j < xs.length by omega)]
  exact ⟨rfl, h.free _⟩
theorem splice_part {F Z : List UInt8} {N : Nat} (hF : F.length = N) (hZ : Z.length = N) : ∀ (l : List UInt8) (o : Nat), o + l.length ≤ N → (∀ j, j < l.length → F.getD (o + j) 0 = l.getD j 0) → splice (vb (part F Z o)) o (vb l) = vb (part F Z (o + l.length))
  | [], o, _, _ => rfl
  | x :: l, o, hb, h => by
    have h0 := h 0 (by simp)
    rw [Nat.add_zero] at h0
    rw [List.length_cons] at hb
    have hs := part_set F Z o N hF hZ (by omega)
    rw [h0, show (x :: l).getD 0 0 = x from rfl] at hs
    show splice ((vb (part F Z o)).set o (e8 x)) (o + 1) (vb l) = _
    rw [vb_set, hs, splice_part hF hZ l (o + 1) (by omega) (fun j hj => by
      have := h (j + 1) (by simp; omega)
      rw [show o + (j + 1) = o + 1 + j by omega] at this
      exact this), List.length_cons]
    congr 2; omega
theorem part_new {F Z : List UInt8} {N : Nat} (hF : F.length = N) (k i : Nat) (hi : i < k) (hk : k ≤ N) : (part F Z k).getD i 0 = F.getD i 0 := by
  rw [part, List.getD_eq_getElem?_getD, List.getD_eq_getElem?_getD, List.getElem?_append_left (by simp [hF]; omega), List.getElem?_take, if_pos hi]
theorem wpList_storeMid {w : World} {ops : Array Oper} {rest : List Oper} {o : Oper} {a : Act} {Q : Exit → Act → World → Prop} (hgd : o.guard = none) (t : TypeId) (x y : Operand) (ho : o.op = .store t x y)
    {g off : Nat} (hx : a.eval x = .pointer (some ⟨g, off, none⟩)) {xs ys : List Value} (hy : a.eval y = arrV ys) (hb : Blk w g xs) (hl : off + ys.length ≤ xs.length) (h1 : ∀ v ∈ ys, v.oneCell' = true) (hi : (Tryd.prog.info? t).map (·.size) = some ys.length)
    (h : ∀ w1, Blk w1 g (splice xs off ys) → w.grownBy w1 (some g) → wpList Tryd.prog ops Q rest (a.put o.dst undef) w1) : wpList Tryd.prog ops Q (o :: rest) a w :=
  wpList_store_mid hgd t x y ho g off ys.toArray hx hy (by simpa using there_sub hb hl) (by simpa using hi) (all_oneCell_toArray h1) (h _ (by simpa using hb.setCells ys off) (setCells_grown g ys.toArray.toList off w))
theorem col_at (F : List UInt8) (i : Nat) : ∀ j, j < 4 → F.getD (4 * i + j) 0 = (colL (colOf F i)).getD j 0 := fun j hj => by
  match j, hj with
  | 0, _ => rfl
  | 1, _ => rfl
  | 2, _ => rfl
  | 3, _ => rfl
theorem colOf_part {F Z : List UInt8} {N : Nat} (hF : F.length = N) (k i : Nat) (hi : 4 * i + 4 ≤ k) (hk : k ≤ N) : colOf (part F Z k) i = colOf F i := by
  unfold colOf
  rw [part_new hF k _ (by omega) hk, part_new hF k _ (by omega) hk, part_new hF k _ (by omega) hk, part_new hF k _ (by omega) hk]
theorem range_colAt {w : World} {g : Nat} {L : List UInt8} (h : Blk w g (vb L)) (i : Nat) (hb : 4 * i + 4 ≤ L.length) : w.rangeAt g (4 * i) (vb (colL (colOf L i))) :=
  range_sub h hb (fun j hj => col_at L i j hj)
theorem range_keyAt {w : World} {g : Nat} {L : List UInt8} (h : Blk w g (vb L)) (i : Nat) (hL : L.length = 240) (hb : i < 15) : w.rangeAt g (16 * i) (vb (keyAt L i)) :=
  range_sub h (by rw [keyAt_len L i hL hb]; omega) (fun j hj => by
    rw [keyAt_len L i hL hb] at hj
    simp [keyAt, List.getD, List.getElem?_take, hj, List.getElem?_drop])
/-- a row within a row of rows -/
theorem run_index_col (F : List UInt8) (hF : F.length = 240) (i : Nat) (hi : i < 60) (w : World) : (Instr.index 113 (arrV (vb F)) (.int .i64 (i : Int))).run Tryd.prog w = .ok (arrV (vb (colL (colOf F i)))) w := by
  have hb : (0 : Int) ≤ (i : Int) ∧ (i : Int) < (60 : Int) := by omega
  obtain ⟨inf, hinf, hsz⟩ := Option.map_eq_some_iff.1 size4
  have hex : List.take 4 (List.drop (i * 4) (vb F)) = vb (colL (colOf F i)) := by
    apply List.ext_getElem
    · simp [vb_len, hF, colL]; omega
    · intro j h1 h2
      have hj : j < 4 := by simpa [vb, colL] using h2
      have := col_at F i j hj
      have hk : 4 * i + j < F.length := by omega
      have e2 : (vb (colL (colOf F i)))[j]'h2 = e8 ((colL (colOf F i)).getD j 0) := by
        simp [vb, List.getD, List.getElem?_eq_getElem (show j < (colL (colOf F i)).length from hj)]
      rw [e2, ← this]
      simp only [List.getElem_take, List.getElem_drop, vb, List.getElem_map, Nat.mul_comm i 4]
      simp [List.getD, List.getElem?_eq_getElem hk]
  unfold arrV
  simp [Instr.index, run_underlying Tryd.underlying113, asIntOf, hb, go_sem, part, isAgg, run_underlying Tryd.underlying112, sizeOf, typeInfo, hinf, hsz, hex, hi]
end Go.Proofs.YteecbjpnnklbpaaDoor.Aes

/- The walk of aes.Schedule. -/
namespace Go.Proofs.YteecbjpnnklbpaaDoor.Aes
open Go.RowKit
open Go.Proofs.YteecbjpnnklbpaaDoor.Gf
set_option linter.unusedVariables false
set_option maxRecDepth 100000
theorem colOf_len (x : Col) : (colL x).length = 4 := rfl
theorem sched_lo (key : List UInt8) (i : Nat) (h : i < 8) : colOf (sched key) i = colOf key i := by rw [sched_col _ _ (by omega), wAt_lo _ _ h]
theorem sched_hi (key : List UInt8) (i : Nat) (h : 8 ≤ i) (h6 : i < 60) : colOf (sched key) i = addC (colOf (sched key) (i - 8)) (turn (colOf (sched key) (i - 1)) i) := by
  rw [sched_col _ _ h6, wAt_hi _ _ h, sched_col _ _ (by omega), sched_col _ _ (by omega)]
theorem results_arr2 {fn : Func} {p q : Tmp} {t : TypeId} {v : Value} (h : fn.results = #[.cell p t, .tmp q]) (tmps : Array Value) {w : World} {g : Nat} {xs : List Value} (hb : Blk w g xs) {n : Nat} {e : TypeId} (hu : Tryd.prog.underlying t = some (.array n e))
    (hi : (Tryd.prog.info? t).map (·.size) = some xs.length) (hp : tmps[p]? = some (.pointer (some ⟨g, 0, none⟩))) (hq : tmps[q]? = some v) : (results fn tmps).run Tryd.prog w = .ok (.tuple #[arrV xs, v]) w := by
  obtain ⟨t', hb⟩ := hb
  have hp' : tmps[p]?.getD undef = .pointer (some ⟨g, 0, none⟩) := by rw [hp]; rfl
  have hq' : tmps[q]?.getD undef = v := by rw [hq]; rfl
  have := run_loadVar_row (P := Tryd.prog) w g t' t _ _ _ hb hu rfl (by simpa using hi)
  simp [results, h, hp', hq', asAddr, this, arrV]
theorem range_rd {w : World} {b off : Nat} {L l : List UInt8} (h : Rd w w.heap.size (some ⟨b, off, none⟩) (L.map e8)) (o : Nat) (hb : o + l.length ≤ L.length) (hl : ∀ j, j < l.length → L.getD (o + j) 0 = l.getD j 0) : w.rangeAt b (off + o) (vb l) := fun j v hv => by
  have hj : j < l.length := by have := (List.getElem?_eq_some_iff.1 hv).1; rwa [vb_len] at this
  obtain ⟨b', off', e, _, hc⟩ := h (by intro e; have := congrArg List.length e; rw [List.length_map, List.length_nil] at this; omega)
  cases e
  have hk : o + j < L.length := by omega
  have := hc (o + j) (by simpa using hk)
  rw [Nat.add_assoc, this]
  simp [vb, List.getElem?_eq_getElem hj] at hv
  have e1 := hl j hj
  simp [List.getD, List.getElem?_eq_getElem hj, List.getElem?_eq_getElem hk] at e1
  simp [e1, hv]
theorem run_arrayAt4' (w : World) (a : Addr) (n c : Nat) (hn : 4 ≤ n) : (Instr.arrayAt 112 (.slice (some a) n c)).run Tryd.prog w = .ok (.pointer (some a)) w := by
  have : ¬ n < 4 := by omega
  simp [Instr.arrayAt, run_underlying Tryd.underlying112, go_sem, this, hn]
theorem colGet_add (x y : Col) (n : Nat) : colGet (addC x y) n = colGet x n ^^^ colGet y n := by
  unfold colGet addC; repeat (first | rfl | split)
theorem run_slice16f (B o r : Nat) (h : r ≤ 12) (w : World) :
    (Instr.sliceAt 83 (.pointer (some ⟨B, o, none⟩)) (some (.int .i64 (r : Int))) none none).run Tryd.prog w = .ok (.slice (some ⟨B, o + r, none⟩) (16 - r) (16 - r)) w := by
  have h2 : (r : Int) ≤ 16 := by omega
  simp [Instr.sliceAt, run_underlying Tryd.underlying83, go_sem, h2]
  try omega
theorem zeroVK (w : World) : (zeroValue 85).run Tryd.prog w = .ok (arrV (vb zero240)) w := by kernel_rfl
theorem zeroVW (w : World) : (zeroValue 113).run Tryd.prog w = .ok (arrV (vb zero240)) w := by kernel_rfl
theorem sizeK : (Tryd.prog.info? 85).map (·.size) = some 240 := by kernel_rfl
theorem sizeW : (Tryd.prog.info? 113).map (·.size) = some 240 := by kernel_rfl
set_option maxHeartbeats 400000 in
theorem schedule_no (A : Option Addr) (n c : Nat) (w : World) (hn : n ≠ 32) (hm : n ≤ maxLen) :
    Calls Tryd.prog 88 #[.slice A n c] w fun e w' => e = .returned (.tuple #[arrV (vb zero240), .int .i64 4]) ∧ Below w.heap.size w w' := by
  have hn' : ((n : Int) != 32) = true := bne_yes (by omega)
  have hsz := size240 sizeK zero240_len
  go_enter Tryd.func88, Tryd.ntmps88
  go_wp2_with (first
    | ((with_reducible show wpList _ _ _ (⟨some 2, _, _, _, _, _⟩ :: _) _ _); refine wpList_allocN rfl _ rfl (vb zero240) zeroVK ?_; intro w1 hb1 bw1 hs1)
    | ((with_reducible show wpList _ _ _ (⟨some 14, _, _, _, _, _⟩ :: _) _ _); refine wpList_loadA rfl _ _ rfl rfl hb1 Tryd.underlying85 hsz ?_)
    | ((with_reducible show wpList _ _ _ (⟨none, .store 85 _ _, _, _, _, _⟩ :: _) _ _); refine wpList_storeN rfl _ _ _ rfl rfl (ys := vb zero240) rfl hb1 rfl (vb_one _) hsz ?_; intro w9 hb9 hg9)
    | fail)
  go_step3
  go_wp2_with (first
    | ((with_reducible show wpList _ _ _ (⟨some 14, _, _, _, _, _⟩ :: _) _ _); refine wpList_loadA rfl _ _ rfl rfl hb1 Tryd.underlying85 hsz ?_)
    | ((with_reducible show wpList _ _ _ (⟨none, .store 85 _ _, _, _, _, _⟩ :: _) _ _); refine wpList_storeN rfl _ _ _ rfl rfl (ys := vb zero240) rfl hb1 rfl (vb_one _) hsz ?_; intro w9 hb9 hg9)
    | fail)
  rw [Exit.noGoto_ret]
  exact bodyPost_ret (v := .tuple #[arrV (vb zero240), .int .i64 4]) (results_arr2 Tryd.results88 _ hb9 Tryd.underlying85 hsz rfl rfl) rfl ⟨rfl, below_row bw1 hg9 (Nat.le_refl _) bw1.size⟩
set_option maxHeartbeats 200000 in
theorem schedule_yes (b off : Nat) (key : List UInt8) (c : Nat) (w : World) (hn : key.length = 32) (hc : 32 ≤ c) (hcm : c ≤ maxLen) (hr : Rd w w.heap.size (some ⟨b, off, none⟩) (key.map e8)) :
    Calls Tryd.prog 88 #[.slice (some ⟨b, off, none⟩) 32 c] w fun e w' => e = .returned (.tuple #[arrV (vb (sched key)), .int .i64 0]) ∧ Below w.heap.size w w' := by
  unfold maxLen at hcm
  have hlo := sched_lo key
  have hhi := sched_hi key
  have hF := sched_len key
  obtain ⟨F, hFe⟩ : ∃ F, F = sched key := ⟨_, rfl⟩
  rw [← hFe] at hlo hhi hF ⊢
  clear hFe
  have hZ := zero240_len
  have zK := zeroVK
  have zW := zeroVW
  obtain ⟨Z, hZe⟩ : ∃ Z, Z = zero240 := ⟨_, rfl⟩
  rw [← hZe] at hZ zK zW
  clear hZe
  have HLo := Lib.hid hlo
  have HHi := Lib.hid hhi
  have HF := Lib.hid hF
  have HZ := Lib.hid hZ
  have HN := Lib.hid hn
  have hszK := size240 sizeK hF
  have hszW := size240 sizeW hF
  clear hF hn hlo hhi hZ
  go_enter Tryd.func88, Tryd.ntmps88
  go_wp2_with (first
    | ((with_reducible show wpList _ _ _ (⟨some 2, _, _, _, _, _⟩ :: _) _ _); refine wpList_allocN rfl _ rfl (vb Z) zK ?_; intro w1 hb1 bw1 hs1)
    | fail)
  go_step3
  go_wp2_with (first
    | ((with_reducible show wpList _ _ _ (⟨some 4, _, _, _, _, _⟩ :: _) _ _); refine wpList_allocN rfl _ rfl (vb Z) zW ?_; intro w2 hb2 bw2 hs2; have hb12 := hb1.on bw2; have bt2 := bt bw1 bw2)
    | fail)
  go_step3
  go_wp2_with fail
  have l01 : w.heap.size < w1.heap.size := hs1
  obtain ⟨B1, hB1⟩ : ∃ B, B = w1.heap.size := ⟨_, rfl⟩
  rw [← hB1] at hb2 l01 ⊢
  clear hB1 hb1 bw1 bw2 hs1 hs2
  go_loopw [15] (fun i wr => ∃ k : Nat, k ≤ 60 ∧ i = .int .i64 k ∧ Blk wr w.heap.size (vb Z) ∧ Blk wr B1 (vb (part F Z (k * 4))) ∧ Below w.heap.size w wr) (fun i _ => 60 - (intOf i).toNat)
  case atStart => exact ⟨0, by omega, rfl, hb12, by rw [Nat.zero_mul, part_zero]; exact hb2, bt2⟩
  case round =>
    obtain ⟨k, hk, rfl, d0, d1, bt0⟩ := hrel
    clear hb12 hb2 bt2
    by_cases hlt : k < 60
    · by_cases h8 : k < 8
      · have hrr := hr.on bt0
        obtain ⟨n, hnk⟩ : ∃ n, n = 4 * k := ⟨_, rfl⟩
        have hw0 : IntKind.i64.wrap (4 * (k : Int)) = (n : Int) := by rw [IntKind.wrap_i64]; omega
        have hn28 : n ≤ 28 := by omega
        have hnI : (n : Int) ≤ 32 := by omega
        have hn0 : (0 : Int) ≤ (n : Int) := by omega
        have har := fun w => run_arrayAt4' w ⟨b, off + n, none⟩ (32 - n) (c - n) (by omega)
        have hrg : wr.rangeAt b (off + n) (vb (colL (colOf key k))) := range_rd hrr n (by rw [colOf_len, HN.out]; omega) (fun j hj => by rw [hnk]; exact col_at key k j hj)
        have HNK := Lib.hid hnk
        clear hnk
        have hcol := HLo.out k h8
        have hsp := Lib.hid (splice_part (N := 240) HF.out HZ.out (colL (colOf key k)) (k * 4) (by rw [colOf_len]; omega) (fun j hj => by rw [Nat.mul_comm k 4, col_at F k j hj, hcol]))
        have hpl := Lib.hid (part_len F Z (k * 4) 240 HF.out HZ.out (by omega))
        clear hcol
        go_wp2_with (first
          | ((with_reducible show wpList _ _ _ (⟨some 26, _, _, _, _, _⟩ :: _) _ _); refine wpList_load_mid rfl _ _ rfl b (off + n) rfl (vb (colL (colOf key k))) _ hrg Tryd.underlying112 rfl size4 ?_)
          | ((with_reducible show wpList _ _ _ (⟨none, .store 112 (.tmp 27) _, _, _, _, _⟩ :: _) _ _); refine wpList_storeMid rfl _ _ _ rfl (g := B1) (off := k * 4) rfl (ys := vb (colL (colOf key k))) rfl d1 (by rw [vb_len, vb_len, colOf_len, hpl.out]; omega) (vb_one _) size4 ?_; intro w3 hb3 hg3)
          | fail)
        rw [hsp.out, colOf_len] at hb3
        have e0 := d0.grown hg3 (by simp; omega)
        have bt3 := below_row bt0 hg3 (by omega) bt0.size
        go_wp2_with fail
        go_roundw
        case rel => exact ⟨k + 1, by omega, by go_num, e0, by rw [Nat.add_mul]; exact hb3, bt3⟩
        case measure => simp [intOf]; omega
      · have h8' : 8 ≤ k := by omega
        have hcol := HHi.out k h8' hlt
        have hpl := Lib.hid (part_len F Z (k * 4) 240 HF.out HZ.out (by omega))
        obtain ⟨q, hq⟩ : ∃ q, q = k - 1 := ⟨_, rfl⟩
        obtain ⟨p, hp⟩ : ∃ p, p = k - 8 := ⟨_, rfl⟩
        have hwq : IntKind.i64.wrap ((k : Int) - 1) = (q : Int) := by rw [IntKind.wrap_i64]; omega
        have hwp : IntKind.i64.wrap ((k : Int) - 8) = (p : Int) := by rw [IntKind.wrap_i64]; omega
        have hqI : (q : Int) < 60 := by omega
        have hpI : (p : Int) < 60 := by omega
        have hqN : q < 60 := by omega
        have hpN : p < 60 := by omega
        rw [← hq, ← hp] at hcol
        obtain ⟨X, hX⟩ : ∃ X, X = colOf F q := ⟨_, rfl⟩
        obtain ⟨Y, hY⟩ : ∃ Y, Y = colOf F p := ⟨_, rfl⟩
        obtain ⟨V, hV⟩ : ∃ V, V = turn X k := ⟨_, rfl⟩
        have hrq : wr.rangeAt B1 (q * 4) (vb (colL X)) := by
          rw [Nat.mul_comm q 4, hX, ← colOf_part (Z := Z) HF.out (k * 4) q (by omega) (by omega)]
          exact range_colAt d1 q (by rw [hpl.out]; omega)
        have hrp : ∀ W, Blk W B1 (vb (part F Z (k * 4))) → W.rangeAt B1 (p * 4) (vb (colL Y)) := fun W hW => by
          rw [Nat.mul_comm p 4, hY, ← colOf_part (Z := Z) HF.out (k * 4) p (by omega) (by omega)]
          exact range_colAt hW p (by rw [hpl.out]; omega)
        have Hrp := Lib.hid hrp
        have hget : ∀ n, n < 4 → F.getD (k * 4 + n) 0 = colGet Y n ^^^ colGet V n := fun n hn => by
          rw [Nat.mul_comm k 4, col_at F k n hn, colL_get _ _ hn, hcol, colGet_add, hY, hV, hX]
        have Hget := Lib.hid hget
        have htr := turned_any X k (k : Int) rfl h8' hlt
        rw [← hV] at htr
        have Htr := Lib.hid htr
        have Hq := Lib.hid hq
        have hB1 := d1.lt
        clear htr hcol hX hY hV hq hp hrp hget
        go_wp2_with (first
          | ((with_reducible show wpList _ _ _ (⟨some 31, _, _, _, _, _⟩ :: _) _ _); refine wpList_load_mid rfl _ _ rfl B1 (q * 4) rfl (vb (colL X)) _ hrq Tryd.underlying112 rfl size4 ?_)
          | fail)
        refine (Htr.out _).mono ?_
        rintro e w3 ⟨rfl, b3⟩
        go_wp2_with (first
          | ((with_reducible show wpList _ _ _ (⟨some 6, _, _, _, _, _⟩ :: _) _ _); refine wpList_allocN rfl _ rfl (vb zero4) zeroV4 ?_; intro w4 hb4 bw4 hs4)
          | ((with_reducible show wpList _ _ _ (⟨none, .store 112 (.tmp 6) _, _, _, _, _⟩ :: _) _ _); refine wpList_storeN rfl _ _ _ rfl rfl (ys := vb (colL V)) rfl hb4 rfl (vb_one _) (size4L V) ?_; intro w5 hb5 hg5; have bt5 := below_row (bt b3 bw4) hg5 b3.size (bt b3 bw4).size; have hrp5 := Hrp.out w5 (d1.on bt5))
          | ((with_reducible show wpList _ _ _ (⟨some 37, _, _, _, _, _⟩ :: _) _ _); refine wpList_load_mid rfl _ _ rfl B1 (p * 4) rfl (vb (colL Y)) _ hrp5 Tryd.underlying112 rfl size4 ?_)
          | fail)
        have f0 := d0.on bt5
        have f1 := d1.on bt5
        have btm := bt bt0 bt5
        have lB6 : B1 < w3.heap.size := by have := b3.size; omega
        obtain ⟨B6, hB6⟩ : ∃ B, B = w3.heap.size := ⟨_, rfl⟩
        rw [← hB6] at hb5 lB6 ⊢
        clear hB6 hb4 hg5 bw4 hs4 b3 bt5 d0 d1 bt0 hrq hrp5 hwq hB1
        obtain ⟨K4, hK4⟩ : ∃ m, m = k * 4 := ⟨_, rfl⟩
        have Hk4 := Lib.hid hK4
        go_loopw [38] (fun i wx => ∃ n : Nat, n ≤ 4 ∧ i = .int .i64 n ∧ Blk wx w.heap.size (vb Z) ∧ Blk wx B1 (vb (part F Z (k * 4 + n))) ∧ Blk wx B6 (vb (colL V)) ∧ Below w.heap.size w wx) (fun i _ => 4 - (intOf i).toNat)
        case atStart => exact ⟨0, by omega, rfl, f0, f1, hb5, btm⟩
        case round =>
          obtain ⟨n, hn, rfl, e0, e1, e6, bx⟩ := hrel
          clear f0 f1 hb5 btm
          by_cases hln : n < 4
          · have hix := index4 Y n hln
            unfold arrV at hix
            have hset := Lib.hid (part_set F Z (k * 4 + n) 240 HF.out HZ.out (by omega))
            have hv := Lib.hid (Hget.out n hln)
            have hcc := Blk.byte e6 (k := n) (by rw [colOf_len]; exact hln)
            rw [colL_get _ _ hln] at hcc
            have hct := Blk.byte e1 (k := k * 4 + n) (by rw [part_len _ _ (k * 4 + n) 240 HF.out HZ.out (by omega)]; omega)
            have hf := e1.free (k * 4 + n)
            obtain ⟨x, hx⟩ : ∃ x, x = colGet Y n := ⟨_, rfl⟩
            obtain ⟨y, hy⟩ : ∃ y, y = colGet V n := ⟨_, rfl⟩
            rw [← hx] at hix hv
            rw [← hy] at hcc hv
            have hBB := e1.lt
            have hB6 := e6.lt
            have hnI : (n : Int) < 4 := by omega
            have hkI : (k : Int) < 60 := by omega
            clear hx hy
            go_wp2
            try go_region
            try go_wp2
            go_roundw
            case rel =>
              have hbs := e1.set (k := k * 4 + n) (e8 (x ^^^ y))
              have hst := hset.out
              rw [hv.out] at hst
              rw [vb_set, hst] at hbs
              rw [xor8]
              exact ⟨n + 1, by omega, by go_num, e0.other _ (by omega), by rw [← Nat.add_assoc]; exact hbs, e6.other _ (by omega), (bset bx (by omega) _).drew⟩
            case measure => simp [intOf]; omega
          · obtain rfl : n = 4 := by omega
            go_wp2
            go_roundw
            case rel => exact ⟨k + 1, by omega, by go_num, e0, by rw [Nat.add_mul]; exact e1, bx⟩
            case measure => simp [intOf]; omega
    · obtain rfl : k = 60 := by omega
      have hp60 := part_all F Z 240 HF.out HZ.out
      rw [show 60 * 4 = 240 from rfl, hp60] at d1
      clear hp60
      go_wp2_with (first
        | ((with_reducible show wpList _ _ _ (⟨some 53, _, _, _, _, _⟩ :: _) _ _); refine wpList_loadA rfl _ _ rfl rfl d1 Tryd.underlying113 hszW ?_)
        | fail)
      go_loopw [54] (fun i wx => ∃ n : Nat, n ≤ 60 ∧ i = .int .i64 n ∧ Blk wx w.heap.size (vb (part F Z (n * 4))) ∧ Below w.heap.size w wx) (fun i _ => 60 - (intOf i).toNat)
      case atStart => exact ⟨0, by omega, rfl, by rw [Nat.zero_mul, part_zero]; exact d0, bt0⟩
      case round =>
        obtain ⟨n, hn, rfl, e0, bx⟩ := hrel
        clear d0 d1 bt0
        by_cases hln : n < 60
        · have hix := run_index_col F HF.out n hln
          have hsp := Lib.hid (splice_part (N := 240) HF.out HZ.out (colL (colOf F n)) (n * 4) (by rw [colOf_len]; omega) (fun j hj => by rw [Nat.mul_comm n 4]; exact col_at F n j hj))
          have hpl := Lib.hid (part_len F Z (n * 4) 240 HF.out HZ.out (by omega))
          obtain ⟨X, hX⟩ : ∃ X, X = colOf F n := ⟨_, rfl⟩
          rw [← hX] at hix hsp
          obtain ⟨q, hq⟩ : ∃ q, q = n / 4 := ⟨_, rfl⟩
          obtain ⟨r, hr4⟩ : ∃ r, r = 4 * (n % 4) := ⟨_, rfl⟩
          obtain ⟨r1, hr1⟩ : ∃ r, r = n % 4 := ⟨_, rfl⟩
          have tq : ((n : Int)).tdiv 4 = (q : Int) := by rw [Int.tdiv_eq_ediv_of_nonneg (by omega)]; omega
          have tr : ((n : Int)).tmod 4 = (r1 : Int) := by rw [Int.tmod_eq_emod_of_nonneg (by omega)]; omega
          have wr0 : IntKind.i64.wrap (4 * (r1 : Int)) = (r : Int) := by rw [IntKind.wrap_i64]; omega
          have wq0 : IntKind.i64.wrap (q : Int) = (q : Int) := by rw [IntKind.wrap_i64]; omega
          have hqI : (q : Int) < 15 := by omega
          have hoff : q * 16 + r = n * 4 := by omega
          have hsl := run_slice16f w.heap.size (q * 16) r (by omega)
          have Hoff := Lib.hid hoff
          have hr12 : r ≤ 12 := by omega
          have hB0 := e0.lt
          clear hX hq hr4 hr1 hoff
          go_wp2_with (first
            | ((with_reducible show wpList _ _ _ (⟨some 10, _, _, _, _, _⟩ :: _) _ _); refine wpList_allocN rfl _ rfl (vb zero4) zeroV4 ?_; intro w4 hb4 bw4 hs4)
            | ((with_reducible show wpList _ _ _ (⟨none, .store 112 (.tmp 10) _, _, _, _, _⟩ :: _) _ _); refine wpList_storeN rfl _ _ _ rfl rfl (ys := vb (colL X)) rfl hb4 rfl (vb_one _) (size4L X) ?_; intro w5 hb5 hg5; have bt5 := below_row bw4 hg5 (Nat.le_refl _) bw4.size)
            | fail)
          have f0 := e0.on bt5
          have bt6 := bt bx bt5
          go_region_held3 (fun w' => True) (trivial)
            (first
            | (refine step_copyN (by rfl) _ _ _ _ (by rfl) (by rfl) (by rfl) (vb (colL X)) (by rw [vb_len, colOf_len]; exact (Nat.min_eq_left (by omega)).symm) Tryd.underlying37 size8 f0 (by rw [vb_len, vb_len, hpl.out, colOf_len]; have := Hoff.out; omega) (by intro j v hv; obtain ⟨hj, hv'⟩ := (List.getElem?_eq_some_iff.1 hv); rw [Addr.add_lit, Nat.zero_add]; exact (hb5.cell hj).trans (congrArg some hv')) (vb_one _) ?_; intro w6 hb6 hg6; rw [Hoff.out, hsp.out] at hb6)
            | fail)
          rw [colOf_len] at hb6
          have bt7 : Below w.heap.size w w6 := below_row (bt6.drew) hg6 (Nat.le_refl _) (by have := bt6.size; exact this)
          go_wp2
          go_roundw
          case rel => exact ⟨n + 1, by omega, by go_num, by rw [Nat.add_mul]; exact hb6, bt7⟩
          case measure => simp [intOf]; omega
        · obtain rfl : n = 60 := by omega
          have hp60 := part_all F Z 240 HF.out HZ.out
          rw [show 60 * 4 = 240 from rfl, hp60] at e0
          clear hp60
          go_wp2_with (first
            | ((with_reducible show wpList _ _ _ (⟨some 68, _, _, _, _, _⟩ :: _) _ _); refine wpList_loadA rfl _ _ rfl rfl e0 Tryd.underlying85 hszK ?_)
            | ((with_reducible show wpList _ _ _ (⟨none, .store 85 _ _, _, _, _, _⟩ :: _) _ _); refine wpList_storeN rfl _ _ _ rfl rfl (ys := vb F) rfl e0 rfl (vb_one _) hszK ?_; intro w9 hb9 hg9)
            | fail)
          try rw [Exit.noGoto_ret]
          exact bodyPost_ret (v := .tuple #[arrV (vb F), .int .i64 0]) (results_arr2 Tryd.results88 _ hb9 Tryd.underlying85 hszK rfl rfl) rfl ⟨rfl, below_row bx hg9 (Nat.le_refl _) bx.size⟩
theorem schedule_any (A : Option Addr) (key : List UInt8) (n c : Nat) (w : World) (hn : n = key.length) (hc : n ≤ c) (hcm : c ≤ maxLen) (hr : Rd w w.heap.size A (key.map e8)) :
    Calls Tryd.prog 88 #[.slice A n c] w fun e w' => e = .returned (.tuple #[arrV (vb (keysOf key)), .int .i64 (if key.length = 32 then 0 else 4)]) ∧ Below w.heap.size w w' := by
  subst hn
  by_cases h : key.length = 32
  · rw [if_pos h, keysOf, if_pos h]
    obtain ⟨b, off, rfl, _, _⟩ := hr (by intro e; have := congrArg List.length e; rw [List.length_map, List.length_nil] at this; omega)
    rw [h] at hc ⊢
    exact schedule_yes b off key c w h hc hcm hr
  · rw [if_neg h, keysOf, if_neg h]
    exact schedule_no A _ c w h (by omega)
end Go.Proofs.YteecbjpnnklbpaaDoor.Aes

/- The walk of aes.Encrypt. -/
namespace Go.Proofs.YteecbjpnnklbpaaDoor.Aes
open Go.RowKit
open Go.Proofs.YteecbjpnnklbpaaDoor.Gf
set_option linter.unusedVariables false
set_option maxRecDepth 100000
set_option maxHeartbeats 1000000 in
theorem encrypt_any (L s : List UInt8) (hL : L.length = 240) (hs : s.length = 16) (w : World) : Calls Tryd.prog 72 #[arrV (vb L), arrV (vb s)] w fun e w' => e = .returned (arrV (vb (encrypt L s))) ∧ Below w.heap.size w w' := by
  have HL := Lib.hid hL
  have Hs := Lib.hid hs
  have hszL := size240 sizeK hL
  have hk0 := keyAt_len L 0 hL (by omega)
  have Hk0 := Lib.hid hk0
  have hz0 := zero16
  have hszE : ∀ l : List UInt8, l.length = 16 → (Tryd.prog.info? 83).map (·.size) = some (vb l).length := fun l h => sizeL h
  have HszE := Lib.hid hszE
  have hszs := sizeL hs
  have hszk := sizeL hk0
  have hadd : ∀ (a b : List UInt8), a.length = 16 → b.length = 16 → ∀ w, Calls Tryd.prog 89 #[arrV (vb a), arrV (vb b)] w fun e w' => e = .returned (arrV (vb (add a b))) ∧ Below w.heap.size w w' := fun a b ha hb w => add_any a b ha hb w
  have hsub : ∀ (a : List UInt8), a.length = 16 → ∀ w, Calls Tryd.prog 92 #[arrV (vb a)] w fun e w' => e = .returned (arrV (vb (sub a))) ∧ Below w.heap.size w w' := fun a ha w => sub_any a ha w
  have hshift : ∀ (a : List UInt8), a.length = 16 → ∀ w, Calls Tryd.prog 91 #[arrV (vb a)] w fun e w' => e = .returned (arrV (vb (shift a))) ∧ Below w.heap.size w w' := fun a ha w => shift_any a ha w
  have hmix : ∀ (a : List UInt8), a.length = 16 → ∀ w, Calls Tryd.prog 90 #[arrV (vb a)] w fun e w' => e = .returned (arrV (vb (mixS a))) ∧ Below w.heap.size w w' := fun a ha w => mix_any a ha w
  have Hadd := Lib.hid hadd
  have Hsub := Lib.hid hsub
  have Hshift := Lib.hid hshift
  have Hmix := Lib.hid hmix
  have hval : ∀ w, Sem.run Tryd.prog (callFunc 90 #[]) w = .ok (.enter 90 #[]) w := by intro w; simp [go_sem]
  have hE0 : enc (keyAt L) s 0 = add s (keyAt L 0) := rfl
  have HE0 := Lib.hid hE0
  have hes : encrypt L s = enc (keyAt L) s 14 := rfl
  have Hes := Lib.hid hes
  have hst : ∀ k E, E = enc (keyAt L) s k → enc (keyAt L) s (k + 1) = add (if k + 1 < 14 then mixS (shift (sub E)) else shift (sub E)) (keyAt L (k + 1)) := by rintro k E rfl; rfl
  have Hst := Lib.hid hst
  clear hL hs hk0 hadd hsub hshift hmix hE0 hes hst hszE hz0
  go_enter Tryd.func72, Tryd.ntmps72
  go_wp2_with (first
    | ((with_reducible show wpList _ _ _ (⟨some 2, _, _, _, _, _⟩ :: _) _ _); refine wpList_boxN rfl _ _ rfl (vb L) rfl ?_; intro w1 hb1 bw1 hs1)
    | ((with_reducible show wpList _ _ _ (⟨some 3, _, _, _, _, _⟩ :: _) _ _); refine wpList_boxN rfl _ _ rfl (vb s) rfl ?_; intro w2 hb2 bw2 hs2; have hb12 := hb1.on bw2; have bt2 := bt bw1 bw2)
    | ((with_reducible show wpList _ _ _ (⟨some 4, _, _, _, _, _⟩ :: _) _ _); refine wpList_allocN rfl _ rfl (vb zero16) zeroV16 ?_; intro w3 hb3 bw3 hs3; have hb13 := hb12.on bw3; have hb23 := hb2.on bw3; have bt3 := bt bt2 bw3; have hrk := range_keyAt hb13 0 HL.out (by omega))
    | ((with_reducible show wpList _ _ _ (⟨some 8, _, _, _, _, _⟩ :: _) _ _); refine wpList_loadA rfl _ _ rfl rfl hb23 Tryd.underlying83 hszs ?_)
    | ((with_reducible show wpList _ _ _ (⟨some 10, _, _, _, _, _⟩ :: _) _ _); refine wpList_load_mid rfl _ _ rfl w.heap.size 0 rfl (vb (keyAt L 0)) _ hrk Tryd.underlying83 rfl hszk ?_)
    | fail)
  refine (Hadd.out s (keyAt L 0) Hs.out Hk0.out _).mono ?_
  rintro e w4 ⟨rfl, b4⟩
  have hb14 := hb13.on b4
  have hb24 := hb23.on b4
  have hb34 := hb3.on b4
  have bt4 := bt bt3 b4
  have hsz0 := HszE.out _ (add_len s (keyAt L 0))
  rw [← HE0.out] at hsz0 ⊢
  obtain ⟨E0, hE0⟩ : ∃ E, E = enc (keyAt L) s 0 := ⟨_, rfl⟩
  rw [← hE0] at hsz0 ⊢
  have hE16 : E0.length = 16 := by rw [hE0]; exact enc_len _ _ _
  have HE16 := Lib.hid hE16
  have HE0' := Lib.hid hE0
  clear hE0 hE16
  go_wp2_with (first
    | ((with_reducible show wpList _ _ _ (⟨none, .store 83 (.tmp 3) _, _, _, _, _⟩ :: _) _ _); refine wpList_storeN rfl _ _ _ rfl rfl (ys := vb E0) rfl hb24 (by rw [vb_len, vb_len, Hs.out, HE16.out]) (vb_one _) hsz0 ?_; intro w5 hb5 hg5)
    | fail)
  have l01 : w.heap.size < w1.heap.size := hs1
  have l12 : w1.heap.size < w2.heap.size := hs2
  have hb15 := hb14.grown hg5 (by simp; omega)
  have hb35 := hb34.grown hg5 (by simp; omega)
  have bt5 := below_row bt4 hg5 (by omega) bt4.size
  obtain ⟨B3, hB3⟩ : ∃ B, B = w1.heap.size := ⟨_, rfl⟩
  obtain ⟨B4, hB4⟩ : ∃ B, B = w2.heap.size := ⟨_, rfl⟩
  rw [← hB3] at hb5 l01 l12 ⊢
  rw [← hB4] at hb35 l12 ⊢
  clear hB3 hB4 hb1 hb2 hb3 hb12 hb13 hb23 hb14 hb24 hb34 bw1 bw2 bw3 b4 bt2 bt3 bt4 hs1 hs2 hs3 hg5 hrk hszk hszs hsz0
  go_wp2_with fail
  go_loopw [14] (fun i wr => ∃ k : Nat, k ≤ 14 ∧ i = .int .i64 k ∧ Blk wr w.heap.size (vb L) ∧ (∃ E, Hid (E = enc (keyAt L) s k) ∧ Blk wr B3 (vb E)) ∧ Blk wr B4 (vb zero16) ∧ Below w.heap.size w wr) (fun i _ => 14 - (intOf i).toNat)
  case atStart => exact ⟨0, by omega, rfl, hb15, ⟨E0, HE0', hb5⟩, hb35, bt5⟩
  case round =>
    obtain ⟨k, hk, rfl, d0, ⟨E, hE, d3⟩, d4, bt0⟩ := hrel
    clear hb15 hb5 hb35 bt5
    have hE16 : E.length = 16 := by rw [hE.out]; exact enc_len _ _ _
    have HE16 := Lib.hid hE16
    have hszE := HszE.out E hE16
    clear hE16
    by_cases hlt : k < 14
    · have hk1 := keyAt_len L (k + 1) HL.out (by omega)
      have hrk := range_keyAt d0 (k + 1) HL.out (by omega)
      have hstp := Lib.hid (Hst.out k E hE.out)
      obtain ⟨K, hK⟩ : ∃ K, K = keyAt L (k + 1) := ⟨_, rfl⟩
      rw [← hK] at hk1 hrk
      have hst2 := hstp.out
      rw [← hK] at hst2
      have Hst2 := Lib.hid hst2
      have Hk1 := Lib.hid hk1
      have hszK1 := HszE.out K hk1
      rw [show 16 * (k + 1) = 16 + k * 16 by omega] at hrk
      clear hst2 hstp hK hk1
      obtain ⟨S1, hS1⟩ : ∃ S, S = sub E := ⟨_, rfl⟩
      have hsu := Hsub.out E HE16.out
      rw [← hS1] at hsu
      have hl1 : S1.length = 16 := by rw [hS1, sub_len, HE16.out]
      obtain ⟨S2, hS2⟩ : ∃ S, S = shift S1 := ⟨_, rfl⟩
      have hsh := Hshift.out S1 hl1
      rw [← hS2] at hsh
      have hl2 : S2.length = 16 := by rw [hS2]; exact shift_len _
      obtain ⟨S3, hS3⟩ : ∃ S, S = mixS S2 := ⟨_, rfl⟩
      have hmi := Hmix.out S2 hl2
      rw [← hS3] at hmi
      have hl3 : S3.length = 16 := by rw [hS3]; exact mix_len _
      have hst2 := Hst2.out
      rw [← hS1, ← hS2, ← hS3] at hst2
      have hszS2 := HszE.out S2 hl2
      have hszS3 := HszE.out S3 hl3
      have Hl2 := Lib.hid hl2
      have Hl3 := Lib.hid hl3
      have Hsu := Lib.hid hsu
      have Hsh := Lib.hid hsh
      have Hmi := Lib.hid hmi
      clear hS1 hS2 hS3 hl1 hl2 hl3 hsu hsh hmi
      have hwk : IntKind.i64.wrap ((k : Int) + 1) = ((k + 1 : Nat) : Int) := by rw [IntKind.wrap_i64]; omega
      have hB3 := d3.lt
      have hB4 := d4.lt
      by_cases hk13 : k + 1 < 14
      · rw [if_pos hk13] at hst2
        obtain ⟨S4, hS4⟩ : ∃ S, S = add S3 K := ⟨_, rfl⟩
        have had := Hadd.out S3 K Hl3.out Hk1.out
        rw [← hS4] at had hst2
        have hl4 : S4.length = 16 := by rw [hS4]; exact add_len _ _
        have hszS4 := HszE.out S4 hl4
        have Hl4 := Lib.hid hl4
        have Had := Lib.hid had
        have Hst3 := Lib.hid hst2
        obtain ⟨k1, hk1⟩ : ∃ j, j = k + 1 := ⟨_, rfl⟩
        have hk1I : (k1 : Int) < 14 := by omega
        rw [← hk1] at hwk
        have Hk1e := Lib.hid hk1
        have hltI : (k : Int) < 14 := by omega
        clear hl4 had hst2 hS4 hk13 hk1 hlt hk
        go_wp2_with (first
          | ((with_reducible show wpList _ _ _ (⟨some 18, _, _, _, _, _⟩ :: _) _ _); refine wpList_load_mid rfl _ _ rfl w.heap.size (16 + k * 16) rfl (vb K) _ hrk Tryd.underlying83 rfl hszK1 ?_)
          | ((with_reducible show wpList _ _ _ (⟨some 7, _, _, _, _, _⟩ :: _) _ _); refine wpList_allocN rfl _ rfl (vb zero16) zeroV16 ?_; intro w1 hb1 bw1 hs1)
          | ((with_reducible show wpList _ _ _ (⟨none, .store 83 (.tmp 7) _, _, _, _, _⟩ :: _) _ _); refine wpList_storeN rfl _ _ _ rfl rfl (ys := vb K) rfl hb1 (by rw [vb_len, vb_len, Hk1.out]; rfl) (vb_one _) hszK1 ?_; intro w2 hb2 hg2; have bt2 := below_row bw1 hg2 (Nat.le_refl _) bw1.size; have f3 := d3.on bt2)
          | ((with_reducible show wpList _ _ _ (⟨some 19, _, _, _, _, _⟩ :: _) _ _); refine wpList_loadA rfl _ _ rfl rfl f3 Tryd.underlying83 hszE ?_)
          | fail)
        have f0 := d0.on bt2
        have f4 := d4.on bt2
        have btm := bt bt0 bt2
        have l7 : B4 < wr.heap.size := hB4
        obtain ⟨B7, hB7⟩ : ∃ B, B = wr.heap.size := ⟨_, rfl⟩
        rw [← hB7] at hb2 l7 ⊢
        clear hB7 hb1 bw1 hs1 hg2 bt2 d0 d3 d4 bt0 hrk
        refine (Hsu.out _).mono ?_
        rintro e w3 ⟨rfl, b3⟩
        go_wp2_with fail
        refine (Hsh.out _).mono ?_
        rintro e w4 ⟨rfl, b4⟩
        have b34 := bt b3 b4
        have g0 := f0.on b34
        have g3 := f3.on b34
        have g4 := f4.on b34
        have g7 := hb2.on b34
        have bt4 := bt btm b34
        clear f0 f3 f4 hb2 btm b3 b4 b34
        go_wp2_with (first
          | ((with_reducible show wpList _ _ _ (⟨none, .store 83 (.tmp 3) _, _, _, _, _⟩ :: _) _ _); refine wpList_storeN rfl _ _ _ rfl rfl (ys := vb S2) rfl g3 (by rw [vb_len, vb_len, HE16.out, Hl2.out]) (vb_one _) hszS2 ?_; intro w5 hb5 hg5)
          | ((with_reducible show wpList _ _ _ (⟨some 26, _, _, _, _, _⟩ :: _) _ _); refine wpList_loadA rfl _ _ rfl rfl hb5 Tryd.underlying83 hszS2 ?_)
          | fail)
        refine (Hmi.out _).mono ?_
        rintro e w6 ⟨rfl, b6⟩
        have i0 := (g0.grown hg5 (by simp; omega)).on b6
        have i4 := (g4.grown hg5 (by simp; omega)).on b6
        have i7 := (g7.grown hg5 (by simp; omega)).on b6
        have i3 := hb5.on b6
        have bt6 := bt (below_row bt4 hg5 (by omega) bt4.size) b6
        clear g0 g3 g4 g7 hb5 hg5 bt4 b6
        go_wp2_with (first
          | ((with_reducible show wpList _ _ _ (⟨none, .store 83 (.tmp 3) _, _, _, _, _⟩ :: _) _ _); refine wpList_storeN rfl _ _ _ rfl rfl (ys := vb S3) rfl i3 (by rw [vb_len, vb_len, Hl2.out, Hl3.out]) (vb_one _) hszS3 ?_; intro w7 hb7 hg7; have j7 := i7.grown hg7 (by simp; omega))
          | ((with_reducible show wpList _ _ _ (⟨some 28, _, _, _, _, _⟩ :: _) _ _); refine wpList_loadA rfl _ _ rfl rfl hb7 Tryd.underlying83 hszS3 ?_)
          | ((with_reducible show wpList _ _ _ (⟨some 29, _, _, _, _, _⟩ :: _) _ _); refine wpList_loadA rfl _ _ rfl rfl j7 Tryd.underlying83 hszK1 ?_)
          | fail)
        have j0 := i0.grown hg7 (by simp; omega)
        have j4 := i4.grown hg7 (by simp; omega)
        have bt7 := below_row bt6 hg7 (by omega) bt6.size
        refine (Had.out _).mono ?_
        rintro e w8 ⟨rfl, b8⟩
        have j3 := hb7.on b8
        have bt8 := bt bt7 b8
        go_wp2_with (first
          | ((with_reducible show wpList _ _ _ (⟨none, .store 83 (.tmp 3) _, _, _, _, _⟩ :: _) _ _); refine wpList_storeN rfl _ _ _ rfl rfl (ys := vb S4) rfl j3 (by rw [vb_len, vb_len, Hl3.out, Hl4.out]) (vb_one _) hszS4 ?_; intro w9 hb9 hg9)
          | fail)
        go_roundw
        case rel => exact ⟨k + 1, by have := Hk1e.out; omega, (by rw [Hk1e.out]), (j0.on b8).grown hg9 (by simp; omega), ⟨S4, Lib.hid Hst3.out.symm, hb9⟩, (j4.on b8).grown hg9 (by simp; omega), below_row bt8 hg9 (by omega) bt8.size⟩
        case measure => simp [intOf]; have := Hk1e.out; omega
      · rw [if_neg hk13] at hst2
        obtain ⟨S4, hS4⟩ : ∃ S, S = add S2 K := ⟨_, rfl⟩
        have had := Hadd.out S2 K Hl2.out Hk1.out
        rw [← hS4] at had hst2
        have hl4 : S4.length = 16 := by rw [hS4]; exact add_len _ _
        have hszS4 := HszE.out S4 hl4
        have Hl4 := Lib.hid hl4
        have Had := Lib.hid had
        have Hst3 := Lib.hid hst2
        obtain ⟨k1, hk1⟩ : ∃ j, j = k + 1 := ⟨_, rfl⟩
        have hk1I : (k1 : Int) ≥ 14 := by omega
        rw [← hk1] at hwk
        have Hk1e := Lib.hid hk1
        have hltI : (k : Int) < 14 := by omega
        clear hl4 had hst2 hS4 hk13 hk1 hlt hk
        go_wp2_with (first
          | ((with_reducible show wpList _ _ _ (⟨some 18, _, _, _, _, _⟩ :: _) _ _); refine wpList_load_mid rfl _ _ rfl w.heap.size (16 + k * 16) rfl (vb K) _ hrk Tryd.underlying83 rfl hszK1 ?_)
          | ((with_reducible show wpList _ _ _ (⟨some 7, _, _, _, _, _⟩ :: _) _ _); refine wpList_allocN rfl _ rfl (vb zero16) zeroV16 ?_; intro w1 hb1 bw1 hs1)
          | ((with_reducible show wpList _ _ _ (⟨none, .store 83 (.tmp 7) _, _, _, _, _⟩ :: _) _ _); refine wpList_storeN rfl _ _ _ rfl rfl (ys := vb K) rfl hb1 (by rw [vb_len, vb_len, Hk1.out]; rfl) (vb_one _) hszK1 ?_; intro w2 hb2 hg2; have bt2 := below_row bw1 hg2 (Nat.le_refl _) bw1.size; have f3 := d3.on bt2)
          | ((with_reducible show wpList _ _ _ (⟨some 19, _, _, _, _, _⟩ :: _) _ _); refine wpList_loadA rfl _ _ rfl rfl f3 Tryd.underlying83 hszE ?_)
          | fail)
        have f0 := d0.on bt2
        have f4 := d4.on bt2
        have btm := bt bt0 bt2
        have l7 : B4 < wr.heap.size := hB4
        obtain ⟨B7, hB7⟩ : ∃ B, B = wr.heap.size := ⟨_, rfl⟩
        rw [← hB7] at hb2 l7 ⊢
        clear hB7 hb1 bw1 hs1 hg2 bt2 d0 d3 d4 bt0 hrk
        refine (Hsu.out _).mono ?_
        rintro e w3 ⟨rfl, b3⟩
        go_wp2_with fail
        refine (Hsh.out _).mono ?_
        rintro e w4 ⟨rfl, b4⟩
        have b34 := bt b3 b4
        have g0 := f0.on b34
        have g3 := f3.on b34
        have g4 := f4.on b34
        have g7 := hb2.on b34
        have bt4 := bt btm b34
        clear f0 f3 f4 hb2 btm b3 b4 b34
        go_wp2_with (first
          | ((with_reducible show wpList _ _ _ (⟨none, .store 83 (.tmp 3) _, _, _, _, _⟩ :: _) _ _); refine wpList_storeN rfl _ _ _ rfl rfl (ys := vb S2) rfl g3 (by rw [vb_len, vb_len, HE16.out, Hl2.out]) (vb_one _) hszS2 ?_; intro w7 hb7 hg7; have j7 := g7.grown hg7 (by simp; omega))
          | ((with_reducible show wpList _ _ _ (⟨some 28, _, _, _, _, _⟩ :: _) _ _); refine wpList_loadA rfl _ _ rfl rfl hb7 Tryd.underlying83 hszS2 ?_)
          | ((with_reducible show wpList _ _ _ (⟨some 29, _, _, _, _, _⟩ :: _) _ _); refine wpList_loadA rfl _ _ rfl rfl j7 Tryd.underlying83 hszK1 ?_)
          | fail)
        have j0 := g0.grown hg7 (by simp; omega)
        have j4 := g4.grown hg7 (by simp; omega)
        have bt7 := below_row bt4 hg7 (by omega) bt4.size
        refine (Had.out _).mono ?_
        rintro e w8 ⟨rfl, b8⟩
        have j3 := hb7.on b8
        have bt8 := bt bt7 b8
        go_wp2_with (first
          | ((with_reducible show wpList _ _ _ (⟨none, .store 83 (.tmp 3) _, _, _, _, _⟩ :: _) _ _); refine wpList_storeN rfl _ _ _ rfl rfl (ys := vb S4) rfl j3 (by rw [vb_len, vb_len, Hl2.out, Hl4.out]) (vb_one _) hszS4 ?_; intro w9 hb9 hg9)
          | fail)
        go_roundw
        case rel => exact ⟨k + 1, by have := Hk1e.out; omega, (by rw [Hk1e.out]), (j0.on b8).grown hg9 (by simp; omega), ⟨S4, Lib.hid Hst3.out.symm, hb9⟩, (j4.on b8).grown hg9 (by simp; omega), below_row bt8 hg9 (by omega) bt8.size⟩
        case measure => simp [intOf]; have := Hk1e.out; omega
    · obtain rfl : k = 14 := by omega
      go_wp2_with (first
        | ((with_reducible show wpList _ _ _ (⟨some 32, _, _, _, _, _⟩ :: _) _ _); refine wpList_loadA rfl _ _ rfl rfl d3 Tryd.underlying83 hszE ?_)
        | ((with_reducible show wpList _ _ _ (⟨none, .store 83 (.tmp 4) _, _, _, _, _⟩ :: _) _ _); refine wpList_storeN rfl _ _ _ rfl rfl (ys := vb E) rfl d4 (by rw [vb_len, vb_len, HE16.out]; rfl) (vb_one _) hszE ?_; intro w9 hb9 hg9)
        | fail)
      rw [Hes.out, ← hE.out]
      exact bodyPost_ret (v := arrV (vb E)) (results_arr Tryd.results72 _ hb9 Tryd.underlying83 hszE rfl) rfl ⟨rfl, below_row bt0 hg9 (by omega) bt0.size⟩
end Go.Proofs.YteecbjpnnklbpaaDoor.Aes

/- The walk of the reference's Words. -/
namespace Go.Proofs.YteecbjpnnklbpaaDoor.Aes
open Go.RowKit
open Go.Proofs.YteecbjpnnklbpaaDoor.Gf
set_option linter.unusedVariables false
set_option maxRecDepth 100000
theorem col_rd {w : World} {b off : Nat} {L : List UInt8} (h : Rd w w.heap.size (some ⟨b, off, none⟩) (L.map e8)) (k : Nat) (hk : k < L.length) : w.cell? ⟨b, off + k, none⟩ = some (e8 (L.getD k 0)) := by
  obtain ⟨b', off', e, _, hc⟩ := h (by intro e; have := congrArg List.length e; rw [List.length_map, List.length_nil] at this; omega)
  cases e
  rw [hc k (by simpa using hk)]
  simp [List.getD, List.getElem?_eq_getElem hk]
theorem rd_lt {w : World} {b off : Nat} {L : List UInt8} (h : Rd w w.heap.size (some ⟨b, off, none⟩) (L.map e8)) (hk : 0 < L.length) : b < w.heap.size := by
  obtain ⟨b', off', e, hl, hc⟩ := h (by intro e; have := congrArg List.length e; rw [List.length_map, List.length_nil] at this; omega)
  cases e
  exact hl
set_option maxHeartbeats 2000000 in
theorem words_any (b off : Nat) (key : List UInt8) (c : Nat) (w : World) (hn : key.length = 32) (hc : 32 ≤ c) (hcm : c ≤ maxLen) (hr : Rd w w.heap.size (some ⟨b, off, none⟩) (key.map e8)) :
    Calls Tryd.prog 100 #[.slice (some ⟨b, off, none⟩) 32 c] w fun e w' => e = .returned (arrV (vb (sched key))) ∧ Below w.heap.size w w' := by
  unfold maxLen at hcm
  have hlo := sched_lo key
  have hhi := sched_hi key
  have hF := sched_len key
  obtain ⟨F, hFe⟩ : ∃ F, F = sched key := ⟨_, rfl⟩
  rw [← hFe] at hlo hhi hF ⊢
  clear hFe
  have hZ := zero240_len
  have zW := zeroVW
  obtain ⟨Z, hZe⟩ : ∃ Z, Z = zero240 := ⟨_, rfl⟩
  rw [← hZe] at hZ zW
  clear hZe
  have HLo := Lib.hid hlo
  have HHi := Lib.hid hhi
  have HF := Lib.hid hF
  have HZ := Lib.hid hZ
  have HN := Lib.hid hn
  have hszW := size240 sizeW hF
  clear hF hn hlo hhi hZ
  go_enter Tryd.func100, Tryd.ntmps100
  go_wp2_with (first
    | ((with_reducible show wpList _ _ _ (⟨some 2, _, _, _, _, _⟩ :: _) _ _); refine wpList_allocN rfl _ rfl (vb Z) zW ?_; intro w1 hb1 bw1 hs1)
    | ((with_reducible show wpList _ _ _ (⟨some 3, _, _, _, _, _⟩ :: _) _ _); refine wpList_allocN rfl _ rfl (vb Z) zW ?_; intro w2 hb2 bw2 hs2; have hb12 := hb1.on bw2; have bt2 := bt bw1 bw2)
    | fail)
  have l01 : w.heap.size < w1.heap.size := hs1
  obtain ⟨B1, hB1⟩ : ∃ B, B = w1.heap.size := ⟨_, rfl⟩
  rw [← hB1] at hb2 l01 ⊢
  clear hB1 hb1 bw1 bw2 hs1 hs2
  go_loopw [4] (fun i wr => ∃ k : Nat, k ≤ 60 ∧ i = .int .i64 k ∧ Blk wr w.heap.size (vb Z) ∧ Blk wr B1 (vb (part F Z (k * 4))) ∧ Below w.heap.size w wr) (fun i _ => 60 - (intOf i).toNat)
  case atStart => exact ⟨0, by omega, rfl, hb12, by rw [Nat.zero_mul, part_zero]; exact hb2, bt2⟩
  case round =>
    obtain ⟨k, hk, rfl, d0, d1, bt0⟩ := hrel
    clear hb12 hb2 bt2
    by_cases hlt : k < 60
    · by_cases h8 : k < 8
      · have hrr := hr.on bt0
        obtain ⟨n, hnk⟩ : ∃ n, n = 4 * k := ⟨_, rfl⟩
        have hw0 : IntKind.i64.wrap (4 * (k : Int)) = (n : Int) := by rw [IntKind.wrap_i64]; omega
        have hn28 : n ≤ 28 := by omega
        obtain ⟨n1, hn1⟩ : ∃ m, m = n + 1 := ⟨_, rfl⟩
        obtain ⟨n2, hn2⟩ : ∃ m, m = n + 2 := ⟨_, rfl⟩
        obtain ⟨n3, hn3⟩ : ∃ m, m = n + 3 := ⟨_, rfl⟩
        have hw1 : IntKind.i64.wrap ((n : Int) + 1) = (n1 : Int) := by rw [IntKind.wrap_i64]; omega
        have hw2 : IntKind.i64.wrap ((n : Int) + 2) = (n2 : Int) := by rw [IntKind.wrap_i64]; omega
        have hw3 : IntKind.i64.wrap ((n : Int) + 3) = (n3 : Int) := by rw [IntKind.wrap_i64]; omega
        have g0 := col_rd hrr n (by rw [HN.out]; omega)
        have g1 := col_rd hrr n1 (by rw [HN.out]; omega)
        have g2 := col_rd hrr n2 (by rw [HN.out]; omega)
        have g3 := col_rd hrr n3 (by rw [HN.out]; omega)
        obtain ⟨X, hX⟩ : ∃ X, X = colOf key k := ⟨_, rfl⟩
        rw [show key.getD n 0 = X.a by rw [hX, hnk]; rfl] at g0
        rw [show key.getD n1 0 = X.b by rw [hX, hn1, hnk]; rfl] at g1
        rw [show key.getD n2 0 = X.c by rw [hX, hn2, hnk]; rfl] at g2
        rw [show key.getD n3 0 = X.d by rw [hX, hn3, hnk]; rfl] at g3
        have z0 : (n : Int) < 32 := by omega
        have z1 : (n1 : Int) < 32 := by omega
        have z2 : (n2 : Int) < 32 := by omega
        have z3 : (n3 : Int) < 32 := by omega
        have hbl := rd_lt hrr (by rw [HN.out]; omega)
        have hkI : (k : Int) < 60 := by omega
        have hcol := HLo.out k h8
        have hsp := Lib.hid (splice_part (N := 240) HF.out HZ.out (colL X) (k * 4) (by rw [colOf_len]; omega) (fun j hj => by rw [Nat.mul_comm k 4, col_at F k j hj, hcol, hX]))
        have hpl := Lib.hid (part_len F Z (k * 4) 240 HF.out HZ.out (by omega))
        have HNK := Lib.hid hnk
        have h8I : (k : Int) < 8 := by omega
        clear hcol hX hn1 hn2 hn3 hnk
        go_wp2
        refine region_inb_tail 26 (by kernel_rfl) (by kernel_rfl) ?_
        simp only [List.take_succ_cons, List.take_zero, List.drop_succ_cons, List.drop_zero]
        have inbNe := InB.some
        have inbW := @wrap_small
        have inbU := IntKind.wrap_u8'
        repeat (refine wpQuiet_step (fun K hK => ?_); go_simp; first | (refine hK _ ?_; clear hK K) | (apply Exists.intro; refine ⟨?_, hK _ ?_⟩; (· (intro w' hw'; first | (have hcw := hw'.cell; go_simp; exact rfl))); clear hK K))
        refine wpQuiet_nil ?_
        intro wq hq
        clear inbNe inbW inbU
        have m0 := d0.on hq.below
        have m1 := d1.on hq.below
        have btm := bt bt0 hq.below
        clear hq
        refine wpList_storeMid rfl _ _ _ rfl (g := B1) (off := k * 4) rfl (ys := vb (colL X)) rfl m1 (by rw [vb_len, vb_len, colOf_len, hpl.out]; omega) (vb_one _) size4 ?_
        intro w3 hb3 hg3
        rw [hsp.out, colOf_len] at hb3
        have e0 := m0.grown hg3 (by simp; omega)
        have bt3 := below_row btm hg3 (by omega) btm.size
        go_wp2
        go_roundw
        case rel => exact ⟨k + 1, by omega, by go_num, e0, by rw [Nat.add_mul]; exact hb3, bt3⟩
        case measure => simp [intOf]; omega
      · have h8' : 8 ≤ k := by omega
        have h8I : ¬ (k : Int) < 8 := by omega
        have hcol := HHi.out k h8' hlt
        have hpl := Lib.hid (part_len F Z (k * 4) 240 HF.out HZ.out (by omega))
        obtain ⟨q, hq⟩ : ∃ q, q = k - 1 := ⟨_, rfl⟩
        obtain ⟨p, hp⟩ : ∃ p, p = k - 8 := ⟨_, rfl⟩
        have hwq : IntKind.i64.wrap ((k : Int) - 1) = (q : Int) := by rw [IntKind.wrap_i64]; omega
        have hwp : IntKind.i64.wrap ((k : Int) - 8) = (p : Int) := by rw [IntKind.wrap_i64]; omega
        have hqI : (q : Int) < 60 := by omega
        have hpI : (p : Int) < 60 := by omega
        have hkI : (k : Int) < 60 := by omega
        rw [← hq, ← hp] at hcol
        obtain ⟨X, hX⟩ : ∃ X, X = colOf F q := ⟨_, rfl⟩
        obtain ⟨Y, hY⟩ : ∃ Y, Y = colOf F p := ⟨_, rfl⟩
        obtain ⟨V, hV⟩ : ∃ V, V = turn X k := ⟨_, rfl⟩
        have hrq : wr.rangeAt B1 (q * 4) (vb (colL X)) := by
          rw [Nat.mul_comm q 4, hX, ← colOf_part (Z := Z) HF.out (k * 4) q (by omega) (by omega)]
          exact range_colAt d1 q (by rw [hpl.out]; omega)
        have hgetY : ∀ n, n < 4 → F.getD (p * 4 + n) 0 = colGet Y n := fun n hn => by
          rw [Nat.mul_comm p 4, col_at F p n hn, colL_get _ _ hn, hY]
        have HgetY := Lib.hid hgetY
        have hget : ∀ n, n < 4 → F.getD (k * 4 + n) 0 = colGet Y n ^^^ colGet V n := fun n hn => by
          rw [Nat.mul_comm k 4, col_at F k n hn, colL_get _ _ hn, hcol, colGet_add, hY, hV, hX]
        have Hget := Lib.hid hget
        have HV := Lib.hid hV
        have hB1 := d1.lt
        have Hp8 := Lib.hid hp
        have t8 : ((k : Int)).tmod 8 = ((k % 8 : Nat) : Int) := by rw [Int.tmod_eq_emod_of_nonneg (by omega)]; omega
        have t4 : ((k : Int)).tmod 4 = ((k % 4 : Nat) : Int) := by rw [Int.tmod_eq_emod_of_nonneg (by omega)]; omega
        clear hcol hX hY hV hq hp hget hgetY
        by_cases e8' : k % 8 = 0
        · have ht := Lib.hid (show colL V = (colL (boxC (rotC X))).set 0 (box (rotC X).a ^^^ pow 2 (k / 8 - 1)) by rw [HV.out]; unfold turn; rw [if_pos e8']; rfl)
          rw [show k % 4 = 0 by omega] at t4
          rw [e8'] at t8
          obtain ⟨s, hs⟩ : ∃ s, s = k / 8 - 1 := ⟨_, rfl⟩
          have hs8 : s < 8 := by omega
          have tq : ((k : Int)).tdiv 8 = ((s + 1 : Nat) : Int) := by rw [Int.tdiv_eq_ediv_of_nonneg (by omega)]; omega
          have wq : IntKind.i64.wrap (((s + 1 : Nat) : Int) - 1) = (s : Int) := by rw [IntKind.wrap_i64]; omega
          have wp1 : IntKind.i64.wrap ((s + 1 : Nat) : Int) = ((s + 1 : Nat) : Int) := by rw [IntKind.wrap_i64]; omega
          have hex : expo (s : Int) = s := by unfold expo; rw [if_neg (by omega)]; omega
          obtain ⟨p1, hp1⟩ : ∃ q, q = s + 1 := ⟨_, rfl⟩
          rw [← hp1] at tq wq wp1
          rw [← hs] at ht
          have hpw := rpower_any 2 2 (s : Int) rfl (by omega) (by omega)
          rw [hex] at hpw
          obtain ⟨P, hP⟩ : ∃ P, P = pow 2 s := ⟨_, rfl⟩
          rw [← hP] at ht hpw
          have Hpw := Lib.hid hpw
          have K60 := Lib.hid hk
          clear hpw hP hp1 hs hex e8'
          obtain ⟨X0, hX0⟩ : ∃ Y, Y = rotC X := ⟨_, rfl⟩
          have hXv : colL X0 = [X.b, X.c, X.d, X.a] := by rw [hX0]; rfl
          rw [← hX0] at ht
          have HXv := Lib.hid hXv
          clear hX0 hXv
          go_wp2_with (first
            | ((with_reducible show wpList _ _ _ (⟨some 43, _, _, _, _, _⟩ :: _) _ _); refine wpList_load_mid rfl _ _ rfl B1 (q * 4) rfl (vb (colL X)) _ hrq Tryd.underlying112 rfl size4 ?_)
            | ((with_reducible show wpList _ _ _ (⟨some 5, _, _, _, _, _⟩ :: _) _ _); refine wpList_allocN rfl _ rfl (vb zero4) zeroV4 ?_; intro w4 hb4 bw4 hs4)
            | ((with_reducible show wpList _ _ _ (⟨none, .store 112 (.tmp 5) _, _, _, _, _⟩ :: _) _ _); refine wpList_storeN rfl _ _ _ rfl rfl (ys := vb (colL X)) rfl hb4 rfl (vb_one _) (size4L X) ?_; intro w5 hb5 hg5; have bt5 := below_row bw4 hg5 (Nat.le_refl _) bw4.size; have g0 := Blk.byte hb5 (k := 0) (by simp [colL]); have g1 := Blk.byte hb5 (k := 1) (by simp [colL]); have g2 := Blk.byte hb5 (k := 2) (by simp [colL]); have g3 := Blk.byte hb5 (k := 3) (by simp [colL]); rw [show (colL X).getD 0 0 = X.a from rfl] at g0; rw [show (colL X).getD 1 0 = X.b from rfl] at g1; rw [show (colL X).getD 2 0 = X.c from rfl] at g2; rw [show (colL X).getD 3 0 = X.d from rfl] at g3; have lt0 := hb5.lt)
            | ((with_reducible show wpList _ _ _ (⟨none, .store 112 (.tmp 5) _, _, _, _, _⟩ :: _) _ _); refine wpList_storeN rfl _ _ _ rfl rfl (ys := vb (colL X0)) (by rw [HXv.out]; rfl) hb5 rfl (vb_one _) (size4L X0) ?_; intro w6 hb6 hg6; have bt6 := below_row bt5 hg6 (Nat.le_refl _) bt5.size)
            | fail)
          have f0 := d0.on bt6
          have f1 := d1.on bt6
          have btm := bt bt0 bt6
          have lB6 : B1 < wr.heap.size := hB1
          have hbX := hb6
          obtain ⟨B6, hB6⟩ : ∃ B, B = wr.heap.size := ⟨_, rfl⟩
          rw [← hB6] at hbX lB6 ⊢
          clear hB6 hb4 hg5 bw4 hs4 hb5 bt5 d0 d1 bt0 hrq hB1 hb6 hg6 bt6 g0 g1 g2 g3 lt0
          go_loopw [6] (fun i wx => ∃ n : Nat, n ≤ 4 ∧ i = .int .i64 n ∧ Blk wx w.heap.size (vb Z) ∧ Blk wx B1 (vb (part F Z (k * 4))) ∧ Blk wx B6 (vb (boxP X0 n)) ∧ Below w.heap.size w wx) (fun i _ => 4 - (intOf i).toNat)
          case atStart => exact ⟨0, by omega, rfl, f0, f1, by rw [boxP, part_zero]; exact hbX, btm⟩
          case round =>
            obtain ⟨n, hn, rfl, e0, e1, e6, bx⟩ := hrel
            clear f0 f1 hbX btm
            by_cases hln : n < 4
            · have hset := Lib.hid (boxP_set X0 n hln)
              have hcc := Blk.byte e6 (k := n) (by rw [boxP, part_len _ _ n 4 rfl rfl (by omega)]; exact hln)
              rw [boxP, part_old _ _ n n 4 rfl rfl (Nat.le_refl _) hln, colL_get _ _ hln] at hcc
              obtain ⟨y, hy⟩ : ∃ y, y = colGet X0 n := ⟨_, rfl⟩
              rw [← hy] at hset hcc
              have hnI : (n : Int) < 4 := by omega
              have hlt6 := e6.lt
              clear hy
              go_wp2_with fail
              refine (rbox_any y _ rfl _).mono ?_
              rintro e w7 ⟨rfl, b7⟩
              have hcc7 := (b7.cell (p := ⟨B6, n, none⟩) hlt6).trans hcc
              have h0 := e0.on b7
              have h1 := e1.on b7
              have h6 := e6.on b7
              have hf7 := h6.free n
              have hlt7 := h6.lt
              have bx7 := bt bx b7
              clear hcc hlt6
              go_wp2
              go_roundw
              case rel =>
                have hbs := h6.set (k := n) (e8 (box y))
                rw [vb_set, hset.out] at hbs
                exact ⟨n + 1, by omega, by go_num, h0.other _ (by omega), h1.other _ (by omega), hbs, bset bx7 (by omega) _⟩
              case measure => simp [intOf]; omega
            · obtain rfl : n = 4 := by omega
              rw [boxP, part_all _ _ 4 rfl rfl] at e6
              have hc0 := Blk.byte e6 (k := 0) (by simp [colL])
              rw [show (colL (boxC X0)).getD 0 0 = box X0.a from rfl] at hc0
              have hB := e6.lt
              obtain ⟨y, hy⟩ : ∃ y, y = box X0.a := ⟨_, rfl⟩
              rw [← hy] at hc0 ht
              clear hy
              go_wp2
              refine region_inb_tail 8 (by kernel_rfl) (by kernel_rfl) ?_
              simp only [List.take_succ_cons, List.take_zero, List.drop_succ_cons, List.drop_zero]
              have inbNe := InB.some
              have inbW := @wrap_small
              have inbU := IntKind.wrap_u8'
              repeat (refine wpQuiet_step (fun K hK => ?_); go_simp; first | (refine hK _ ?_; clear hK K) | (apply Exists.intro; refine ⟨?_, hK _ ?_⟩; (· (intro w' hw'; first | (go_at_call 117; refine (Hpw.out _).mono ?_; rintro e w1 ⟨rfl, rfl⟩; exact ⟨rfl, hw'⟩) | (have hcw := hw'.cell; go_simp; exact rfl))); clear hK K))
              refine wpQuiet_nil ?_
              intro wq hq
              clear inbNe inbW inbU
              have q0 := e0.on hq.below
              have q1 := e1.on hq.below
              have q6 := e6.on hq.below
              have btq := bt bx hq.below
              have hc1 := (hq.below.cell (p := ⟨B6, 0, none⟩) hB).trans hc0
              have hf1 := q6.free 0
              have hB6 := q6.lt
              clear hq
              have hbs := q6.set (k := 0) (e8 (y ^^^ P))
              rw [vb_set, ← ht.out] at hbs
              have r0 := q0.other (k := 0) (b := B6) (e8 (y ^^^ P)) (by omega)
              have r1 := q1.other (k := 0) (b := B6) (e8 (y ^^^ P)) (by omega)
              have btr := bset (o := 0) btq (show w.heap.size ≤ B6 by omega) (e8 (y ^^^ P))
              rw [xor8]
              go_wp2
              go_loopw [7] (fun i wx => ∃ n : Nat, n ≤ 4 ∧ i = .int .i64 n ∧ Blk wx w.heap.size (vb Z) ∧ Blk wx B1 (vb (part F Z (k * 4 + n))) ∧ Blk wx B6 (vb (colL V)) ∧ Below w.heap.size w wx) (fun i _ => 4 - (intOf i).toNat)
              case atStart => exact ⟨0, by omega, rfl, r0, r1, hbs, btr⟩
              case round =>
                obtain ⟨n, hn, rfl, e0, e1, e6, bx⟩ := hrel
                clear r0 r1 hbs btr
                by_cases hln : n < 4
                · have hk60 : k < 60 := hlt
                  have hp8 := Hp8.out
                  have hset := Lib.hid (part_set F Z (k * 4 + n) 240 HF.out HZ.out (by omega))
                  have hv := Lib.hid (Hget.out n hln)
                  have hcc := Blk.byte e6 (k := n) (by rw [colOf_len]; exact hln)
                  rw [colL_get _ _ hln] at hcc
                  have hcy := Blk.byte e1 (k := p * 4 + n) (by rw [part_len _ _ (k * 4 + n) 240 HF.out HZ.out (by omega)]; omega)
                  rw [part_new HF.out (k * 4 + n) (p * 4 + n) (by omega) (by omega), HgetY.out n hln] at hcy
                  have hct := Blk.byte e1 (k := k * 4 + n) (by rw [part_len _ _ (k * 4 + n) 240 HF.out HZ.out (by omega)]; omega)
                  have hf := e1.free (k * 4 + n)
                  obtain ⟨x, hx⟩ : ∃ x, x = colGet Y n := ⟨_, rfl⟩
                  obtain ⟨y, hy⟩ : ∃ y, y = colGet V n := ⟨_, rfl⟩
                  rw [← hx] at hcy hv
                  rw [← hy] at hcc hv
                  have hBB := e1.lt
                  have hB6 := e6.lt
                  have hnI : (n : Int) < 4 := by omega
                  clear hx hy hp8
                  go_wp2
                  try go_region
                  try go_wp2
                  go_roundw
                  case rel =>
                    have hbs := e1.set (k := k * 4 + n) (e8 (x ^^^ y))
                    have hst := hset.out
                    rw [hv.out] at hst
                    rw [vb_set, hst] at hbs
                    rw [xor8]
                    exact ⟨n + 1, by omega, by go_num, e0.other _ (by omega), by rw [← Nat.add_assoc]; exact hbs, e6.other _ (by omega), (bset bx (by omega) _).drew⟩
                  case measure => simp [intOf]; omega
                · obtain rfl : n = 4 := by omega
                  go_wp2
                  go_roundw
                  case rel => exact ⟨k + 1, by omega, by go_num, e0, by rw [Nat.add_mul]; exact e1, bx⟩
                  case measure => simp [intOf]; omega
        · by_cases e4' : k % 4 = 0
          · have ht := Lib.hid (show V = boxC X by rw [HV.out]; unfold turn; rw [if_neg e8', if_pos e4'])
            have f8 : (((k % 8 : Nat) : Int) == 0) = false := beq_no (by omega)
            rw [e4'] at t4
            obtain ⟨q8, hq8⟩ : ∃ q, q = k % 8 := ⟨_, rfl⟩
            rw [← hq8] at t8 f8
            clear hq8 e8' e4'
            obtain ⟨X0, hX0⟩ : ∃ Y, Y = X := ⟨_, rfl⟩
            subst hX0
            go_wp2_with (first
              | ((with_reducible show wpList _ _ _ (⟨some 43, _, _, _, _, _⟩ :: _) _ _); refine wpList_load_mid rfl _ _ rfl B1 (q * 4) rfl (vb (colL X0)) _ hrq Tryd.underlying112 rfl size4 ?_)
              | ((with_reducible show wpList _ _ _ (⟨some 5, _, _, _, _, _⟩ :: _) _ _); refine wpList_allocN rfl _ rfl (vb zero4) zeroV4 ?_; intro w4 hb4 bw4 hs4)
              | ((with_reducible show wpList _ _ _ (⟨none, .store 112 (.tmp 5) _, _, _, _, _⟩ :: _) _ _); refine wpList_storeN rfl _ _ _ rfl rfl (ys := vb (colL X0)) rfl hb4 rfl (vb_one _) (size4L X0) ?_; intro w5 hb5 hg5; have bt5 := below_row bw4 hg5 (Nat.le_refl _) bw4.size)
              | fail)
            have f0 := d0.on bt5
            have f1 := d1.on bt5
            have btm := bt bt0 bt5
            have lB6 : B1 < wr.heap.size := hB1
            have hbX := hb5
            obtain ⟨B6, hB6⟩ : ∃ B, B = wr.heap.size := ⟨_, rfl⟩
            rw [← hB6] at hbX lB6 ⊢
            clear hB6 hb4 hg5 bw4 hs4 hb5 bt5 d0 d1 bt0 hrq hB1
            go_loopw [6] (fun i wx => ∃ n : Nat, n ≤ 4 ∧ i = .int .i64 n ∧ Blk wx w.heap.size (vb Z) ∧ Blk wx B1 (vb (part F Z (k * 4))) ∧ Blk wx B6 (vb (boxP X0 n)) ∧ Below w.heap.size w wx) (fun i _ => 4 - (intOf i).toNat)
            case atStart => exact ⟨0, by omega, rfl, f0, f1, by rw [boxP, part_zero]; exact hbX, btm⟩
            case round =>
              obtain ⟨n, hn, rfl, e0, e1, e6, bx⟩ := hrel
              clear f0 f1 hbX btm
              by_cases hln : n < 4
              · have hset := Lib.hid (boxP_set X0 n hln)
                have hcc := Blk.byte e6 (k := n) (by rw [boxP, part_len _ _ n 4 rfl rfl (by omega)]; exact hln)
                rw [boxP, part_old _ _ n n 4 rfl rfl (Nat.le_refl _) hln, colL_get _ _ hln] at hcc
                obtain ⟨y, hy⟩ : ∃ y, y = colGet X0 n := ⟨_, rfl⟩
                rw [← hy] at hset hcc
                have hnI : (n : Int) < 4 := by omega
                have hlt6 := e6.lt
                clear hy
                go_wp2_with fail
                refine (rbox_any y _ rfl _).mono ?_
                rintro e w7 ⟨rfl, b7⟩
                have hcc7 := (b7.cell (p := ⟨B6, n, none⟩) hlt6).trans hcc
                have h0 := e0.on b7
                have h1 := e1.on b7
                have h6 := e6.on b7
                have hf7 := h6.free n
                have hlt7 := h6.lt
                have bx7 := bt bx b7
                clear hcc hlt6
                go_wp2
                go_roundw
                case rel =>
                  have hbs := h6.set (k := n) (e8 (box y))
                  rw [vb_set, hset.out] at hbs
                  exact ⟨n + 1, by omega, by go_num, h0.other _ (by omega), h1.other _ (by omega), hbs, bset bx7 (by omega) _⟩
                case measure => simp [intOf]; omega
              · obtain rfl : n = 4 := by omega
                rw [boxP, part_all _ _ 4 rfl rfl] at e6
                have r0 := e0
                have r1 := e1
                have hbs := e6
                rw [← ht.out] at hbs
                have btr := bx
                clear e0 e1 e6 bx
                go_wp2
                go_loopw [7] (fun i wx => ∃ n : Nat, n ≤ 4 ∧ i = .int .i64 n ∧ Blk wx w.heap.size (vb Z) ∧ Blk wx B1 (vb (part F Z (k * 4 + n))) ∧ Blk wx B6 (vb (colL V)) ∧ Below w.heap.size w wx) (fun i _ => 4 - (intOf i).toNat)
                case atStart => exact ⟨0, by omega, rfl, r0, r1, hbs, btr⟩
                case round =>
                  obtain ⟨n, hn, rfl, e0, e1, e6, bx⟩ := hrel
                  clear r0 r1 hbs btr
                  by_cases hln : n < 4
                  · have hk60 : k < 60 := hlt
                    have hp8 := Hp8.out
                    have hset := Lib.hid (part_set F Z (k * 4 + n) 240 HF.out HZ.out (by omega))
                    have hv := Lib.hid (Hget.out n hln)
                    have hcc := Blk.byte e6 (k := n) (by rw [colOf_len]; exact hln)
                    rw [colL_get _ _ hln] at hcc
                    have hcy := Blk.byte e1 (k := p * 4 + n) (by rw [part_len _ _ (k * 4 + n) 240 HF.out HZ.out (by omega)]; omega)
                    rw [part_new HF.out (k * 4 + n) (p * 4 + n) (by omega) (by omega), HgetY.out n hln] at hcy
                    have hct := Blk.byte e1 (k := k * 4 + n) (by rw [part_len _ _ (k * 4 + n) 240 HF.out HZ.out (by omega)]; omega)
                    have hf := e1.free (k * 4 + n)
                    obtain ⟨x, hx⟩ : ∃ x, x = colGet Y n := ⟨_, rfl⟩
                    obtain ⟨y, hy⟩ : ∃ y, y = colGet V n := ⟨_, rfl⟩
                    rw [← hx] at hcy hv
                    rw [← hy] at hcc hv
                    have hBB := e1.lt
                    have hB6 := e6.lt
                    have hnI : (n : Int) < 4 := by omega
                    clear hx hy hp8
                    go_wp2
                    try go_region
                    try go_wp2
                    go_roundw
                    case rel =>
                      have hbs := e1.set (k := k * 4 + n) (e8 (x ^^^ y))
                      have hst := hset.out
                      rw [hv.out] at hst
                      rw [vb_set, hst] at hbs
                      rw [xor8]
                      exact ⟨n + 1, by omega, by go_num, e0.other _ (by omega), by rw [← Nat.add_assoc]; exact hbs, e6.other _ (by omega), (bset bx (by omega) _).drew⟩
                    case measure => simp [intOf]; omega
                  · obtain rfl : n = 4 := by omega
                    go_wp2
                    go_roundw
                    case rel => exact ⟨k + 1, by omega, by go_num, e0, by rw [Nat.add_mul]; exact e1, bx⟩
                    case measure => simp [intOf]; omega
          · have ht := Lib.hid (show V = X by rw [HV.out]; unfold turn; rw [if_neg e8', if_neg e4'])
            have f8 : (((k % 8 : Nat) : Int) == 0) = false := beq_no (by omega)
            have f4 : (((k % 4 : Nat) : Int) == 0) = false := beq_no (by omega)
            obtain ⟨q8, hq8⟩ : ∃ q, q = k % 8 := ⟨_, rfl⟩
            obtain ⟨q4, hq4⟩ : ∃ q, q = k % 4 := ⟨_, rfl⟩
            rw [← hq8] at t8 f8
            rw [← hq4] at t4 f4
            clear hq8 hq4 e8' e4'
            obtain ⟨X0, hX0⟩ : ∃ Y, Y = X := ⟨_, rfl⟩
            subst hX0
            go_wp2_with (first
              | ((with_reducible show wpList _ _ _ (⟨some 43, _, _, _, _, _⟩ :: _) _ _); refine wpList_load_mid rfl _ _ rfl B1 (q * 4) rfl (vb (colL X0)) _ hrq Tryd.underlying112 rfl size4 ?_)
              | ((with_reducible show wpList _ _ _ (⟨some 5, _, _, _, _, _⟩ :: _) _ _); refine wpList_allocN rfl _ rfl (vb zero4) zeroV4 ?_; intro w4 hb4 bw4 hs4)
              | ((with_reducible show wpList _ _ _ (⟨none, .store 112 (.tmp 5) _, _, _, _, _⟩ :: _) _ _); refine wpList_storeN rfl _ _ _ rfl rfl (ys := vb (colL X0)) rfl hb4 rfl (vb_one _) (size4L X0) ?_; intro w5 hb5 hg5; have bt5 := below_row bw4 hg5 (Nat.le_refl _) bw4.size)
              | fail)
            have f0 := d0.on bt5
            have f1 := d1.on bt5
            have btm := bt bt0 bt5
            have lB6 : B1 < wr.heap.size := hB1
            have hbX := hb5
            obtain ⟨B6, hB6⟩ : ∃ B, B = wr.heap.size := ⟨_, rfl⟩
            rw [← hB6] at hbX lB6 ⊢
            clear hB6 hb4 hg5 bw4 hs4 hb5 bt5 d0 d1 bt0 hrq hB1
            go_loopw [6] (fun i wx => ∃ n : Nat, n ≤ 4 ∧ i = .int .i64 n ∧ Blk wx w.heap.size (vb Z) ∧ Blk wx B1 (vb (part F Z (k * 4))) ∧ Blk wx B6 (vb (colL X0)) ∧ Below w.heap.size w wx) (fun i _ => 4 - (intOf i).toNat)
            case atStart => exact ⟨0, by omega, rfl, f0, f1, hbX, btm⟩
            case round =>
              obtain ⟨n, hn, rfl, e0, e1, e6, bx⟩ := hrel
              clear f0 f1 hbX btm
              by_cases hln : n < 4
              · have hnI : (n : Int) < 4 := by omega
                go_wp2
                go_roundw
                case rel => exact ⟨n + 1, by omega, by go_num, e0, e1, e6, bx⟩
                case measure => simp [intOf]; omega
              · obtain rfl : n = 4 := by omega
                have r0 := e0
                have r1 := e1
                have hbs := e6
                rw [← ht.out] at hbs
                have btr := bx
                clear e0 e1 e6 bx
                go_wp2
                go_loopw [7] (fun i wx => ∃ n : Nat, n ≤ 4 ∧ i = .int .i64 n ∧ Blk wx w.heap.size (vb Z) ∧ Blk wx B1 (vb (part F Z (k * 4 + n))) ∧ Blk wx B6 (vb (colL V)) ∧ Below w.heap.size w wx) (fun i _ => 4 - (intOf i).toNat)
                case atStart => exact ⟨0, by omega, rfl, r0, r1, hbs, btr⟩
                case round =>
                  obtain ⟨n, hn, rfl, e0, e1, e6, bx⟩ := hrel
                  clear r0 r1 hbs btr
                  by_cases hln : n < 4
                  · have hk60 : k < 60 := hlt
                    have hp8 := Hp8.out
                    have hset := Lib.hid (part_set F Z (k * 4 + n) 240 HF.out HZ.out (by omega))
                    have hv := Lib.hid (Hget.out n hln)
                    have hcc := Blk.byte e6 (k := n) (by rw [colOf_len]; exact hln)
                    rw [colL_get _ _ hln] at hcc
                    have hcy := Blk.byte e1 (k := p * 4 + n) (by rw [part_len _ _ (k * 4 + n) 240 HF.out HZ.out (by omega)]; omega)
                    rw [part_new HF.out (k * 4 + n) (p * 4 + n) (by omega) (by omega), HgetY.out n hln] at hcy
                    have hct := Blk.byte e1 (k := k * 4 + n) (by rw [part_len _ _ (k * 4 + n) 240 HF.out HZ.out (by omega)]; omega)
                    have hf := e1.free (k * 4 + n)
                    obtain ⟨x, hx⟩ : ∃ x, x = colGet Y n := ⟨_, rfl⟩
                    obtain ⟨y, hy⟩ : ∃ y, y = colGet V n := ⟨_, rfl⟩
                    rw [← hx] at hcy hv
                    rw [← hy] at hcc hv
                    have hBB := e1.lt
                    have hB6 := e6.lt
                    have hnI : (n : Int) < 4 := by omega
                    clear hx hy hp8
                    go_wp2
                    try go_region
                    try go_wp2
                    go_roundw
                    case rel =>
                      have hbs := e1.set (k := k * 4 + n) (e8 (x ^^^ y))
                      have hst := hset.out
                      rw [hv.out] at hst
                      rw [vb_set, hst] at hbs
                      rw [xor8]
                      exact ⟨n + 1, by omega, by go_num, e0.other _ (by omega), by rw [← Nat.add_assoc]; exact hbs, e6.other _ (by omega), (bset bx (by omega) _).drew⟩
                    case measure => simp [intOf]; omega
                  · obtain rfl : n = 4 := by omega
                    go_wp2
                    go_roundw
                    case rel => exact ⟨k + 1, by omega, by go_num, e0, by rw [Nat.add_mul]; exact e1, bx⟩
                    case measure => simp [intOf]; omega
    · obtain rfl : k = 60 := by omega
      have hp60 := part_all F Z 240 HF.out HZ.out
      rw [show 60 * 4 = 240 from rfl, hp60] at d1
      clear hp60
      have hZF : (vb Z).length = (vb F).length := by rw [vb_len, vb_len, HF.out, HZ.out]
      have HZF := Lib.hid hZF
      clear hZF
      go_wp2_with (first
        | ((with_reducible show wpList _ _ _ (⟨some 98, _, _, _, _, _⟩ :: _) _ _); refine wpList_loadA rfl _ _ rfl rfl d1 Tryd.underlying113 hszW ?_)
        | ((with_reducible show wpList _ _ _ (⟨none, .store 113 _ _, _, _, _, _⟩ :: _) _ _); refine wpList_storeN rfl _ _ _ rfl rfl (ys := vb F) rfl d0 HZF.out (vb_one _) hszW ?_; intro w9 hb9 hg9)
        | fail)
      exact bodyPost_ret (v := arrV (vb F)) (results_arr Tryd.results100 _ hb9 Tryd.underlying113 hszW rfl) rfl ⟨rfl, below_row bt0 hg9 (Nat.le_refl _) bt0.size⟩
end Go.Proofs.YteecbjpnnklbpaaDoor.Aes

/- The walks of the reference's Schedule. -/
namespace Go.Proofs.YteecbjpnnklbpaaDoor.Aes
open Go.RowKit
open Go.Proofs.YteecbjpnnklbpaaDoor.Gf
set_option linter.unusedVariables false
set_option maxRecDepth 100000
theorem zeroVR (w : World) : (zeroValue 84).run Tryd.prog w = .ok (arrV (vb zero240)) w := by kernel_rfl
theorem sizeR : (Tryd.prog.info? 84).map (·.size) = some 240 := by kernel_rfl
set_option maxHeartbeats 400000 in
theorem rschedule_no (A : Option Addr) (n c : Nat) (w : World) (hn : n ≠ 32) (hm : n ≤ maxLen) :
    Calls Tryd.prog 79 #[.slice A n c] w fun e w' => e = .returned (.tuple #[arrV (vb zero240), .int .i64 4]) ∧ Below w.heap.size w w' := by
  have hn' : ((n : Int) != 32) = true := bne_yes (by omega)
  have hsz := size240 sizeR zero240_len
  have zR := zeroVR
  obtain ⟨Z, hZe⟩ : ∃ Z, Z = zero240 := ⟨_, rfl⟩
  rw [← hZe] at hsz zR ⊢
  clear hZe
  go_enter Tryd.func79, Tryd.ntmps79
  go_wp2_with (first
    | ((with_reducible show wpList _ _ _ (⟨some 2, _, _, _, _, _⟩ :: _) _ _); refine wpList_allocN rfl _ rfl (vb Z) zR ?_; intro w1 hb1 bw1 hs1)
    | ((with_reducible show wpList _ _ _ (⟨some 4, _, _, _, _, _⟩ :: _) _ _); refine wpList_allocN rfl _ rfl (vb Z) zR ?_; intro w2 hb2 bw2 hs2; have hb12 := hb1.on bw2; have bt2 := bt bw1 bw2)
    | ((with_reducible show wpList _ _ _ (⟨some 11, _, _, _, _, _⟩ :: _) _ _); refine wpList_loadA rfl _ _ rfl rfl hb2 Tryd.underlying84 hsz ?_)
    | ((with_reducible show wpList _ _ _ (⟨none, .store 84 _ _, _, _, _, _⟩ :: _) _ _); refine wpList_storeN rfl _ _ _ rfl rfl (ys := vb Z) rfl hb12 rfl (vb_one _) hsz ?_; intro w9 hb9 hg9)
    | fail)
  exact bodyPost_ret (v := .tuple #[arrV (vb Z), .int .i64 4]) (results_arr2 Tryd.results79 _ hb9 Tryd.underlying84 hsz rfl rfl) rfl ⟨rfl, below_row bt2 hg9 (Nat.le_refl _) bt2.size⟩
set_option maxHeartbeats 1600000 in
theorem rschedule_yes (b off : Nat) (key : List UInt8) (c : Nat) (w : World) (hn : key.length = 32) (hc : 32 ≤ c) (hcm : c ≤ maxLen) (hr : Rd w w.heap.size (some ⟨b, off, none⟩) (key.map e8)) :
    Calls Tryd.prog 79 #[.slice (some ⟨b, off, none⟩) 32 c] w fun e w' => e = .returned (.tuple #[arrV (vb (sched key)), .int .i64 0]) ∧ Below w.heap.size w w' := by
  have hF := sched_len key
  have hwd : ∀ W, Below w.heap.size w W → Calls Tryd.prog 100 #[.slice (some ⟨b, off, none⟩) 32 c] W fun e w' => e = .returned (arrV (vb (sched key))) ∧ Below W.heap.size W w' := fun W hW => words_any b off key c W hn hc hcm (hr.on hW)
  unfold maxLen at hcm
  obtain ⟨F, hFe⟩ : ∃ F, F = sched key := ⟨_, rfl⟩
  rw [← hFe] at hF hwd ⊢
  clear hFe
  have hZ := zero240_len
  have zW := zeroVW
  have zR := zeroVR
  obtain ⟨Z, hZe⟩ : ∃ Z, Z = zero240 := ⟨_, rfl⟩
  rw [← hZe] at hZ zW zR
  clear hZe
  have HF := Lib.hid hF
  have HZ := Lib.hid hZ
  have Hwd := Lib.hid hwd
  have hszW := size240 sizeW hF
  have hszR := size240 sizeR hF
  have hZF : (vb Z).length = (vb F).length := by rw [vb_len, vb_len, hF, hZ]
  have HZF := Lib.hid hZF
  clear hF hn hZ hwd hZF
  go_enter Tryd.func79, Tryd.ntmps79
  go_wp2_with (first
    | ((with_reducible show wpList _ _ _ (⟨some 2, _, _, _, _, _⟩ :: _) _ _); refine wpList_allocN rfl _ rfl (vb Z) zR ?_; intro w1 hb1 bw1 hs1)
    | ((with_reducible show wpList _ _ _ (⟨some 4, _, _, _, _, _⟩ :: _) _ _); refine wpList_allocN rfl _ rfl (vb Z) zR ?_; intro w2 hb2 bw2 hs2; have hb12 := hb1.on bw2; have bt2 := bt bw1 bw2)
    | fail)
  refine (Hwd.out _ bt2).mono ?_
  rintro e w3 ⟨rfl, b3⟩
  have hb13 := hb12.on b3
  have hb23 := hb2.on b3
  have bt3 := bt bt2 b3
  go_wp2_with (first
    | ((with_reducible show wpList _ _ _ (⟨some 5, _, _, _, _, _⟩ :: _) _ _); refine wpList_allocN rfl _ rfl (vb Z) zW ?_; intro w4 hb4 bw4 hs4)
    | ((with_reducible show wpList _ _ _ (⟨none, .store 113 _ _, _, _, _, _⟩ :: _) _ _); refine wpList_storeN rfl _ _ _ rfl rfl (ys := vb F) rfl hb4 HZF.out (vb_one _) hszW ?_; intro w5 hb5 hg5; have bt5 := below_row bw4 hg5 (Nat.le_refl _) bw4.size)
    | fail)
  have f1 := hb13.on bt5
  have f2 := hb23.on bt5
  have btm := bt bt3 bt5
  have l01 : w.heap.size < w1.heap.size := hs1
  have l12 : w1.heap.size < w3.heap.size := by have := b3.size; omega
  obtain ⟨B4, hB4⟩ : ∃ B, B = w1.heap.size := ⟨_, rfl⟩
  obtain ⟨B5, hB5⟩ : ∃ B, B = w3.heap.size := ⟨_, rfl⟩
  rw [← hB4] at f2 l01 l12 ⊢
  rw [← hB5] at hb5 l12 ⊢
  clear hB4 hB5 hb1 hb2 hb12 hb13 hb23 hb4 bw1 bw2 bw4 b3 bt2 bt3 bt5 hs1 hs2 hs4 hg5
  go_loopw [6] (fun i wr => ∃ k : Nat, k ≤ 60 ∧ i = .int .i64 k ∧ Blk wr w.heap.size (vb Z) ∧ Blk wr B4 (vb (part F Z (k * 4))) ∧ Blk wr B5 (vb F) ∧ Below w.heap.size w wr) (fun i _ => 60 - (intOf i).toNat)
  case atStart => exact ⟨0, by omega, rfl, f1, by rw [Nat.zero_mul, part_zero]; exact f2, hb5, btm⟩
  case round =>
    obtain ⟨k, hk, rfl, d0, d4, d5, bt0⟩ := hrel
    clear f1 f2 hb5 btm
    by_cases hlt : k < 60
    · go_wp2
      obtain ⟨q, hq⟩ : ∃ q, q = k / 4 := ⟨_, rfl⟩
      obtain ⟨r1, hr1⟩ : ∃ r, r = k % 4 := ⟨_, rfl⟩
      have tq : ((k : Int)).tdiv 4 = (q : Int) := by rw [Int.tdiv_eq_ediv_of_nonneg (by omega)]; omega
      have tr : ((k : Int)).tmod 4 = (r1 : Int) := by rw [Int.tmod_eq_emod_of_nonneg (by omega)]; omega
      have wq0 : IntKind.i64.wrap (q : Int) = (q : Int) := by rw [IntKind.wrap_i64]; omega
      have hoff : q * 16 + 4 * r1 = k * 4 := by omega
      have hr3 : r1 < 4 := by omega
      have Hoff := Lib.hid hoff
      have hqI : (q : Int) < 15 := by omega
      have hkI : (k : Int) < 60 := by omega
      clear hq hr1 hoff
      go_loopw [7] (fun i wx => ∃ n : Nat, n ≤ 4 ∧ i = .int .i64 n ∧ Blk wx w.heap.size (vb Z) ∧ Blk wx B4 (vb (part F Z (k * 4 + n))) ∧ Blk wx B5 (vb F) ∧ Below w.heap.size w wx) (fun i _ => 4 - (intOf i).toNat)
      case atStart => exact ⟨0, by omega, rfl, d0, d4, d5, bt0⟩
      case round =>
        obtain ⟨n, hn, rfl, e0, e4, e5, bx⟩ := hrel
        clear d0 d4 d5 bt0
        by_cases hln : n < 4
        · have hset := Lib.hid (part_set F Z (k * 4 + n) 240 HF.out HZ.out (by omega))
          have hcc := Blk.byte e5 (k := k * 4 + n) (by rw [HF.out]; omega)
          obtain ⟨m, hm⟩ : ∃ m, m = 4 * r1 + n := ⟨_, rfl⟩
          have wm : IntKind.i64.wrap (IntKind.i64.wrap (4 * (r1 : Int)) + (n : Int)) = (m : Int) := by
            rw [show IntKind.i64.wrap (4 * (r1 : Int)) = 4 * (r1 : Int) by rw [IntKind.wrap_i64]; omega, IntKind.wrap_i64]; omega
          have wm' : IntKind.i64.wrap (4 * (r1 : Int) + (n : Int)) = (m : Int) := by rw [IntKind.wrap_i64]; omega
          have wm2 : 4 * (r1 : Int) + (n : Int) = (m : Int) := by omega
          have hmo : q * 16 + m = k * 4 + n := by have := Hoff.out; omega
          have hct := Blk.byte e4 (k := q * 16 + m) (by rw [part_len _ _ (k * 4 + n) 240 HF.out HZ.out (by omega)]; omega)
          have hf := e4.free (q * 16 + m)
          have hmI : (m : Int) < 16 := by omega
          have Hmo := Lib.hid hmo
          obtain ⟨x, hx⟩ : ∃ x, x = F.getD (k * 4 + n) 0 := ⟨_, rfl⟩
          rw [← hx] at hcc hset
          have hB4 := e4.lt
          have hB5 := e5.lt
          have hnI : (n : Int) < 4 := by omega
          clear hx hmo hm
          go_wp2
          try go_region
          try go_wp2
          go_roundw
          case rel =>
            have hbs := e4.set (k := k * 4 + n) (e8 x)
            rw [vb_set, hset.out] at hbs
            rw [Hmo.out]
            exact ⟨n + 1, by omega, by go_num, e0.other _ (by omega), by rw [← Nat.add_assoc]; exact hbs, e5.other _ (by omega), (bset bx (by omega) _).drew⟩
          case measure => simp [intOf]; omega
        · obtain rfl : n = 4 := by omega
          go_wp2
          go_roundw
          case rel => exact ⟨k + 1, by omega, by go_num, e0, by rw [Nat.add_mul]; exact e4, e5, bx⟩
          case measure => simp [intOf]; omega
    · obtain rfl : k = 60 := by omega
      have hp60 := part_all F Z 240 HF.out HZ.out
      rw [show 60 * 4 = 240 from rfl, hp60] at d4
      clear hp60
      go_wp2_with (first
        | ((with_reducible show wpList _ _ _ (⟨some 36, _, _, _, _, _⟩ :: _) _ _); refine wpList_loadA rfl _ _ rfl rfl d4 Tryd.underlying84 hszR ?_)
        | ((with_reducible show wpList _ _ _ (⟨none, .store 84 _ _, _, _, _, _⟩ :: _) _ _); refine wpList_storeN rfl _ _ _ rfl rfl (ys := vb F) rfl d0 HZF.out (vb_one _) hszR ?_; intro w9 hb9 hg9)
        | fail)
      exact bodyPost_ret (v := .tuple #[arrV (vb F), .int .i64 0]) (results_arr2 Tryd.results79 _ hb9 Tryd.underlying84 hszR rfl rfl) rfl ⟨rfl, below_row bt0 hg9 (Nat.le_refl _) bt0.size⟩
theorem rschedule_any (A : Option Addr) (key : List UInt8) (n c : Nat) (w : World) (hn : n = key.length) (hc : n ≤ c) (hcm : c ≤ maxLen) (hr : Rd w w.heap.size A (key.map e8)) :
    Calls Tryd.prog 79 #[.slice A n c] w fun e w' => e = .returned (.tuple #[arrV (vb (keysOf key)), .int .i64 (if key.length = 32 then 0 else 4)]) ∧ Below w.heap.size w w' := by
  subst hn
  by_cases h : key.length = 32
  · rw [if_pos h, keysOf, if_pos h]
    obtain ⟨b, off, rfl, _, _⟩ := hr (by intro e; have := congrArg List.length e; rw [List.length_map, List.length_nil] at this; omega)
    rw [h] at hc ⊢
    exact rschedule_yes b off key c w h hc hcm hr
  · rw [if_neg h, keysOf, if_neg h]
    exact rschedule_no A _ c w h (by omega)
end Go.Proofs.YteecbjpnnklbpaaDoor.Aes

/- The walk of the reference's Encrypt. -/
namespace Go.Proofs.YteecbjpnnklbpaaDoor.Aes
open Go.RowKit
open Go.Proofs.YteecbjpnnklbpaaDoor.Gf
set_option linter.unusedVariables false
set_option maxRecDepth 100000
section
variable {P : Program}
theorem wpQuiet_loadMid {ops : Array Oper} {C : World → Prop} {Q : Act → Prop} {a : Act} {o : Oper} {rest : List Oper} (hg : o.guard = none) (t : TypeId) (x : Operand) (ho : o.op = .load t x)
    {g off : Nat} (hx : a.eval x = .pointer (some ⟨g, off, none⟩)) {xs : List Value} (hb : ∀ w, C w → w.rangeAt g off xs) {n : Nat} {e : TypeId} (hu : P.underlying t = some (.array n e)) (hi : (P.info? t).map (·.size) = some xs.length)
    (h : wpQuiet P ops C Q rest (a.put o.dst (arrV xs))) : wpQuiet P ops C Q (o :: rest) a := by
  refine wpQuiet_run hg (arrV xs) (fun w hw => ?_) h
  have := run_loadAt_mid (P := P) w g off t xs _ (hb w hw) hu rfl hi
  unfold execOp
  simp only [ho, hx]
  simp [Instr.loadAt, Instr.sureAddr, run_loadVar_mid (P := P) w g off t xs _ (hb w hw) hu rfl hi, arrV]
end
set_option maxHeartbeats 1000000 in
theorem rencrypt_any (L s : List UInt8) (hL : L.length = 240) (hs : s.length = 16) (w : World) : Calls Tryd.prog 80 #[arrV (vb L), arrV (vb s)] w fun e w' => e = .returned (arrV (vb (encrypt L s))) ∧ Below w.heap.size w w' := by
  have HL := Lib.hid hL
  have Hs := Lib.hid hs
  have hszL := size240 sizeR hL
  have hk0 := keyAt_len L 0 hL (by omega)
  have Hk0 := Lib.hid hk0
  have hz0 := zero16
  have hszE : ∀ l : List UInt8, l.length = 16 → (Tryd.prog.info? 83).map (·.size) = some (vb l).length := fun l h => sizeL h
  have HszE := Lib.hid hszE
  have hszs := sizeL hs
  have hszk := sizeL hk0
  have hadd : ∀ (a b : List UInt8), a.length = 16 → b.length = 16 → ∀ w, Calls Tryd.prog 101 #[arrV (vb a), arrV (vb b)] w fun e w' => e = .returned (arrV (vb (add a b))) ∧ Below w.heap.size w w' := fun a b ha hb w => radd_any a b ha hb w
  have hsub : ∀ (a : List UInt8), a.length = 16 → ∀ w, Calls Tryd.prog 103 #[arrV (vb a)] w fun e w' => e = .returned (arrV (vb (sub a))) ∧ Below w.heap.size w w' := fun a ha w => rsub_any a ha w
  have hshift : ∀ (a : List UInt8), a.length = 16 → ∀ w, Calls Tryd.prog 102 #[arrV (vb a)] w fun e w' => e = .returned (arrV (vb (shift a))) ∧ Below w.heap.size w w' := fun a ha w => rshift_any a ha w
  have hmix : ∀ (a : List UInt8), a.length = 16 → ∀ w, Calls Tryd.prog 104 #[arrV (vb a)] w fun e w' => e = .returned (arrV (vb (mixS a))) ∧ Below w.heap.size w w' := fun a ha w => rmix_any a ha w
  have Hadd := Lib.hid hadd
  have Hsub := Lib.hid hsub
  have Hshift := Lib.hid hshift
  have Hmix := Lib.hid hmix
  have hE0 : enc (keyAt L) s 0 = add s (keyAt L 0) := rfl
  have HE0 := Lib.hid hE0
  have hes : encrypt L s = enc (keyAt L) s 14 := rfl
  have Hes := Lib.hid hes
  have hst : ∀ k E, E = enc (keyAt L) s k → enc (keyAt L) s (k + 1) = add (if k + 1 < 14 then mixS (shift (sub E)) else shift (sub E)) (keyAt L (k + 1)) := by rintro k E rfl; rfl
  have Hst := Lib.hid hst
  clear hL hs hk0 hadd hsub hshift hmix hE0 hes hst hszE hz0
  go_enter Tryd.func80, Tryd.ntmps80
  go_wp2_with (first
    | ((with_reducible show wpList _ _ _ (⟨some 2, _, _, _, _, _⟩ :: _) _ _); refine wpList_boxN rfl _ _ rfl (vb L) rfl ?_; intro w1 hb1 bw1 hs1)
    | ((with_reducible show wpList _ _ _ (⟨some 3, _, _, _, _, _⟩ :: _) _ _); refine wpList_boxN rfl _ _ rfl (vb s) rfl ?_; intro w2 hb2 bw2 hs2; have hb12 := hb1.on bw2; have bt2 := bt bw1 bw2)
    | ((with_reducible show wpList _ _ _ (⟨some 4, _, _, _, _, _⟩ :: _) _ _); refine wpList_allocN rfl _ rfl (vb zero16) zeroV16 ?_; intro w3 hb3 bw3 hs3; have hb13 := hb12.on bw3; have hb23 := hb2.on bw3; have bt3 := bt bt2 bw3; have hrk := range_keyAt hb13 0 HL.out (by omega))
    | ((with_reducible show wpList _ _ _ (⟨some 6, _, _, _, _, _⟩ :: _) _ _); refine wpList_loadA rfl _ _ rfl rfl hb23 Tryd.underlying83 hszs ?_)
    | ((with_reducible show wpList _ _ _ (⟨some 8, _, _, _, _, _⟩ :: _) _ _); refine wpList_load_mid rfl _ _ rfl w.heap.size 0 rfl (vb (keyAt L 0)) _ hrk Tryd.underlying83 rfl hszk ?_)
    | fail)
  refine (Hadd.out s (keyAt L 0) Hs.out Hk0.out _).mono ?_
  rintro e w4 ⟨rfl, b4⟩
  have hb14 := hb13.on b4
  have hb24 := hb23.on b4
  have hb34 := hb3.on b4
  have bt4 := bt bt3 b4
  have hsz0 := HszE.out _ (add_len s (keyAt L 0))
  rw [← HE0.out] at hsz0 ⊢
  obtain ⟨E0, hE0⟩ : ∃ E, E = enc (keyAt L) s 0 := ⟨_, rfl⟩
  rw [← hE0] at hsz0 ⊢
  have hE16 : E0.length = 16 := by rw [hE0]; exact enc_len _ _ _
  have HE16 := Lib.hid hE16
  have HE0' := Lib.hid hE0
  clear hE0 hE16
  go_wp2_with (first
    | ((with_reducible show wpList _ _ _ (⟨none, .store 83 (.tmp 3) _, _, _, _, _⟩ :: _) _ _); refine wpList_storeN rfl _ _ _ rfl rfl (ys := vb E0) rfl hb24 (by rw [vb_len, vb_len, Hs.out, HE16.out]) (vb_one _) hsz0 ?_; intro w5 hb5 hg5)
    | fail)
  have l01 : w.heap.size < w1.heap.size := hs1
  have l12 : w1.heap.size < w2.heap.size := hs2
  have hb15 := hb14.grown hg5 (by simp; omega)
  have hb35 := hb34.grown hg5 (by simp; omega)
  have bt5 := below_row bt4 hg5 (by omega) bt4.size
  obtain ⟨B3, hB3⟩ : ∃ B, B = w1.heap.size := ⟨_, rfl⟩
  obtain ⟨B4, hB4⟩ : ∃ B, B = w2.heap.size := ⟨_, rfl⟩
  rw [← hB3] at hb5 l01 l12 ⊢
  rw [← hB4] at hb35 l12 ⊢
  clear hB3 hB4 hb1 hb2 hb3 hb12 hb13 hb23 hb14 hb24 hb34 bw1 bw2 bw3 b4 bt2 bt3 bt4 hs1 hs2 hs3 hg5 hrk hszk hszs hsz0
  go_wp2_with fail
  go_loopw [5] (fun i wr => ∃ (k : Nat) (k1 : Int), k ≤ 14 ∧ k1 = (k : Int) + 1 ∧ i = .int .i64 k1 ∧ Blk wr w.heap.size (vb L) ∧ (∃ E, Hid (E = enc (keyAt L) s k) ∧ Blk wr B3 (vb E)) ∧ Blk wr B4 (vb zero16) ∧ Below w.heap.size w wr) (fun i _ => 15 - (intOf i).toNat)
  case atStart => exact ⟨0, 1, by omega, rfl, rfl, hb15, ⟨E0, HE0', hb5⟩, hb35, bt5⟩
  case round =>
    obtain ⟨k, k1, hk, hk1e, rfl, d0, ⟨E, hE, d3⟩, d4, bt0⟩ := hrel
    clear hb15 hb5 hb35 bt5
    have hE16 : E.length = 16 := by rw [hE.out]; exact enc_len _ _ _
    have HE16 := Lib.hid hE16
    have hszE := HszE.out E hE16
    clear hE16
    by_cases hlt : k < 14
    · have hk1 := keyAt_len L (k + 1) HL.out (by omega)
      have hrk : ∀ W, Blk W w.heap.size (vb L) → W.rangeAt w.heap.size (16 * (k + 1)) (vb (keyAt L (k + 1))) := fun W hW => range_keyAt hW (k + 1) HL.out (by omega)
      have hstp := Lib.hid (Hst.out k E hE.out)
      obtain ⟨K, hK⟩ : ∃ K, K = keyAt L (k + 1) := ⟨_, rfl⟩
      rw [← hK] at hk1 hrk
      have hst2 := hstp.out
      rw [← hK] at hst2
      have Hst2 := Lib.hid hst2
      have Hk1 := Lib.hid hk1
      have hszK1 := HszE.out K hk1
      obtain ⟨kn, hkn⟩ : ∃ n, n = k + 1 := ⟨_, rfl⟩
      have hk1n : k1 = (kn : Int) := by omega
      subst hk1n
      rw [show 16 * (k + 1) = kn * 16 by omega] at hrk
      have HrK := Lib.hid hrk
      clear hst2 hstp hK hk1 hrk
      obtain ⟨S1, hS1⟩ : ∃ S, S = sub E := ⟨_, rfl⟩
      have hsu := Hsub.out E HE16.out
      rw [← hS1] at hsu
      have hl1 : S1.length = 16 := by rw [hS1, sub_len, HE16.out]
      obtain ⟨S2, hS2⟩ : ∃ S, S = shift S1 := ⟨_, rfl⟩
      have hsh := Hshift.out S1 hl1
      rw [← hS2] at hsh
      have hl2 : S2.length = 16 := by rw [hS2]; exact shift_len _
      obtain ⟨S3, hS3⟩ : ∃ S, S = mixS S2 := ⟨_, rfl⟩
      have hmi := Hmix.out S2 hl2
      rw [← hS3] at hmi
      have hl3 : S3.length = 16 := by rw [hS3]; exact mix_len _
      have hst2 := Hst2.out
      rw [← hS1, ← hS2, ← hS3] at hst2
      have hszS2 := HszE.out S2 hl2
      have hszS3 := HszE.out S3 hl3
      have Hl2 := Lib.hid hl2
      have Hl3 := Lib.hid hl3
      have Hsu := Lib.hid hsu
      have Hsh := Lib.hid hsh
      have Hmi := Lib.hid hmi
      clear hS1 hS2 hS3 hl1 hl2 hl3 hsu hsh hmi
      have hwk : IntKind.i64.wrap ((kn : Int) + 1) = (kn : Int) + 1 := by rw [IntKind.wrap_i64]; omega
      have hknI : (kn : Int) < 15 := by omega
      have hB3 := d3.lt
      have hB4 := d4.lt
      by_cases hk13 : k + 1 < 14
      · rw [if_pos hk13] at hst2
        obtain ⟨S4, hS4⟩ : ∃ S, S = add S3 K := ⟨_, rfl⟩
        have had := Hadd.out S3 K Hl3.out Hk1.out
        rw [← hS4] at had hst2
        have hl4 : S4.length = 16 := by rw [hS4]; exact add_len _ _
        have hszS4 := HszE.out S4 hl4
        have Hl4 := Lib.hid hl4
        have Had := Lib.hid had
        have Hst3 := Lib.hid hst2
        have h14I : (kn : Int) < 14 := by omega
        have Hkn := Lib.hid hkn
        clear hl4 had hst2 hS4 hk13 hlt hk hkn hk1e
        go_wp2_with (first
          | ((with_reducible show wpList _ _ _ (⟨some 14, _, _, _, _, _⟩ :: _) _ _); refine wpList_loadA rfl _ _ rfl rfl d3 Tryd.underlying83 hszE ?_)
          | fail)
        refine (Hsu.out _).mono ?_
        rintro e w3 ⟨rfl, b3⟩
        go_wp2_with fail
        refine (Hsh.out _).mono ?_
        rintro e w4 ⟨rfl, b4⟩
        have b34 := bt b3 b4
        have g0 := d0.on b34
        have g3 := d3.on b34
        have g4 := d4.on b34
        have bt4 := bt bt0 b34
        clear d3 d4 b3 b4
        go_wp2_with (first
          | ((with_reducible show wpList _ _ _ (⟨none, .store 83 (.tmp 3) _, _, _, _, _⟩ :: _) _ _); refine wpList_storeN rfl _ _ _ rfl rfl (ys := vb S2) rfl g3 (by rw [vb_len, vb_len, HE16.out, Hl2.out]) (vb_one _) hszS2 ?_; intro w5 hb5 hg5)
          | ((with_reducible show wpList _ _ _ (⟨some 19, _, _, _, _, _⟩ :: _) _ _); refine wpList_loadA rfl _ _ rfl rfl hb5 Tryd.underlying83 hszS2 ?_)
          | fail)
        refine (Hmi.out _).mono ?_
        rintro e w6 ⟨rfl, b6⟩
        have i0 := (g0.grown hg5 (by simp; omega)).on b6
        have i4 := (g4.grown hg5 (by simp; omega)).on b6
        have i3 := hb5.on b6
        have bt6 := bt (below_row bt4 hg5 (by omega) bt4.size) b6
        clear g0 g3 g4 hb5 hg5 bt4 b6
        go_wp2_with (first
          | ((with_reducible show wpList _ _ _ (⟨none, .store 83 (.tmp 3) _, _, _, _, _⟩ :: _) _ _); refine wpList_storeN rfl _ _ _ rfl rfl (ys := vb S3) rfl i3 (by rw [vb_len, vb_len, Hl2.out, Hl3.out]) (vb_one _) hszS3 ?_; intro w7 hb7 hg7)
          | fail)
        have j0 := i0.grown hg7 (by simp; omega)
        have j4 := i4.grown hg7 (by simp; omega)
        have bt7 := below_row bt6 hg7 (by omega) bt6.size
        clear i0 i3 i4 bt6 hg7
        have hkm := HrK.out _ j0
        have HK := Lib.hid hkm
        clear hkm
        refine region_inb_tail 5 (by kernel_rfl) (by kernel_rfl) ?_
        simp only [List.take_succ_cons, List.take_zero, List.drop_succ_cons, List.drop_zero]
        have inbNe := InB.some
        have inbW := @wrap_small
        have inbU := IntKind.wrap_u8'
        repeat (first | (with_reducible refine wpQuiet_nil ?_; fail) | ((with_reducible show wpQuiet _ _ _ _ (⟨some 21, _, _, _, _, _⟩ :: _) _); refine wpQuiet_loadA rfl 83 _ rfl rfl (fun w' hw' => hb7.on hw'.below) Tryd.underlying83 hszS3 ?_) | ((with_reducible show wpQuiet _ _ _ _ (⟨some 24, _, _, _, _, _⟩ :: _) _); refine wpQuiet_loadMid rfl 83 _ rfl (g := w.heap.size) (off := kn * 16) rfl (fun w' hw' => HrK.out _ (j0.on hw'.below)) Tryd.underlying83 hszK1 ?_) | (refine wpQuiet_step (fun K hK => ?_); go_simp; first | (refine hK _ ?_; clear hK K) | (apply Exists.intro; refine ⟨?_, hK _ ?_⟩; (· (intro w' hw'; first | (go_at_call 101; refine (Had.out _).mono ?_; rintro e w1 ⟨rfl, b1⟩; exact ⟨rfl, hw'.on b1⟩) | (have hcw := hw'.cell; go_simp; exact rfl))); clear hK K)))
        refine wpQuiet_nil ?_
        intro wq hq
        clear inbNe inbW inbU
        have m0 := j0.on hq.below
        have m3 := hb7.on hq.below
        have m4 := j4.on hq.below
        have btq := bt bt7 hq.below
        clear hq j0 hb7 j4 bt7
        refine wpList_storeN rfl 83 _ _ rfl rfl (ys := vb S4) rfl m3 (by rw [vb_len, vb_len, Hl3.out, Hl4.out]) (vb_one _) hszS4 ?_
        intro w9 hb9 hg9
        go_wp2
        go_roundw
        case rel => exact ⟨k + 1, (kn : Int) + 1, by have := Hkn.out; omega, by have := Hkn.out; omega, rfl, m0.grown hg9 (by simp; omega), ⟨S4, Lib.hid Hst3.out.symm, hb9⟩, m4.grown hg9 (by simp; omega), below_row btq hg9 (by omega) btq.size⟩
        case measure => simp [intOf]; omega
      · rw [if_neg hk13] at hst2
        obtain ⟨S4, hS4⟩ : ∃ S, S = add S2 K := ⟨_, rfl⟩
        have had := Hadd.out S2 K Hl2.out Hk1.out
        rw [← hS4] at had hst2
        have hl4 : S4.length = 16 := by rw [hS4]; exact add_len _ _
        have hszS4 := HszE.out S4 hl4
        have Hl4 := Lib.hid hl4
        have Had := Lib.hid had
        have Hst3 := Lib.hid hst2
        have h14I : (kn : Int) ≥ 14 := by omega
        have Hkn := Lib.hid hkn
        clear hl4 had hst2 hS4 hk13 hlt hk hkn hk1e
        go_wp2_with (first
          | ((with_reducible show wpList _ _ _ (⟨some 14, _, _, _, _, _⟩ :: _) _ _); refine wpList_loadA rfl _ _ rfl rfl d3 Tryd.underlying83 hszE ?_)
          | fail)
        refine (Hsu.out _).mono ?_
        rintro e w3 ⟨rfl, b3⟩
        go_wp2_with fail
        refine (Hsh.out _).mono ?_
        rintro e w4 ⟨rfl, b4⟩
        have b34 := bt b3 b4
        have g0 := d0.on b34
        have g3 := d3.on b34
        have g4 := d4.on b34
        have bt4 := bt bt0 b34
        clear d3 d4 b3 b4
        go_wp2_with (first
          | ((with_reducible show wpList _ _ _ (⟨none, .store 83 (.tmp 3) _, _, _, _, _⟩ :: _) _ _); refine wpList_storeN rfl _ _ _ rfl rfl (ys := vb S2) rfl g3 (by rw [vb_len, vb_len, HE16.out, Hl2.out]) (vb_one _) hszS2 ?_; intro w7 hb7 hg7)
          | fail)
        have j0 := g0.grown hg7 (by simp; omega)
        have j4 := g4.grown hg7 (by simp; omega)
        have bt7 := below_row bt4 hg7 (by omega) bt4.size
        clear g0 g3 g4 bt4 hg7
        have hkm := HrK.out _ j0
        have HK := Lib.hid hkm
        clear hkm
        refine region_inb_tail 5 (by kernel_rfl) (by kernel_rfl) ?_
        simp only [List.take_succ_cons, List.take_zero, List.drop_succ_cons, List.drop_zero]
        have inbNe := InB.some
        have inbW := @wrap_small
        have inbU := IntKind.wrap_u8'
        repeat (first | (with_reducible refine wpQuiet_nil ?_; fail) | ((with_reducible show wpQuiet _ _ _ _ (⟨some 21, _, _, _, _, _⟩ :: _) _); refine wpQuiet_loadA rfl 83 _ rfl rfl (fun w' hw' => hb7.on hw'.below) Tryd.underlying83 hszS2 ?_) | ((with_reducible show wpQuiet _ _ _ _ (⟨some 24, _, _, _, _, _⟩ :: _) _); refine wpQuiet_loadMid rfl 83 _ rfl (g := w.heap.size) (off := kn * 16) rfl (fun w' hw' => HrK.out _ (j0.on hw'.below)) Tryd.underlying83 hszK1 ?_) | (refine wpQuiet_step (fun K hK => ?_); go_simp; first | (refine hK _ ?_; clear hK K) | (apply Exists.intro; refine ⟨?_, hK _ ?_⟩; (· (intro w' hw'; first | (go_at_call 101; refine (Had.out _).mono ?_; rintro e w1 ⟨rfl, b1⟩; exact ⟨rfl, hw'.on b1⟩) | (have hcw := hw'.cell; go_simp; exact rfl))); clear hK K)))
        refine wpQuiet_nil ?_
        intro wq hq
        clear inbNe inbW inbU
        have m0 := j0.on hq.below
        have m3 := hb7.on hq.below
        have m4 := j4.on hq.below
        have btq := bt bt7 hq.below
        clear hq j0 hb7 j4 bt7
        refine wpList_storeN rfl 83 _ _ rfl rfl (ys := vb S4) rfl m3 (by rw [vb_len, vb_len, Hl2.out, Hl4.out]) (vb_one _) hszS4 ?_
        intro w9 hb9 hg9
        go_wp2
        go_roundw
        case rel => exact ⟨k + 1, (kn : Int) + 1, by have := Hkn.out; omega, by have := Hkn.out; omega, rfl, m0.grown hg9 (by simp; omega), ⟨S4, Lib.hid Hst3.out.symm, hb9⟩, m4.grown hg9 (by simp; omega), below_row btq hg9 (by omega) btq.size⟩
        case measure => simp [intOf]; omega
    · obtain rfl : k = 14 := by omega
      obtain rfl : k1 = 15 := by omega
      go_wp2_with (first
        | ((with_reducible show wpList _ _ _ (⟨some 26, _, _, _, _, _⟩ :: _) _ _); refine wpList_loadA rfl _ _ rfl rfl d3 Tryd.underlying83 hszE ?_)
        | ((with_reducible show wpList _ _ _ (⟨none, .store 83 (.tmp 4) _, _, _, _, _⟩ :: _) _ _); refine wpList_storeN rfl _ _ _ rfl rfl (ys := vb E) rfl d4 (by rw [vb_len, vb_len, HE16.out]; rfl) (vb_one _) hszE ?_; intro w9 hb9 hg9)
        | fail)
      rw [Hes.out, ← hE.out]
      exact bodyPost_ret (v := arrV (vb E)) (results_arr Tryd.results80 _ hb9 Tryd.underlying83 hszE rfl) rfl ⟨rfl, below_row bt0 hg9 (by omega) bt0.size⟩
end Go.Proofs.YteecbjpnnklbpaaDoor.Aes

/- The walk of the statements' own example. -/
namespace Go.Proofs.YteecbjpnnklbpaaDoor.Aes
open Go.RowKit
open Go.Proofs.YteecbjpnnklbpaaDoor.Gf
set_option linter.unusedVariables false
set_option maxRecDepth 100000
def kEx (k : Nat) : List UInt8 := (List.range k).map UInt8.ofNat
def bEx : List UInt8 := (List.range 16).map fun i => UInt8.ofNat (17 * i)
theorem kEx_succ (k : Nat) : kEx (k + 1) = kEx k ++ [UInt8.ofNat k] := by simp [kEx, List.range_succ]
theorem kEx_len (k : Nat) : (kEx k).length = k := by simp [kEx]
theorem bEx_len : bEx.length = 16 := by simp [bEx]
theorem bEx_at (k : Nat) (h : k < 16) : bEx.getD k 0 = UInt8.ofNat (17 * k) := by
  simp [bEx, List.getD, List.getElem?_map, List.getElem?_range h]
theorem ex_at : ∃ c, encrypt (sched (kEx 32)) bEx = c ∧ c.getD 0 0 = 0x8e ∧ c.getD 1 0 = 0xa2 ∧ c.getD 2 0 = 0xb7 ∧ c.getD 3 0 = 0xca := by
  refine ⟨_, rfl, ?_⟩
  have h : (encrypt (sched (kEx 32)) bEx).take 4 = [0x8e, 0xa2, 0xb7, 0xca] := example_ok
  have hl := encrypt_len (sched (kEx 32)) bEx
  obtain ⟨C, hC⟩ : ∃ C, C = encrypt (sched (kEx 32)) bEx := ⟨_, rfl⟩
  rw [← hC] at h hl ⊢
  match C, hl with
  | a :: b :: c :: d :: r, _ =>
    simp only [List.take_succ_cons, List.cons.injEq] at h
    exact ⟨h.1, h.2.1, h.2.2.1, h.2.2.2.1⟩
theorem info8 : (Tryd.prog.info? 5).map (fun i => (i.zero, i.size, i.bytes)) = some (some (.int .u8 0), 1, 1) := by kernel_rfl
end Go.Proofs.YteecbjpnnklbpaaDoor.Aes

/- '==' of blocks and of keys, and the calls as the laws need them. -/
namespace Go.Proofs.YteecbjpnnklbpaaDoor.Aes
open Go.RowKit
set_option linter.unusedVariables false
set_option maxRecDepth 100000
section
variable {P : Program} (w : World)
theorem run_equalIn_self2 (d : Nat) (t e u : TypeId) (n m : Nat) (k : IntKind) (ht : P.underlying t = some (.array n e)) (he : P.underlying e = some (.array m u)) (hu : P.underlying u = some (.int k)) (hsz : ∀ w, (sizeOf e).run P w = .ok m w) (hsz1 : ∀ w, (sizeOf u).run P w = .ok 1 w)
    (xs : List Int) (hx : xs.length = n * m) :
    (Op.equalIn (d + 3) t (.agg (xs.map (Value.int k)).toArray) (.agg (xs.map (Value.int k)).toArray)).run P w = .ok true w := by
  rw [Op.equalIn]
  simp only [Sem.run_bind, run_underlying ht, Result.andThen_ok, hsz, Std.Legacy.Range.forIn_eq_forIn_range', Std.Legacy.Range.size, Nat.sub_zero, Nat.add_sub_cancel, Nat.div_one]
  have hl : ∀ i ∈ List.range' 0 n 1, i < n := fun i hi => by simpa using (List.mem_range'_1.1 hi).2
  generalize List.range' 0 n 1 = l at hl ⊢
  induction l with
  | nil => simp
  | cons i l ih =>
    have hi : i < n := hl i (by simp)
    have hb : i * m + m ≤ n * m := by rw [← Nat.succ_mul]; exact Nat.mul_le_mul_right _ hi
    have px : (Go.part e (xs.map (Value.int k)).toArray (i * m)).run P w = .ok (.agg (((xs.drop (i * m)).take m).map (Value.int k)).toArray) w := by
      simp [Go.part, isAgg, run_underlying he, hsz]
    have pe : (Op.equalIn (d + 2) e (.agg (((xs.drop (i * m)).take m).map (Value.int k)).toArray) (.agg (((xs.drop (i * m)).take m).map (Value.int k)).toArray)).run P w = .ok true w :=
      run_equalIn_self w d e u m k he hu hsz1 _ (by rw [List.length_take, List.length_drop]; omega)
    simp only [List.forIn_cons, Sem.run_bind, px, pe, Result.andThen_ok]
    simp only [Bool.not_true, Bool.false_eq_true, if_false, Sem.run_pure, Result.andThen_ok]
    exact ih fun j hj => hl j (by simp [hj])
theorem run_eql_self2 (t e u : TypeId) (n m : Nat) (k : IntKind) (ht : P.underlying t = some (.array n e)) (he : P.underlying e = some (.array m u)) (hu : P.underlying u = some (.int k)) (hsz : ∀ w, (sizeOf e).run P w = .ok m w) (hsz1 : ∀ w, (sizeOf u).run P w = .ok 1 w)
    (xs : List Int) (hx : xs.length = n * m) :
    (binOp .eql t (.agg (xs.map (Value.int k)).toArray) (.agg (xs.map (Value.int k)).toArray)).run P w = .ok (.bool true) w := by
  rw [run_eql_struct, run_equalIn_self2 w 9997 t e u n m k ht he hu hsz hsz1 xs hx]
  rfl
end
section
variable {P : Program}
theorem wpQuiet_loadG {ops : Array Oper} {C : World → Prop} {Q : Act → Prop} {a : Act} {o : Oper} {rest : List Oper} (t : TypeId) (x : Operand) (ho : o.op = .load t x)
    {g : Nat} (hx : a.eval x = .pointer (some ⟨g, 0, none⟩)) {xs : List Value} (hb : ∀ w, C w → Blk w g xs) {n : Nat} {e : TypeId} (hu : P.underlying t = some (.array n e)) (hi : (P.info? t).map (·.size) = some xs.length)
    (hw : Region.wanted o (yielded ops a.tmps) = true) (h : wpQuiet P ops C Q rest (a.put o.dst (arrV xs))) : wpQuiet P ops C Q (o :: rest) a := by
  refine wpQuiet_step fun K hK => ?_
  rw [if_pos hw]
  refine ⟨arrV xs, fun w hw => ?_, hK _ h⟩
  obtain ⟨t', hb⟩ := hb w hw
  have := run_loadVar_row (P := P) w g t' t _ _ _ hb hu rfl (by simpa using hi)
  have hr : (execOp a.eval o).run P w = .ok (.value (arrV xs)) w := by
    unfold execOp
    simp only [ho, hx]
    simp [Instr.loadAt, Instr.sureAddr, this, arrV]
  unfold Oper.quietAt
  rw [hr]
  exact ⟨rfl, rfl⟩
end
theorem vb_ints (l : List UInt8) : arrV (vb l) = .agg ((l.map fun x => (x.toNat : Int)).map (Value.int .u8)).toArray := by simp [vb, arrV, Function.comp_def]
theorem size1 (w : World) : (sizeOf 5).run Tryd.prog w = .ok 1 w := by simp [sizeOf, go_sem]; rfl
theorem size16r (w : World) : (sizeOf 83).run Tryd.prog w = .ok 16 w := by simp [sizeOf, go_sem]; rfl
theorem eq16 (l : List UInt8) (h : l.length = 16) (w : World) : (binOp .eql 83 (arrV (vb l)) (arrV (vb l))).run Tryd.prog w = .ok (.bool true) w := by
  rw [vb_ints]; exact run_eql_self w _ _ 16 .u8 Tryd.underlying83 Tryd.underlying5 size1 _ (by simpa using h)
theorem ne16 (l : List UInt8) (h : l.length = 16) (w : World) : (binOp .neq 83 (arrV (vb l)) (arrV (vb l))).run Tryd.prog w = .ok (.bool false) w := by
  rw [vb_ints, run_neq_struct, run_equalIn_self w 9998 _ _ 16 .u8 Tryd.underlying83 Tryd.underlying5 size1 _ (by simpa using h)]; rfl
theorem is16 (l m : List UInt8) (h : l.length = 16) (h' : m.length = 16) (w : World) : (binOp .eql 83 (arrV (vb l)) (arrV (vb m))).run Tryd.prog w = .ok (.bool (l == m)) w :=
  run_eql_bytes w 83 5 16 Tryd.underlying83 Tryd.underlying5 size1 l m h h'
theorem grd16 (op : BinOp) (l m : List UInt8) (x y : Operand) (w : World) : (eqGuard op 83 x y (arrV (vb l)) (arrV (vb m))).run Tryd.prog w = .ok () w := run_eqGuard_agg w _ _ x y _ _ (by kernel_rfl)
theorem eqK (l : List UInt8) (h : l.length = 240) (w : World) : (binOp .eql 85 (arrV (vb l)) (arrV (vb l))).run Tryd.prog w = .ok (.bool true) w := by
  rw [vb_ints]; exact run_eql_self2 w _ _ _ 15 16 .u8 Tryd.underlying85 Tryd.underlying83 Tryd.underlying5 size16r size1 _ (by simpa using h)
theorem grdK (op : BinOp) (l m : List UInt8) (x y : Operand) (w : World) : (eqGuard op 85 x y (arrV (vb l)) (arrV (vb m))).run Tryd.prog w = .ok () w := run_eqGuard_agg w _ _ x y _ _ (by kernel_rfl)
end Go.Proofs.YteecbjpnnklbpaaDoor.Aes
