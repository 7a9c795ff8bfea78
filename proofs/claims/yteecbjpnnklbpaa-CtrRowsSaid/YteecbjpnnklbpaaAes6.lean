/- The walk of the reference's Mix. -/
import Derived.Test.YteecbjpnnklbpaaAes5
namespace Go.Proofs.Yteecbjpnnklbpaa.Aes
open Go.RowKit
open Go.Proofs.Yteecbjpnnklbpaa.Gf
set_option linter.unusedVariables false
set_option maxRecDepth 100000
theorem step_allocN {P : Program} {w : World} {ops : Array Oper} {o : Oper} {a : Act} {K : Act → World → Prop} {Q : Exit → Act → World → Prop} {E : Prop} (hgd : o.guard = none) (t : TypeId) (ho : o.op = .alloc t) (xs : List Value)
    (hz : ∀ w, (zeroValue t).run P w = .ok (arrV xs) w)
    (h : ∀ w1, Blk w1 w.heap.size xs → Below w.heap.size w w1 → w.heap.size < w1.heap.size → K (a.put o.dst (.pointer (some ⟨w.heap.size, 0, none⟩))) w1) :
    if Region.wanted o (yielded ops a.tmps) = true then Oper.wp P o a w K Q else E := by
  rw [if_pos (by simp [Region.wanted, hgd])]
  unfold Oper.wp execOp
  simp only [ho]
  simp [Instr.alloc, hz, go_sem, arrV]
  exact h _ (Blk.new w xs t) (b1alloc _ _) (by simp)
theorem step_storeN {P : Program} {w : World} {ops : Array Oper} {o : Oper} {a : Act} {K : Act → World → Prop} {Q : Exit → Act → World → Prop} {E : Prop} (hgd : o.guard = none) (t : TypeId) (x y : Operand) (ho : o.op = .store t x y)
    {g : Nat} (hx : a.eval x = .pointer (some ⟨g, 0, none⟩)) {xs ys : List Value} (hy : a.eval y = arrV ys) (hb : Blk w g xs) (hl : xs.length = ys.length) (h1 : ∀ v ∈ ys, v.oneCell' = true) (hi : (P.info? t).map (·.size) = some ys.length)
    (h : ∀ w1, Blk w1 g ys → w.grownBy w1 (some g) → K (a.put o.dst undef) w1) :
    if Region.wanted o (yielded ops a.tmps) = true then Oper.wp P o a w K Q else E := by
  rw [if_pos (by simp [Region.wanted, hgd])]
  obtain ⟨t', hb'⟩ := hb
  have := run_storeVar_row (P := P) w g t' t _ ys.toArray hb' (by simpa using hi) (by simpa using hl) (by simpa using h1)
  unfold Oper.wp execOp
  simp only [ho, hx, hy]
  simp [Instr.storeAt, Instr.sureAddr, this, arrV]
  exact h _ (Blk.setRow ⟨t', hb'⟩) (setRow_grown _ _ _)
set_option maxHeartbeats 1600000 in
theorem rmix_any (s : List UInt8) (hs : s.length = 16) (w : World) : Calls Try.prog 14 #[stV s] w fun e w' => e = .returned (stV (mixS s)) ∧ Below w.heap.size w w' := by
  have Hs := Lib.hid hs
  have hl2 := mix_len s
  have hsz2 := sizeL hl2
  have Hl2 := Lib.hid hl2
  have hlz : zero16.length = 16 := rfl
  have Hz := Lib.hid hlz
  clear hs hl2 hlz
  have hcol : ∀ (x : Col) (w : World), Calls Try.prog 36 #[.agg #[e8 x.a, e8 x.b, e8 x.c, e8 x.d]] w fun e w' => e = .returned (.agg #[e8 (mix x).a, e8 (mix x).b, e8 (mix x).c, e8 (mix x).d]) ∧ Below w.heap.size w w' := Gf.rcolumn_any
  have Hcol := Lib.hid hcol
  clear hcol
  unfold stV
  go_enter Try.func14, Try.ntmps14
  go_wp2_with (first
    | (refine wpList_boxN rfl _ _ rfl (vb s) rfl ?_; intro w1 hb1 bw1 hs1)
    | ((with_reducible show wpList _ _ _ (⟨some 2, _, _, _, _, _⟩ :: _) _ _); refine wpList_allocN rfl _ rfl (vb zero16) zeroV16 ?_; intro w2 hb2 bw2 hs2; have hb12 := hb1.on bw2; have bt2 := bt bw1 bw2)
    | ((with_reducible show wpList _ _ _ (⟨some 3, _, _, _, _, _⟩ :: _) _ _); refine wpList_allocN rfl _ rfl (vb zero16) zeroV16 ?_; intro w3 hb3 bw3 hs3; have hb13 := hb12.on bw3; have hb23 := hb2.on bw3; have bt3 := bt bt2 bw3)
    | fail)
  have l01 : w.heap.size < w1.heap.size := hs1
  have l12 : w1.heap.size < w2.heap.size := hs2
  obtain ⟨B1, hB1⟩ : ∃ B, B = w1.heap.size := ⟨_, rfl⟩
  obtain ⟨B2, hB2⟩ : ∃ B, B = w2.heap.size := ⟨_, rfl⟩
  rw [← hB1] at hb23 l01 l12 ⊢
  rw [← hB2] at hb3 l12 ⊢
  clear hB1 hB2 hb1 hb2 hb12 bw1 bw2 bw3 hs1 hs2 hs3 bt2
  go_loopw [4] (fun i wr => ∃ c : Nat, c ≤ 4 ∧ i = .int .i64 c ∧ Blk wr w.heap.size (vb s) ∧ Blk wr B1 (vb zero16) ∧ Blk wr B2 (vb (part (mixS s) zero16 (4 * c))) ∧ Below w.heap.size w wr) (fun i _ => 4 - (intOf i).toNat)
  case atStart => exact ⟨0, by omega, rfl, hb13, hb23, by rw [Nat.mul_zero, part_zero]; exact hb3, bt3⟩
  case round =>
    obtain ⟨c, hc, rfl, d0, d1, d2, bt0⟩ := hrel
    clear hb13 hb23 hb3 bt3
    by_cases hlt : c < 4
    · obtain ⟨n, hn⟩ : ∃ n, n = 4 * c := ⟨_, rfl⟩
      obtain ⟨X, hX⟩ : ∃ X, X = colOf s c := ⟨_, rfl⟩
      have g0 := Blk.byte d0 (k := n) (by rw [Hs.out]; omega)
      have g1 := Blk.byte d0 (k := n + 1) (by rw [Hs.out]; omega)
      have g2 := Blk.byte d0 (k := n + 2) (by rw [Hs.out]; omega)
      have g3 := Blk.byte d0 (k := n + 3) (by rw [Hs.out]; omega)
      rw [show s.getD n 0 = X.a by rw [hX, hn]; rfl] at g0
      rw [show s.getD (n + 1) 0 = X.b by rw [hX, hn]; rfl] at g1
      rw [show s.getD (n + 2) 0 = X.c by rw [hX, hn]; rfl] at g2
      rw [show s.getD (n + 3) 0 = X.d by rw [hX, hn]; rfl] at g3
      have hw0 : IntKind.i64.wrap (4 * (c : Int)) = (n : Int) := by rw [IntKind.wrap_i64]; omega
      obtain ⟨n1, hn1⟩ : ∃ m, m = n + 1 := ⟨_, rfl⟩
      obtain ⟨n2, hn2⟩ : ∃ m, m = n + 2 := ⟨_, rfl⟩
      obtain ⟨n3, hn3⟩ : ∃ m, m = n + 3 := ⟨_, rfl⟩
      have hw1 : IntKind.i64.wrap ((n : Int) + 1) = (n1 : Int) := by rw [IntKind.wrap_i64]; omega
      have hw2 : IntKind.i64.wrap ((n : Int) + 2) = (n2 : Int) := by rw [IntKind.wrap_i64]; omega
      have hw3 : IntKind.i64.wrap ((n : Int) + 3) = (n3 : Int) := by rw [IntKind.wrap_i64]; omega
      rw [← hn1] at g1
      rw [← hn2] at g2
      rw [← hn3] at g3
      have q0 : n < 16 := by omega
      have q1 : n1 < 16 := by omega
      have q2 : n2 < 16 := by omega
      have q3 : n3 < 16 := by omega
      have z0 : (n : Int) < 16 := by omega
      have z1 : (n1 : Int) < 16 := by omega
      have z2 : (n2 : Int) < 16 := by omega
      have z3 : (n3 : Int) < 16 := by omega
      have hB := d0.lt
      have HX := Lib.hid hX
      have Hn := Lib.hid hn
      clear hn hn1 hn2 hn3 hX
      go_wp2
      have hcx := Hcol.out X
      obtain ⟨Y, hY⟩ : ∃ Y, Y = mix X := ⟨_, rfl⟩
      rw [← hY] at hcx
      have HY := Lib.hid hY
      have Hcx := Lib.hid hcx
      clear hY hcx
      have bel0 : Below wr.heap.size wr wr.drew := (Below.refl _ _).drew
      have lB2 := d2.lt
      have HK : ∀ W, Below wr.heap.size wr W → W.cell? ⟨w.heap.size, n, none⟩ = some (e8 X.a) ∧ W.cell? ⟨w.heap.size, n1, none⟩ = some (e8 X.b) ∧ W.cell? ⟨w.heap.size, n2, none⟩ = some (e8 X.c) ∧ W.cell? ⟨w.heap.size, n3, none⟩ = some (e8 X.d) := fun W hW =>
        ⟨(hW.cell (p := ⟨w.heap.size, n, none⟩) hB).trans g0, (hW.cell (p := ⟨w.heap.size, n1, none⟩) hB).trans g1, (hW.cell (p := ⟨w.heap.size, n2, none⟩) hB).trans g2, (hW.cell (p := ⟨w.heap.size, n3, none⟩) hB).trans g3⟩
      have HK' := Lib.hid HK
      clear HK
      go_region_held3 (fun w' => w'.cell? ⟨w.heap.size, n, none⟩ = some (e8 X.a) ∧ w'.cell? ⟨w.heap.size, n1, none⟩ = some (e8 X.b) ∧ w'.cell? ⟨w.heap.size, n2, none⟩ = some (e8 X.c) ∧ w'.cell? ⟨w.heap.size, n3, none⟩ = some (e8 X.d)) (first | (refine HK'.out _ ?_; first | exact bc | exact bel0 | exact bt bc (b1alloc _ _) | exact bset (bset (bset (bset bc (Nat.le_refl _) _) (Nat.le_refl _) _) (Nat.le_refl _) _) (Nat.le_refl _) _ | exact bt bel0 (b1alloc _ _)))
        (first
        | (go_at_call 36; refine (Hcx.out _).mono ?_; rintro e w3 ⟨rfl, b3⟩; have bc : Below wr.heap.size wr w3 := (by first | exact bt bel0 b3 | exact bt (bt bel0 (b1alloc _ _)) b3); try (have hchk : Below (wr.drew.alloc (.cells #[.int .u8 0, .int .u8 0, .int .u8 0, .int .u8 0] 51)).heap.size (wr.drew.alloc (.cells #[.int .u8 0, .int .u8 0, .int .u8 0, .int .u8 0] 51)) w3 := b3; have y0 : w3.cell? ⟨wr.heap.size, 0, none⟩ = some (.int .u8 0) := (by rw [b3.cell (by simp)]; simp); have y1 : w3.cell? ⟨wr.heap.size, 1, none⟩ = some (.int .u8 0) := (by rw [b3.cell (by simp)]; simp); have y2 : w3.cell? ⟨wr.heap.size, 2, none⟩ = some (.int .u8 0) := (by rw [b3.cell (by simp)]; simp); have y3 : w3.cell? ⟨wr.heap.size, 3, none⟩ = some (.int .u8 0) := (by rw [b3.cell (by simp)]; simp); have yf : ∀ k, w3.frozen? ⟨wr.heap.size, k, none⟩ = false := (by intro k; rw [b3.frozen (by simp)]; simp)))
        | fail)
      all_goals
        first
        | (have f3 : Blk ((((w3.setCell ⟨wr.heap.size, 0, none⟩ (.int .u8 (Y.a.toNat : Int))).setCell ⟨wr.heap.size, 1, none⟩ (.int .u8 (Y.b.toNat : Int))).setCell ⟨wr.heap.size, 2, none⟩ (.int .u8 (Y.c.toNat : Int))).setCell ⟨wr.heap.size, 3, none⟩ (.int .u8 (Y.d.toNat : Int))) wr.heap.size (vb (colL Y)) := (((((Blk.new wr.drew (vb [0, 0, 0, 0]) 51).on hchk).set (k := 0) (e8 Y.a)).set (k := 1) (e8 Y.b)).set (k := 2) (e8 Y.c)).set (k := 3) (e8 Y.d)
           have bW : Below wr.heap.size wr ((((w3.setCell ⟨wr.heap.size, 0, none⟩ (.int .u8 (Y.a.toNat : Int))).setCell ⟨wr.heap.size, 1, none⟩ (.int .u8 (Y.b.toNat : Int))).setCell ⟨wr.heap.size, 2, none⟩ (.int .u8 (Y.c.toNat : Int))).setCell ⟨wr.heap.size, 3, none⟩ (.int .u8 (Y.d.toNat : Int))) := bset (bset (bset (bset bc (Nat.le_refl _) _) (Nat.le_refl _) _) (Nat.le_refl _) _) (Nat.le_refl _) _
           obtain ⟨W1, hW1⟩ : ∃ W, W = ((((w3.setCell ⟨wr.heap.size, 0, none⟩ (.int .u8 (Y.a.toNat : Int))).setCell ⟨wr.heap.size, 1, none⟩ (.int .u8 (Y.b.toNat : Int))).setCell ⟨wr.heap.size, 2, none⟩ (.int .u8 (Y.c.toNat : Int))).setCell ⟨wr.heap.size, 3, none⟩ (.int .u8 (Y.d.toNat : Int))) := ⟨_, rfl⟩
           rw [← hW1] at f3 bW ⊢
           obtain ⟨B3, hB3⟩ : ∃ B, B = wr.heap.size := ⟨_, rfl⟩
           have lB3 : wr.heap.size ≤ B3 := by omega
           rw [← hB3] at f3 ⊢
           clear hW1 hB3 hchk y0 y1 y2 y3 yf)
        | (have f3 : Blk (w3.alloc (.cells #[.int .u8 (Y.a.toNat : Int), .int .u8 (Y.b.toNat : Int), .int .u8 (Y.c.toNat : Int), .int .u8 (Y.d.toNat : Int)] 51)) w3.heap.size (vb (colL Y)) := Blk.new w3 (vb (colL Y)) 51
           have bW : Below wr.heap.size wr (w3.alloc (.cells #[.int .u8 (Y.a.toNat : Int), .int .u8 (Y.b.toNat : Int), .int .u8 (Y.c.toNat : Int), .int .u8 (Y.d.toNat : Int)] 51)) := bt bc (b1alloc _ _)
           have lB3' := bc.size
           obtain ⟨W1, hW1⟩ : ∃ W, W = (w3.alloc (.cells #[.int .u8 (Y.a.toNat : Int), .int .u8 (Y.b.toNat : Int), .int .u8 (Y.c.toNat : Int), .int .u8 (Y.d.toNat : Int)] 51)) := ⟨_, rfl⟩
           rw [← hW1] at f3 bW ⊢
           obtain ⟨B3, hB3⟩ : ∃ B, B = w3.heap.size := ⟨_, rfl⟩
           have lB3 : wr.heap.size ≤ B3 := by omega
           rw [← hB3] at f3 ⊢
           clear hW1 hB3 lB3')
        have f0 := d0.on bW
        have f1 := d1.on bW
        have f2 := d2.on bW
        have btW := bt bt0 bW
        clear b3 bc bW d0 d1 d2 bt0 g0 g1 g2 g3
        have lBW : B2 < B3 := by omega
        have HY2 := Lib.hid (show ∀ r, r < 4 → (mixS s).getD (n + r) 0 = (colL Y).getD r 0 by
          intro r hr
          rw [colL_get _ _ hr, HY.out, HX.out, Hn.out]
          exact mix_at4 s c r hlt hr)
        go_wp2
        go_loopw [6] (fun i wx => ∃ r : Nat, r ≤ 4 ∧ i = .int .i64 r ∧ Blk wx w.heap.size (vb s) ∧ Blk wx B1 (vb zero16) ∧ Blk wx B2 (vb (part (mixS s) zero16 (n + r))) ∧ Blk wx B3 (vb (colL Y)) ∧ Below w.heap.size w wx) (fun i _ => 4 - (intOf i).toNat)
        case atStart => exact ⟨0, by omega, rfl, f0, f1, by rw [Nat.add_zero, Hn.out]; exact f2, f3, btW⟩
        case round =>
          obtain ⟨r, hr, rfl, e0, e1, e2, e3, bx⟩ := hrel
          clear f0 f1 f2 f3 btW
          by_cases hlr : r < 4
          · have hnn := Hn.out
            have hset := Lib.hid (part_set (mixS s) zero16 (n + r) 16 Hl2.out Hz.out (by omega))
            have hv := Lib.hid (HY2.out r hlr)
            have hcc := Blk.byte e3 (k := r) (by simp [colL]; omega)
            have hct := Blk.byte e2 (k := n + r) (by rw [part_len _ _ (n + r) 16 Hl2.out Hz.out (by omega)]; omega)
            obtain ⟨m, hm⟩ : ∃ m, m = n + r := ⟨_, rfl⟩
            have hmI : (n : Int) + (r : Int) = (m : Int) := by omega
            have hmlt : m < 16 := by omega
            have hmlI : (m : Int) < 16 := by omega
            rw [← hm] at hset hv e2 hct
            have Hm := Lib.hid hm
            clear hm hnn
            have hf := e2.free m
            obtain ⟨x, hx⟩ : ∃ x, x = (colL Y).getD r 0 := ⟨_, rfl⟩
            rw [← hx] at hcc hv
            have hBB := e2.lt
            have hB3 := e3.lt
            clear hx
            go_wp2
            go_roundw
            case rel =>
              have hbs := e2.set (k := m) (e8 x)
              have hst := hset.out
              rw [hv.out] at hst
              rw [vb_set, hst] at hbs
              exact ⟨r + 1, by omega, by go_num, e0.other _ (by omega), e1.other _ (by omega), (by rw [← Nat.add_assoc, ← Hm.out]; exact hbs), e3.other _ (by omega), bx.setCell (by show w.heap.size ≤ B2; omega) _⟩
            case measure => simp [intOf]; omega
          · obtain rfl : r = 4 := by omega
            go_wp2
            go_roundw
            case rel => exact ⟨c + 1, by omega, by go_num, e0, e1, (by have := Hn.out; rw [show 4 * (c + 1) = n + 4 by omega]; exact e2), bx⟩
            case measure => simp [intOf]; omega
    · obtain rfl : c = 4 := by omega
      rw [part_all _ _ 16 Hl2.out Hz.out] at d2
      go_wp2_with (first
        | (refine wpList_loadA rfl _ _ rfl rfl d2 Try.underlying22 hsz2 ?_)
        | (refine wpList_storeN rfl _ _ _ rfl rfl (ys := vb (mixS s)) rfl d1 (by rw [vb_len, vb_len, Hl2.out]; rfl) (vb_one _) hsz2 ?_; intro w9 hb9 hg9))
      exact bodyPost_ret (v := arrV (vb (mixS s))) (results_arr Try.results14 _ hb9 Try.underlying22 hsz2 rfl) rfl ⟨rfl, below_row bt0 hg9 (by omega) bt0.size⟩
end Go.Proofs.Yteecbjpnnklbpaa.Aes
