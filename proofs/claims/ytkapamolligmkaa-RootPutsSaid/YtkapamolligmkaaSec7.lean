/- The walk of sector.Decode. -/
import Derived.Test.YtkapamolligmkaaSec5
import Derived.Test.YtkapamolligmkaaSec6
import Derived.Deep.RegionHeld3
namespace Go.Proofs.Ytkapamolligmkaa.Sec
open Go.RowKit
open Go.Proofs.Ytkapamolligmkaa.Num (putL getN)
set_option linter.unusedVariables false
set_option maxRecDepth 100000
theorem five5x {w : World} {g : Nat} {v0 v1 v2 v3 v4 : Value} (h : Blk w g [v0, v1, v2, v3, v4]) :
    w.cell? ⟨g, 0, none⟩ = some v0 ∧ w.cell? ⟨g, 1, none⟩ = some v1 ∧ w.cell? ⟨g, 2, none⟩ = some v2 ∧ w.cell? ⟨g, 3, none⟩ = some v3 ∧ w.cell? ⟨g, 4, none⟩ = some v4 := by
  obtain ⟨c0, c1, c2, c3, c4, _⟩ := five5 h
  exact ⟨c0, c1, c2, c3, c4⟩
theorem keep5 (W : World) (g : Nat) (v0 v1 v2 v3 v4 : Value) : Keep [g] W (((((W.setCell ⟨g, 0, none⟩ v0).setCell ⟨g, 1, none⟩ v1).setCell ⟨g, 2, none⟩ v2).setCell ⟨g, 3, none⟩ v3).setCell ⟨g, 4, none⟩ v4) :=
  ((((((Keep.refl _ _).set (p := ⟨g, 0, none⟩) (.inl (by simp)) _).set (p := ⟨g, 1, none⟩) (.inl (by simp)) _).set (p := ⟨g, 2, none⟩) (.inl (by simp)) _).set (p := ⟨g, 3, none⟩) (.inl (by simp)) _).set (p := ⟨g, 4, none⟩) (.inl (by simp)) _)
/-- what is read of bytes at a place; ck: is the sum right? -/
def decode (ck : Bool) (p : Int) (b : List UInt8) : X × Int :=
  if b.length ≠ 512 then (X0, 4) else if blankB b = true then (X0, 7) else
    match reads p (b.take 504) with
    | some x => if ck = true then (x, 0) else (X0, 11)
    | none => (X0, 11)
theorem dec_form {ck : Bool} {p : Int} {b : List UInt8} (h : b.length ≠ 512) : decode ck p b = (X0, 4) := if_pos h
theorem dec_blank {ck : Bool} {p : Int} {b : List UInt8} (h : b.length = 512) (h2 : blankB b = true) : decode ck p b = (X0, 7) := by unfold decode; rw [if_neg (by omega), if_pos h2]
theorem dec_none {ck : Bool} {p : Int} {b : List UInt8} (h : b.length = 512) (h2 : ¬ blankB b = true) (h3 : reads p (b.take 504) = none) : decode ck p b = (X0, 11) := by unfold decode; rw [if_neg (by omega), if_neg h2, h3]
theorem dec_ck {p : Int} {b : List UInt8} (h : b.length = 512) (h2 : ¬ blankB b = true) : decode false p b = (X0, 11) := by
  unfold decode; rw [if_neg (by omega), if_neg h2]
  split <;> simp
theorem dec_yes {p : Int} {b : List UInt8} {x : X} (h : b.length = 512) (h2 : ¬ blankB b = true) (h3 : reads p (b.take 504) = some x) : decode true p b = (x, 0) := by unfold decode; rw [if_neg (by omega), if_neg h2, h3]; rfl
set_option maxHeartbeats 400000 in
theorem decode_nil (p : Int) (A : Option Addr) (n c : Nat) (w : World) : Calls Try.prog 13 #[.pointer none, .int .i64 p, .slice A n c] w fun e w' => RetX X0 (.int .i64 1) w e w' ∧ Below w.heap.size w w' := by
  go_enter Try.func13, Try.ntmps13
  go_wp2_with fail
  refine (none_nil _).mono ?_
  rintro e w1 ⟨rfl, rfl⟩
  go_wp2_with fail
  refine bodyPost_ret (v := .tuple #[.agg #[.int .i64 0, .int .u64 0, .int .i64 0, .int .u64 0, .slice none 0 0], .int .i64 1]) (by simp [results, Try.results13, go_sem]) rfl ?_
  exact ⟨RetX.zero _ _ _, b1alloc _ _⟩
set_option maxHeartbeats 1000000 in
theorem decode_gen (p : Int) (g : Nat) (ck : Bool) (A : Option Addr) (b : List UInt8) (n c : Nat) (w : World) (hp0 : -9223372036854775808 ≤ p) (hp1 : p ≤ 9223372036854775807) (hn : n = b.length) (hr : Rd w w.heap.size A (b.map e8)) (hl : b.length ≤ 100000) (hc : n ≤ c) (hcm : c ≤ maxLen)
    (HC : b.length = 512 → ∀ W, Below w.heap.size w W → ∀ A1 A2 c1 c2, Rd W W.heap.size A1 ((b.take 504).map e8) → Rd W W.heap.size A2 ((b.drop 504).map e8) → Calls Try.prog 37 #[.pointer (some ⟨g, 0, none⟩), .slice A1 504 c1, .slice A2 8 c2] W fun e W' => e = .returned (.bool ck) ∧ Below W.heap.size W W') :
    Calls Try.prog 13 #[.pointer (some ⟨g, 0, none⟩), .int .i64 p, .slice A n c] w fun e w' => RetX (decode ck p b).1 (.int .i64 (decode ck p b).2) w e w' ∧ Below w.heap.size w w' := by
  subst hn
  by_cases h5 : b.length = 512
  rotate_left
  · have hd := Lib.hid (dec_form (ck := ck) (p := p) h5)
    have hne := bne_yes (show (b.length : Int) ≠ 512 by omega)
    clear HC
    rw [hd.out]
    go_enter Try.func13, Try.ntmps13
    go_wp2_with (go_at_call 32; refine (none_any _ _).mono ?_; rintro e w' ⟨rfl, rfl⟩)
    refine bodyPost_ret (v := .tuple #[.agg #[.int .i64 0, .int .u64 0, .int .i64 0, .int .u64 0, .slice none 0 0], .int .i64 4]) (by simp [results, Try.results13, go_sem]) rfl ?_
    exact ⟨RetX.zero _ _ _, b1alloc _ _⟩
  have hne := bne_no (show (b.length : Int) = 512 by omega)
  have H5 := Lib.hid h5
  obtain ⟨blk, off, rfl, hdrop⟩ := hr.get (k := 0) (by rw [List.length_map]; omega)
  clear hdrop
  by_cases hbl : blankB b = true
  · have hd := Lib.hid (dec_blank (ck := ck) (p := p) h5 hbl)
    have hB := Lib.hid (fun W (bW : Below w.heap.size w W) => isBlank_any (some ⟨blk, off, none⟩) b b.length c W rfl (hr.on bW))
    have Hbl := Lib.hid hbl
    rw [hd.out]
    clear HC h5 hbl
    go_enter Try.func13, Try.ntmps13
    go_wp2_with (first
      | (go_at_call 32; refine (none_any _ _).mono ?_; rintro e w1 ⟨rfl, rfl⟩)
      | (go_at_call 31; refine (hB.out _ (b1alloc _ _)).mono ?_; rintro e w1 ⟨rfl, b1⟩; rw [Hbl.out]; have B1 := (Blk.new w [.int .i64 0, .int .u64 0, .int .i64 0, .int .u64 0, .slice none 0 0] 38).on b1; obtain ⟨c0, c1, c2, c3, c4, fr⟩ := five5 B1))
    have B := ((((B1.set (k := 0) (.int .i64 0)).set (k := 1) (.int .u64 0)).set (k := 2) (.int .i64 0)).set (k := 3) (.int .u64 0)).set (k := 4) (.slice none 0 0)
    obtain ⟨z0, z1, z2, z3, z4, zf⟩ := five5 B
    refine bodyPost_ret (v := .tuple #[.agg #[.int .i64 0, .int .u64 0, .int .i64 0, .int .u64 0, .slice none 0 0], .int .i64 7]) (by simp [results, Try.results13, go_sem, z0, z1, z2, z3, z4]) rfl ?_
    exact ⟨RetX.zero _ _ _, bset5 (bt (b1alloc _ _) b1) (Nat.le_refl _)⟩
  · have hblf : blankB b = false := by simpa using hbl
    have Hbl := Lib.hid hblf
    have hB := Lib.hid (fun W (bW : Below w.heap.size w W) => isBlank_any (some ⟨blk, off, none⟩) b b.length c W rfl (hr.on bW))
    have hRd := Lib.hid (fun W (bW : Below w.heap.size w W) => read_any blk off b b.length c W rfl (hr.on bW) (by omega) hc hcm)
    have ht504 : (b.take 504).length = 504 := by rw [List.length_take]; omega
    have hd504 : (b.drop 504).length = 8 := by rw [List.length_drop]; omega
    have hrt : Rd w w.heap.size (some ⟨blk, off, none⟩) ((b.take 504).map e8) := by rw [List.map_take]; exact hr.take 504
    have hrd : Rd w w.heap.size (some ⟨blk, off + 504, none⟩) ((b.drop 504).map e8) := by
      have := hr.drop 504
      rw [← List.map_drop] at this
      simpa [Addr.add_lit] using this
    have hck := fun W (bW : Below w.heap.size w W) c1 c2 => HC h5 W bW _ _ c1 c2 (hrt.on bW) (hrd.on bW)
    have Hck := Lib.hid hck
    have Hrt := Lib.hid hrt
    have Ht5 := Lib.hid ht504
    have Hbn := Lib.hid hbl
    have hlI : (512 : Int) ≤ (b.length : Int) := by omega
    have hl2 : 504 ≤ b.length := by omega
    have hlI2 : (504 : Int) ≤ (b.length : Int) := by omega
    have hcI2 : (504 : Int) ≤ (c : Int) := by omega
    have hc2 : 504 ≤ c := by omega
    have hcn : ¬ c = 504 := by omega
    have hcn' : ¬ (c : Int) = 504 := by omega
    have Hl8 := Lib.hid (show b.length - 504 = 8 by omega)
    unfold maxLen at hcm
    by_cases h479 : lenB b ≤ 479
    · obtain ⟨x, hx⟩ : ∃ x, x = ofB b := ⟨_, rfl⟩
      have hx5 : ofB (b.take 504) = x := by rw [hx]; exact ofB_take (Nat.le_refl _) h479
      have hl5 : lenB (b.take 504) ≤ 479 := by rw [lenB_take (Nat.le_refl _)]; exact h479
      have hno := Lib.hid (fun h2 => dec_none (ck := ck) (p := p) h5 hbl h2)
      have hyes := Lib.hid (fun h3 => dec_yes (p := p) (x := x) h5 hbl h3)
      have hckf := Lib.hid (dec_ck (p := p) h5 hbl)
      have Hx := Lib.hid hx
      have hbad := Lib.hid (fun h => reads_bad (p := p) (b := b.take 504) h)
      have hun := Lib.hid (fun h => reads_un (p := p) (b := b.take 504) h)
      have hrs := Lib.hid (fun h1 h => reads_yes (p := p) (b := b.take 504) hl5 h1 h)
      rw [hx5] at hbad hun hrs
      have H479 := Lib.hid h479
      clear HC h5 hbl hblf hck hrt hrd ht504 hd504 hx5 hl5 h479 hr hx
      go_enter Try.func13, Try.ntmps13
      go_wp2_with (first
        | (go_at_call 32; refine (none_any _ _).mono ?_; rintro e w1 ⟨rfl, rfl⟩)
        | (go_at_call 31; refine (hB.out _ (b1alloc _ _)).mono ?_; rintro e w1 ⟨rfl, b1⟩; rw [Hbl.out]; have B1 := (Blk.new w [.int .i64 0, .int .u64 0, .int .i64 0, .int .u64 0, .slice none 0 0] 38).on b1; have bw1 := bt (b1alloc w _) b1))
      refine (hRd.out _ bw1).mono ?_
      rintro e w2 ⟨hres, b2⟩
      rw [if_pos H479.out, ← Hx.out] at hres
      obtain ⟨A2, d2, rfl, own2⟩ := hres
      have bw2 := bt bw1 b2
      have B2 := B1.on b2
      unfold xv
      have hw2 : w.heap.size < w2.heap.size := B2.lt
      have B3 := Blk.new w2 [.int .i64 x.kind, .int .u64 (x.life.toNat : Int), .int .i64 x.seq, .int .u64 (x.gen.toNat : Int), .slice A2 x.body.length d2] 38
      have b3 := b1alloc w2 (.cells #[.int .i64 x.kind, .int .u64 (x.life.toNat : Int), .int .i64 x.seq, .int .u64 (x.gen.toNat : Int), .slice A2 x.body.length d2] 38)
      have bw3 := bt bw2 b3
      have own3 := own_on own2 b3
      have B2' := B2.on b3
      have bh1 := bw1.size
      have hlt1 : w.heap.size < w1.heap.size := B1.lt
      go_wp2_with fail
      obtain ⟨w3, hw3⟩ : ∃ w3, w3 = w2.alloc (.cells #[.int .i64 x.kind, .int .u64 (x.life.toNat : Int), .int .i64 x.seq, .int .u64 (x.gen.toNat : Int), .slice A2 x.body.length d2] 38) := ⟨_, rfl⟩
      try rw [← hw3]
      have B3 : Blk w3 w2.heap.size [.int .i64 x.kind, .int .u64 (x.life.toNat : Int), .int .i64 x.seq, .int .u64 (x.gen.toNat : Int), .slice A2 x.body.length d2] := by rw [hw3]; exact B3
      rw [← hw3] at bw3 own3 B2' b3
      clear hw3
      have bb3 : Below w3.heap.size w3 w3.drew := (Below.refl _ _).drew
      have hRx : Rd w3 w3.heap.size A2 (x.body.map e8) := Rd.own own3
      obtain ⟨T, hT⟩ : ∃ T, T = text p x := ⟨_, rfl⟩
      have HTl := Lib.hid (show T.length = 504 by rw [hT, text_len])
      obtain ⟨f, hf⟩ : ∃ f, f = rightF p x := ⟨_, rfl⟩
      have HT := Lib.hid hT
      have Hf := Lib.hid hf
      clear hT hf B2 B1
      by_cases h0 : f = 0
      · have hf1 := bne_no h0
        by_cases hTb : T = b.take 504
        · have hrs2 := Lib.hid (hrs.out (by rw [← Hf.out]; exact h0) (by rw [← HT.out]; exact hTb))
          have HS := Lib.hid (R1.sameB_of hTb)
          clear hTb
          cases ck with
          | true =>
            have hd := Lib.hid (hyes.out hrs2.out)
            refine wp_region_held_drew (S := (fun w' => w'.cell? ⟨w2.heap.size, 0, none⟩ = some (.int .i64 x.kind) ∧ w'.cell? ⟨w2.heap.size, 1, none⟩ = some (.int .u64 (x.life.toNat : Int)) ∧ w'.cell? ⟨w2.heap.size, 2, none⟩ = some (.int .i64 x.seq) ∧ w'.cell? ⟨w2.heap.size, 3, none⟩ = some (.int .u64 (x.gen.toNat : Int)) ∧ w'.cell? ⟨w2.heap.size, 4, none⟩ = some (.slice A2 x.body.length d2))) (by kernel_rfl) (by exact five5x (B3.on bb3)) (fun hHeld => ?_)
            refine wpAnyH_take (i := 0) (oi := { dst := some 28, op := Op.move (Operand.tmp 9), type := 4, pos := "sector.go:113", after := #[], guard := none }) (v := ?_) rfl (by kernel_rfl) (by kernel_rfl) (by kernel_rfl) (fun _ _ _ h => h) (Or.inl ⟨by rfl, ?_⟩) (by assumption) ?_; rotate_left; · ((intro w hSw; (try dsimp only at hSw); go_simp) <;> with_reducible rfl)
            try simp only [Act.put, List.setIfInBounds_toArray, List.set_cons_zero, List.set_cons_succ]
            refine wpAnyH_take (i := 1) (oi := { dst := some 29, op := Op.unOp UnOp.not 4 (Operand.tmp 28), type := 4, pos := "sector.go:113", after := #[{ on := 0, ground := Ground.data }], guard := none }) (v := ?_) rfl (by kernel_rfl) (by kernel_rfl) (by kernel_rfl) (fun _ _ _ h => h) (Or.inl ⟨by rfl, ?_⟩) (by assumption) ?_; rotate_left; · ((intro w hSw; (try dsimp only at hSw); go_simp) <;> with_reducible rfl)
            try simp only [Act.put, List.setIfInBounds_toArray, List.set_cons_zero, List.set_cons_succ]
            refine wpAnyH_take (i := 2) (oi := { dst := some 30, op := Op.move (Operand.tmp 29), type := 4, pos := "sector.go:113", after := #[{ on := 1, ground := Ground.data }], guard := none }) (v := ?_) rfl (by kernel_rfl) (by kernel_rfl) (by kernel_rfl) (fun _ _ _ h => h) (Or.inl ⟨by rfl, ?_⟩) (by assumption) ?_; rotate_left; · ((intro w hSw; (try dsimp only at hSw); go_simp) <;> with_reducible rfl)
            try simp only [Act.put, List.setIfInBounds_toArray, List.set_cons_zero, List.set_cons_succ]
            refine wpAnyH_take (i := 3) (oi := { dst := some 31, op := Op.move (Operand.tmp 1), type := 3, pos := "sector.go:113", after := #[{ on := 2, ground := Ground.guard }], guard := some (2, false) }) (v := ?_) rfl (by kernel_rfl) (by kernel_rfl) (by kernel_rfl) (fun _ _ _ h => h) (Or.inl ⟨by rfl, ?_⟩) (by assumption) ?_; rotate_left; · ((intro w hSw; (try dsimp only at hSw); go_simp) <;> with_reducible rfl)
            try simp only [Act.put, List.setIfInBounds_toArray, List.set_cons_zero, List.set_cons_succ]
            refine wpAnyH_take (i := 4) (oi := { dst := some 32, op := Op.load 38 (Operand.tmp 8), type := 38, pos := "sector.go:113", after := #[{ on := 2, ground := Ground.guard }], guard := some (2, false) }) (v := ?_) rfl (by kernel_rfl) (by kernel_rfl) (by kernel_rfl) (fun _ _ _ h => h) (Or.inl ⟨by rfl, ?_⟩) (by assumption) ?_; rotate_left; · ((intro w hSw; (try dsimp only at hSw); go_simp) <;> with_reducible rfl)
            try simp only [Act.put, List.setIfInBounds_toArray, List.set_cons_zero, List.set_cons_succ]
            refine wpAnyH_ready (rs := [5]) (by kernel_rfl) (by simp) ?_
            refine AllReadyH.cons (o := { dst := some 33, op := Op.call { callee := Callee.value (Operand.func 34), args := #[Operand.tmp 31, Operand.tmp 32], argTypes := #[3, 38] }, type := 26, pos := "sector.go:113", after := #[{ on := 3, ground := Ground.data }, { on := 4, ground := Ground.data }, { on := 2, ground := Ground.chain }, { on := 2, ground := Ground.guard }], guard := some (2, false) }) rfl (fun K hK => ?_) AllReadyH.nil
            go_simp; (first | ((go_at_call 34; refine (right_any p x A2 d2 _).mono ?_; rintro e w4 ⟨rfl, b4⟩; rw [← Hf.out]; have bb4 := bt bb3 b4)) | ((go_at_call 36; refine (written_any p x A2 d2 _ (hRx.on bb4) (by rw [← Hf.out]; exact h0)).mono ?_; rintro e w5 ⟨A5, d5, rfl, own5, b5⟩; rw [← HT.out] at own5 ⊢; have bb5 := bt bb4 b5; have rd5 := Rd.own own5; have rdb := Hrt.out.on (bt bw3 bb5); rw [HTl.out])) | ((go_at_call 35; refine (nsame_any _ _ T (b.take 504) _ _ _ _ _ HTl.out.symm Ht5.out.symm rd5 rdb).mono ?_; rintro e w6 ⟨rfl, rfl⟩; rw [HS.out])) | ((go_at_call 37; rw [Hl8.out]; refine (Hck.out _ (bt bw3 bb5) _ _).mono ?_; rintro e w7 ⟨rfl, b7⟩; have bb7 := bt bb5 b7))); (try (go_wp2_with fail)); refine hK.out _ _ (by first | ((first | exact five5x (B3.on bb3) | exact five5x (B3.on bb4) | exact five5x (B3.on bb5) | exact five5x (B3.on bb7))) | ((try dsimp only); ((first | exact five5x (B3.on bb3) | exact five5x (B3.on bb4) | exact five5x (B3.on bb5) | exact five5x (B3.on bb7))))) (fun hHeld => ?_)
            clear hK K
            try simp only [Act.put, List.setIfInBounds_toArray, List.set_cons_zero, List.set_cons_succ]
            refine wpAnyH_take (i := 6) (oi := { dst := some 34, op := Op.binOp BinOp.neq 26 (Operand.tmp 33) (Operand.const (Value.int IntKind.i64 0)) 26, type := 4, pos := "sector.go:113", after := #[{ on := 5, ground := Ground.data }, { on := 2, ground := Ground.guard }], guard := some (2, false) }) (v := ?_) rfl (by kernel_rfl) (by kernel_rfl) (by kernel_rfl) (fun _ _ _ h => h) (Or.inl ⟨by rfl, ?_⟩) (by assumption) ?_; rotate_left; · ((intro w hSw; (try dsimp only at hSw); go_simp) <;> with_reducible rfl)
            try simp only [Act.put, List.setIfInBounds_toArray, List.set_cons_zero, List.set_cons_succ]
            refine wpAnyH_take (i := 7) (oi := { dst := some 35, op := Op.pick (Operand.tmp 30) (Operand.const (Value.bool true)) (Operand.tmp 34), type := 4, pos := "sector.go:113", after := #[{ on := 2, ground := Ground.data }, { on := 6, ground := Ground.data }], guard := none }) (v := ?_) rfl (by kernel_rfl) (by kernel_rfl) (by kernel_rfl) (fun _ _ _ h => h) (Or.inl ⟨by rfl, ?_⟩) (by assumption) ?_; rotate_left; · ((intro w hSw; (try dsimp only at hSw); go_simp) <;> with_reducible rfl)
            try simp only [Act.put, List.setIfInBounds_toArray, List.set_cons_zero, List.set_cons_succ]
            refine wpAnyH_take (i := 8) (oi := { dst := some 36, op := Op.move (Operand.tmp 35), type := 4, pos := "sector.go:113", after := #[{ on := 7, ground := Ground.data }, { on := 5, ground := Ground.chain }], guard := none }) (v := ?_) rfl (by kernel_rfl) (by kernel_rfl) (by kernel_rfl) (fun _ _ _ h => h) (Or.inl ⟨by rfl, ?_⟩) (by assumption) ?_; rotate_left; · ((intro w hSw; (try dsimp only at hSw); go_simp) <;> with_reducible rfl)
            try simp only [Act.put, List.setIfInBounds_toArray, List.set_cons_zero, List.set_cons_succ]
            refine wpAnyH_take (i := 9) (oi := { dst := some 37, op := Op.move (Operand.tmp 1), type := 3, pos := "sector.go:113", after := #[{ on := 8, ground := Ground.guard }], guard := some (8, false) }) (v := ?_) rfl (by kernel_rfl) (by kernel_rfl) (by kernel_rfl) (fun _ _ _ h => h) (Or.inl ⟨by rfl, ?_⟩) (by assumption) ?_; rotate_left; · ((intro w hSw; (try dsimp only at hSw); go_simp) <;> with_reducible rfl)
            try simp only [Act.put, List.setIfInBounds_toArray, List.set_cons_zero, List.set_cons_succ]
            refine wpAnyH_take (i := 10) (oi := { dst := some 38, op := Op.load 38 (Operand.tmp 8), type := 38, pos := "sector.go:113", after := #[{ on := 8, ground := Ground.guard }], guard := some (8, false) }) (v := ?_) rfl (by kernel_rfl) (by kernel_rfl) (by kernel_rfl) (fun _ _ _ h => h) (Or.inl ⟨by rfl, ?_⟩) (by assumption) ?_; rotate_left; · ((intro w hSw; (try dsimp only at hSw); go_simp) <;> with_reducible rfl)
            try simp only [Act.put, List.setIfInBounds_toArray, List.set_cons_zero, List.set_cons_succ]
            refine wpAnyH_take (i := 12) (oi := { dst := some 40, op := Op.move (Operand.tmp 2), type := 23, pos := "sector.go:113", after := #[{ on := 8, ground := Ground.guard }], guard := some (8, false) }) (v := ?_) rfl (by kernel_rfl) (by kernel_rfl) (by kernel_rfl) (fun _ _ _ h => h) (Or.inl ⟨by rfl, ?_⟩) (by assumption) ?_; rotate_left; · ((intro w hSw; (try dsimp only at hSw); go_simp) <;> with_reducible rfl)
            try simp only [Act.put, List.setIfInBounds_toArray, List.set_cons_zero, List.set_cons_succ]
            refine wpAnyH_take (i := 13) (oi := { dst := some 41, op := Op.slice 23 (Operand.tmp 40) none (some (Operand.const (Value.int IntKind.i64 504))) none, type := 23, pos := "sector.go:113", after := #[{ on := 12, ground := Ground.data }, { on := 8, ground := Ground.guard }], guard := some (8, false) }) (v := ?_) rfl (by kernel_rfl) (by kernel_rfl) (by kernel_rfl) (fun _ _ _ h => h) (Or.inl ⟨by rfl, ?_⟩) (by assumption) ?_; rotate_left; · ((intro w hSw; (try dsimp only at hSw); go_simp) <;> with_reducible rfl)
            try simp only [Act.put, List.setIfInBounds_toArray, List.set_cons_zero, List.set_cons_succ]
            refine wpAnyH_ready (rs := [11]) (by kernel_rfl) (by simp) ?_
            refine AllReadyH.cons (o := { dst := some 39, op := Op.call { callee := Callee.value (Operand.func 36), args := #[Operand.tmp 37, Operand.tmp 38], argTypes := #[3, 38] }, type := 23, pos := "sector.go:113", after := #[{ on := 9, ground := Ground.data }, { on := 10, ground := Ground.data }, { on := 8, ground := Ground.chain }, { on := 8, ground := Ground.guard }], guard := some (8, false) }) rfl (fun K hK => ?_) AllReadyH.nil
            go_simp; (first | ((go_at_call 34; refine (right_any p x A2 d2 _).mono ?_; rintro e w4 ⟨rfl, b4⟩; rw [← Hf.out]; have bb4 := bt bb3 b4)) | ((go_at_call 36; refine (written_any p x A2 d2 _ (hRx.on bb4) (by rw [← Hf.out]; exact h0)).mono ?_; rintro e w5 ⟨A5, d5, rfl, own5, b5⟩; rw [← HT.out] at own5 ⊢; have bb5 := bt bb4 b5; have rd5 := Rd.own own5; have rdb := Hrt.out.on (bt bw3 bb5); rw [HTl.out])) | ((go_at_call 35; refine (nsame_any _ _ T (b.take 504) _ _ _ _ _ HTl.out.symm Ht5.out.symm rd5 rdb).mono ?_; rintro e w6 ⟨rfl, rfl⟩; rw [HS.out])) | ((go_at_call 37; rw [Hl8.out]; refine (Hck.out _ (bt bw3 bb5) _ _).mono ?_; rintro e w7 ⟨rfl, b7⟩; have bb7 := bt bb5 b7))); (try (go_wp2_with fail)); refine hK.out _ _ (by first | ((first | exact five5x (B3.on bb3) | exact five5x (B3.on bb4) | exact five5x (B3.on bb5) | exact five5x (B3.on bb7))) | ((try dsimp only); ((first | exact five5x (B3.on bb3) | exact five5x (B3.on bb4) | exact five5x (B3.on bb5) | exact five5x (B3.on bb7))))) (fun hHeld => ?_)
            clear hK K
            try simp only [Act.put, List.setIfInBounds_toArray, List.set_cons_zero, List.set_cons_succ]
            refine wpAnyH_ready (rs := [14]) (by kernel_rfl) (by simp) ?_
            refine AllReadyH.cons (o := { dst := some 42, op := Op.call { callee := Callee.value (Operand.func 35), args := #[Operand.tmp 39, Operand.tmp 41], argTypes := #[23, 23] }, type := 4, pos := "sector.go:113", after := #[{ on := 11, ground := Ground.data }, { on := 13, ground := Ground.data }, { on := 11, ground := Ground.chain }, { on := 8, ground := Ground.guard }], guard := some (8, false) }) rfl (fun K hK => ?_) AllReadyH.nil
            go_simp; (first | ((go_at_call 34; refine (right_any p x A2 d2 _).mono ?_; rintro e w4 ⟨rfl, b4⟩; rw [← Hf.out]; have bb4 := bt bb3 b4)) | ((go_at_call 36; refine (written_any p x A2 d2 _ (hRx.on bb4) (by rw [← Hf.out]; exact h0)).mono ?_; rintro e w5 ⟨A5, d5, rfl, own5, b5⟩; rw [← HT.out] at own5 ⊢; have bb5 := bt bb4 b5; have rd5 := Rd.own own5; have rdb := Hrt.out.on (bt bw3 bb5); rw [HTl.out])) | ((go_at_call 35; refine (nsame_any _ _ T (b.take 504) _ _ _ _ _ HTl.out.symm Ht5.out.symm rd5 rdb).mono ?_; rintro e w6 ⟨rfl, rfl⟩; rw [HS.out])) | ((go_at_call 37; rw [Hl8.out]; refine (Hck.out _ (bt bw3 bb5) _ _).mono ?_; rintro e w7 ⟨rfl, b7⟩; have bb7 := bt bb5 b7))); (try (go_wp2_with fail)); refine hK.out _ _ (by first | ((first | exact five5x (B3.on bb3) | exact five5x (B3.on bb4) | exact five5x (B3.on bb5) | exact five5x (B3.on bb7))) | ((try dsimp only); ((first | exact five5x (B3.on bb3) | exact five5x (B3.on bb4) | exact five5x (B3.on bb5) | exact five5x (B3.on bb7))))) (fun hHeld => ?_)
            clear hK K
            try simp only [Act.put, List.setIfInBounds_toArray, List.set_cons_zero, List.set_cons_succ]
            refine wpAnyH_take (i := 15) (oi := { dst := some 43, op := Op.unOp UnOp.not 4 (Operand.tmp 42), type := 4, pos := "sector.go:113", after := #[{ on := 14, ground := Ground.data }, { on := 8, ground := Ground.guard }], guard := some (8, false) }) (v := ?_) rfl (by kernel_rfl) (by kernel_rfl) (by kernel_rfl) (fun _ _ _ h => h) (Or.inl ⟨by rfl, ?_⟩) (by assumption) ?_; rotate_left; · ((intro w hSw; (try dsimp only at hSw); go_simp) <;> with_reducible rfl)
            try simp only [Act.put, List.setIfInBounds_toArray, List.set_cons_zero, List.set_cons_succ]
            refine wpAnyH_take (i := 16) (oi := { dst := some 44, op := Op.pick (Operand.tmp 36) (Operand.const (Value.bool true)) (Operand.tmp 43), type := 4, pos := "sector.go:113", after := #[{ on := 8, ground := Ground.data }, { on := 15, ground := Ground.data }], guard := none }) (v := ?_) rfl (by kernel_rfl) (by kernel_rfl) (by kernel_rfl) (fun _ _ _ h => h) (Or.inl ⟨by rfl, ?_⟩) (by assumption) ?_; rotate_left; · ((intro w hSw; (try dsimp only at hSw); go_simp) <;> with_reducible rfl)
            try simp only [Act.put, List.setIfInBounds_toArray, List.set_cons_zero, List.set_cons_succ]
            refine wpAnyH_take (i := 17) (oi := { dst := some 45, op := Op.move (Operand.tmp 44), type := 4, pos := "sector.go:113", after := #[{ on := 16, ground := Ground.data }, { on := 14, ground := Ground.chain }], guard := none }) (v := ?_) rfl (by kernel_rfl) (by kernel_rfl) (by kernel_rfl) (fun _ _ _ h => h) (Or.inl ⟨by rfl, ?_⟩) (by assumption) ?_; rotate_left; · ((intro w hSw; (try dsimp only at hSw); go_simp) <;> with_reducible rfl)
            try simp only [Act.put, List.setIfInBounds_toArray, List.set_cons_zero, List.set_cons_succ]
            refine wpAnyH_take (i := 18) (oi := { dst := some 46, op := Op.move (Operand.tmp 0), type := 29, pos := "sector.go:113", after := #[{ on := 17, ground := Ground.guard }], guard := some (17, false) }) (v := ?_) rfl (by kernel_rfl) (by kernel_rfl) (by kernel_rfl) (fun _ _ _ h => h) (Or.inl ⟨by rfl, ?_⟩) (by assumption) ?_; rotate_left; · ((intro w hSw; (try dsimp only at hSw); go_simp) <;> with_reducible rfl)
            try simp only [Act.put, List.setIfInBounds_toArray, List.set_cons_zero, List.set_cons_succ]
            refine wpAnyH_take (i := 19) (oi := { dst := some 47, op := Op.move (Operand.tmp 2), type := 23, pos := "sector.go:113", after := #[{ on := 17, ground := Ground.guard }], guard := some (17, false) }) (v := ?_) rfl (by kernel_rfl) (by kernel_rfl) (by kernel_rfl) (fun _ _ _ h => h) (Or.inl ⟨by rfl, ?_⟩) (by assumption) ?_; rotate_left; · ((intro w hSw; (try dsimp only at hSw); go_simp) <;> with_reducible rfl)
            try simp only [Act.put, List.setIfInBounds_toArray, List.set_cons_zero, List.set_cons_succ]
            refine wpAnyH_take (i := 20) (oi := { dst := some 48, op := Op.slice 23 (Operand.tmp 47) none (some (Operand.const (Value.int IntKind.i64 504))) none, type := 23, pos := "sector.go:113", after := #[{ on := 19, ground := Ground.data }, { on := 17, ground := Ground.guard }], guard := some (17, false) }) (v := ?_) rfl (by kernel_rfl) (by kernel_rfl) (by kernel_rfl) (fun _ _ _ h => h) (Or.inl ⟨by rfl, ?_⟩) (by assumption) ?_; rotate_left; · ((intro w hSw; (try dsimp only at hSw); go_simp) <;> with_reducible rfl)
            try simp only [Act.put, List.setIfInBounds_toArray, List.set_cons_zero, List.set_cons_succ]
            refine wpAnyH_take (i := 21) (oi := { dst := some 49, op := Op.move (Operand.tmp 2), type := 23, pos := "sector.go:113", after := #[{ on := 17, ground := Ground.guard }], guard := some (17, false) }) (v := ?_) rfl (by kernel_rfl) (by kernel_rfl) (by kernel_rfl) (fun _ _ _ h => h) (Or.inl ⟨by rfl, ?_⟩) (by assumption) ?_; rotate_left; · ((intro w hSw; (try dsimp only at hSw); go_simp) <;> with_reducible rfl)
            try simp only [Act.put, List.setIfInBounds_toArray, List.set_cons_zero, List.set_cons_succ]
            refine wpAnyH_take (i := 22) (oi := { dst := some 50, op := Op.slice 23 (Operand.tmp 49) (some (Operand.const (Value.int IntKind.i64 504))) none none, type := 23, pos := "sector.go:113", after := #[{ on := 21, ground := Ground.data }, { on := 17, ground := Ground.guard }], guard := some (17, false) }) (v := ?_) rfl (by kernel_rfl) (by kernel_rfl) (by kernel_rfl) (fun _ _ _ h => h) (Or.inl ⟨by rfl, ?_⟩) (by assumption) ?_; rotate_left; · ((intro w hSw; (try dsimp only at hSw); go_simp) <;> with_reducible rfl)
            try simp only [Act.put, List.setIfInBounds_toArray, List.set_cons_zero, List.set_cons_succ]
            refine wpAnyH_ready (rs := [23]) (by kernel_rfl) (by simp) ?_
            refine AllReadyH.cons (o := { dst := some 51, op := Op.call { callee := Callee.value (Operand.func 37), args := #[Operand.tmp 46, Operand.tmp 48, Operand.tmp 50], argTypes := #[29, 23, 23] }, type := 4, pos := "sector.go:113", after := #[{ on := 18, ground := Ground.data }, { on := 20, ground := Ground.data }, { on := 22, ground := Ground.data }, { on := 17, ground := Ground.chain }, { on := 17, ground := Ground.guard }], guard := some (17, false) }) rfl (fun K hK => ?_) AllReadyH.nil
            go_simp; (first | ((go_at_call 34; refine (right_any p x A2 d2 _).mono ?_; rintro e w4 ⟨rfl, b4⟩; rw [← Hf.out]; have bb4 := bt bb3 b4)) | ((go_at_call 36; refine (written_any p x A2 d2 _ (hRx.on bb4) (by rw [← Hf.out]; exact h0)).mono ?_; rintro e w5 ⟨A5, d5, rfl, own5, b5⟩; rw [← HT.out] at own5 ⊢; have bb5 := bt bb4 b5; have rd5 := Rd.own own5; have rdb := Hrt.out.on (bt bw3 bb5); rw [HTl.out])) | ((go_at_call 35; refine (nsame_any _ _ T (b.take 504) _ _ _ _ _ HTl.out.symm Ht5.out.symm rd5 rdb).mono ?_; rintro e w6 ⟨rfl, rfl⟩; rw [HS.out])) | ((go_at_call 37; rw [Hl8.out]; refine (Hck.out _ (bt bw3 bb5) _ _).mono ?_; rintro e w7 ⟨rfl, b7⟩; have bb7 := bt bb5 b7))); (try (go_wp2_with fail)); refine hK.out _ _ (by first | ((first | exact five5x (B3.on bb3) | exact five5x (B3.on bb4) | exact five5x (B3.on bb5) | exact five5x (B3.on bb7))) | ((try dsimp only); ((first | exact five5x (B3.on bb3) | exact five5x (B3.on bb4) | exact five5x (B3.on bb5) | exact five5x (B3.on bb7))))) (fun hHeld => ?_)
            clear hK K
            try simp only [Act.put, List.setIfInBounds_toArray, List.set_cons_zero, List.set_cons_succ]
            refine wpAnyH_take (i := 24) (oi := { dst := some 52, op := Op.unOp UnOp.not 4 (Operand.tmp 51), type := 4, pos := "sector.go:113", after := #[{ on := 23, ground := Ground.data }, { on := 17, ground := Ground.guard }], guard := some (17, false) }) (v := ?_) rfl (by kernel_rfl) (by kernel_rfl) (by kernel_rfl) (fun _ _ _ h => h) (Or.inl ⟨by rfl, ?_⟩) (by assumption) ?_; rotate_left; · ((intro w hSw; (try dsimp only at hSw); go_simp) <;> with_reducible rfl)
            try simp only [Act.put, List.setIfInBounds_toArray, List.set_cons_zero, List.set_cons_succ]
            refine wpAnyH_take (i := 25) (oi := { dst := some 53, op := Op.pick (Operand.tmp 45) (Operand.const (Value.bool true)) (Operand.tmp 52), type := 4, pos := "sector.go:113", after := #[{ on := 17, ground := Ground.data }, { on := 24, ground := Ground.data }], guard := none }) (v := ?_) rfl (by kernel_rfl) (by kernel_rfl) (by kernel_rfl) (fun _ _ _ h => h) (Or.inl ⟨by rfl, ?_⟩) (by assumption) ?_; rotate_left; · ((intro w hSw; (try dsimp only at hSw); go_simp) <;> with_reducible rfl)
            try simp only [Act.put, List.setIfInBounds_toArray, List.set_cons_zero, List.set_cons_succ]
            refine wpAnyH_done (by kernel_rfl) ?_ _
            have bw7 := bt bw3 bb7
            have B7 := B2'.on bb7
            obtain ⟨c0, c1, c2, c3, c4, fr⟩ := five5 B7
            obtain ⟨e0, e1, e2, e3, e4, fe⟩ := five5 (B3.on bb7)
            go_wp2
            have B8 := ((((B7.set (k := 0) (.int .i64 x.kind)).set (k := 1) (.int .u64 (x.life.toNat : Int))).set (k := 2) (.int .i64 x.seq)).set (k := 3) (.int .u64 (x.gen.toNat : Int))).set (k := 4) (.slice A2 x.body.length d2)
            obtain ⟨z0, z1, z2, z3, z4, zf⟩ := five5 B8
            refine bodyPost_ret (v := .tuple #[.agg #[.int .i64 x.kind, .int .u64 (x.life.toNat : Int), .int .i64 x.seq, .int .u64 (x.gen.toNat : Int), .slice A2 x.body.length d2], .int .i64 0]) (by simp [results, Try.results13, go_sem, z0, z1, z2, z3, z4]) rfl ?_
            rw [hd.out]
            refine ⟨⟨A2, d2, rfl, ?_⟩, bset5 bw7 (Nat.le_refl _)⟩
            exact own_base (own_keep (own_on own3 bb7) (keep5 _ _ _ _ _ _ _) (fun k hk e => by have := own_block own3 hk; rw [List.mem_singleton] at e; omega)) bh1
          | false =>
            have hd := hckf
            refine wp_region_held_drew (S := (fun w' => w'.cell? ⟨w2.heap.size, 0, none⟩ = some (.int .i64 x.kind) ∧ w'.cell? ⟨w2.heap.size, 1, none⟩ = some (.int .u64 (x.life.toNat : Int)) ∧ w'.cell? ⟨w2.heap.size, 2, none⟩ = some (.int .i64 x.seq) ∧ w'.cell? ⟨w2.heap.size, 3, none⟩ = some (.int .u64 (x.gen.toNat : Int)) ∧ w'.cell? ⟨w2.heap.size, 4, none⟩ = some (.slice A2 x.body.length d2))) (by kernel_rfl) (by exact five5x (B3.on bb3)) (fun hHeld => ?_)
            refine wpAnyH_take (i := 0) (oi := { dst := some 28, op := Op.move (Operand.tmp 9), type := 4, pos := "sector.go:113", after := #[], guard := none }) (v := ?_) rfl (by kernel_rfl) (by kernel_rfl) (by kernel_rfl) (fun _ _ _ h => h) (Or.inl ⟨by rfl, ?_⟩) (by assumption) ?_; rotate_left; · ((intro w hSw; (try dsimp only at hSw); go_simp) <;> with_reducible rfl)
            try simp only [Act.put, List.setIfInBounds_toArray, List.set_cons_zero, List.set_cons_succ]
            refine wpAnyH_take (i := 1) (oi := { dst := some 29, op := Op.unOp UnOp.not 4 (Operand.tmp 28), type := 4, pos := "sector.go:113", after := #[{ on := 0, ground := Ground.data }], guard := none }) (v := ?_) rfl (by kernel_rfl) (by kernel_rfl) (by kernel_rfl) (fun _ _ _ h => h) (Or.inl ⟨by rfl, ?_⟩) (by assumption) ?_; rotate_left; · ((intro w hSw; (try dsimp only at hSw); go_simp) <;> with_reducible rfl)
            try simp only [Act.put, List.setIfInBounds_toArray, List.set_cons_zero, List.set_cons_succ]
            refine wpAnyH_take (i := 2) (oi := { dst := some 30, op := Op.move (Operand.tmp 29), type := 4, pos := "sector.go:113", after := #[{ on := 1, ground := Ground.data }], guard := none }) (v := ?_) rfl (by kernel_rfl) (by kernel_rfl) (by kernel_rfl) (fun _ _ _ h => h) (Or.inl ⟨by rfl, ?_⟩) (by assumption) ?_; rotate_left; · ((intro w hSw; (try dsimp only at hSw); go_simp) <;> with_reducible rfl)
            try simp only [Act.put, List.setIfInBounds_toArray, List.set_cons_zero, List.set_cons_succ]
            refine wpAnyH_take (i := 3) (oi := { dst := some 31, op := Op.move (Operand.tmp 1), type := 3, pos := "sector.go:113", after := #[{ on := 2, ground := Ground.guard }], guard := some (2, false) }) (v := ?_) rfl (by kernel_rfl) (by kernel_rfl) (by kernel_rfl) (fun _ _ _ h => h) (Or.inl ⟨by rfl, ?_⟩) (by assumption) ?_; rotate_left; · ((intro w hSw; (try dsimp only at hSw); go_simp) <;> with_reducible rfl)
            try simp only [Act.put, List.setIfInBounds_toArray, List.set_cons_zero, List.set_cons_succ]
            refine wpAnyH_take (i := 4) (oi := { dst := some 32, op := Op.load 38 (Operand.tmp 8), type := 38, pos := "sector.go:113", after := #[{ on := 2, ground := Ground.guard }], guard := some (2, false) }) (v := ?_) rfl (by kernel_rfl) (by kernel_rfl) (by kernel_rfl) (fun _ _ _ h => h) (Or.inl ⟨by rfl, ?_⟩) (by assumption) ?_; rotate_left; · ((intro w hSw; (try dsimp only at hSw); go_simp) <;> with_reducible rfl)
            try simp only [Act.put, List.setIfInBounds_toArray, List.set_cons_zero, List.set_cons_succ]
            refine wpAnyH_ready (rs := [5]) (by kernel_rfl) (by simp) ?_
            refine AllReadyH.cons (o := { dst := some 33, op := Op.call { callee := Callee.value (Operand.func 34), args := #[Operand.tmp 31, Operand.tmp 32], argTypes := #[3, 38] }, type := 26, pos := "sector.go:113", after := #[{ on := 3, ground := Ground.data }, { on := 4, ground := Ground.data }, { on := 2, ground := Ground.chain }, { on := 2, ground := Ground.guard }], guard := some (2, false) }) rfl (fun K hK => ?_) AllReadyH.nil
            go_simp; (first | ((go_at_call 34; refine (right_any p x A2 d2 _).mono ?_; rintro e w4 ⟨rfl, b4⟩; rw [← Hf.out]; have bb4 := bt bb3 b4)) | ((go_at_call 36; refine (written_any p x A2 d2 _ (hRx.on bb4) (by rw [← Hf.out]; exact h0)).mono ?_; rintro e w5 ⟨A5, d5, rfl, own5, b5⟩; rw [← HT.out] at own5 ⊢; have bb5 := bt bb4 b5; have rd5 := Rd.own own5; have rdb := Hrt.out.on (bt bw3 bb5); rw [HTl.out])) | ((go_at_call 35; refine (nsame_any _ _ T (b.take 504) _ _ _ _ _ HTl.out.symm Ht5.out.symm rd5 rdb).mono ?_; rintro e w6 ⟨rfl, rfl⟩; rw [HS.out])) | ((go_at_call 37; rw [Hl8.out]; refine (Hck.out _ (bt bw3 bb5) _ _).mono ?_; rintro e w7 ⟨rfl, b7⟩; have bb7 := bt bb5 b7))); (try (go_wp2_with fail)); refine hK.out _ _ (by first | ((first | exact five5x (B3.on bb3) | exact five5x (B3.on bb4) | exact five5x (B3.on bb5) | exact five5x (B3.on bb7))) | ((try dsimp only); ((first | exact five5x (B3.on bb3) | exact five5x (B3.on bb4) | exact five5x (B3.on bb5) | exact five5x (B3.on bb7))))) (fun hHeld => ?_)
            clear hK K
            try simp only [Act.put, List.setIfInBounds_toArray, List.set_cons_zero, List.set_cons_succ]
            refine wpAnyH_take (i := 6) (oi := { dst := some 34, op := Op.binOp BinOp.neq 26 (Operand.tmp 33) (Operand.const (Value.int IntKind.i64 0)) 26, type := 4, pos := "sector.go:113", after := #[{ on := 5, ground := Ground.data }, { on := 2, ground := Ground.guard }], guard := some (2, false) }) (v := ?_) rfl (by kernel_rfl) (by kernel_rfl) (by kernel_rfl) (fun _ _ _ h => h) (Or.inl ⟨by rfl, ?_⟩) (by assumption) ?_; rotate_left; · ((intro w hSw; (try dsimp only at hSw); go_simp) <;> with_reducible rfl)
            try simp only [Act.put, List.setIfInBounds_toArray, List.set_cons_zero, List.set_cons_succ]
            refine wpAnyH_take (i := 7) (oi := { dst := some 35, op := Op.pick (Operand.tmp 30) (Operand.const (Value.bool true)) (Operand.tmp 34), type := 4, pos := "sector.go:113", after := #[{ on := 2, ground := Ground.data }, { on := 6, ground := Ground.data }], guard := none }) (v := ?_) rfl (by kernel_rfl) (by kernel_rfl) (by kernel_rfl) (fun _ _ _ h => h) (Or.inl ⟨by rfl, ?_⟩) (by assumption) ?_; rotate_left; · ((intro w hSw; (try dsimp only at hSw); go_simp) <;> with_reducible rfl)
            try simp only [Act.put, List.setIfInBounds_toArray, List.set_cons_zero, List.set_cons_succ]
            refine wpAnyH_take (i := 8) (oi := { dst := some 36, op := Op.move (Operand.tmp 35), type := 4, pos := "sector.go:113", after := #[{ on := 7, ground := Ground.data }, { on := 5, ground := Ground.chain }], guard := none }) (v := ?_) rfl (by kernel_rfl) (by kernel_rfl) (by kernel_rfl) (fun _ _ _ h => h) (Or.inl ⟨by rfl, ?_⟩) (by assumption) ?_; rotate_left; · ((intro w hSw; (try dsimp only at hSw); go_simp) <;> with_reducible rfl)
            try simp only [Act.put, List.setIfInBounds_toArray, List.set_cons_zero, List.set_cons_succ]
            refine wpAnyH_take (i := 9) (oi := { dst := some 37, op := Op.move (Operand.tmp 1), type := 3, pos := "sector.go:113", after := #[{ on := 8, ground := Ground.guard }], guard := some (8, false) }) (v := ?_) rfl (by kernel_rfl) (by kernel_rfl) (by kernel_rfl) (fun _ _ _ h => h) (Or.inl ⟨by rfl, ?_⟩) (by assumption) ?_; rotate_left; · ((intro w hSw; (try dsimp only at hSw); go_simp) <;> with_reducible rfl)
            try simp only [Act.put, List.setIfInBounds_toArray, List.set_cons_zero, List.set_cons_succ]
            refine wpAnyH_take (i := 10) (oi := { dst := some 38, op := Op.load 38 (Operand.tmp 8), type := 38, pos := "sector.go:113", after := #[{ on := 8, ground := Ground.guard }], guard := some (8, false) }) (v := ?_) rfl (by kernel_rfl) (by kernel_rfl) (by kernel_rfl) (fun _ _ _ h => h) (Or.inl ⟨by rfl, ?_⟩) (by assumption) ?_; rotate_left; · ((intro w hSw; (try dsimp only at hSw); go_simp) <;> with_reducible rfl)
            try simp only [Act.put, List.setIfInBounds_toArray, List.set_cons_zero, List.set_cons_succ]
            refine wpAnyH_take (i := 12) (oi := { dst := some 40, op := Op.move (Operand.tmp 2), type := 23, pos := "sector.go:113", after := #[{ on := 8, ground := Ground.guard }], guard := some (8, false) }) (v := ?_) rfl (by kernel_rfl) (by kernel_rfl) (by kernel_rfl) (fun _ _ _ h => h) (Or.inl ⟨by rfl, ?_⟩) (by assumption) ?_; rotate_left; · ((intro w hSw; (try dsimp only at hSw); go_simp) <;> with_reducible rfl)
            try simp only [Act.put, List.setIfInBounds_toArray, List.set_cons_zero, List.set_cons_succ]
            refine wpAnyH_take (i := 13) (oi := { dst := some 41, op := Op.slice 23 (Operand.tmp 40) none (some (Operand.const (Value.int IntKind.i64 504))) none, type := 23, pos := "sector.go:113", after := #[{ on := 12, ground := Ground.data }, { on := 8, ground := Ground.guard }], guard := some (8, false) }) (v := ?_) rfl (by kernel_rfl) (by kernel_rfl) (by kernel_rfl) (fun _ _ _ h => h) (Or.inl ⟨by rfl, ?_⟩) (by assumption) ?_; rotate_left; · ((intro w hSw; (try dsimp only at hSw); go_simp) <;> with_reducible rfl)
            try simp only [Act.put, List.setIfInBounds_toArray, List.set_cons_zero, List.set_cons_succ]
            refine wpAnyH_ready (rs := [11]) (by kernel_rfl) (by simp) ?_
            refine AllReadyH.cons (o := { dst := some 39, op := Op.call { callee := Callee.value (Operand.func 36), args := #[Operand.tmp 37, Operand.tmp 38], argTypes := #[3, 38] }, type := 23, pos := "sector.go:113", after := #[{ on := 9, ground := Ground.data }, { on := 10, ground := Ground.data }, { on := 8, ground := Ground.chain }, { on := 8, ground := Ground.guard }], guard := some (8, false) }) rfl (fun K hK => ?_) AllReadyH.nil
            go_simp; (first | ((go_at_call 34; refine (right_any p x A2 d2 _).mono ?_; rintro e w4 ⟨rfl, b4⟩; rw [← Hf.out]; have bb4 := bt bb3 b4)) | ((go_at_call 36; refine (written_any p x A2 d2 _ (hRx.on bb4) (by rw [← Hf.out]; exact h0)).mono ?_; rintro e w5 ⟨A5, d5, rfl, own5, b5⟩; rw [← HT.out] at own5 ⊢; have bb5 := bt bb4 b5; have rd5 := Rd.own own5; have rdb := Hrt.out.on (bt bw3 bb5); rw [HTl.out])) | ((go_at_call 35; refine (nsame_any _ _ T (b.take 504) _ _ _ _ _ HTl.out.symm Ht5.out.symm rd5 rdb).mono ?_; rintro e w6 ⟨rfl, rfl⟩; rw [HS.out])) | ((go_at_call 37; rw [Hl8.out]; refine (Hck.out _ (bt bw3 bb5) _ _).mono ?_; rintro e w7 ⟨rfl, b7⟩; have bb7 := bt bb5 b7))); (try (go_wp2_with fail)); refine hK.out _ _ (by first | ((first | exact five5x (B3.on bb3) | exact five5x (B3.on bb4) | exact five5x (B3.on bb5) | exact five5x (B3.on bb7))) | ((try dsimp only); ((first | exact five5x (B3.on bb3) | exact five5x (B3.on bb4) | exact five5x (B3.on bb5) | exact five5x (B3.on bb7))))) (fun hHeld => ?_)
            clear hK K
            try simp only [Act.put, List.setIfInBounds_toArray, List.set_cons_zero, List.set_cons_succ]
            refine wpAnyH_ready (rs := [14]) (by kernel_rfl) (by simp) ?_
            refine AllReadyH.cons (o := { dst := some 42, op := Op.call { callee := Callee.value (Operand.func 35), args := #[Operand.tmp 39, Operand.tmp 41], argTypes := #[23, 23] }, type := 4, pos := "sector.go:113", after := #[{ on := 11, ground := Ground.data }, { on := 13, ground := Ground.data }, { on := 11, ground := Ground.chain }, { on := 8, ground := Ground.guard }], guard := some (8, false) }) rfl (fun K hK => ?_) AllReadyH.nil
            go_simp; (first | ((go_at_call 34; refine (right_any p x A2 d2 _).mono ?_; rintro e w4 ⟨rfl, b4⟩; rw [← Hf.out]; have bb4 := bt bb3 b4)) | ((go_at_call 36; refine (written_any p x A2 d2 _ (hRx.on bb4) (by rw [← Hf.out]; exact h0)).mono ?_; rintro e w5 ⟨A5, d5, rfl, own5, b5⟩; rw [← HT.out] at own5 ⊢; have bb5 := bt bb4 b5; have rd5 := Rd.own own5; have rdb := Hrt.out.on (bt bw3 bb5); rw [HTl.out])) | ((go_at_call 35; refine (nsame_any _ _ T (b.take 504) _ _ _ _ _ HTl.out.symm Ht5.out.symm rd5 rdb).mono ?_; rintro e w6 ⟨rfl, rfl⟩; rw [HS.out])) | ((go_at_call 37; rw [Hl8.out]; refine (Hck.out _ (bt bw3 bb5) _ _).mono ?_; rintro e w7 ⟨rfl, b7⟩; have bb7 := bt bb5 b7))); (try (go_wp2_with fail)); refine hK.out _ _ (by first | ((first | exact five5x (B3.on bb3) | exact five5x (B3.on bb4) | exact five5x (B3.on bb5) | exact five5x (B3.on bb7))) | ((try dsimp only); ((first | exact five5x (B3.on bb3) | exact five5x (B3.on bb4) | exact five5x (B3.on bb5) | exact five5x (B3.on bb7))))) (fun hHeld => ?_)
            clear hK K
            try simp only [Act.put, List.setIfInBounds_toArray, List.set_cons_zero, List.set_cons_succ]
            refine wpAnyH_take (i := 15) (oi := { dst := some 43, op := Op.unOp UnOp.not 4 (Operand.tmp 42), type := 4, pos := "sector.go:113", after := #[{ on := 14, ground := Ground.data }, { on := 8, ground := Ground.guard }], guard := some (8, false) }) (v := ?_) rfl (by kernel_rfl) (by kernel_rfl) (by kernel_rfl) (fun _ _ _ h => h) (Or.inl ⟨by rfl, ?_⟩) (by assumption) ?_; rotate_left; · ((intro w hSw; (try dsimp only at hSw); go_simp) <;> with_reducible rfl)
            try simp only [Act.put, List.setIfInBounds_toArray, List.set_cons_zero, List.set_cons_succ]
            refine wpAnyH_take (i := 16) (oi := { dst := some 44, op := Op.pick (Operand.tmp 36) (Operand.const (Value.bool true)) (Operand.tmp 43), type := 4, pos := "sector.go:113", after := #[{ on := 8, ground := Ground.data }, { on := 15, ground := Ground.data }], guard := none }) (v := ?_) rfl (by kernel_rfl) (by kernel_rfl) (by kernel_rfl) (fun _ _ _ h => h) (Or.inl ⟨by rfl, ?_⟩) (by assumption) ?_; rotate_left; · ((intro w hSw; (try dsimp only at hSw); go_simp) <;> with_reducible rfl)
            try simp only [Act.put, List.setIfInBounds_toArray, List.set_cons_zero, List.set_cons_succ]
            refine wpAnyH_take (i := 17) (oi := { dst := some 45, op := Op.move (Operand.tmp 44), type := 4, pos := "sector.go:113", after := #[{ on := 16, ground := Ground.data }, { on := 14, ground := Ground.chain }], guard := none }) (v := ?_) rfl (by kernel_rfl) (by kernel_rfl) (by kernel_rfl) (fun _ _ _ h => h) (Or.inl ⟨by rfl, ?_⟩) (by assumption) ?_; rotate_left; · ((intro w hSw; (try dsimp only at hSw); go_simp) <;> with_reducible rfl)
            try simp only [Act.put, List.setIfInBounds_toArray, List.set_cons_zero, List.set_cons_succ]
            refine wpAnyH_take (i := 18) (oi := { dst := some 46, op := Op.move (Operand.tmp 0), type := 29, pos := "sector.go:113", after := #[{ on := 17, ground := Ground.guard }], guard := some (17, false) }) (v := ?_) rfl (by kernel_rfl) (by kernel_rfl) (by kernel_rfl) (fun _ _ _ h => h) (Or.inl ⟨by rfl, ?_⟩) (by assumption) ?_; rotate_left; · ((intro w hSw; (try dsimp only at hSw); go_simp) <;> with_reducible rfl)
            try simp only [Act.put, List.setIfInBounds_toArray, List.set_cons_zero, List.set_cons_succ]
            refine wpAnyH_take (i := 19) (oi := { dst := some 47, op := Op.move (Operand.tmp 2), type := 23, pos := "sector.go:113", after := #[{ on := 17, ground := Ground.guard }], guard := some (17, false) }) (v := ?_) rfl (by kernel_rfl) (by kernel_rfl) (by kernel_rfl) (fun _ _ _ h => h) (Or.inl ⟨by rfl, ?_⟩) (by assumption) ?_; rotate_left; · ((intro w hSw; (try dsimp only at hSw); go_simp) <;> with_reducible rfl)
            try simp only [Act.put, List.setIfInBounds_toArray, List.set_cons_zero, List.set_cons_succ]
            refine wpAnyH_take (i := 20) (oi := { dst := some 48, op := Op.slice 23 (Operand.tmp 47) none (some (Operand.const (Value.int IntKind.i64 504))) none, type := 23, pos := "sector.go:113", after := #[{ on := 19, ground := Ground.data }, { on := 17, ground := Ground.guard }], guard := some (17, false) }) (v := ?_) rfl (by kernel_rfl) (by kernel_rfl) (by kernel_rfl) (fun _ _ _ h => h) (Or.inl ⟨by rfl, ?_⟩) (by assumption) ?_; rotate_left; · ((intro w hSw; (try dsimp only at hSw); go_simp) <;> with_reducible rfl)
            try simp only [Act.put, List.setIfInBounds_toArray, List.set_cons_zero, List.set_cons_succ]
            refine wpAnyH_take (i := 21) (oi := { dst := some 49, op := Op.move (Operand.tmp 2), type := 23, pos := "sector.go:113", after := #[{ on := 17, ground := Ground.guard }], guard := some (17, false) }) (v := ?_) rfl (by kernel_rfl) (by kernel_rfl) (by kernel_rfl) (fun _ _ _ h => h) (Or.inl ⟨by rfl, ?_⟩) (by assumption) ?_; rotate_left; · ((intro w hSw; (try dsimp only at hSw); go_simp) <;> with_reducible rfl)
            try simp only [Act.put, List.setIfInBounds_toArray, List.set_cons_zero, List.set_cons_succ]
            refine wpAnyH_take (i := 22) (oi := { dst := some 50, op := Op.slice 23 (Operand.tmp 49) (some (Operand.const (Value.int IntKind.i64 504))) none none, type := 23, pos := "sector.go:113", after := #[{ on := 21, ground := Ground.data }, { on := 17, ground := Ground.guard }], guard := some (17, false) }) (v := ?_) rfl (by kernel_rfl) (by kernel_rfl) (by kernel_rfl) (fun _ _ _ h => h) (Or.inl ⟨by rfl, ?_⟩) (by assumption) ?_; rotate_left; · ((intro w hSw; (try dsimp only at hSw); go_simp) <;> with_reducible rfl)
            try simp only [Act.put, List.setIfInBounds_toArray, List.set_cons_zero, List.set_cons_succ]
            refine wpAnyH_ready (rs := [23]) (by kernel_rfl) (by simp) ?_
            refine AllReadyH.cons (o := { dst := some 51, op := Op.call { callee := Callee.value (Operand.func 37), args := #[Operand.tmp 46, Operand.tmp 48, Operand.tmp 50], argTypes := #[29, 23, 23] }, type := 4, pos := "sector.go:113", after := #[{ on := 18, ground := Ground.data }, { on := 20, ground := Ground.data }, { on := 22, ground := Ground.data }, { on := 17, ground := Ground.chain }, { on := 17, ground := Ground.guard }], guard := some (17, false) }) rfl (fun K hK => ?_) AllReadyH.nil
            go_simp; (first | ((go_at_call 34; refine (right_any p x A2 d2 _).mono ?_; rintro e w4 ⟨rfl, b4⟩; rw [← Hf.out]; have bb4 := bt bb3 b4)) | ((go_at_call 36; refine (written_any p x A2 d2 _ (hRx.on bb4) (by rw [← Hf.out]; exact h0)).mono ?_; rintro e w5 ⟨A5, d5, rfl, own5, b5⟩; rw [← HT.out] at own5 ⊢; have bb5 := bt bb4 b5; have rd5 := Rd.own own5; have rdb := Hrt.out.on (bt bw3 bb5); rw [HTl.out])) | ((go_at_call 35; refine (nsame_any _ _ T (b.take 504) _ _ _ _ _ HTl.out.symm Ht5.out.symm rd5 rdb).mono ?_; rintro e w6 ⟨rfl, rfl⟩; rw [HS.out])) | ((go_at_call 37; rw [Hl8.out]; refine (Hck.out _ (bt bw3 bb5) _ _).mono ?_; rintro e w7 ⟨rfl, b7⟩; have bb7 := bt bb5 b7))); (try (go_wp2_with fail)); refine hK.out _ _ (by first | ((first | exact five5x (B3.on bb3) | exact five5x (B3.on bb4) | exact five5x (B3.on bb5) | exact five5x (B3.on bb7))) | ((try dsimp only); ((first | exact five5x (B3.on bb3) | exact five5x (B3.on bb4) | exact five5x (B3.on bb5) | exact five5x (B3.on bb7))))) (fun hHeld => ?_)
            clear hK K
            try simp only [Act.put, List.setIfInBounds_toArray, List.set_cons_zero, List.set_cons_succ]
            refine wpAnyH_take (i := 24) (oi := { dst := some 52, op := Op.unOp UnOp.not 4 (Operand.tmp 51), type := 4, pos := "sector.go:113", after := #[{ on := 23, ground := Ground.data }, { on := 17, ground := Ground.guard }], guard := some (17, false) }) (v := ?_) rfl (by kernel_rfl) (by kernel_rfl) (by kernel_rfl) (fun _ _ _ h => h) (Or.inl ⟨by rfl, ?_⟩) (by assumption) ?_; rotate_left; · ((intro w hSw; (try dsimp only at hSw); go_simp) <;> with_reducible rfl)
            try simp only [Act.put, List.setIfInBounds_toArray, List.set_cons_zero, List.set_cons_succ]
            refine wpAnyH_take (i := 25) (oi := { dst := some 53, op := Op.pick (Operand.tmp 45) (Operand.const (Value.bool true)) (Operand.tmp 52), type := 4, pos := "sector.go:113", after := #[{ on := 17, ground := Ground.data }, { on := 24, ground := Ground.data }], guard := none }) (v := ?_) rfl (by kernel_rfl) (by kernel_rfl) (by kernel_rfl) (fun _ _ _ h => h) (Or.inl ⟨by rfl, ?_⟩) (by assumption) ?_; rotate_left; · ((intro w hSw; (try dsimp only at hSw); go_simp) <;> with_reducible rfl)
            try simp only [Act.put, List.setIfInBounds_toArray, List.set_cons_zero, List.set_cons_succ]
            refine wpAnyH_done (by kernel_rfl) ?_ _
            have bw7 := bt bw3 bb7
            have B7 := B2'.on bb7
            obtain ⟨c0, c1, c2, c3, c4, fr⟩ := five5 B7
            go_wp2
            have B8 := ((((B7.set (k := 0) (.int .i64 0)).set (k := 1) (.int .u64 0)).set (k := 2) (.int .i64 0)).set (k := 3) (.int .u64 0)).set (k := 4) (.slice none 0 0)
            obtain ⟨z0, z1, z2, z3, z4, zf⟩ := five5 B8
            refine bodyPost_ret (v := .tuple #[.agg #[.int .i64 0, .int .u64 0, .int .i64 0, .int .u64 0, .slice none 0 0], .int .i64 11]) (by simp [results, Try.results13, go_sem, z0, z1, z2, z3, z4]) rfl ?_
            rw [hd.out]
            exact ⟨RetX.zero _ _ _, bset5 bw7 (Nat.le_refl _)⟩
        · have hd := Lib.hid (hno.out (hun.out (by rw [← HT.out]; exact hTb)))
          have HS := Lib.hid (show R1.sameB T (b.take 504) = false by unfold R1.sameB; rw [decide_eq_false_iff_not]; exact hTb)
          clear hTb
          refine wp_region_held_drew (S := (fun w' => w'.cell? ⟨w2.heap.size, 0, none⟩ = some (.int .i64 x.kind) ∧ w'.cell? ⟨w2.heap.size, 1, none⟩ = some (.int .u64 (x.life.toNat : Int)) ∧ w'.cell? ⟨w2.heap.size, 2, none⟩ = some (.int .i64 x.seq) ∧ w'.cell? ⟨w2.heap.size, 3, none⟩ = some (.int .u64 (x.gen.toNat : Int)) ∧ w'.cell? ⟨w2.heap.size, 4, none⟩ = some (.slice A2 x.body.length d2))) (by kernel_rfl) (by exact five5x (B3.on bb3)) (fun hHeld => ?_)
          refine wpAnyH_take (i := 0) (oi := { dst := some 28, op := Op.move (Operand.tmp 9), type := 4, pos := "sector.go:113", after := #[], guard := none }) (v := ?_) rfl (by kernel_rfl) (by kernel_rfl) (by kernel_rfl) (fun _ _ _ h => h) (Or.inl ⟨by rfl, ?_⟩) (by assumption) ?_; rotate_left; · ((intro w hSw; (try dsimp only at hSw); go_simp) <;> with_reducible rfl)
          try simp only [Act.put, List.setIfInBounds_toArray, List.set_cons_zero, List.set_cons_succ]
          refine wpAnyH_take (i := 1) (oi := { dst := some 29, op := Op.unOp UnOp.not 4 (Operand.tmp 28), type := 4, pos := "sector.go:113", after := #[{ on := 0, ground := Ground.data }], guard := none }) (v := ?_) rfl (by kernel_rfl) (by kernel_rfl) (by kernel_rfl) (fun _ _ _ h => h) (Or.inl ⟨by rfl, ?_⟩) (by assumption) ?_; rotate_left; · ((intro w hSw; (try dsimp only at hSw); go_simp) <;> with_reducible rfl)
          try simp only [Act.put, List.setIfInBounds_toArray, List.set_cons_zero, List.set_cons_succ]
          refine wpAnyH_take (i := 2) (oi := { dst := some 30, op := Op.move (Operand.tmp 29), type := 4, pos := "sector.go:113", after := #[{ on := 1, ground := Ground.data }], guard := none }) (v := ?_) rfl (by kernel_rfl) (by kernel_rfl) (by kernel_rfl) (fun _ _ _ h => h) (Or.inl ⟨by rfl, ?_⟩) (by assumption) ?_; rotate_left; · ((intro w hSw; (try dsimp only at hSw); go_simp) <;> with_reducible rfl)
          try simp only [Act.put, List.setIfInBounds_toArray, List.set_cons_zero, List.set_cons_succ]
          refine wpAnyH_take (i := 3) (oi := { dst := some 31, op := Op.move (Operand.tmp 1), type := 3, pos := "sector.go:113", after := #[{ on := 2, ground := Ground.guard }], guard := some (2, false) }) (v := ?_) rfl (by kernel_rfl) (by kernel_rfl) (by kernel_rfl) (fun _ _ _ h => h) (Or.inl ⟨by rfl, ?_⟩) (by assumption) ?_; rotate_left; · ((intro w hSw; (try dsimp only at hSw); go_simp) <;> with_reducible rfl)
          try simp only [Act.put, List.setIfInBounds_toArray, List.set_cons_zero, List.set_cons_succ]
          refine wpAnyH_take (i := 4) (oi := { dst := some 32, op := Op.load 38 (Operand.tmp 8), type := 38, pos := "sector.go:113", after := #[{ on := 2, ground := Ground.guard }], guard := some (2, false) }) (v := ?_) rfl (by kernel_rfl) (by kernel_rfl) (by kernel_rfl) (fun _ _ _ h => h) (Or.inl ⟨by rfl, ?_⟩) (by assumption) ?_; rotate_left; · ((intro w hSw; (try dsimp only at hSw); go_simp) <;> with_reducible rfl)
          try simp only [Act.put, List.setIfInBounds_toArray, List.set_cons_zero, List.set_cons_succ]
          refine wpAnyH_ready (rs := [5]) (by kernel_rfl) (by simp) ?_
          refine AllReadyH.cons (o := { dst := some 33, op := Op.call { callee := Callee.value (Operand.func 34), args := #[Operand.tmp 31, Operand.tmp 32], argTypes := #[3, 38] }, type := 26, pos := "sector.go:113", after := #[{ on := 3, ground := Ground.data }, { on := 4, ground := Ground.data }, { on := 2, ground := Ground.chain }, { on := 2, ground := Ground.guard }], guard := some (2, false) }) rfl (fun K hK => ?_) AllReadyH.nil
          go_simp; (first | ((go_at_call 34; refine (right_any p x A2 d2 _).mono ?_; rintro e w4 ⟨rfl, b4⟩; rw [← Hf.out]; have bb4 := bt bb3 b4)) | ((go_at_call 36; refine (written_any p x A2 d2 _ (hRx.on bb4) (by rw [← Hf.out]; exact h0)).mono ?_; rintro e w5 ⟨A5, d5, rfl, own5, b5⟩; rw [← HT.out] at own5 ⊢; have bb5 := bt bb4 b5; have rd5 := Rd.own own5; have rdb := Hrt.out.on (bt bw3 bb5); rw [HTl.out])) | ((go_at_call 35; refine (nsame_any _ _ T (b.take 504) _ _ _ _ _ HTl.out.symm Ht5.out.symm rd5 rdb).mono ?_; rintro e w6 ⟨rfl, rfl⟩; rw [HS.out]))); (try (go_wp2_with fail)); refine hK.out _ _ (by first | ((first | exact five5x (B3.on bb3) | exact five5x (B3.on bb4) | exact five5x (B3.on bb5) | exact five5x (B3.on bb7))) | ((try dsimp only); ((first | exact five5x (B3.on bb3) | exact five5x (B3.on bb4) | exact five5x (B3.on bb5) | exact five5x (B3.on bb7))))) (fun hHeld => ?_)
          clear hK K
          try simp only [Act.put, List.setIfInBounds_toArray, List.set_cons_zero, List.set_cons_succ]
          refine wpAnyH_take (i := 6) (oi := { dst := some 34, op := Op.binOp BinOp.neq 26 (Operand.tmp 33) (Operand.const (Value.int IntKind.i64 0)) 26, type := 4, pos := "sector.go:113", after := #[{ on := 5, ground := Ground.data }, { on := 2, ground := Ground.guard }], guard := some (2, false) }) (v := ?_) rfl (by kernel_rfl) (by kernel_rfl) (by kernel_rfl) (fun _ _ _ h => h) (Or.inl ⟨by rfl, ?_⟩) (by assumption) ?_; rotate_left; · ((intro w hSw; (try dsimp only at hSw); go_simp) <;> with_reducible rfl)
          try simp only [Act.put, List.setIfInBounds_toArray, List.set_cons_zero, List.set_cons_succ]
          refine wpAnyH_take (i := 7) (oi := { dst := some 35, op := Op.pick (Operand.tmp 30) (Operand.const (Value.bool true)) (Operand.tmp 34), type := 4, pos := "sector.go:113", after := #[{ on := 2, ground := Ground.data }, { on := 6, ground := Ground.data }], guard := none }) (v := ?_) rfl (by kernel_rfl) (by kernel_rfl) (by kernel_rfl) (fun _ _ _ h => h) (Or.inl ⟨by rfl, ?_⟩) (by assumption) ?_; rotate_left; · ((intro w hSw; (try dsimp only at hSw); go_simp) <;> with_reducible rfl)
          try simp only [Act.put, List.setIfInBounds_toArray, List.set_cons_zero, List.set_cons_succ]
          refine wpAnyH_take (i := 8) (oi := { dst := some 36, op := Op.move (Operand.tmp 35), type := 4, pos := "sector.go:113", after := #[{ on := 7, ground := Ground.data }, { on := 5, ground := Ground.chain }], guard := none }) (v := ?_) rfl (by kernel_rfl) (by kernel_rfl) (by kernel_rfl) (fun _ _ _ h => h) (Or.inl ⟨by rfl, ?_⟩) (by assumption) ?_; rotate_left; · ((intro w hSw; (try dsimp only at hSw); go_simp) <;> with_reducible rfl)
          try simp only [Act.put, List.setIfInBounds_toArray, List.set_cons_zero, List.set_cons_succ]
          refine wpAnyH_take (i := 9) (oi := { dst := some 37, op := Op.move (Operand.tmp 1), type := 3, pos := "sector.go:113", after := #[{ on := 8, ground := Ground.guard }], guard := some (8, false) }) (v := ?_) rfl (by kernel_rfl) (by kernel_rfl) (by kernel_rfl) (fun _ _ _ h => h) (Or.inl ⟨by rfl, ?_⟩) (by assumption) ?_; rotate_left; · ((intro w hSw; (try dsimp only at hSw); go_simp) <;> with_reducible rfl)
          try simp only [Act.put, List.setIfInBounds_toArray, List.set_cons_zero, List.set_cons_succ]
          refine wpAnyH_take (i := 10) (oi := { dst := some 38, op := Op.load 38 (Operand.tmp 8), type := 38, pos := "sector.go:113", after := #[{ on := 8, ground := Ground.guard }], guard := some (8, false) }) (v := ?_) rfl (by kernel_rfl) (by kernel_rfl) (by kernel_rfl) (fun _ _ _ h => h) (Or.inl ⟨by rfl, ?_⟩) (by assumption) ?_; rotate_left; · ((intro w hSw; (try dsimp only at hSw); go_simp) <;> with_reducible rfl)
          try simp only [Act.put, List.setIfInBounds_toArray, List.set_cons_zero, List.set_cons_succ]
          refine wpAnyH_take (i := 12) (oi := { dst := some 40, op := Op.move (Operand.tmp 2), type := 23, pos := "sector.go:113", after := #[{ on := 8, ground := Ground.guard }], guard := some (8, false) }) (v := ?_) rfl (by kernel_rfl) (by kernel_rfl) (by kernel_rfl) (fun _ _ _ h => h) (Or.inl ⟨by rfl, ?_⟩) (by assumption) ?_; rotate_left; · ((intro w hSw; (try dsimp only at hSw); go_simp) <;> with_reducible rfl)
          try simp only [Act.put, List.setIfInBounds_toArray, List.set_cons_zero, List.set_cons_succ]
          refine wpAnyH_take (i := 13) (oi := { dst := some 41, op := Op.slice 23 (Operand.tmp 40) none (some (Operand.const (Value.int IntKind.i64 504))) none, type := 23, pos := "sector.go:113", after := #[{ on := 12, ground := Ground.data }, { on := 8, ground := Ground.guard }], guard := some (8, false) }) (v := ?_) rfl (by kernel_rfl) (by kernel_rfl) (by kernel_rfl) (fun _ _ _ h => h) (Or.inl ⟨by rfl, ?_⟩) (by assumption) ?_; rotate_left; · ((intro w hSw; (try dsimp only at hSw); go_simp) <;> with_reducible rfl)
          try simp only [Act.put, List.setIfInBounds_toArray, List.set_cons_zero, List.set_cons_succ]
          refine wpAnyH_ready (rs := [11]) (by kernel_rfl) (by simp) ?_
          refine AllReadyH.cons (o := { dst := some 39, op := Op.call { callee := Callee.value (Operand.func 36), args := #[Operand.tmp 37, Operand.tmp 38], argTypes := #[3, 38] }, type := 23, pos := "sector.go:113", after := #[{ on := 9, ground := Ground.data }, { on := 10, ground := Ground.data }, { on := 8, ground := Ground.chain }, { on := 8, ground := Ground.guard }], guard := some (8, false) }) rfl (fun K hK => ?_) AllReadyH.nil
          go_simp; (first | ((go_at_call 34; refine (right_any p x A2 d2 _).mono ?_; rintro e w4 ⟨rfl, b4⟩; rw [← Hf.out]; have bb4 := bt bb3 b4)) | ((go_at_call 36; refine (written_any p x A2 d2 _ (hRx.on bb4) (by rw [← Hf.out]; exact h0)).mono ?_; rintro e w5 ⟨A5, d5, rfl, own5, b5⟩; rw [← HT.out] at own5 ⊢; have bb5 := bt bb4 b5; have rd5 := Rd.own own5; have rdb := Hrt.out.on (bt bw3 bb5); rw [HTl.out])) | ((go_at_call 35; refine (nsame_any _ _ T (b.take 504) _ _ _ _ _ HTl.out.symm Ht5.out.symm rd5 rdb).mono ?_; rintro e w6 ⟨rfl, rfl⟩; rw [HS.out]))); (try (go_wp2_with fail)); refine hK.out _ _ (by first | ((first | exact five5x (B3.on bb3) | exact five5x (B3.on bb4) | exact five5x (B3.on bb5) | exact five5x (B3.on bb7))) | ((try dsimp only); ((first | exact five5x (B3.on bb3) | exact five5x (B3.on bb4) | exact five5x (B3.on bb5) | exact five5x (B3.on bb7))))) (fun hHeld => ?_)
          clear hK K
          try simp only [Act.put, List.setIfInBounds_toArray, List.set_cons_zero, List.set_cons_succ]
          refine wpAnyH_ready (rs := [14]) (by kernel_rfl) (by simp) ?_
          refine AllReadyH.cons (o := { dst := some 42, op := Op.call { callee := Callee.value (Operand.func 35), args := #[Operand.tmp 39, Operand.tmp 41], argTypes := #[23, 23] }, type := 4, pos := "sector.go:113", after := #[{ on := 11, ground := Ground.data }, { on := 13, ground := Ground.data }, { on := 11, ground := Ground.chain }, { on := 8, ground := Ground.guard }], guard := some (8, false) }) rfl (fun K hK => ?_) AllReadyH.nil
          go_simp; (first | ((go_at_call 34; refine (right_any p x A2 d2 _).mono ?_; rintro e w4 ⟨rfl, b4⟩; rw [← Hf.out]; have bb4 := bt bb3 b4)) | ((go_at_call 36; refine (written_any p x A2 d2 _ (hRx.on bb4) (by rw [← Hf.out]; exact h0)).mono ?_; rintro e w5 ⟨A5, d5, rfl, own5, b5⟩; rw [← HT.out] at own5 ⊢; have bb5 := bt bb4 b5; have rd5 := Rd.own own5; have rdb := Hrt.out.on (bt bw3 bb5); rw [HTl.out])) | ((go_at_call 35; refine (nsame_any _ _ T (b.take 504) _ _ _ _ _ HTl.out.symm Ht5.out.symm rd5 rdb).mono ?_; rintro e w6 ⟨rfl, rfl⟩; rw [HS.out]))); (try (go_wp2_with fail)); refine hK.out _ _ (by first | ((first | exact five5x (B3.on bb3) | exact five5x (B3.on bb4) | exact five5x (B3.on bb5) | exact five5x (B3.on bb7))) | ((try dsimp only); ((first | exact five5x (B3.on bb3) | exact five5x (B3.on bb4) | exact five5x (B3.on bb5) | exact five5x (B3.on bb7))))) (fun hHeld => ?_)
          clear hK K
          try simp only [Act.put, List.setIfInBounds_toArray, List.set_cons_zero, List.set_cons_succ]
          refine wpAnyH_take (i := 15) (oi := { dst := some 43, op := Op.unOp UnOp.not 4 (Operand.tmp 42), type := 4, pos := "sector.go:113", after := #[{ on := 14, ground := Ground.data }, { on := 8, ground := Ground.guard }], guard := some (8, false) }) (v := ?_) rfl (by kernel_rfl) (by kernel_rfl) (by kernel_rfl) (fun _ _ _ h => h) (Or.inl ⟨by rfl, ?_⟩) (by assumption) ?_; rotate_left; · ((intro w hSw; (try dsimp only at hSw); go_simp) <;> with_reducible rfl)
          try simp only [Act.put, List.setIfInBounds_toArray, List.set_cons_zero, List.set_cons_succ]
          refine wpAnyH_take (i := 16) (oi := { dst := some 44, op := Op.pick (Operand.tmp 36) (Operand.const (Value.bool true)) (Operand.tmp 43), type := 4, pos := "sector.go:113", after := #[{ on := 8, ground := Ground.data }, { on := 15, ground := Ground.data }], guard := none }) (v := ?_) rfl (by kernel_rfl) (by kernel_rfl) (by kernel_rfl) (fun _ _ _ h => h) (Or.inl ⟨by rfl, ?_⟩) (by assumption) ?_; rotate_left; · ((intro w hSw; (try dsimp only at hSw); go_simp) <;> with_reducible rfl)
          try simp only [Act.put, List.setIfInBounds_toArray, List.set_cons_zero, List.set_cons_succ]
          refine wpAnyH_take (i := 17) (oi := { dst := some 45, op := Op.move (Operand.tmp 44), type := 4, pos := "sector.go:113", after := #[{ on := 16, ground := Ground.data }, { on := 14, ground := Ground.chain }], guard := none }) (v := ?_) rfl (by kernel_rfl) (by kernel_rfl) (by kernel_rfl) (fun _ _ _ h => h) (Or.inl ⟨by rfl, ?_⟩) (by assumption) ?_; rotate_left; · ((intro w hSw; (try dsimp only at hSw); go_simp) <;> with_reducible rfl)
          try simp only [Act.put, List.setIfInBounds_toArray, List.set_cons_zero, List.set_cons_succ]
          refine wpAnyH_take (i := 18) (oi := { dst := some 46, op := Op.move (Operand.tmp 0), type := 29, pos := "sector.go:113", after := #[{ on := 17, ground := Ground.guard }], guard := some (17, false) }) (v := undef) rfl (by kernel_rfl) (by kernel_rfl) (by kernel_rfl) (fun _ _ _ h => h) (Or.inr ⟨by rfl, rfl⟩) (by assumption) ?_
          try simp only [Act.put, List.setIfInBounds_toArray, List.set_cons_zero, List.set_cons_succ]
          refine wpAnyH_take (i := 19) (oi := { dst := some 47, op := Op.move (Operand.tmp 2), type := 23, pos := "sector.go:113", after := #[{ on := 17, ground := Ground.guard }], guard := some (17, false) }) (v := undef) rfl (by kernel_rfl) (by kernel_rfl) (by kernel_rfl) (fun _ _ _ h => h) (Or.inr ⟨by rfl, rfl⟩) (by assumption) ?_
          try simp only [Act.put, List.setIfInBounds_toArray, List.set_cons_zero, List.set_cons_succ]
          refine wpAnyH_take (i := 20) (oi := { dst := some 48, op := Op.slice 23 (Operand.tmp 47) none (some (Operand.const (Value.int IntKind.i64 504))) none, type := 23, pos := "sector.go:113", after := #[{ on := 19, ground := Ground.data }, { on := 17, ground := Ground.guard }], guard := some (17, false) }) (v := undef) rfl (by kernel_rfl) (by kernel_rfl) (by kernel_rfl) (fun _ _ _ h => h) (Or.inr ⟨by rfl, rfl⟩) (by assumption) ?_
          try simp only [Act.put, List.setIfInBounds_toArray, List.set_cons_zero, List.set_cons_succ]
          refine wpAnyH_take (i := 21) (oi := { dst := some 49, op := Op.move (Operand.tmp 2), type := 23, pos := "sector.go:113", after := #[{ on := 17, ground := Ground.guard }], guard := some (17, false) }) (v := undef) rfl (by kernel_rfl) (by kernel_rfl) (by kernel_rfl) (fun _ _ _ h => h) (Or.inr ⟨by rfl, rfl⟩) (by assumption) ?_
          try simp only [Act.put, List.setIfInBounds_toArray, List.set_cons_zero, List.set_cons_succ]
          refine wpAnyH_take (i := 22) (oi := { dst := some 50, op := Op.slice 23 (Operand.tmp 49) (some (Operand.const (Value.int IntKind.i64 504))) none none, type := 23, pos := "sector.go:113", after := #[{ on := 21, ground := Ground.data }, { on := 17, ground := Ground.guard }], guard := some (17, false) }) (v := undef) rfl (by kernel_rfl) (by kernel_rfl) (by kernel_rfl) (fun _ _ _ h => h) (Or.inr ⟨by rfl, rfl⟩) (by assumption) ?_
          try simp only [Act.put, List.setIfInBounds_toArray, List.set_cons_zero, List.set_cons_succ]
          refine wpAnyH_ready (rs := [23]) (by kernel_rfl) (by simp) ?_
          refine AllReadyH.cons (o := { dst := some 51, op := Op.call { callee := Callee.value (Operand.func 37), args := #[Operand.tmp 46, Operand.tmp 48, Operand.tmp 50], argTypes := #[29, 23, 23] }, type := 4, pos := "sector.go:113", after := #[{ on := 18, ground := Ground.data }, { on := 20, ground := Ground.data }, { on := 22, ground := Ground.data }, { on := 17, ground := Ground.chain }, { on := 17, ground := Ground.guard }], guard := some (17, false) }) rfl (fun K hK => ?_) AllReadyH.nil
          rw [if_neg]; rotate_left; · exact fun h => Bool.noConfusion (show false = true from h)
          refine hK.out _ _ hHeld (fun hHeld => ?_)
          clear hK K
          try simp only [Act.put, List.setIfInBounds_toArray, List.set_cons_zero, List.set_cons_succ]
          refine wpAnyH_take (i := 24) (oi := { dst := some 52, op := Op.unOp UnOp.not 4 (Operand.tmp 51), type := 4, pos := "sector.go:113", after := #[{ on := 23, ground := Ground.data }, { on := 17, ground := Ground.guard }], guard := some (17, false) }) (v := undef) rfl (by kernel_rfl) (by kernel_rfl) (by kernel_rfl) (fun _ _ _ h => h) (Or.inr ⟨by rfl, rfl⟩) (by assumption) ?_
          try simp only [Act.put, List.setIfInBounds_toArray, List.set_cons_zero, List.set_cons_succ]
          refine wpAnyH_take (i := 25) (oi := { dst := some 53, op := Op.pick (Operand.tmp 45) (Operand.const (Value.bool true)) (Operand.tmp 52), type := 4, pos := "sector.go:113", after := #[{ on := 17, ground := Ground.data }, { on := 24, ground := Ground.data }], guard := none }) (v := ?_) rfl (by kernel_rfl) (by kernel_rfl) (by kernel_rfl) (fun _ _ _ h => h) (Or.inl ⟨by rfl, ?_⟩) (by assumption) ?_; rotate_left; · ((intro w hSw; (try dsimp only at hSw); go_simp) <;> with_reducible rfl)
          try simp only [Act.put, List.setIfInBounds_toArray, List.set_cons_zero, List.set_cons_succ]
          refine wpAnyH_done (by kernel_rfl) ?_ _
          have bw7 := bt bw3 bb5
          have B7 := B2'.on bb5
          obtain ⟨c0, c1, c2, c3, c4, fr⟩ := five5 B7
          go_wp2
          have B8 := ((((B7.set (k := 0) (.int .i64 0)).set (k := 1) (.int .u64 0)).set (k := 2) (.int .i64 0)).set (k := 3) (.int .u64 0)).set (k := 4) (.slice none 0 0)
          obtain ⟨z0, z1, z2, z3, z4, zf⟩ := five5 B8
          refine bodyPost_ret (v := .tuple #[.agg #[.int .i64 0, .int .u64 0, .int .i64 0, .int .u64 0, .slice none 0 0], .int .i64 11]) (by simp [results, Try.results13, go_sem, z0, z1, z2, z3, z4]) rfl ?_
          rw [hd.out]
          exact ⟨RetX.zero _ _ _, bset5 bw7 (Nat.le_refl _)⟩
      · have hd := Lib.hid (hno.out (hbad.out (by rw [← Hf.out]; exact h0)))
        have hf1 := bne_yes h0
        refine wp_region_held_drew (S := (fun w' => w'.cell? ⟨w2.heap.size, 0, none⟩ = some (.int .i64 x.kind) ∧ w'.cell? ⟨w2.heap.size, 1, none⟩ = some (.int .u64 (x.life.toNat : Int)) ∧ w'.cell? ⟨w2.heap.size, 2, none⟩ = some (.int .i64 x.seq) ∧ w'.cell? ⟨w2.heap.size, 3, none⟩ = some (.int .u64 (x.gen.toNat : Int)) ∧ w'.cell? ⟨w2.heap.size, 4, none⟩ = some (.slice A2 x.body.length d2))) (by kernel_rfl) (by exact five5x (B3.on bb3)) (fun hHeld => ?_)
        refine wpAnyH_take (i := 0) (oi := { dst := some 28, op := Op.move (Operand.tmp 9), type := 4, pos := "sector.go:113", after := #[], guard := none }) (v := ?_) rfl (by kernel_rfl) (by kernel_rfl) (by kernel_rfl) (fun _ _ _ h => h) (Or.inl ⟨by rfl, ?_⟩) (by assumption) ?_; rotate_left; · ((intro w hSw; (try dsimp only at hSw); go_simp) <;> with_reducible rfl)
        try simp only [Act.put, List.setIfInBounds_toArray, List.set_cons_zero, List.set_cons_succ]
        refine wpAnyH_take (i := 1) (oi := { dst := some 29, op := Op.unOp UnOp.not 4 (Operand.tmp 28), type := 4, pos := "sector.go:113", after := #[{ on := 0, ground := Ground.data }], guard := none }) (v := ?_) rfl (by kernel_rfl) (by kernel_rfl) (by kernel_rfl) (fun _ _ _ h => h) (Or.inl ⟨by rfl, ?_⟩) (by assumption) ?_; rotate_left; · ((intro w hSw; (try dsimp only at hSw); go_simp) <;> with_reducible rfl)
        try simp only [Act.put, List.setIfInBounds_toArray, List.set_cons_zero, List.set_cons_succ]
        refine wpAnyH_take (i := 2) (oi := { dst := some 30, op := Op.move (Operand.tmp 29), type := 4, pos := "sector.go:113", after := #[{ on := 1, ground := Ground.data }], guard := none }) (v := ?_) rfl (by kernel_rfl) (by kernel_rfl) (by kernel_rfl) (fun _ _ _ h => h) (Or.inl ⟨by rfl, ?_⟩) (by assumption) ?_; rotate_left; · ((intro w hSw; (try dsimp only at hSw); go_simp) <;> with_reducible rfl)
        try simp only [Act.put, List.setIfInBounds_toArray, List.set_cons_zero, List.set_cons_succ]
        refine wpAnyH_take (i := 3) (oi := { dst := some 31, op := Op.move (Operand.tmp 1), type := 3, pos := "sector.go:113", after := #[{ on := 2, ground := Ground.guard }], guard := some (2, false) }) (v := ?_) rfl (by kernel_rfl) (by kernel_rfl) (by kernel_rfl) (fun _ _ _ h => h) (Or.inl ⟨by rfl, ?_⟩) (by assumption) ?_; rotate_left; · ((intro w hSw; (try dsimp only at hSw); go_simp) <;> with_reducible rfl)
        try simp only [Act.put, List.setIfInBounds_toArray, List.set_cons_zero, List.set_cons_succ]
        refine wpAnyH_take (i := 4) (oi := { dst := some 32, op := Op.load 38 (Operand.tmp 8), type := 38, pos := "sector.go:113", after := #[{ on := 2, ground := Ground.guard }], guard := some (2, false) }) (v := ?_) rfl (by kernel_rfl) (by kernel_rfl) (by kernel_rfl) (fun _ _ _ h => h) (Or.inl ⟨by rfl, ?_⟩) (by assumption) ?_; rotate_left; · ((intro w hSw; (try dsimp only at hSw); go_simp) <;> with_reducible rfl)
        try simp only [Act.put, List.setIfInBounds_toArray, List.set_cons_zero, List.set_cons_succ]
        refine wpAnyH_ready (rs := [5]) (by kernel_rfl) (by simp) ?_
        refine AllReadyH.cons (o := { dst := some 33, op := Op.call { callee := Callee.value (Operand.func 34), args := #[Operand.tmp 31, Operand.tmp 32], argTypes := #[3, 38] }, type := 26, pos := "sector.go:113", after := #[{ on := 3, ground := Ground.data }, { on := 4, ground := Ground.data }, { on := 2, ground := Ground.chain }, { on := 2, ground := Ground.guard }], guard := some (2, false) }) rfl (fun K hK => ?_) AllReadyH.nil
        go_simp; (first | ((go_at_call 34; refine (right_any p x A2 d2 _).mono ?_; rintro e w4 ⟨rfl, b4⟩; rw [← Hf.out]; have bb4 := bt bb3 b4))); (try (go_wp2_with fail)); refine hK.out _ _ (by first | ((first | exact five5x (B3.on bb3) | exact five5x (B3.on bb4) | exact five5x (B3.on bb5) | exact five5x (B3.on bb7))) | ((try dsimp only); ((first | exact five5x (B3.on bb3) | exact five5x (B3.on bb4) | exact five5x (B3.on bb5) | exact five5x (B3.on bb7))))) (fun hHeld => ?_)
        clear hK K
        try simp only [Act.put, List.setIfInBounds_toArray, List.set_cons_zero, List.set_cons_succ]
        refine wpAnyH_take (i := 6) (oi := { dst := some 34, op := Op.binOp BinOp.neq 26 (Operand.tmp 33) (Operand.const (Value.int IntKind.i64 0)) 26, type := 4, pos := "sector.go:113", after := #[{ on := 5, ground := Ground.data }, { on := 2, ground := Ground.guard }], guard := some (2, false) }) (v := ?_) rfl (by kernel_rfl) (by kernel_rfl) (by kernel_rfl) (fun _ _ _ h => h) (Or.inl ⟨by rfl, ?_⟩) (by assumption) ?_; rotate_left; · ((intro w hSw; (try dsimp only at hSw); go_simp) <;> with_reducible rfl)
        try simp only [Act.put, List.setIfInBounds_toArray, List.set_cons_zero, List.set_cons_succ]
        refine wpAnyH_take (i := 7) (oi := { dst := some 35, op := Op.pick (Operand.tmp 30) (Operand.const (Value.bool true)) (Operand.tmp 34), type := 4, pos := "sector.go:113", after := #[{ on := 2, ground := Ground.data }, { on := 6, ground := Ground.data }], guard := none }) (v := ?_) rfl (by kernel_rfl) (by kernel_rfl) (by kernel_rfl) (fun _ _ _ h => h) (Or.inl ⟨by rfl, ?_⟩) (by assumption) ?_; rotate_left; · ((intro w hSw; (try dsimp only at hSw); go_simp) <;> with_reducible rfl)
        try simp only [Act.put, List.setIfInBounds_toArray, List.set_cons_zero, List.set_cons_succ]
        refine wpAnyH_take (i := 8) (oi := { dst := some 36, op := Op.move (Operand.tmp 35), type := 4, pos := "sector.go:113", after := #[{ on := 7, ground := Ground.data }, { on := 5, ground := Ground.chain }], guard := none }) (v := ?_) rfl (by kernel_rfl) (by kernel_rfl) (by kernel_rfl) (fun _ _ _ h => h) (Or.inl ⟨by rfl, ?_⟩) (by assumption) ?_; rotate_left; · ((intro w hSw; (try dsimp only at hSw); go_simp) <;> with_reducible rfl)
        try simp only [Act.put, List.setIfInBounds_toArray, List.set_cons_zero, List.set_cons_succ]
        refine wpAnyH_take (i := 9) (oi := { dst := some 37, op := Op.move (Operand.tmp 1), type := 3, pos := "sector.go:113", after := #[{ on := 8, ground := Ground.guard }], guard := some (8, false) }) (v := undef) rfl (by kernel_rfl) (by kernel_rfl) (by kernel_rfl) (fun _ _ _ h => h) (Or.inr ⟨by rfl, rfl⟩) (by assumption) ?_
        try simp only [Act.put, List.setIfInBounds_toArray, List.set_cons_zero, List.set_cons_succ]
        refine wpAnyH_take (i := 10) (oi := { dst := some 38, op := Op.load 38 (Operand.tmp 8), type := 38, pos := "sector.go:113", after := #[{ on := 8, ground := Ground.guard }], guard := some (8, false) }) (v := undef) rfl (by kernel_rfl) (by kernel_rfl) (by kernel_rfl) (fun _ _ _ h => h) (Or.inr ⟨by rfl, rfl⟩) (by assumption) ?_
        try simp only [Act.put, List.setIfInBounds_toArray, List.set_cons_zero, List.set_cons_succ]
        refine wpAnyH_take (i := 12) (oi := { dst := some 40, op := Op.move (Operand.tmp 2), type := 23, pos := "sector.go:113", after := #[{ on := 8, ground := Ground.guard }], guard := some (8, false) }) (v := undef) rfl (by kernel_rfl) (by kernel_rfl) (by kernel_rfl) (fun _ _ _ h => h) (Or.inr ⟨by rfl, rfl⟩) (by assumption) ?_
        try simp only [Act.put, List.setIfInBounds_toArray, List.set_cons_zero, List.set_cons_succ]
        refine wpAnyH_take (i := 13) (oi := { dst := some 41, op := Op.slice 23 (Operand.tmp 40) none (some (Operand.const (Value.int IntKind.i64 504))) none, type := 23, pos := "sector.go:113", after := #[{ on := 12, ground := Ground.data }, { on := 8, ground := Ground.guard }], guard := some (8, false) }) (v := undef) rfl (by kernel_rfl) (by kernel_rfl) (by kernel_rfl) (fun _ _ _ h => h) (Or.inr ⟨by rfl, rfl⟩) (by assumption) ?_
        try simp only [Act.put, List.setIfInBounds_toArray, List.set_cons_zero, List.set_cons_succ]
        refine wpAnyH_ready (rs := [11]) (by kernel_rfl) (by simp) ?_
        refine AllReadyH.cons (o := { dst := some 39, op := Op.call { callee := Callee.value (Operand.func 36), args := #[Operand.tmp 37, Operand.tmp 38], argTypes := #[3, 38] }, type := 23, pos := "sector.go:113", after := #[{ on := 9, ground := Ground.data }, { on := 10, ground := Ground.data }, { on := 8, ground := Ground.chain }, { on := 8, ground := Ground.guard }], guard := some (8, false) }) rfl (fun K hK => ?_) AllReadyH.nil
        rw [if_neg]; rotate_left; · exact fun h => Bool.noConfusion (show false = true from h)
        refine hK.out _ _ hHeld (fun hHeld => ?_)
        clear hK K
        try simp only [Act.put, List.setIfInBounds_toArray, List.set_cons_zero, List.set_cons_succ]
        refine wpAnyH_ready (rs := [14]) (by kernel_rfl) (by simp) ?_
        refine AllReadyH.cons (o := { dst := some 42, op := Op.call { callee := Callee.value (Operand.func 35), args := #[Operand.tmp 39, Operand.tmp 41], argTypes := #[23, 23] }, type := 4, pos := "sector.go:113", after := #[{ on := 11, ground := Ground.data }, { on := 13, ground := Ground.data }, { on := 11, ground := Ground.chain }, { on := 8, ground := Ground.guard }], guard := some (8, false) }) rfl (fun K hK => ?_) AllReadyH.nil
        rw [if_neg]; rotate_left; · exact fun h => Bool.noConfusion (show false = true from h)
        refine hK.out _ _ hHeld (fun hHeld => ?_)
        clear hK K
        try simp only [Act.put, List.setIfInBounds_toArray, List.set_cons_zero, List.set_cons_succ]
        refine wpAnyH_take (i := 15) (oi := { dst := some 43, op := Op.unOp UnOp.not 4 (Operand.tmp 42), type := 4, pos := "sector.go:113", after := #[{ on := 14, ground := Ground.data }, { on := 8, ground := Ground.guard }], guard := some (8, false) }) (v := undef) rfl (by kernel_rfl) (by kernel_rfl) (by kernel_rfl) (fun _ _ _ h => h) (Or.inr ⟨by rfl, rfl⟩) (by assumption) ?_
        try simp only [Act.put, List.setIfInBounds_toArray, List.set_cons_zero, List.set_cons_succ]
        refine wpAnyH_take (i := 16) (oi := { dst := some 44, op := Op.pick (Operand.tmp 36) (Operand.const (Value.bool true)) (Operand.tmp 43), type := 4, pos := "sector.go:113", after := #[{ on := 8, ground := Ground.data }, { on := 15, ground := Ground.data }], guard := none }) (v := ?_) rfl (by kernel_rfl) (by kernel_rfl) (by kernel_rfl) (fun _ _ _ h => h) (Or.inl ⟨by rfl, ?_⟩) (by assumption) ?_; rotate_left; · ((intro w hSw; (try dsimp only at hSw); go_simp) <;> with_reducible rfl)
        try simp only [Act.put, List.setIfInBounds_toArray, List.set_cons_zero, List.set_cons_succ]
        refine wpAnyH_take (i := 17) (oi := { dst := some 45, op := Op.move (Operand.tmp 44), type := 4, pos := "sector.go:113", after := #[{ on := 16, ground := Ground.data }, { on := 14, ground := Ground.chain }], guard := none }) (v := ?_) rfl (by kernel_rfl) (by kernel_rfl) (by kernel_rfl) (fun _ _ _ h => h) (Or.inl ⟨by rfl, ?_⟩) (by assumption) ?_; rotate_left; · ((intro w hSw; (try dsimp only at hSw); go_simp) <;> with_reducible rfl)
        try simp only [Act.put, List.setIfInBounds_toArray, List.set_cons_zero, List.set_cons_succ]
        refine wpAnyH_take (i := 18) (oi := { dst := some 46, op := Op.move (Operand.tmp 0), type := 29, pos := "sector.go:113", after := #[{ on := 17, ground := Ground.guard }], guard := some (17, false) }) (v := undef) rfl (by kernel_rfl) (by kernel_rfl) (by kernel_rfl) (fun _ _ _ h => h) (Or.inr ⟨by rfl, rfl⟩) (by assumption) ?_
        try simp only [Act.put, List.setIfInBounds_toArray, List.set_cons_zero, List.set_cons_succ]
        refine wpAnyH_take (i := 19) (oi := { dst := some 47, op := Op.move (Operand.tmp 2), type := 23, pos := "sector.go:113", after := #[{ on := 17, ground := Ground.guard }], guard := some (17, false) }) (v := undef) rfl (by kernel_rfl) (by kernel_rfl) (by kernel_rfl) (fun _ _ _ h => h) (Or.inr ⟨by rfl, rfl⟩) (by assumption) ?_
        try simp only [Act.put, List.setIfInBounds_toArray, List.set_cons_zero, List.set_cons_succ]
        refine wpAnyH_take (i := 20) (oi := { dst := some 48, op := Op.slice 23 (Operand.tmp 47) none (some (Operand.const (Value.int IntKind.i64 504))) none, type := 23, pos := "sector.go:113", after := #[{ on := 19, ground := Ground.data }, { on := 17, ground := Ground.guard }], guard := some (17, false) }) (v := undef) rfl (by kernel_rfl) (by kernel_rfl) (by kernel_rfl) (fun _ _ _ h => h) (Or.inr ⟨by rfl, rfl⟩) (by assumption) ?_
        try simp only [Act.put, List.setIfInBounds_toArray, List.set_cons_zero, List.set_cons_succ]
        refine wpAnyH_take (i := 21) (oi := { dst := some 49, op := Op.move (Operand.tmp 2), type := 23, pos := "sector.go:113", after := #[{ on := 17, ground := Ground.guard }], guard := some (17, false) }) (v := undef) rfl (by kernel_rfl) (by kernel_rfl) (by kernel_rfl) (fun _ _ _ h => h) (Or.inr ⟨by rfl, rfl⟩) (by assumption) ?_
        try simp only [Act.put, List.setIfInBounds_toArray, List.set_cons_zero, List.set_cons_succ]
        refine wpAnyH_take (i := 22) (oi := { dst := some 50, op := Op.slice 23 (Operand.tmp 49) (some (Operand.const (Value.int IntKind.i64 504))) none none, type := 23, pos := "sector.go:113", after := #[{ on := 21, ground := Ground.data }, { on := 17, ground := Ground.guard }], guard := some (17, false) }) (v := undef) rfl (by kernel_rfl) (by kernel_rfl) (by kernel_rfl) (fun _ _ _ h => h) (Or.inr ⟨by rfl, rfl⟩) (by assumption) ?_
        try simp only [Act.put, List.setIfInBounds_toArray, List.set_cons_zero, List.set_cons_succ]
        refine wpAnyH_ready (rs := [23]) (by kernel_rfl) (by simp) ?_
        refine AllReadyH.cons (o := { dst := some 51, op := Op.call { callee := Callee.value (Operand.func 37), args := #[Operand.tmp 46, Operand.tmp 48, Operand.tmp 50], argTypes := #[29, 23, 23] }, type := 4, pos := "sector.go:113", after := #[{ on := 18, ground := Ground.data }, { on := 20, ground := Ground.data }, { on := 22, ground := Ground.data }, { on := 17, ground := Ground.chain }, { on := 17, ground := Ground.guard }], guard := some (17, false) }) rfl (fun K hK => ?_) AllReadyH.nil
        rw [if_neg]; rotate_left; · exact fun h => Bool.noConfusion (show false = true from h)
        refine hK.out _ _ hHeld (fun hHeld => ?_)
        clear hK K
        try simp only [Act.put, List.setIfInBounds_toArray, List.set_cons_zero, List.set_cons_succ]
        refine wpAnyH_take (i := 24) (oi := { dst := some 52, op := Op.unOp UnOp.not 4 (Operand.tmp 51), type := 4, pos := "sector.go:113", after := #[{ on := 23, ground := Ground.data }, { on := 17, ground := Ground.guard }], guard := some (17, false) }) (v := undef) rfl (by kernel_rfl) (by kernel_rfl) (by kernel_rfl) (fun _ _ _ h => h) (Or.inr ⟨by rfl, rfl⟩) (by assumption) ?_
        try simp only [Act.put, List.setIfInBounds_toArray, List.set_cons_zero, List.set_cons_succ]
        refine wpAnyH_take (i := 25) (oi := { dst := some 53, op := Op.pick (Operand.tmp 45) (Operand.const (Value.bool true)) (Operand.tmp 52), type := 4, pos := "sector.go:113", after := #[{ on := 17, ground := Ground.data }, { on := 24, ground := Ground.data }], guard := none }) (v := ?_) rfl (by kernel_rfl) (by kernel_rfl) (by kernel_rfl) (fun _ _ _ h => h) (Or.inl ⟨by rfl, ?_⟩) (by assumption) ?_; rotate_left; · ((intro w hSw; (try dsimp only at hSw); go_simp) <;> with_reducible rfl)
        try simp only [Act.put, List.setIfInBounds_toArray, List.set_cons_zero, List.set_cons_succ]
        refine wpAnyH_done (by kernel_rfl) ?_ _
        have bw7 := bt bw3 bb4
        have B7 := B2'.on bb4
        obtain ⟨c0, c1, c2, c3, c4, fr⟩ := five5 B7
        go_wp2
        have B8 := ((((B7.set (k := 0) (.int .i64 0)).set (k := 1) (.int .u64 0)).set (k := 2) (.int .i64 0)).set (k := 3) (.int .u64 0)).set (k := 4) (.slice none 0 0)
        obtain ⟨z0, z1, z2, z3, z4, zf⟩ := five5 B8
        refine bodyPost_ret (v := .tuple #[.agg #[.int .i64 0, .int .u64 0, .int .i64 0, .int .u64 0, .slice none 0 0], .int .i64 11]) (by simp [results, Try.results13, go_sem, z0, z1, z2, z3, z4]) rfl ?_
        rw [hd.out]
        exact ⟨RetX.zero _ _ _, bset5 bw7 (Nat.le_refl _)⟩
    · have hd := Lib.hid (dec_none (ck := ck) (p := p) h5 hbl (reads_no (by rw [lenB_take (Nat.le_refl _)]; omega)))
      have H479 := Lib.hid h479
      obtain ⟨x, hx⟩ : ∃ x, x = X0 := ⟨_, rfl⟩
      have hx0 := Lib.hid hx
      clear HC h5 hbl hblf hck hrt hrd ht504 hd504 h479 hr hx
      go_enter Try.func13, Try.ntmps13
      go_wp2_with (first
        | (go_at_call 32; refine (none_any _ _).mono ?_; rintro e w1 ⟨rfl, rfl⟩)
        | (go_at_call 31; refine (hB.out _ (b1alloc _ _)).mono ?_; rintro e w1 ⟨rfl, b1⟩; rw [Hbl.out]; have B1 := (Blk.new w [.int .i64 0, .int .u64 0, .int .i64 0, .int .u64 0, .slice none 0 0] 38).on b1; have bw1 := bt (b1alloc w _) b1))
      refine (hRd.out _ bw1).mono ?_
      rintro e w2 ⟨hres, b2⟩
      rw [if_neg H479.out, ← hx0.out] at hres
      obtain ⟨A2, d2, rfl, own2⟩ := hres
      have bw2 := bt bw1 b2
      have B2 := B1.on b2
      unfold xv
      have hw2 : w.heap.size < w2.heap.size := B2.lt
      have B3 := Blk.new w2 [.int .i64 x.kind, .int .u64 (x.life.toNat : Int), .int .i64 x.seq, .int .u64 (x.gen.toNat : Int), .slice A2 x.body.length d2] 38
      have b3 := b1alloc w2 (.cells #[.int .i64 x.kind, .int .u64 (x.life.toNat : Int), .int .i64 x.seq, .int .u64 (x.gen.toNat : Int), .slice A2 x.body.length d2] 38)
      have bw3 := bt bw2 b3
      have own3 := own_on own2 b3
      have B2' := B2.on b3
      have bh1 := bw1.size
      have hlt1 : w.heap.size < w1.heap.size := B1.lt
      go_wp2_with fail
      obtain ⟨w3, hw3⟩ : ∃ w3, w3 = w2.alloc (.cells #[.int .i64 x.kind, .int .u64 (x.life.toNat : Int), .int .i64 x.seq, .int .u64 (x.gen.toNat : Int), .slice A2 x.body.length d2] 38) := ⟨_, rfl⟩
      try rw [← hw3]
      have B3 : Blk w3 w2.heap.size [.int .i64 x.kind, .int .u64 (x.life.toNat : Int), .int .i64 x.seq, .int .u64 (x.gen.toNat : Int), .slice A2 x.body.length d2] := by rw [hw3]; exact B3
      rw [← hw3] at bw3 own3 B2' b3
      clear hw3
      have bb3 : Below w3.heap.size w3 w3.drew := (Below.refl _ _).drew
      clear B2 B1
      refine wp_region_held_drew (S := (fun w' => w'.cell? ⟨w2.heap.size, 0, none⟩ = some (.int .i64 x.kind) ∧ w'.cell? ⟨w2.heap.size, 1, none⟩ = some (.int .u64 (x.life.toNat : Int)) ∧ w'.cell? ⟨w2.heap.size, 2, none⟩ = some (.int .i64 x.seq) ∧ w'.cell? ⟨w2.heap.size, 3, none⟩ = some (.int .u64 (x.gen.toNat : Int)) ∧ w'.cell? ⟨w2.heap.size, 4, none⟩ = some (.slice A2 x.body.length d2))) (by kernel_rfl) (by exact five5x (B3.on bb3)) (fun hHeld => ?_)
      refine wpAnyH_take (i := 0) (oi := { dst := some 28, op := Op.move (Operand.tmp 9), type := 4, pos := "sector.go:113", after := #[], guard := none }) (v := ?_) rfl (by kernel_rfl) (by kernel_rfl) (by kernel_rfl) (fun _ _ _ h => h) (Or.inl ⟨by rfl, ?_⟩) (by assumption) ?_; rotate_left; · ((intro w hSw; (try dsimp only at hSw); go_simp) <;> with_reducible rfl)
      try simp only [Act.put, List.setIfInBounds_toArray, List.set_cons_zero, List.set_cons_succ]
      refine wpAnyH_take (i := 1) (oi := { dst := some 29, op := Op.unOp UnOp.not 4 (Operand.tmp 28), type := 4, pos := "sector.go:113", after := #[{ on := 0, ground := Ground.data }], guard := none }) (v := ?_) rfl (by kernel_rfl) (by kernel_rfl) (by kernel_rfl) (fun _ _ _ h => h) (Or.inl ⟨by rfl, ?_⟩) (by assumption) ?_; rotate_left; · ((intro w hSw; (try dsimp only at hSw); go_simp) <;> with_reducible rfl)
      try simp only [Act.put, List.setIfInBounds_toArray, List.set_cons_zero, List.set_cons_succ]
      refine wpAnyH_take (i := 2) (oi := { dst := some 30, op := Op.move (Operand.tmp 29), type := 4, pos := "sector.go:113", after := #[{ on := 1, ground := Ground.data }], guard := none }) (v := ?_) rfl (by kernel_rfl) (by kernel_rfl) (by kernel_rfl) (fun _ _ _ h => h) (Or.inl ⟨by rfl, ?_⟩) (by assumption) ?_; rotate_left; · ((intro w hSw; (try dsimp only at hSw); go_simp) <;> with_reducible rfl)
      try simp only [Act.put, List.setIfInBounds_toArray, List.set_cons_zero, List.set_cons_succ]
      refine wpAnyH_take (i := 3) (oi := { dst := some 31, op := Op.move (Operand.tmp 1), type := 3, pos := "sector.go:113", after := #[{ on := 2, ground := Ground.guard }], guard := some (2, false) }) (v := undef) rfl (by kernel_rfl) (by kernel_rfl) (by kernel_rfl) (fun _ _ _ h => h) (Or.inr ⟨by rfl, rfl⟩) (by assumption) ?_
      try simp only [Act.put, List.setIfInBounds_toArray, List.set_cons_zero, List.set_cons_succ]
      refine wpAnyH_take (i := 4) (oi := { dst := some 32, op := Op.load 38 (Operand.tmp 8), type := 38, pos := "sector.go:113", after := #[{ on := 2, ground := Ground.guard }], guard := some (2, false) }) (v := undef) rfl (by kernel_rfl) (by kernel_rfl) (by kernel_rfl) (fun _ _ _ h => h) (Or.inr ⟨by rfl, rfl⟩) (by assumption) ?_
      try simp only [Act.put, List.setIfInBounds_toArray, List.set_cons_zero, List.set_cons_succ]
      refine wpAnyH_ready (rs := [5]) (by kernel_rfl) (by simp) ?_
      refine AllReadyH.cons (o := { dst := some 33, op := Op.call { callee := Callee.value (Operand.func 34), args := #[Operand.tmp 31, Operand.tmp 32], argTypes := #[3, 38] }, type := 26, pos := "sector.go:113", after := #[{ on := 3, ground := Ground.data }, { on := 4, ground := Ground.data }, { on := 2, ground := Ground.chain }, { on := 2, ground := Ground.guard }], guard := some (2, false) }) rfl (fun K hK => ?_) AllReadyH.nil
      rw [if_neg]; rotate_left; · exact fun h => Bool.noConfusion (show false = true from h)
      refine hK.out _ _ hHeld (fun hHeld => ?_)
      clear hK K
      try simp only [Act.put, List.setIfInBounds_toArray, List.set_cons_zero, List.set_cons_succ]
      refine wpAnyH_take (i := 6) (oi := { dst := some 34, op := Op.binOp BinOp.neq 26 (Operand.tmp 33) (Operand.const (Value.int IntKind.i64 0)) 26, type := 4, pos := "sector.go:113", after := #[{ on := 5, ground := Ground.data }, { on := 2, ground := Ground.guard }], guard := some (2, false) }) (v := undef) rfl (by kernel_rfl) (by kernel_rfl) (by kernel_rfl) (fun _ _ _ h => h) (Or.inr ⟨by rfl, rfl⟩) (by assumption) ?_
      try simp only [Act.put, List.setIfInBounds_toArray, List.set_cons_zero, List.set_cons_succ]
      refine wpAnyH_take (i := 7) (oi := { dst := some 35, op := Op.pick (Operand.tmp 30) (Operand.const (Value.bool true)) (Operand.tmp 34), type := 4, pos := "sector.go:113", after := #[{ on := 2, ground := Ground.data }, { on := 6, ground := Ground.data }], guard := none }) (v := ?_) rfl (by kernel_rfl) (by kernel_rfl) (by kernel_rfl) (fun _ _ _ h => h) (Or.inl ⟨by rfl, ?_⟩) (by assumption) ?_; rotate_left; · ((intro w hSw; (try dsimp only at hSw); go_simp) <;> with_reducible rfl)
      try simp only [Act.put, List.setIfInBounds_toArray, List.set_cons_zero, List.set_cons_succ]
      refine wpAnyH_take (i := 8) (oi := { dst := some 36, op := Op.move (Operand.tmp 35), type := 4, pos := "sector.go:113", after := #[{ on := 7, ground := Ground.data }, { on := 5, ground := Ground.chain }], guard := none }) (v := ?_) rfl (by kernel_rfl) (by kernel_rfl) (by kernel_rfl) (fun _ _ _ h => h) (Or.inl ⟨by rfl, ?_⟩) (by assumption) ?_; rotate_left; · ((intro w hSw; (try dsimp only at hSw); go_simp) <;> with_reducible rfl)
      try simp only [Act.put, List.setIfInBounds_toArray, List.set_cons_zero, List.set_cons_succ]
      refine wpAnyH_take (i := 9) (oi := { dst := some 37, op := Op.move (Operand.tmp 1), type := 3, pos := "sector.go:113", after := #[{ on := 8, ground := Ground.guard }], guard := some (8, false) }) (v := undef) rfl (by kernel_rfl) (by kernel_rfl) (by kernel_rfl) (fun _ _ _ h => h) (Or.inr ⟨by rfl, rfl⟩) (by assumption) ?_
      try simp only [Act.put, List.setIfInBounds_toArray, List.set_cons_zero, List.set_cons_succ]
      refine wpAnyH_take (i := 10) (oi := { dst := some 38, op := Op.load 38 (Operand.tmp 8), type := 38, pos := "sector.go:113", after := #[{ on := 8, ground := Ground.guard }], guard := some (8, false) }) (v := undef) rfl (by kernel_rfl) (by kernel_rfl) (by kernel_rfl) (fun _ _ _ h => h) (Or.inr ⟨by rfl, rfl⟩) (by assumption) ?_
      try simp only [Act.put, List.setIfInBounds_toArray, List.set_cons_zero, List.set_cons_succ]
      refine wpAnyH_take (i := 12) (oi := { dst := some 40, op := Op.move (Operand.tmp 2), type := 23, pos := "sector.go:113", after := #[{ on := 8, ground := Ground.guard }], guard := some (8, false) }) (v := undef) rfl (by kernel_rfl) (by kernel_rfl) (by kernel_rfl) (fun _ _ _ h => h) (Or.inr ⟨by rfl, rfl⟩) (by assumption) ?_
      try simp only [Act.put, List.setIfInBounds_toArray, List.set_cons_zero, List.set_cons_succ]
      refine wpAnyH_take (i := 13) (oi := { dst := some 41, op := Op.slice 23 (Operand.tmp 40) none (some (Operand.const (Value.int IntKind.i64 504))) none, type := 23, pos := "sector.go:113", after := #[{ on := 12, ground := Ground.data }, { on := 8, ground := Ground.guard }], guard := some (8, false) }) (v := undef) rfl (by kernel_rfl) (by kernel_rfl) (by kernel_rfl) (fun _ _ _ h => h) (Or.inr ⟨by rfl, rfl⟩) (by assumption) ?_
      try simp only [Act.put, List.setIfInBounds_toArray, List.set_cons_zero, List.set_cons_succ]
      refine wpAnyH_ready (rs := [11]) (by kernel_rfl) (by simp) ?_
      refine AllReadyH.cons (o := { dst := some 39, op := Op.call { callee := Callee.value (Operand.func 36), args := #[Operand.tmp 37, Operand.tmp 38], argTypes := #[3, 38] }, type := 23, pos := "sector.go:113", after := #[{ on := 9, ground := Ground.data }, { on := 10, ground := Ground.data }, { on := 8, ground := Ground.chain }, { on := 8, ground := Ground.guard }], guard := some (8, false) }) rfl (fun K hK => ?_) AllReadyH.nil
      rw [if_neg]; rotate_left; · exact fun h => Bool.noConfusion (show false = true from h)
      refine hK.out _ _ hHeld (fun hHeld => ?_)
      clear hK K
      try simp only [Act.put, List.setIfInBounds_toArray, List.set_cons_zero, List.set_cons_succ]
      refine wpAnyH_ready (rs := [14]) (by kernel_rfl) (by simp) ?_
      refine AllReadyH.cons (o := { dst := some 42, op := Op.call { callee := Callee.value (Operand.func 35), args := #[Operand.tmp 39, Operand.tmp 41], argTypes := #[23, 23] }, type := 4, pos := "sector.go:113", after := #[{ on := 11, ground := Ground.data }, { on := 13, ground := Ground.data }, { on := 11, ground := Ground.chain }, { on := 8, ground := Ground.guard }], guard := some (8, false) }) rfl (fun K hK => ?_) AllReadyH.nil
      rw [if_neg]; rotate_left; · exact fun h => Bool.noConfusion (show false = true from h)
      refine hK.out _ _ hHeld (fun hHeld => ?_)
      clear hK K
      try simp only [Act.put, List.setIfInBounds_toArray, List.set_cons_zero, List.set_cons_succ]
      refine wpAnyH_take (i := 15) (oi := { dst := some 43, op := Op.unOp UnOp.not 4 (Operand.tmp 42), type := 4, pos := "sector.go:113", after := #[{ on := 14, ground := Ground.data }, { on := 8, ground := Ground.guard }], guard := some (8, false) }) (v := undef) rfl (by kernel_rfl) (by kernel_rfl) (by kernel_rfl) (fun _ _ _ h => h) (Or.inr ⟨by rfl, rfl⟩) (by assumption) ?_
      try simp only [Act.put, List.setIfInBounds_toArray, List.set_cons_zero, List.set_cons_succ]
      refine wpAnyH_take (i := 16) (oi := { dst := some 44, op := Op.pick (Operand.tmp 36) (Operand.const (Value.bool true)) (Operand.tmp 43), type := 4, pos := "sector.go:113", after := #[{ on := 8, ground := Ground.data }, { on := 15, ground := Ground.data }], guard := none }) (v := ?_) rfl (by kernel_rfl) (by kernel_rfl) (by kernel_rfl) (fun _ _ _ h => h) (Or.inl ⟨by rfl, ?_⟩) (by assumption) ?_; rotate_left; · ((intro w hSw; (try dsimp only at hSw); go_simp) <;> with_reducible rfl)
      try simp only [Act.put, List.setIfInBounds_toArray, List.set_cons_zero, List.set_cons_succ]
      refine wpAnyH_take (i := 17) (oi := { dst := some 45, op := Op.move (Operand.tmp 44), type := 4, pos := "sector.go:113", after := #[{ on := 16, ground := Ground.data }, { on := 14, ground := Ground.chain }], guard := none }) (v := ?_) rfl (by kernel_rfl) (by kernel_rfl) (by kernel_rfl) (fun _ _ _ h => h) (Or.inl ⟨by rfl, ?_⟩) (by assumption) ?_; rotate_left; · ((intro w hSw; (try dsimp only at hSw); go_simp) <;> with_reducible rfl)
      try simp only [Act.put, List.setIfInBounds_toArray, List.set_cons_zero, List.set_cons_succ]
      refine wpAnyH_take (i := 18) (oi := { dst := some 46, op := Op.move (Operand.tmp 0), type := 29, pos := "sector.go:113", after := #[{ on := 17, ground := Ground.guard }], guard := some (17, false) }) (v := undef) rfl (by kernel_rfl) (by kernel_rfl) (by kernel_rfl) (fun _ _ _ h => h) (Or.inr ⟨by rfl, rfl⟩) (by assumption) ?_
      try simp only [Act.put, List.setIfInBounds_toArray, List.set_cons_zero, List.set_cons_succ]
      refine wpAnyH_take (i := 19) (oi := { dst := some 47, op := Op.move (Operand.tmp 2), type := 23, pos := "sector.go:113", after := #[{ on := 17, ground := Ground.guard }], guard := some (17, false) }) (v := undef) rfl (by kernel_rfl) (by kernel_rfl) (by kernel_rfl) (fun _ _ _ h => h) (Or.inr ⟨by rfl, rfl⟩) (by assumption) ?_
      try simp only [Act.put, List.setIfInBounds_toArray, List.set_cons_zero, List.set_cons_succ]
      refine wpAnyH_take (i := 20) (oi := { dst := some 48, op := Op.slice 23 (Operand.tmp 47) none (some (Operand.const (Value.int IntKind.i64 504))) none, type := 23, pos := "sector.go:113", after := #[{ on := 19, ground := Ground.data }, { on := 17, ground := Ground.guard }], guard := some (17, false) }) (v := undef) rfl (by kernel_rfl) (by kernel_rfl) (by kernel_rfl) (fun _ _ _ h => h) (Or.inr ⟨by rfl, rfl⟩) (by assumption) ?_
      try simp only [Act.put, List.setIfInBounds_toArray, List.set_cons_zero, List.set_cons_succ]
      refine wpAnyH_take (i := 21) (oi := { dst := some 49, op := Op.move (Operand.tmp 2), type := 23, pos := "sector.go:113", after := #[{ on := 17, ground := Ground.guard }], guard := some (17, false) }) (v := undef) rfl (by kernel_rfl) (by kernel_rfl) (by kernel_rfl) (fun _ _ _ h => h) (Or.inr ⟨by rfl, rfl⟩) (by assumption) ?_
      try simp only [Act.put, List.setIfInBounds_toArray, List.set_cons_zero, List.set_cons_succ]
      refine wpAnyH_take (i := 22) (oi := { dst := some 50, op := Op.slice 23 (Operand.tmp 49) (some (Operand.const (Value.int IntKind.i64 504))) none none, type := 23, pos := "sector.go:113", after := #[{ on := 21, ground := Ground.data }, { on := 17, ground := Ground.guard }], guard := some (17, false) }) (v := undef) rfl (by kernel_rfl) (by kernel_rfl) (by kernel_rfl) (fun _ _ _ h => h) (Or.inr ⟨by rfl, rfl⟩) (by assumption) ?_
      try simp only [Act.put, List.setIfInBounds_toArray, List.set_cons_zero, List.set_cons_succ]
      refine wpAnyH_ready (rs := [23]) (by kernel_rfl) (by simp) ?_
      refine AllReadyH.cons (o := { dst := some 51, op := Op.call { callee := Callee.value (Operand.func 37), args := #[Operand.tmp 46, Operand.tmp 48, Operand.tmp 50], argTypes := #[29, 23, 23] }, type := 4, pos := "sector.go:113", after := #[{ on := 18, ground := Ground.data }, { on := 20, ground := Ground.data }, { on := 22, ground := Ground.data }, { on := 17, ground := Ground.chain }, { on := 17, ground := Ground.guard }], guard := some (17, false) }) rfl (fun K hK => ?_) AllReadyH.nil
      rw [if_neg]; rotate_left; · exact fun h => Bool.noConfusion (show false = true from h)
      refine hK.out _ _ hHeld (fun hHeld => ?_)
      clear hK K
      try simp only [Act.put, List.setIfInBounds_toArray, List.set_cons_zero, List.set_cons_succ]
      refine wpAnyH_take (i := 24) (oi := { dst := some 52, op := Op.unOp UnOp.not 4 (Operand.tmp 51), type := 4, pos := "sector.go:113", after := #[{ on := 23, ground := Ground.data }, { on := 17, ground := Ground.guard }], guard := some (17, false) }) (v := undef) rfl (by kernel_rfl) (by kernel_rfl) (by kernel_rfl) (fun _ _ _ h => h) (Or.inr ⟨by rfl, rfl⟩) (by assumption) ?_
      try simp only [Act.put, List.setIfInBounds_toArray, List.set_cons_zero, List.set_cons_succ]
      refine wpAnyH_take (i := 25) (oi := { dst := some 53, op := Op.pick (Operand.tmp 45) (Operand.const (Value.bool true)) (Operand.tmp 52), type := 4, pos := "sector.go:113", after := #[{ on := 17, ground := Ground.data }, { on := 24, ground := Ground.data }], guard := none }) (v := ?_) rfl (by kernel_rfl) (by kernel_rfl) (by kernel_rfl) (fun _ _ _ h => h) (Or.inl ⟨by rfl, ?_⟩) (by assumption) ?_; rotate_left; · ((intro w hSw; (try dsimp only at hSw); go_simp) <;> with_reducible rfl)
      try simp only [Act.put, List.setIfInBounds_toArray, List.set_cons_zero, List.set_cons_succ]
      refine wpAnyH_done (by kernel_rfl) ?_ _
      obtain ⟨w4, hw4⟩ : ∃ w4, w4 = w3.drew := ⟨_, rfl⟩
      have bb4 : Below w3.heap.size w3 w4 := by rw [hw4]; exact bb3
      rw [← hw4]
      clear hw4
      have bw7 := bt bw3 bb4
      have B7 := B2'.on bb4
      obtain ⟨c0, c1, c2, c3, c4, fr⟩ := five5 B7
      go_wp2
      have B8 := ((((B7.set (k := 0) (.int .i64 0)).set (k := 1) (.int .u64 0)).set (k := 2) (.int .i64 0)).set (k := 3) (.int .u64 0)).set (k := 4) (.slice none 0 0)
      obtain ⟨z0, z1, z2, z3, z4, zf⟩ := five5 B8
      refine bodyPost_ret (v := .tuple #[.agg #[.int .i64 0, .int .u64 0, .int .i64 0, .int .u64 0, .slice none 0 0], .int .i64 11]) (by simp [results, Try.results13, go_sem, z0, z1, z2, z3, z4]) rfl ?_
      rw [hd.out]
      exact ⟨RetX.zero _ _ _, bset5 bw7 (Nat.le_refl _)⟩
end Go.Proofs.Ytkapamolligmkaa.Sec
