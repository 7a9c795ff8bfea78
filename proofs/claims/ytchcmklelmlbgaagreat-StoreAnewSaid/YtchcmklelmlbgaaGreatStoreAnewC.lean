/- Texts of this claim, joined: Sec7Q, Sec8Q, Sec9Q, SecSym1Q, SecSym2Q, SecSym3Q, SecBackPlainQ, Sec10Q. -/
import Derived.Test.YtchcmklelmlbgaaGreatStoreAnewB
import Derived.Deep.RegionHeld3
import Derived.Maps.OwnSet
import Derived.Maps.Views
import Derived.StringKeys
import Derived.ArgAppend
import Derived.Lib.SlBytesConst
/- The walk of sector.Decode. -/
namespace Go.Proofs.YtchcmklelmlbgaaGreat.Sec
open Go.RowKit
open Go.Proofs.YtchcmklelmlbgaaGreat.Num (putL getN)
set_option linter.unusedVariables false
set_option maxRecDepth 100000
theorem five5x {w : World} {g : Nat} {v0 v1 v2 v3 v4 : Value} (h : Blk w g [v0, v1, v2, v3, v4]) :
    w.cell? ⟨g, 0, none⟩ = some v0 ∧ w.cell? ⟨g, 1, none⟩ = some v1 ∧ w.cell? ⟨g, 2, none⟩ = some v2 ∧ w.cell? ⟨g, 3, none⟩ = some v3 ∧ w.cell? ⟨g, 4, none⟩ = some v4 := by
  obtain ⟨c0, c1, c2, c3, c4, _⟩ := five5 h
  exact ⟨c0, c1, c2, c3, c4⟩
theorem keep5 (W : World) (g : Nat) (v0 v1 v2 v3 v4 : Value) : Keep [g] W (((((W.setCell ⟨g, 0, none⟩ v0).setCell ⟨g, 1, none⟩ v1).setCell ⟨g, 2, none⟩ v2).setCell ⟨g, 3, none⟩ v3).setCell ⟨g, 4, none⟩ v4) :=
  ((((((Keep.refl _ _).set (p := ⟨g, 0, none⟩) (.inl (by simp)) _).set (p := ⟨g, 1, none⟩) (.inl (by simp)) _).set (p := ⟨g, 2, none⟩) (.inl (by simp)) _).set (p := ⟨g, 3, none⟩) (.inl (by simp)) _).set (p := ⟨g, 4, none⟩) (.inl (by simp)) _)
/-- what is read of bytes at a place; ck: is the sum right? -/
def decode (ck : Bool) (p : Int) (b : List UInt8) : X × Int :=
  if b.length ≠ 512 then (X0, 4) else if blankB b = true then (X0, 7) else
    match reads p (b.take 504) with
    | some x => if ck = true then (x, 0) else (X0, 11)
    | none => (X0, 11)
theorem dec_form {ck : Bool} {p : Int} {b : List UInt8} (h : b.length ≠ 512) : decode ck p b = (X0, 4) := if_pos h
theorem dec_blank {ck : Bool} {p : Int} {b : List UInt8} (h : b.length = 512) (h2 : blankB b = true) : decode ck p b = (X0, 7) := by unfold decode; rw [if_neg (by omega), if_pos h2]
theorem dec_none {ck : Bool} {p : Int} {b : List UInt8} (h : b.length = 512) (h2 : ¬ blankB b = true) (h3 : reads p (b.take 504) = none) : decode ck p b = (X0, 11) := by unfold decode; rw [if_neg (by omega), if_neg h2, h3]
theorem dec_ck {p : Int} {b : List UInt8} (h : b.length = 512) (h2 : ¬ blankB b = true) : decode false p b = (X0, 11) := by
  unfold decode; rw [if_neg (by omega), if_neg h2]
  split <;> simp
theorem dec_yes {p : Int} {b : List UInt8} {x : X} (h : b.length = 512) (h2 : ¬ blankB b = true) (h3 : reads p (b.take 504) = some x) : decode true p b = (x, 0) := by unfold decode; rw [if_neg (by omega), if_neg h2, h3]; rfl
set_option maxHeartbeats 1000000 in
theorem decode_gen (p : Int) (g : Nat) (ck : Bool) (A : Option Addr) (b : List UInt8) (n c : Nat) (w : World) (hp0 : -9223372036854775808 ≤ p) (hp1 : p ≤ 9223372036854775807) (hn : n = b.length) (hr : Rd w w.heap.size A (b.map e8)) (hl : b.length ≤ 100000) (hc : n ≤ c) (hcm : c ≤ maxLen)
    (HC : b.length = 512 → ∀ W, Below w.heap.size w W → ∀ A1 A2 c1 c2, Rd W W.heap.size A1 ((b.take 504).map e8) → Rd W W.heap.size A2 ((b.drop 504).map e8) → Calls Tryz.prog 129 #[.pointer (some ⟨g, 0, none⟩), .slice A1 504 c1, .slice A2 8 c2] W fun e W' => e = .returned (.bool ck) ∧ Below W.heap.size W W') :
    Calls Tryz.prog 112 #[.pointer (some ⟨g, 0, none⟩), .int .i64 p, .slice A n c] w fun e w' => RetX (decode ck p b).1 (.int .i64 (decode ck p b).2) w e w' ∧ Below w.heap.size w w' := by
  subst hn
  by_cases h5 : b.length = 512
  rotate_left
  · have hd := Lib.hid (dec_form (ck := ck) (p := p) h5)
    have hne := bne_yes (show (b.length : Int) ≠ 512 by omega)
    clear HC
    rw [hd.out]
    go_enter Tryz.func112, Tryz.ntmps112
    go_wp2_with (go_at_call 120; refine (none_any _ _).mono ?_; rintro e w' ⟨rfl, rfl⟩)
    refine bodyPost_ret (v := .tuple #[.agg #[.int .i64 0, .int .u64 0, .int .i64 0, .int .u64 0, .slice none 0 0], .int .i64 4]) (by simp [results, Tryz.results112, go_sem]) rfl ?_
    exact ⟨RetX.zero _ _ _, b1alloc _ _⟩
  have hne := bne_no (show (b.length : Int) = 512 by omega)
  have H5 := Lib.hid h5
  obtain ⟨blk, off, rfl, hdrop⟩ := hr.get (k := 0) (by rw [List.length_map]; omega)
  clear hdrop
  by_cases hbl : blankB b = true
  · have hd := Lib.hid (dec_blank (ck := ck) (p := p) h5 hbl)
    have hB := Lib.hid (fun W (bW : Below w.heap.size w W) => isBlank_any (some ⟨blk, off, none⟩) b b.length c W rfl (hr.on bW))
    have Hbl := Lib.hid hbl
    rw [hd.out]
    clear HC h5 hbl
    go_enter Tryz.func112, Tryz.ntmps112
    go_wp2_with (first
      | (go_at_call 120; refine (none_any _ _).mono ?_; rintro e w1 ⟨rfl, rfl⟩)
      | (go_at_call 127; refine (hB.out _ (b1alloc _ _)).mono ?_; rintro e w1 ⟨rfl, b1⟩; rw [Hbl.out]; have B1 := (Blk.new w [.int .i64 0, .int .u64 0, .int .i64 0, .int .u64 0, .slice none 0 0] 157).on b1; obtain ⟨c0, c1, c2, c3, c4, fr⟩ := five5 B1))
    have B := ((((B1.set (k := 0) (.int .i64 0)).set (k := 1) (.int .u64 0)).set (k := 2) (.int .i64 0)).set (k := 3) (.int .u64 0)).set (k := 4) (.slice none 0 0)
    obtain ⟨z0, z1, z2, z3, z4, zf⟩ := five5 B
    refine bodyPost_ret (v := .tuple #[.agg #[.int .i64 0, .int .u64 0, .int .i64 0, .int .u64 0, .slice none 0 0], .int .i64 7]) (by simp [results, Tryz.results112, go_sem, z0, z1, z2, z3, z4]) rfl ?_
    exact ⟨RetX.zero _ _ _, bset5 (bt (b1alloc _ _) b1) (Nat.le_refl _)⟩
  · have hblf : blankB b = false := by simpa using hbl
    have Hbl := Lib.hid hblf
    have hB := Lib.hid (fun W (bW : Below w.heap.size w W) => isBlank_any (some ⟨blk, off, none⟩) b b.length c W rfl (hr.on bW))
    have hRd := Lib.hid (fun W (bW : Below w.heap.size w W) => read_any blk off b b.length c W rfl (hr.on bW) (by omega) hc hcm)
    have ht504 : (b.take 504).length = 504 := by rw [List.length_take]; omega
    have hd504 : (b.drop 504).length = 8 := by rw [List.length_drop]; omega
    have hrt : Rd w w.heap.size (some ⟨blk, off, none⟩) ((b.take 504).map e8) := by rw [List.map_take]; exact hr.take 504
    have hrd : Rd w w.heap.size (some ⟨blk, off + 504, none⟩) ((b.drop 504).map e8) := by
      have := hr.drop 504
      rw [← List.map_drop] at this
      simpa [Addr.add_lit] using this
    have hck := fun W (bW : Below w.heap.size w W) c1 c2 => HC h5 W bW _ _ c1 c2 (hrt.on bW) (hrd.on bW)
    have Hck := Lib.hid hck
    have Hrt := Lib.hid hrt
    have Ht5 := Lib.hid ht504
    have Hbn := Lib.hid hbl
    have hlI : (512 : Int) ≤ (b.length : Int) := by omega
    have hl2 : 504 ≤ b.length := by omega
    have hlI2 : (504 : Int) ≤ (b.length : Int) := by omega
    have hcI2 : (504 : Int) ≤ (c : Int) := by omega
    have hc2 : 504 ≤ c := by omega
    have hcn : ¬ c = 504 := by omega
    have hcn' : ¬ (c : Int) = 504 := by omega
    have Hl8 := Lib.hid (show b.length - 504 = 8 by omega)
    unfold maxLen at hcm
    by_cases h479 : lenB b ≤ 479
    · obtain ⟨x, hx⟩ : ∃ x, x = ofB b := ⟨_, rfl⟩
      have hx5 : ofB (b.take 504) = x := by rw [hx]; exact ofB_take (Nat.le_refl _) h479
      have hl5 : lenB (b.take 504) ≤ 479 := by rw [lenB_take (Nat.le_refl _)]; exact h479
      have hno := Lib.hid (fun h2 => dec_none (ck := ck) (p := p) h5 hbl h2)
      have hyes := Lib.hid (fun h3 => dec_yes (p := p) (x := x) h5 hbl h3)
      have hckf := Lib.hid (dec_ck (p := p) h5 hbl)
      have Hx := Lib.hid hx
      have hbad := Lib.hid (fun h => reads_bad (p := p) (b := b.take 504) h)
      have hun := Lib.hid (fun h => reads_un (p := p) (b := b.take 504) h)
      have hrs := Lib.hid (fun h1 h => reads_yes (p := p) (b := b.take 504) hl5 h1 h)
      rw [hx5] at hbad hun hrs
      have H479 := Lib.hid h479
      clear HC h5 hbl hblf hck hrt hrd ht504 hd504 hx5 hl5 h479 hr hx
      go_enter Tryz.func112, Tryz.ntmps112
      go_wp2_with (first
        | (go_at_call 120; refine (none_any _ _).mono ?_; rintro e w1 ⟨rfl, rfl⟩)
        | (go_at_call 127; refine (hB.out _ (b1alloc _ _)).mono ?_; rintro e w1 ⟨rfl, b1⟩; rw [Hbl.out]; have B1 := (Blk.new w [.int .i64 0, .int .u64 0, .int .i64 0, .int .u64 0, .slice none 0 0] 157).on b1; have bw1 := bt (b1alloc w _) b1))
      refine (hRd.out _ bw1).mono ?_
      rintro e w2 ⟨hres, b2⟩
      rw [if_pos H479.out, ← Hx.out] at hres
      obtain ⟨A2, d2, rfl, own2⟩ := hres
      have bw2 := bt bw1 b2
      have B2 := B1.on b2
      unfold xv
      have hw2 : w.heap.size < w2.heap.size := B2.lt
      have B3 := Blk.new w2 [.int .i64 x.kind, .int .u64 (x.life.toNat : Int), .int .i64 x.seq, .int .u64 (x.gen.toNat : Int), .slice A2 x.body.length d2] 157
      have b3 := b1alloc w2 (.cells #[.int .i64 x.kind, .int .u64 (x.life.toNat : Int), .int .i64 x.seq, .int .u64 (x.gen.toNat : Int), .slice A2 x.body.length d2] 157)
      have bw3 := bt bw2 b3
      have own3 := own_on own2 b3
      have B2' := B2.on b3
      have bh1 := bw1.size
      have hlt1 : w.heap.size < w1.heap.size := B1.lt
      go_wp2_with fail
      obtain ⟨w3, hw3⟩ : ∃ w3, w3 = w2.alloc (.cells #[.int .i64 x.kind, .int .u64 (x.life.toNat : Int), .int .i64 x.seq, .int .u64 (x.gen.toNat : Int), .slice A2 x.body.length d2] 157) := ⟨_, rfl⟩
      try rw [← hw3]
      have B3 : Blk w3 w2.heap.size [.int .i64 x.kind, .int .u64 (x.life.toNat : Int), .int .i64 x.seq, .int .u64 (x.gen.toNat : Int), .slice A2 x.body.length d2] := by rw [hw3]; exact B3
      rw [← hw3] at bw3 own3 B2' b3
      clear hw3
      have bb3 : Below w3.heap.size w3 w3.drew := (Below.refl _ _).drew
      have hRx : Rd w3 w3.heap.size A2 (x.body.map e8) := Rd.own own3
      obtain ⟨T, hT⟩ : ∃ T, T = text p x := ⟨_, rfl⟩
      have HTl := Lib.hid (show T.length = 504 by rw [hT, text_len])
      obtain ⟨f, hf⟩ : ∃ f, f = rightF p x := ⟨_, rfl⟩
      have HT := Lib.hid hT
      have Hf := Lib.hid hf
      clear hT hf B2 B1
      by_cases h0 : f = 0
      · have hf1 := bne_no h0
        by_cases hTb : T = b.take 504
        · have hrs2 := Lib.hid (hrs.out (by rw [← Hf.out]; exact h0) (by rw [← HT.out]; exact hTb))
          have HS := Lib.hid (R1.sameB_of hTb)
          clear hTb
          cases ck with
          | true =>
            have hd := Lib.hid (hyes.out hrs2.out)
            refine wp_region_held_drew (S := (fun w' => w'.cell? ⟨w2.heap.size, 0, none⟩ = some (.int .i64 x.kind) ∧ w'.cell? ⟨w2.heap.size, 1, none⟩ = some (.int .u64 (x.life.toNat : Int)) ∧ w'.cell? ⟨w2.heap.size, 2, none⟩ = some (.int .i64 x.seq) ∧ w'.cell? ⟨w2.heap.size, 3, none⟩ = some (.int .u64 (x.gen.toNat : Int)) ∧ w'.cell? ⟨w2.heap.size, 4, none⟩ = some (.slice A2 x.body.length d2))) (by kernel_rfl) (by exact five5x (B3.on bb3)) (fun hHeld => ?_)
            refine wpAnyH_take (i := 0) (oi := { dst := some 28, op := Op.move (Operand.tmp 9), type := 4, pos := "sector.go:113", after := #[], guard := none }) (v := ?_) rfl (by kernel_rfl) (by kernel_rfl) (by kernel_rfl) (fun _ _ _ h => h) (Or.inl ⟨by rfl, ?_⟩) (by assumption) ?_; rotate_left; · ((intro w hSw; (try dsimp only at hSw); go_simp) <;> with_reducible rfl)
            try simp only [Act.put, List.setIfInBounds_toArray, List.set_cons_zero, List.set_cons_succ]
            refine wpAnyH_take (i := 1) (oi := { dst := some 29, op := Op.unOp UnOp.not 4 (Operand.tmp 28), type := 4, pos := "sector.go:113", after := #[{ on := 0, ground := Ground.data }], guard := none }) (v := ?_) rfl (by kernel_rfl) (by kernel_rfl) (by kernel_rfl) (fun _ _ _ h => h) (Or.inl ⟨by rfl, ?_⟩) (by assumption) ?_; rotate_left; · ((intro w hSw; (try dsimp only at hSw); go_simp) <;> with_reducible rfl)
            try simp only [Act.put, List.setIfInBounds_toArray, List.set_cons_zero, List.set_cons_succ]
            refine wpAnyH_take (i := 2) (oi := { dst := some 30, op := Op.move (Operand.tmp 29), type := 4, pos := "sector.go:113", after := #[{ on := 1, ground := Ground.data }], guard := none }) (v := ?_) rfl (by kernel_rfl) (by kernel_rfl) (by kernel_rfl) (fun _ _ _ h => h) (Or.inl ⟨by rfl, ?_⟩) (by assumption) ?_; rotate_left; · ((intro w hSw; (try dsimp only at hSw); go_simp) <;> with_reducible rfl)
            try simp only [Act.put, List.setIfInBounds_toArray, List.set_cons_zero, List.set_cons_succ]
            refine wpAnyH_take (i := 3) (oi := { dst := some 31, op := Op.move (Operand.tmp 1), type := 3, pos := "sector.go:113", after := #[{ on := 2, ground := Ground.guard }], guard := some (2, false) }) (v := ?_) rfl (by kernel_rfl) (by kernel_rfl) (by kernel_rfl) (fun _ _ _ h => h) (Or.inl ⟨by rfl, ?_⟩) (by assumption) ?_; rotate_left; · ((intro w hSw; (try dsimp only at hSw); go_simp) <;> with_reducible rfl)
            try simp only [Act.put, List.setIfInBounds_toArray, List.set_cons_zero, List.set_cons_succ]
            refine wpAnyH_take (i := 4) (oi := { dst := some 32, op := Op.load 157 (Operand.tmp 8), type := 157, pos := "sector.go:113", after := #[{ on := 2, ground := Ground.guard }], guard := some (2, false) }) (v := ?_) rfl (by kernel_rfl) (by kernel_rfl) (by kernel_rfl) (fun _ _ _ h => h) (Or.inl ⟨by rfl, ?_⟩) (by assumption) ?_; rotate_left; · ((intro w hSw; (try dsimp only at hSw); go_simp) <;> with_reducible rfl)
            try simp only [Act.put, List.setIfInBounds_toArray, List.set_cons_zero, List.set_cons_succ]
            refine wpAnyH_ready (rs := [5]) (by kernel_rfl) (by simp) ?_
            refine AllReadyH.cons (o := { dst := some 33, op := Op.call { callee := Callee.value (Operand.func 121), args := #[Operand.tmp 31, Operand.tmp 32], argTypes := #[3, 157] }, type := 29, pos := "sector.go:113", after := #[{ on := 3, ground := Ground.data }, { on := 4, ground := Ground.data }, { on := 2, ground := Ground.chain }, { on := 2, ground := Ground.guard }], guard := some (2, false) }) rfl (fun K hK => ?_) AllReadyH.nil
            go_simp; (first | ((go_at_call 121; refine (right_any p x A2 d2 _).mono ?_; rintro e w4 ⟨rfl, b4⟩; rw [← Hf.out]; have bb4 := bt bb3 b4)) | ((go_at_call 122; refine (written_any p x A2 d2 _ (hRx.on bb4) (by rw [← Hf.out]; exact h0)).mono ?_; rintro e w5 ⟨A5, d5, rfl, own5, b5⟩; rw [← HT.out] at own5 ⊢; have bb5 := bt bb4 b5; have rd5 := Rd.own own5; have rdb := Hrt.out.on (bt bw3 bb5); rw [HTl.out])) | ((go_at_call 113; refine (nsame_any _ _ T (b.take 504) _ _ _ _ _ HTl.out.symm Ht5.out.symm rd5 rdb).mono ?_; rintro e w6 ⟨rfl, rfl⟩; rw [HS.out])) | ((go_at_call 129; rw [Hl8.out]; refine (Hck.out _ (bt bw3 bb5) _ _).mono ?_; rintro e w7 ⟨rfl, b7⟩; have bb7 := bt bb5 b7))); (try (go_wp2_with fail)); refine hK.out _ _ (by first | ((first | exact five5x (B3.on bb3) | exact five5x (B3.on bb4) | exact five5x (B3.on bb5) | exact five5x (B3.on bb7))) | ((try dsimp only); ((first | exact five5x (B3.on bb3) | exact five5x (B3.on bb4) | exact five5x (B3.on bb5) | exact five5x (B3.on bb7))))) (fun hHeld => ?_)
            clear hK K
            try simp only [Act.put, List.setIfInBounds_toArray, List.set_cons_zero, List.set_cons_succ]
            refine wpAnyH_take (i := 6) (oi := { dst := some 34, op := Op.binOp BinOp.neq 29 (Operand.tmp 33) (Operand.const (Value.int IntKind.i64 0)) 29, type := 4, pos := "sector.go:113", after := #[{ on := 5, ground := Ground.data }, { on := 2, ground := Ground.guard }], guard := some (2, false) }) (v := ?_) rfl (by kernel_rfl) (by kernel_rfl) (by kernel_rfl) (fun _ _ _ h => h) (Or.inl ⟨by rfl, ?_⟩) (by assumption) ?_; rotate_left; · ((intro w hSw; (try dsimp only at hSw); go_simp) <;> with_reducible rfl)
            try simp only [Act.put, List.setIfInBounds_toArray, List.set_cons_zero, List.set_cons_succ]
            refine wpAnyH_take (i := 7) (oi := { dst := some 35, op := Op.pick (Operand.tmp 30) (Operand.const (Value.bool true)) (Operand.tmp 34), type := 4, pos := "sector.go:113", after := #[{ on := 2, ground := Ground.data }, { on := 6, ground := Ground.data }], guard := none }) (v := ?_) rfl (by kernel_rfl) (by kernel_rfl) (by kernel_rfl) (fun _ _ _ h => h) (Or.inl ⟨by rfl, ?_⟩) (by assumption) ?_; rotate_left; · ((intro w hSw; (try dsimp only at hSw); go_simp) <;> with_reducible rfl)
            try simp only [Act.put, List.setIfInBounds_toArray, List.set_cons_zero, List.set_cons_succ]
            refine wpAnyH_take (i := 8) (oi := { dst := some 36, op := Op.move (Operand.tmp 35), type := 4, pos := "sector.go:113", after := #[{ on := 7, ground := Ground.data }, { on := 5, ground := Ground.chain }], guard := none }) (v := ?_) rfl (by kernel_rfl) (by kernel_rfl) (by kernel_rfl) (fun _ _ _ h => h) (Or.inl ⟨by rfl, ?_⟩) (by assumption) ?_; rotate_left; · ((intro w hSw; (try dsimp only at hSw); go_simp) <;> with_reducible rfl)
            try simp only [Act.put, List.setIfInBounds_toArray, List.set_cons_zero, List.set_cons_succ]
            refine wpAnyH_take (i := 9) (oi := { dst := some 37, op := Op.move (Operand.tmp 1), type := 3, pos := "sector.go:113", after := #[{ on := 8, ground := Ground.guard }], guard := some (8, false) }) (v := ?_) rfl (by kernel_rfl) (by kernel_rfl) (by kernel_rfl) (fun _ _ _ h => h) (Or.inl ⟨by rfl, ?_⟩) (by assumption) ?_; rotate_left; · ((intro w hSw; (try dsimp only at hSw); go_simp) <;> with_reducible rfl)
            try simp only [Act.put, List.setIfInBounds_toArray, List.set_cons_zero, List.set_cons_succ]
            refine wpAnyH_take (i := 10) (oi := { dst := some 38, op := Op.load 157 (Operand.tmp 8), type := 157, pos := "sector.go:113", after := #[{ on := 8, ground := Ground.guard }], guard := some (8, false) }) (v := ?_) rfl (by kernel_rfl) (by kernel_rfl) (by kernel_rfl) (fun _ _ _ h => h) (Or.inl ⟨by rfl, ?_⟩) (by assumption) ?_; rotate_left; · ((intro w hSw; (try dsimp only at hSw); go_simp) <;> with_reducible rfl)
            try simp only [Act.put, List.setIfInBounds_toArray, List.set_cons_zero, List.set_cons_succ]
            refine wpAnyH_take (i := 12) (oi := { dst := some 40, op := Op.move (Operand.tmp 2), type := 51, pos := "sector.go:113", after := #[{ on := 8, ground := Ground.guard }], guard := some (8, false) }) (v := ?_) rfl (by kernel_rfl) (by kernel_rfl) (by kernel_rfl) (fun _ _ _ h => h) (Or.inl ⟨by rfl, ?_⟩) (by assumption) ?_; rotate_left; · ((intro w hSw; (try dsimp only at hSw); go_simp) <;> with_reducible rfl)
            try simp only [Act.put, List.setIfInBounds_toArray, List.set_cons_zero, List.set_cons_succ]
            refine wpAnyH_take (i := 13) (oi := { dst := some 41, op := Op.slice 51 (Operand.tmp 40) none (some (Operand.const (Value.int IntKind.i64 504))) none, type := 51, pos := "sector.go:113", after := #[{ on := 12, ground := Ground.data }, { on := 8, ground := Ground.guard }], guard := some (8, false) }) (v := ?_) rfl (by kernel_rfl) (by kernel_rfl) (by kernel_rfl) (fun _ _ _ h => h) (Or.inl ⟨by rfl, ?_⟩) (by assumption) ?_; rotate_left; · ((intro w hSw; (try dsimp only at hSw); go_simp) <;> with_reducible rfl)
            try simp only [Act.put, List.setIfInBounds_toArray, List.set_cons_zero, List.set_cons_succ]
            refine wpAnyH_ready (rs := [11]) (by kernel_rfl) (by simp) ?_
            refine AllReadyH.cons (o := { dst := some 39, op := Op.call { callee := Callee.value (Operand.func 122), args := #[Operand.tmp 37, Operand.tmp 38], argTypes := #[3, 157] }, type := 51, pos := "sector.go:113", after := #[{ on := 9, ground := Ground.data }, { on := 10, ground := Ground.data }, { on := 8, ground := Ground.chain }, { on := 8, ground := Ground.guard }], guard := some (8, false) }) rfl (fun K hK => ?_) AllReadyH.nil
            go_simp; (first | ((go_at_call 121; refine (right_any p x A2 d2 _).mono ?_; rintro e w4 ⟨rfl, b4⟩; rw [← Hf.out]; have bb4 := bt bb3 b4)) | ((go_at_call 122; refine (written_any p x A2 d2 _ (hRx.on bb4) (by rw [← Hf.out]; exact h0)).mono ?_; rintro e w5 ⟨A5, d5, rfl, own5, b5⟩; rw [← HT.out] at own5 ⊢; have bb5 := bt bb4 b5; have rd5 := Rd.own own5; have rdb := Hrt.out.on (bt bw3 bb5); rw [HTl.out])) | ((go_at_call 113; refine (nsame_any _ _ T (b.take 504) _ _ _ _ _ HTl.out.symm Ht5.out.symm rd5 rdb).mono ?_; rintro e w6 ⟨rfl, rfl⟩; rw [HS.out])) | ((go_at_call 129; rw [Hl8.out]; refine (Hck.out _ (bt bw3 bb5) _ _).mono ?_; rintro e w7 ⟨rfl, b7⟩; have bb7 := bt bb5 b7))); (try (go_wp2_with fail)); refine hK.out _ _ (by first | ((first | exact five5x (B3.on bb3) | exact five5x (B3.on bb4) | exact five5x (B3.on bb5) | exact five5x (B3.on bb7))) | ((try dsimp only); ((first | exact five5x (B3.on bb3) | exact five5x (B3.on bb4) | exact five5x (B3.on bb5) | exact five5x (B3.on bb7))))) (fun hHeld => ?_)
            clear hK K
            try simp only [Act.put, List.setIfInBounds_toArray, List.set_cons_zero, List.set_cons_succ]
            refine wpAnyH_ready (rs := [14]) (by kernel_rfl) (by simp) ?_
            refine AllReadyH.cons (o := { dst := some 42, op := Op.call { callee := Callee.value (Operand.func 113), args := #[Operand.tmp 39, Operand.tmp 41], argTypes := #[51, 51] }, type := 4, pos := "sector.go:113", after := #[{ on := 11, ground := Ground.data }, { on := 13, ground := Ground.data }, { on := 11, ground := Ground.chain }, { on := 8, ground := Ground.guard }], guard := some (8, false) }) rfl (fun K hK => ?_) AllReadyH.nil
            go_simp; (first | ((go_at_call 121; refine (right_any p x A2 d2 _).mono ?_; rintro e w4 ⟨rfl, b4⟩; rw [← Hf.out]; have bb4 := bt bb3 b4)) | ((go_at_call 122; refine (written_any p x A2 d2 _ (hRx.on bb4) (by rw [← Hf.out]; exact h0)).mono ?_; rintro e w5 ⟨A5, d5, rfl, own5, b5⟩; rw [← HT.out] at own5 ⊢; have bb5 := bt bb4 b5; have rd5 := Rd.own own5; have rdb := Hrt.out.on (bt bw3 bb5); rw [HTl.out])) | ((go_at_call 113; refine (nsame_any _ _ T (b.take 504) _ _ _ _ _ HTl.out.symm Ht5.out.symm rd5 rdb).mono ?_; rintro e w6 ⟨rfl, rfl⟩; rw [HS.out])) | ((go_at_call 129; rw [Hl8.out]; refine (Hck.out _ (bt bw3 bb5) _ _).mono ?_; rintro e w7 ⟨rfl, b7⟩; have bb7 := bt bb5 b7))); (try (go_wp2_with fail)); refine hK.out _ _ (by first | ((first | exact five5x (B3.on bb3) | exact five5x (B3.on bb4) | exact five5x (B3.on bb5) | exact five5x (B3.on bb7))) | ((try dsimp only); ((first | exact five5x (B3.on bb3) | exact five5x (B3.on bb4) | exact five5x (B3.on bb5) | exact five5x (B3.on bb7))))) (fun hHeld => ?_)
            clear hK K
            try simp only [Act.put, List.setIfInBounds_toArray, List.set_cons_zero, List.set_cons_succ]
            refine wpAnyH_take (i := 15) (oi := { dst := some 43, op := Op.unOp UnOp.not 4 (Operand.tmp 42), type := 4, pos := "sector.go:113", after := #[{ on := 14, ground := Ground.data }, { on := 8, ground := Ground.guard }], guard := some (8, false) }) (v := ?_) rfl (by kernel_rfl) (by kernel_rfl) (by kernel_rfl) (fun _ _ _ h => h) (Or.inl ⟨by rfl, ?_⟩) (by assumption) ?_; rotate_left; · ((intro w hSw; (try dsimp only at hSw); go_simp) <;> with_reducible rfl)
            try simp only [Act.put, List.setIfInBounds_toArray, List.set_cons_zero, List.set_cons_succ]
            refine wpAnyH_take (i := 16) (oi := { dst := some 44, op := Op.pick (Operand.tmp 36) (Operand.const (Value.bool true)) (Operand.tmp 43), type := 4, pos := "sector.go:113", after := #[{ on := 8, ground := Ground.data }, { on := 15, ground := Ground.data }], guard := none }) (v := ?_) rfl (by kernel_rfl) (by kernel_rfl) (by kernel_rfl) (fun _ _ _ h => h) (Or.inl ⟨by rfl, ?_⟩) (by assumption) ?_; rotate_left; · ((intro w hSw; (try dsimp only at hSw); go_simp) <;> with_reducible rfl)
            try simp only [Act.put, List.setIfInBounds_toArray, List.set_cons_zero, List.set_cons_succ]
            refine wpAnyH_take (i := 17) (oi := { dst := some 45, op := Op.move (Operand.tmp 44), type := 4, pos := "sector.go:113", after := #[{ on := 16, ground := Ground.data }, { on := 14, ground := Ground.chain }], guard := none }) (v := ?_) rfl (by kernel_rfl) (by kernel_rfl) (by kernel_rfl) (fun _ _ _ h => h) (Or.inl ⟨by rfl, ?_⟩) (by assumption) ?_; rotate_left; · ((intro w hSw; (try dsimp only at hSw); go_simp) <;> with_reducible rfl)
            try simp only [Act.put, List.setIfInBounds_toArray, List.set_cons_zero, List.set_cons_succ]
            refine wpAnyH_take (i := 18) (oi := { dst := some 46, op := Op.move (Operand.tmp 0), type := 33, pos := "sector.go:113", after := #[{ on := 17, ground := Ground.guard }], guard := some (17, false) }) (v := ?_) rfl (by kernel_rfl) (by kernel_rfl) (by kernel_rfl) (fun _ _ _ h => h) (Or.inl ⟨by rfl, ?_⟩) (by assumption) ?_; rotate_left; · ((intro w hSw; (try dsimp only at hSw); go_simp) <;> with_reducible rfl)
            try simp only [Act.put, List.setIfInBounds_toArray, List.set_cons_zero, List.set_cons_succ]
            refine wpAnyH_take (i := 19) (oi := { dst := some 47, op := Op.move (Operand.tmp 2), type := 51, pos := "sector.go:113", after := #[{ on := 17, ground := Ground.guard }], guard := some (17, false) }) (v := ?_) rfl (by kernel_rfl) (by kernel_rfl) (by kernel_rfl) (fun _ _ _ h => h) (Or.inl ⟨by rfl, ?_⟩) (by assumption) ?_; rotate_left; · ((intro w hSw; (try dsimp only at hSw); go_simp) <;> with_reducible rfl)
            try simp only [Act.put, List.setIfInBounds_toArray, List.set_cons_zero, List.set_cons_succ]
            refine wpAnyH_take (i := 20) (oi := { dst := some 48, op := Op.slice 51 (Operand.tmp 47) none (some (Operand.const (Value.int IntKind.i64 504))) none, type := 51, pos := "sector.go:113", after := #[{ on := 19, ground := Ground.data }, { on := 17, ground := Ground.guard }], guard := some (17, false) }) (v := ?_) rfl (by kernel_rfl) (by kernel_rfl) (by kernel_rfl) (fun _ _ _ h => h) (Or.inl ⟨by rfl, ?_⟩) (by assumption) ?_; rotate_left; · ((intro w hSw; (try dsimp only at hSw); go_simp) <;> with_reducible rfl)
            try simp only [Act.put, List.setIfInBounds_toArray, List.set_cons_zero, List.set_cons_succ]
            refine wpAnyH_take (i := 21) (oi := { dst := some 49, op := Op.move (Operand.tmp 2), type := 51, pos := "sector.go:113", after := #[{ on := 17, ground := Ground.guard }], guard := some (17, false) }) (v := ?_) rfl (by kernel_rfl) (by kernel_rfl) (by kernel_rfl) (fun _ _ _ h => h) (Or.inl ⟨by rfl, ?_⟩) (by assumption) ?_; rotate_left; · ((intro w hSw; (try dsimp only at hSw); go_simp) <;> with_reducible rfl)
            try simp only [Act.put, List.setIfInBounds_toArray, List.set_cons_zero, List.set_cons_succ]
            refine wpAnyH_take (i := 22) (oi := { dst := some 50, op := Op.slice 51 (Operand.tmp 49) (some (Operand.const (Value.int IntKind.i64 504))) none none, type := 51, pos := "sector.go:113", after := #[{ on := 21, ground := Ground.data }, { on := 17, ground := Ground.guard }], guard := some (17, false) }) (v := ?_) rfl (by kernel_rfl) (by kernel_rfl) (by kernel_rfl) (fun _ _ _ h => h) (Or.inl ⟨by rfl, ?_⟩) (by assumption) ?_; rotate_left; · ((intro w hSw; (try dsimp only at hSw); go_simp) <;> with_reducible rfl)
            try simp only [Act.put, List.setIfInBounds_toArray, List.set_cons_zero, List.set_cons_succ]
            refine wpAnyH_ready (rs := [23]) (by kernel_rfl) (by simp) ?_
            refine AllReadyH.cons (o := { dst := some 51, op := Op.call { callee := Callee.value (Operand.func 129), args := #[Operand.tmp 46, Operand.tmp 48, Operand.tmp 50], argTypes := #[33, 51, 51] }, type := 4, pos := "sector.go:113", after := #[{ on := 18, ground := Ground.data }, { on := 20, ground := Ground.data }, { on := 22, ground := Ground.data }, { on := 17, ground := Ground.chain }, { on := 17, ground := Ground.guard }], guard := some (17, false) }) rfl (fun K hK => ?_) AllReadyH.nil
            go_simp; (first | ((go_at_call 121; refine (right_any p x A2 d2 _).mono ?_; rintro e w4 ⟨rfl, b4⟩; rw [← Hf.out]; have bb4 := bt bb3 b4)) | ((go_at_call 122; refine (written_any p x A2 d2 _ (hRx.on bb4) (by rw [← Hf.out]; exact h0)).mono ?_; rintro e w5 ⟨A5, d5, rfl, own5, b5⟩; rw [← HT.out] at own5 ⊢; have bb5 := bt bb4 b5; have rd5 := Rd.own own5; have rdb := Hrt.out.on (bt bw3 bb5); rw [HTl.out])) | ((go_at_call 113; refine (nsame_any _ _ T (b.take 504) _ _ _ _ _ HTl.out.symm Ht5.out.symm rd5 rdb).mono ?_; rintro e w6 ⟨rfl, rfl⟩; rw [HS.out])) | ((go_at_call 129; rw [Hl8.out]; refine (Hck.out _ (bt bw3 bb5) _ _).mono ?_; rintro e w7 ⟨rfl, b7⟩; have bb7 := bt bb5 b7))); (try (go_wp2_with fail)); refine hK.out _ _ (by first | ((first | exact five5x (B3.on bb3) | exact five5x (B3.on bb4) | exact five5x (B3.on bb5) | exact five5x (B3.on bb7))) | ((try dsimp only); ((first | exact five5x (B3.on bb3) | exact five5x (B3.on bb4) | exact five5x (B3.on bb5) | exact five5x (B3.on bb7))))) (fun hHeld => ?_)
            clear hK K
            try simp only [Act.put, List.setIfInBounds_toArray, List.set_cons_zero, List.set_cons_succ]
            refine wpAnyH_take (i := 24) (oi := { dst := some 52, op := Op.unOp UnOp.not 4 (Operand.tmp 51), type := 4, pos := "sector.go:113", after := #[{ on := 23, ground := Ground.data }, { on := 17, ground := Ground.guard }], guard := some (17, false) }) (v := ?_) rfl (by kernel_rfl) (by kernel_rfl) (by kernel_rfl) (fun _ _ _ h => h) (Or.inl ⟨by rfl, ?_⟩) (by assumption) ?_; rotate_left; · ((intro w hSw; (try dsimp only at hSw); go_simp) <;> with_reducible rfl)
            try simp only [Act.put, List.setIfInBounds_toArray, List.set_cons_zero, List.set_cons_succ]
            refine wpAnyH_take (i := 25) (oi := { dst := some 53, op := Op.pick (Operand.tmp 45) (Operand.const (Value.bool true)) (Operand.tmp 52), type := 4, pos := "sector.go:113", after := #[{ on := 17, ground := Ground.data }, { on := 24, ground := Ground.data }], guard := none }) (v := ?_) rfl (by kernel_rfl) (by kernel_rfl) (by kernel_rfl) (fun _ _ _ h => h) (Or.inl ⟨by rfl, ?_⟩) (by assumption) ?_; rotate_left; · ((intro w hSw; (try dsimp only at hSw); go_simp) <;> with_reducible rfl)
            try simp only [Act.put, List.setIfInBounds_toArray, List.set_cons_zero, List.set_cons_succ]
            refine wpAnyH_done (by kernel_rfl) ?_ _
            have bw7 := bt bw3 bb7
            have B7 := B2'.on bb7
            obtain ⟨c0, c1, c2, c3, c4, fr⟩ := five5 B7
            obtain ⟨e0, e1, e2, e3, e4, fe⟩ := five5 (B3.on bb7)
            go_wp2
            have B8 := ((((B7.set (k := 0) (.int .i64 x.kind)).set (k := 1) (.int .u64 (x.life.toNat : Int))).set (k := 2) (.int .i64 x.seq)).set (k := 3) (.int .u64 (x.gen.toNat : Int))).set (k := 4) (.slice A2 x.body.length d2)
            obtain ⟨z0, z1, z2, z3, z4, zf⟩ := five5 B8
            refine bodyPost_ret (v := .tuple #[.agg #[.int .i64 x.kind, .int .u64 (x.life.toNat : Int), .int .i64 x.seq, .int .u64 (x.gen.toNat : Int), .slice A2 x.body.length d2], .int .i64 0]) (by simp [results, Tryz.results112, go_sem, z0, z1, z2, z3, z4]) rfl ?_
            rw [hd.out]
            refine ⟨⟨A2, d2, rfl, ?_⟩, bset5 bw7 (Nat.le_refl _)⟩
            exact own_base (own_keep (own_on own3 bb7) (keep5 _ _ _ _ _ _ _) (fun k hk e => by have := own_block own3 hk; rw [List.mem_singleton] at e; omega)) bh1
          | false =>
            have hd := hckf
            refine wp_region_held_drew (S := (fun w' => w'.cell? ⟨w2.heap.size, 0, none⟩ = some (.int .i64 x.kind) ∧ w'.cell? ⟨w2.heap.size, 1, none⟩ = some (.int .u64 (x.life.toNat : Int)) ∧ w'.cell? ⟨w2.heap.size, 2, none⟩ = some (.int .i64 x.seq) ∧ w'.cell? ⟨w2.heap.size, 3, none⟩ = some (.int .u64 (x.gen.toNat : Int)) ∧ w'.cell? ⟨w2.heap.size, 4, none⟩ = some (.slice A2 x.body.length d2))) (by kernel_rfl) (by exact five5x (B3.on bb3)) (fun hHeld => ?_)
            refine wpAnyH_take (i := 0) (oi := { dst := some 28, op := Op.move (Operand.tmp 9), type := 4, pos := "sector.go:113", after := #[], guard := none }) (v := ?_) rfl (by kernel_rfl) (by kernel_rfl) (by kernel_rfl) (fun _ _ _ h => h) (Or.inl ⟨by rfl, ?_⟩) (by assumption) ?_; rotate_left; · ((intro w hSw; (try dsimp only at hSw); go_simp) <;> with_reducible rfl)
            try simp only [Act.put, List.setIfInBounds_toArray, List.set_cons_zero, List.set_cons_succ]
            refine wpAnyH_take (i := 1) (oi := { dst := some 29, op := Op.unOp UnOp.not 4 (Operand.tmp 28), type := 4, pos := "sector.go:113", after := #[{ on := 0, ground := Ground.data }], guard := none }) (v := ?_) rfl (by kernel_rfl) (by kernel_rfl) (by kernel_rfl) (fun _ _ _ h => h) (Or.inl ⟨by rfl, ?_⟩) (by assumption) ?_; rotate_left; · ((intro w hSw; (try dsimp only at hSw); go_simp) <;> with_reducible rfl)
            try simp only [Act.put, List.setIfInBounds_toArray, List.set_cons_zero, List.set_cons_succ]
            refine wpAnyH_take (i := 2) (oi := { dst := some 30, op := Op.move (Operand.tmp 29), type := 4, pos := "sector.go:113", after := #[{ on := 1, ground := Ground.data }], guard := none }) (v := ?_) rfl (by kernel_rfl) (by kernel_rfl) (by kernel_rfl) (fun _ _ _ h => h) (Or.inl ⟨by rfl, ?_⟩) (by assumption) ?_; rotate_left; · ((intro w hSw; (try dsimp only at hSw); go_simp) <;> with_reducible rfl)
            try simp only [Act.put, List.setIfInBounds_toArray, List.set_cons_zero, List.set_cons_succ]
            refine wpAnyH_take (i := 3) (oi := { dst := some 31, op := Op.move (Operand.tmp 1), type := 3, pos := "sector.go:113", after := #[{ on := 2, ground := Ground.guard }], guard := some (2, false) }) (v := ?_) rfl (by kernel_rfl) (by kernel_rfl) (by kernel_rfl) (fun _ _ _ h => h) (Or.inl ⟨by rfl, ?_⟩) (by assumption) ?_; rotate_left; · ((intro w hSw; (try dsimp only at hSw); go_simp) <;> with_reducible rfl)
            try simp only [Act.put, List.setIfInBounds_toArray, List.set_cons_zero, List.set_cons_succ]
            refine wpAnyH_take (i := 4) (oi := { dst := some 32, op := Op.load 157 (Operand.tmp 8), type := 157, pos := "sector.go:113", after := #[{ on := 2, ground := Ground.guard }], guard := some (2, false) }) (v := ?_) rfl (by kernel_rfl) (by kernel_rfl) (by kernel_rfl) (fun _ _ _ h => h) (Or.inl ⟨by rfl, ?_⟩) (by assumption) ?_; rotate_left; · ((intro w hSw; (try dsimp only at hSw); go_simp) <;> with_reducible rfl)
            try simp only [Act.put, List.setIfInBounds_toArray, List.set_cons_zero, List.set_cons_succ]
            refine wpAnyH_ready (rs := [5]) (by kernel_rfl) (by simp) ?_
            refine AllReadyH.cons (o := { dst := some 33, op := Op.call { callee := Callee.value (Operand.func 121), args := #[Operand.tmp 31, Operand.tmp 32], argTypes := #[3, 157] }, type := 29, pos := "sector.go:113", after := #[{ on := 3, ground := Ground.data }, { on := 4, ground := Ground.data }, { on := 2, ground := Ground.chain }, { on := 2, ground := Ground.guard }], guard := some (2, false) }) rfl (fun K hK => ?_) AllReadyH.nil
            go_simp; (first | ((go_at_call 121; refine (right_any p x A2 d2 _).mono ?_; rintro e w4 ⟨rfl, b4⟩; rw [← Hf.out]; have bb4 := bt bb3 b4)) | ((go_at_call 122; refine (written_any p x A2 d2 _ (hRx.on bb4) (by rw [← Hf.out]; exact h0)).mono ?_; rintro e w5 ⟨A5, d5, rfl, own5, b5⟩; rw [← HT.out] at own5 ⊢; have bb5 := bt bb4 b5; have rd5 := Rd.own own5; have rdb := Hrt.out.on (bt bw3 bb5); rw [HTl.out])) | ((go_at_call 113; refine (nsame_any _ _ T (b.take 504) _ _ _ _ _ HTl.out.symm Ht5.out.symm rd5 rdb).mono ?_; rintro e w6 ⟨rfl, rfl⟩; rw [HS.out])) | ((go_at_call 129; rw [Hl8.out]; refine (Hck.out _ (bt bw3 bb5) _ _).mono ?_; rintro e w7 ⟨rfl, b7⟩; have bb7 := bt bb5 b7))); (try (go_wp2_with fail)); refine hK.out _ _ (by first | ((first | exact five5x (B3.on bb3) | exact five5x (B3.on bb4) | exact five5x (B3.on bb5) | exact five5x (B3.on bb7))) | ((try dsimp only); ((first | exact five5x (B3.on bb3) | exact five5x (B3.on bb4) | exact five5x (B3.on bb5) | exact five5x (B3.on bb7))))) (fun hHeld => ?_)
            clear hK K
            try simp only [Act.put, List.setIfInBounds_toArray, List.set_cons_zero, List.set_cons_succ]
            refine wpAnyH_take (i := 6) (oi := { dst := some 34, op := Op.binOp BinOp.neq 29 (Operand.tmp 33) (Operand.const (Value.int IntKind.i64 0)) 29, type := 4, pos := "sector.go:113", after := #[{ on := 5, ground := Ground.data }, { on := 2, ground := Ground.guard }], guard := some (2, false) }) (v := ?_) rfl (by kernel_rfl) (by kernel_rfl) (by kernel_rfl) (fun _ _ _ h => h) (Or.inl ⟨by rfl, ?_⟩) (by assumption) ?_; rotate_left; · ((intro w hSw; (try dsimp only at hSw); go_simp) <;> with_reducible rfl)
            try simp only [Act.put, List.setIfInBounds_toArray, List.set_cons_zero, List.set_cons_succ]
            refine wpAnyH_take (i := 7) (oi := { dst := some 35, op := Op.pick (Operand.tmp 30) (Operand.const (Value.bool true)) (Operand.tmp 34), type := 4, pos := "sector.go:113", after := #[{ on := 2, ground := Ground.data }, { on := 6, ground := Ground.data }], guard := none }) (v := ?_) rfl (by kernel_rfl) (by kernel_rfl) (by kernel_rfl) (fun _ _ _ h => h) (Or.inl ⟨by rfl, ?_⟩) (by assumption) ?_; rotate_left; · ((intro w hSw; (try dsimp only at hSw); go_simp) <;> with_reducible rfl)
            try simp only [Act.put, List.setIfInBounds_toArray, List.set_cons_zero, List.set_cons_succ]
            refine wpAnyH_take (i := 8) (oi := { dst := some 36, op := Op.move (Operand.tmp 35), type := 4, pos := "sector.go:113", after := #[{ on := 7, ground := Ground.data }, { on := 5, ground := Ground.chain }], guard := none }) (v := ?_) rfl (by kernel_rfl) (by kernel_rfl) (by kernel_rfl) (fun _ _ _ h => h) (Or.inl ⟨by rfl, ?_⟩) (by assumption) ?_; rotate_left; · ((intro w hSw; (try dsimp only at hSw); go_simp) <;> with_reducible rfl)
            try simp only [Act.put, List.setIfInBounds_toArray, List.set_cons_zero, List.set_cons_succ]
            refine wpAnyH_take (i := 9) (oi := { dst := some 37, op := Op.move (Operand.tmp 1), type := 3, pos := "sector.go:113", after := #[{ on := 8, ground := Ground.guard }], guard := some (8, false) }) (v := ?_) rfl (by kernel_rfl) (by kernel_rfl) (by kernel_rfl) (fun _ _ _ h => h) (Or.inl ⟨by rfl, ?_⟩) (by assumption) ?_; rotate_left; · ((intro w hSw; (try dsimp only at hSw); go_simp) <;> with_reducible rfl)
            try simp only [Act.put, List.setIfInBounds_toArray, List.set_cons_zero, List.set_cons_succ]
            refine wpAnyH_take (i := 10) (oi := { dst := some 38, op := Op.load 157 (Operand.tmp 8), type := 157, pos := "sector.go:113", after := #[{ on := 8, ground := Ground.guard }], guard := some (8, false) }) (v := ?_) rfl (by kernel_rfl) (by kernel_rfl) (by kernel_rfl) (fun _ _ _ h => h) (Or.inl ⟨by rfl, ?_⟩) (by assumption) ?_; rotate_left; · ((intro w hSw; (try dsimp only at hSw); go_simp) <;> with_reducible rfl)
            try simp only [Act.put, List.setIfInBounds_toArray, List.set_cons_zero, List.set_cons_succ]
            refine wpAnyH_take (i := 12) (oi := { dst := some 40, op := Op.move (Operand.tmp 2), type := 51, pos := "sector.go:113", after := #[{ on := 8, ground := Ground.guard }], guard := some (8, false) }) (v := ?_) rfl (by kernel_rfl) (by kernel_rfl) (by kernel_rfl) (fun _ _ _ h => h) (Or.inl ⟨by rfl, ?_⟩) (by assumption) ?_; rotate_left; · ((intro w hSw; (try dsimp only at hSw); go_simp) <;> with_reducible rfl)
            try simp only [Act.put, List.setIfInBounds_toArray, List.set_cons_zero, List.set_cons_succ]
            refine wpAnyH_take (i := 13) (oi := { dst := some 41, op := Op.slice 51 (Operand.tmp 40) none (some (Operand.const (Value.int IntKind.i64 504))) none, type := 51, pos := "sector.go:113", after := #[{ on := 12, ground := Ground.data }, { on := 8, ground := Ground.guard }], guard := some (8, false) }) (v := ?_) rfl (by kernel_rfl) (by kernel_rfl) (by kernel_rfl) (fun _ _ _ h => h) (Or.inl ⟨by rfl, ?_⟩) (by assumption) ?_; rotate_left; · ((intro w hSw; (try dsimp only at hSw); go_simp) <;> with_reducible rfl)
            try simp only [Act.put, List.setIfInBounds_toArray, List.set_cons_zero, List.set_cons_succ]
            refine wpAnyH_ready (rs := [11]) (by kernel_rfl) (by simp) ?_
            refine AllReadyH.cons (o := { dst := some 39, op := Op.call { callee := Callee.value (Operand.func 122), args := #[Operand.tmp 37, Operand.tmp 38], argTypes := #[3, 157] }, type := 51, pos := "sector.go:113", after := #[{ on := 9, ground := Ground.data }, { on := 10, ground := Ground.data }, { on := 8, ground := Ground.chain }, { on := 8, ground := Ground.guard }], guard := some (8, false) }) rfl (fun K hK => ?_) AllReadyH.nil
            go_simp; (first | ((go_at_call 121; refine (right_any p x A2 d2 _).mono ?_; rintro e w4 ⟨rfl, b4⟩; rw [← Hf.out]; have bb4 := bt bb3 b4)) | ((go_at_call 122; refine (written_any p x A2 d2 _ (hRx.on bb4) (by rw [← Hf.out]; exact h0)).mono ?_; rintro e w5 ⟨A5, d5, rfl, own5, b5⟩; rw [← HT.out] at own5 ⊢; have bb5 := bt bb4 b5; have rd5 := Rd.own own5; have rdb := Hrt.out.on (bt bw3 bb5); rw [HTl.out])) | ((go_at_call 113; refine (nsame_any _ _ T (b.take 504) _ _ _ _ _ HTl.out.symm Ht5.out.symm rd5 rdb).mono ?_; rintro e w6 ⟨rfl, rfl⟩; rw [HS.out])) | ((go_at_call 129; rw [Hl8.out]; refine (Hck.out _ (bt bw3 bb5) _ _).mono ?_; rintro e w7 ⟨rfl, b7⟩; have bb7 := bt bb5 b7))); (try (go_wp2_with fail)); refine hK.out _ _ (by first | ((first | exact five5x (B3.on bb3) | exact five5x (B3.on bb4) | exact five5x (B3.on bb5) | exact five5x (B3.on bb7))) | ((try dsimp only); ((first | exact five5x (B3.on bb3) | exact five5x (B3.on bb4) | exact five5x (B3.on bb5) | exact five5x (B3.on bb7))))) (fun hHeld => ?_)
            clear hK K
            try simp only [Act.put, List.setIfInBounds_toArray, List.set_cons_zero, List.set_cons_succ]
            refine wpAnyH_ready (rs := [14]) (by kernel_rfl) (by simp) ?_
            refine AllReadyH.cons (o := { dst := some 42, op := Op.call { callee := Callee.value (Operand.func 113), args := #[Operand.tmp 39, Operand.tmp 41], argTypes := #[51, 51] }, type := 4, pos := "sector.go:113", after := #[{ on := 11, ground := Ground.data }, { on := 13, ground := Ground.data }, { on := 11, ground := Ground.chain }, { on := 8, ground := Ground.guard }], guard := some (8, false) }) rfl (fun K hK => ?_) AllReadyH.nil
            go_simp; (first | ((go_at_call 121; refine (right_any p x A2 d2 _).mono ?_; rintro e w4 ⟨rfl, b4⟩; rw [← Hf.out]; have bb4 := bt bb3 b4)) | ((go_at_call 122; refine (written_any p x A2 d2 _ (hRx.on bb4) (by rw [← Hf.out]; exact h0)).mono ?_; rintro e w5 ⟨A5, d5, rfl, own5, b5⟩; rw [← HT.out] at own5 ⊢; have bb5 := bt bb4 b5; have rd5 := Rd.own own5; have rdb := Hrt.out.on (bt bw3 bb5); rw [HTl.out])) | ((go_at_call 113; refine (nsame_any _ _ T (b.take 504) _ _ _ _ _ HTl.out.symm Ht5.out.symm rd5 rdb).mono ?_; rintro e w6 ⟨rfl, rfl⟩; rw [HS.out])) | ((go_at_call 129; rw [Hl8.out]; refine (Hck.out _ (bt bw3 bb5) _ _).mono ?_; rintro e w7 ⟨rfl, b7⟩; have bb7 := bt bb5 b7))); (try (go_wp2_with fail)); refine hK.out _ _ (by first | ((first | exact five5x (B3.on bb3) | exact five5x (B3.on bb4) | exact five5x (B3.on bb5) | exact five5x (B3.on bb7))) | ((try dsimp only); ((first | exact five5x (B3.on bb3) | exact five5x (B3.on bb4) | exact five5x (B3.on bb5) | exact five5x (B3.on bb7))))) (fun hHeld => ?_)
            clear hK K
            try simp only [Act.put, List.setIfInBounds_toArray, List.set_cons_zero, List.set_cons_succ]
            refine wpAnyH_take (i := 15) (oi := { dst := some 43, op := Op.unOp UnOp.not 4 (Operand.tmp 42), type := 4, pos := "sector.go:113", after := #[{ on := 14, ground := Ground.data }, { on := 8, ground := Ground.guard }], guard := some (8, false) }) (v := ?_) rfl (by kernel_rfl) (by kernel_rfl) (by kernel_rfl) (fun _ _ _ h => h) (Or.inl ⟨by rfl, ?_⟩) (by assumption) ?_; rotate_left; · ((intro w hSw; (try dsimp only at hSw); go_simp) <;> with_reducible rfl)
            try simp only [Act.put, List.setIfInBounds_toArray, List.set_cons_zero, List.set_cons_succ]
            refine wpAnyH_take (i := 16) (oi := { dst := some 44, op := Op.pick (Operand.tmp 36) (Operand.const (Value.bool true)) (Operand.tmp 43), type := 4, pos := "sector.go:113", after := #[{ on := 8, ground := Ground.data }, { on := 15, ground := Ground.data }], guard := none }) (v := ?_) rfl (by kernel_rfl) (by kernel_rfl) (by kernel_rfl) (fun _ _ _ h => h) (Or.inl ⟨by rfl, ?_⟩) (by assumption) ?_; rotate_left; · ((intro w hSw; (try dsimp only at hSw); go_simp) <;> with_reducible rfl)
            try simp only [Act.put, List.setIfInBounds_toArray, List.set_cons_zero, List.set_cons_succ]
            refine wpAnyH_take (i := 17) (oi := { dst := some 45, op := Op.move (Operand.tmp 44), type := 4, pos := "sector.go:113", after := #[{ on := 16, ground := Ground.data }, { on := 14, ground := Ground.chain }], guard := none }) (v := ?_) rfl (by kernel_rfl) (by kernel_rfl) (by kernel_rfl) (fun _ _ _ h => h) (Or.inl ⟨by rfl, ?_⟩) (by assumption) ?_; rotate_left; · ((intro w hSw; (try dsimp only at hSw); go_simp) <;> with_reducible rfl)
            try simp only [Act.put, List.setIfInBounds_toArray, List.set_cons_zero, List.set_cons_succ]
            refine wpAnyH_take (i := 18) (oi := { dst := some 46, op := Op.move (Operand.tmp 0), type := 33, pos := "sector.go:113", after := #[{ on := 17, ground := Ground.guard }], guard := some (17, false) }) (v := ?_) rfl (by kernel_rfl) (by kernel_rfl) (by kernel_rfl) (fun _ _ _ h => h) (Or.inl ⟨by rfl, ?_⟩) (by assumption) ?_; rotate_left; · ((intro w hSw; (try dsimp only at hSw); go_simp) <;> with_reducible rfl)
            try simp only [Act.put, List.setIfInBounds_toArray, List.set_cons_zero, List.set_cons_succ]
            refine wpAnyH_take (i := 19) (oi := { dst := some 47, op := Op.move (Operand.tmp 2), type := 51, pos := "sector.go:113", after := #[{ on := 17, ground := Ground.guard }], guard := some (17, false) }) (v := ?_) rfl (by kernel_rfl) (by kernel_rfl) (by kernel_rfl) (fun _ _ _ h => h) (Or.inl ⟨by rfl, ?_⟩) (by assumption) ?_; rotate_left; · ((intro w hSw; (try dsimp only at hSw); go_simp) <;> with_reducible rfl)
            try simp only [Act.put, List.setIfInBounds_toArray, List.set_cons_zero, List.set_cons_succ]
            refine wpAnyH_take (i := 20) (oi := { dst := some 48, op := Op.slice 51 (Operand.tmp 47) none (some (Operand.const (Value.int IntKind.i64 504))) none, type := 51, pos := "sector.go:113", after := #[{ on := 19, ground := Ground.data }, { on := 17, ground := Ground.guard }], guard := some (17, false) }) (v := ?_) rfl (by kernel_rfl) (by kernel_rfl) (by kernel_rfl) (fun _ _ _ h => h) (Or.inl ⟨by rfl, ?_⟩) (by assumption) ?_; rotate_left; · ((intro w hSw; (try dsimp only at hSw); go_simp) <;> with_reducible rfl)
            try simp only [Act.put, List.setIfInBounds_toArray, List.set_cons_zero, List.set_cons_succ]
            refine wpAnyH_take (i := 21) (oi := { dst := some 49, op := Op.move (Operand.tmp 2), type := 51, pos := "sector.go:113", after := #[{ on := 17, ground := Ground.guard }], guard := some (17, false) }) (v := ?_) rfl (by kernel_rfl) (by kernel_rfl) (by kernel_rfl) (fun _ _ _ h => h) (Or.inl ⟨by rfl, ?_⟩) (by assumption) ?_; rotate_left; · ((intro w hSw; (try dsimp only at hSw); go_simp) <;> with_reducible rfl)
            try simp only [Act.put, List.setIfInBounds_toArray, List.set_cons_zero, List.set_cons_succ]
            refine wpAnyH_take (i := 22) (oi := { dst := some 50, op := Op.slice 51 (Operand.tmp 49) (some (Operand.const (Value.int IntKind.i64 504))) none none, type := 51, pos := "sector.go:113", after := #[{ on := 21, ground := Ground.data }, { on := 17, ground := Ground.guard }], guard := some (17, false) }) (v := ?_) rfl (by kernel_rfl) (by kernel_rfl) (by kernel_rfl) (fun _ _ _ h => h) (Or.inl ⟨by rfl, ?_⟩) (by assumption) ?_; rotate_left; · ((intro w hSw; (try dsimp only at hSw); go_simp) <;> with_reducible rfl)
            try simp only [Act.put, List.setIfInBounds_toArray, List.set_cons_zero, List.set_cons_succ]
            refine wpAnyH_ready (rs := [23]) (by kernel_rfl) (by simp) ?_
            refine AllReadyH.cons (o := { dst := some 51, op := Op.call { callee := Callee.value (Operand.func 129), args := #[Operand.tmp 46, Operand.tmp 48, Operand.tmp 50], argTypes := #[33, 51, 51] }, type := 4, pos := "sector.go:113", after := #[{ on := 18, ground := Ground.data }, { on := 20, ground := Ground.data }, { on := 22, ground := Ground.data }, { on := 17, ground := Ground.chain }, { on := 17, ground := Ground.guard }], guard := some (17, false) }) rfl (fun K hK => ?_) AllReadyH.nil
            go_simp; (first | ((go_at_call 121; refine (right_any p x A2 d2 _).mono ?_; rintro e w4 ⟨rfl, b4⟩; rw [← Hf.out]; have bb4 := bt bb3 b4)) | ((go_at_call 122; refine (written_any p x A2 d2 _ (hRx.on bb4) (by rw [← Hf.out]; exact h0)).mono ?_; rintro e w5 ⟨A5, d5, rfl, own5, b5⟩; rw [← HT.out] at own5 ⊢; have bb5 := bt bb4 b5; have rd5 := Rd.own own5; have rdb := Hrt.out.on (bt bw3 bb5); rw [HTl.out])) | ((go_at_call 113; refine (nsame_any _ _ T (b.take 504) _ _ _ _ _ HTl.out.symm Ht5.out.symm rd5 rdb).mono ?_; rintro e w6 ⟨rfl, rfl⟩; rw [HS.out])) | ((go_at_call 129; rw [Hl8.out]; refine (Hck.out _ (bt bw3 bb5) _ _).mono ?_; rintro e w7 ⟨rfl, b7⟩; have bb7 := bt bb5 b7))); (try (go_wp2_with fail)); refine hK.out _ _ (by first | ((first | exact five5x (B3.on bb3) | exact five5x (B3.on bb4) | exact five5x (B3.on bb5) | exact five5x (B3.on bb7))) | ((try dsimp only); ((first | exact five5x (B3.on bb3) | exact five5x (B3.on bb4) | exact five5x (B3.on bb5) | exact five5x (B3.on bb7))))) (fun hHeld => ?_)
            clear hK K
            try simp only [Act.put, List.setIfInBounds_toArray, List.set_cons_zero, List.set_cons_succ]
            refine wpAnyH_take (i := 24) (oi := { dst := some 52, op := Op.unOp UnOp.not 4 (Operand.tmp 51), type := 4, pos := "sector.go:113", after := #[{ on := 23, ground := Ground.data }, { on := 17, ground := Ground.guard }], guard := some (17, false) }) (v := ?_) rfl (by kernel_rfl) (by kernel_rfl) (by kernel_rfl) (fun _ _ _ h => h) (Or.inl ⟨by rfl, ?_⟩) (by assumption) ?_; rotate_left; · ((intro w hSw; (try dsimp only at hSw); go_simp) <;> with_reducible rfl)
            try simp only [Act.put, List.setIfInBounds_toArray, List.set_cons_zero, List.set_cons_succ]
            refine wpAnyH_take (i := 25) (oi := { dst := some 53, op := Op.pick (Operand.tmp 45) (Operand.const (Value.bool true)) (Operand.tmp 52), type := 4, pos := "sector.go:113", after := #[{ on := 17, ground := Ground.data }, { on := 24, ground := Ground.data }], guard := none }) (v := ?_) rfl (by kernel_rfl) (by kernel_rfl) (by kernel_rfl) (fun _ _ _ h => h) (Or.inl ⟨by rfl, ?_⟩) (by assumption) ?_; rotate_left; · ((intro w hSw; (try dsimp only at hSw); go_simp) <;> with_reducible rfl)
            try simp only [Act.put, List.setIfInBounds_toArray, List.set_cons_zero, List.set_cons_succ]
            refine wpAnyH_done (by kernel_rfl) ?_ _
            have bw7 := bt bw3 bb7
            have B7 := B2'.on bb7
            obtain ⟨c0, c1, c2, c3, c4, fr⟩ := five5 B7
            go_wp2
            have B8 := ((((B7.set (k := 0) (.int .i64 0)).set (k := 1) (.int .u64 0)).set (k := 2) (.int .i64 0)).set (k := 3) (.int .u64 0)).set (k := 4) (.slice none 0 0)
            obtain ⟨z0, z1, z2, z3, z4, zf⟩ := five5 B8
            refine bodyPost_ret (v := .tuple #[.agg #[.int .i64 0, .int .u64 0, .int .i64 0, .int .u64 0, .slice none 0 0], .int .i64 11]) (by simp [results, Tryz.results112, go_sem, z0, z1, z2, z3, z4]) rfl ?_
            rw [hd.out]
            exact ⟨RetX.zero _ _ _, bset5 bw7 (Nat.le_refl _)⟩
        · have hd := Lib.hid (hno.out (hun.out (by rw [← HT.out]; exact hTb)))
          have HS := Lib.hid (show R1.sameB T (b.take 504) = false by unfold R1.sameB; rw [decide_eq_false_iff_not]; exact hTb)
          clear hTb
          refine wp_region_held_drew (S := (fun w' => w'.cell? ⟨w2.heap.size, 0, none⟩ = some (.int .i64 x.kind) ∧ w'.cell? ⟨w2.heap.size, 1, none⟩ = some (.int .u64 (x.life.toNat : Int)) ∧ w'.cell? ⟨w2.heap.size, 2, none⟩ = some (.int .i64 x.seq) ∧ w'.cell? ⟨w2.heap.size, 3, none⟩ = some (.int .u64 (x.gen.toNat : Int)) ∧ w'.cell? ⟨w2.heap.size, 4, none⟩ = some (.slice A2 x.body.length d2))) (by kernel_rfl) (by exact five5x (B3.on bb3)) (fun hHeld => ?_)
          refine wpAnyH_take (i := 0) (oi := { dst := some 28, op := Op.move (Operand.tmp 9), type := 4, pos := "sector.go:113", after := #[], guard := none }) (v := ?_) rfl (by kernel_rfl) (by kernel_rfl) (by kernel_rfl) (fun _ _ _ h => h) (Or.inl ⟨by rfl, ?_⟩) (by assumption) ?_; rotate_left; · ((intro w hSw; (try dsimp only at hSw); go_simp) <;> with_reducible rfl)
          try simp only [Act.put, List.setIfInBounds_toArray, List.set_cons_zero, List.set_cons_succ]
          refine wpAnyH_take (i := 1) (oi := { dst := some 29, op := Op.unOp UnOp.not 4 (Operand.tmp 28), type := 4, pos := "sector.go:113", after := #[{ on := 0, ground := Ground.data }], guard := none }) (v := ?_) rfl (by kernel_rfl) (by kernel_rfl) (by kernel_rfl) (fun _ _ _ h => h) (Or.inl ⟨by rfl, ?_⟩) (by assumption) ?_; rotate_left; · ((intro w hSw; (try dsimp only at hSw); go_simp) <;> with_reducible rfl)
          try simp only [Act.put, List.setIfInBounds_toArray, List.set_cons_zero, List.set_cons_succ]
          refine wpAnyH_take (i := 2) (oi := { dst := some 30, op := Op.move (Operand.tmp 29), type := 4, pos := "sector.go:113", after := #[{ on := 1, ground := Ground.data }], guard := none }) (v := ?_) rfl (by kernel_rfl) (by kernel_rfl) (by kernel_rfl) (fun _ _ _ h => h) (Or.inl ⟨by rfl, ?_⟩) (by assumption) ?_; rotate_left; · ((intro w hSw; (try dsimp only at hSw); go_simp) <;> with_reducible rfl)
          try simp only [Act.put, List.setIfInBounds_toArray, List.set_cons_zero, List.set_cons_succ]
          refine wpAnyH_take (i := 3) (oi := { dst := some 31, op := Op.move (Operand.tmp 1), type := 3, pos := "sector.go:113", after := #[{ on := 2, ground := Ground.guard }], guard := some (2, false) }) (v := ?_) rfl (by kernel_rfl) (by kernel_rfl) (by kernel_rfl) (fun _ _ _ h => h) (Or.inl ⟨by rfl, ?_⟩) (by assumption) ?_; rotate_left; · ((intro w hSw; (try dsimp only at hSw); go_simp) <;> with_reducible rfl)
          try simp only [Act.put, List.setIfInBounds_toArray, List.set_cons_zero, List.set_cons_succ]
          refine wpAnyH_take (i := 4) (oi := { dst := some 32, op := Op.load 157 (Operand.tmp 8), type := 157, pos := "sector.go:113", after := #[{ on := 2, ground := Ground.guard }], guard := some (2, false) }) (v := ?_) rfl (by kernel_rfl) (by kernel_rfl) (by kernel_rfl) (fun _ _ _ h => h) (Or.inl ⟨by rfl, ?_⟩) (by assumption) ?_; rotate_left; · ((intro w hSw; (try dsimp only at hSw); go_simp) <;> with_reducible rfl)
          try simp only [Act.put, List.setIfInBounds_toArray, List.set_cons_zero, List.set_cons_succ]
          refine wpAnyH_ready (rs := [5]) (by kernel_rfl) (by simp) ?_
          refine AllReadyH.cons (o := { dst := some 33, op := Op.call { callee := Callee.value (Operand.func 121), args := #[Operand.tmp 31, Operand.tmp 32], argTypes := #[3, 157] }, type := 29, pos := "sector.go:113", after := #[{ on := 3, ground := Ground.data }, { on := 4, ground := Ground.data }, { on := 2, ground := Ground.chain }, { on := 2, ground := Ground.guard }], guard := some (2, false) }) rfl (fun K hK => ?_) AllReadyH.nil
          go_simp; (first | ((go_at_call 121; refine (right_any p x A2 d2 _).mono ?_; rintro e w4 ⟨rfl, b4⟩; rw [← Hf.out]; have bb4 := bt bb3 b4)) | ((go_at_call 122; refine (written_any p x A2 d2 _ (hRx.on bb4) (by rw [← Hf.out]; exact h0)).mono ?_; rintro e w5 ⟨A5, d5, rfl, own5, b5⟩; rw [← HT.out] at own5 ⊢; have bb5 := bt bb4 b5; have rd5 := Rd.own own5; have rdb := Hrt.out.on (bt bw3 bb5); rw [HTl.out])) | ((go_at_call 113; refine (nsame_any _ _ T (b.take 504) _ _ _ _ _ HTl.out.symm Ht5.out.symm rd5 rdb).mono ?_; rintro e w6 ⟨rfl, rfl⟩; rw [HS.out]))); (try (go_wp2_with fail)); refine hK.out _ _ (by first | ((first | exact five5x (B3.on bb3) | exact five5x (B3.on bb4) | exact five5x (B3.on bb5) | exact five5x (B3.on bb7))) | ((try dsimp only); ((first | exact five5x (B3.on bb3) | exact five5x (B3.on bb4) | exact five5x (B3.on bb5) | exact five5x (B3.on bb7))))) (fun hHeld => ?_)
          clear hK K
          try simp only [Act.put, List.setIfInBounds_toArray, List.set_cons_zero, List.set_cons_succ]
          refine wpAnyH_take (i := 6) (oi := { dst := some 34, op := Op.binOp BinOp.neq 29 (Operand.tmp 33) (Operand.const (Value.int IntKind.i64 0)) 29, type := 4, pos := "sector.go:113", after := #[{ on := 5, ground := Ground.data }, { on := 2, ground := Ground.guard }], guard := some (2, false) }) (v := ?_) rfl (by kernel_rfl) (by kernel_rfl) (by kernel_rfl) (fun _ _ _ h => h) (Or.inl ⟨by rfl, ?_⟩) (by assumption) ?_; rotate_left; · ((intro w hSw; (try dsimp only at hSw); go_simp) <;> with_reducible rfl)
          try simp only [Act.put, List.setIfInBounds_toArray, List.set_cons_zero, List.set_cons_succ]
          refine wpAnyH_take (i := 7) (oi := { dst := some 35, op := Op.pick (Operand.tmp 30) (Operand.const (Value.bool true)) (Operand.tmp 34), type := 4, pos := "sector.go:113", after := #[{ on := 2, ground := Ground.data }, { on := 6, ground := Ground.data }], guard := none }) (v := ?_) rfl (by kernel_rfl) (by kernel_rfl) (by kernel_rfl) (fun _ _ _ h => h) (Or.inl ⟨by rfl, ?_⟩) (by assumption) ?_; rotate_left; · ((intro w hSw; (try dsimp only at hSw); go_simp) <;> with_reducible rfl)
          try simp only [Act.put, List.setIfInBounds_toArray, List.set_cons_zero, List.set_cons_succ]
          refine wpAnyH_take (i := 8) (oi := { dst := some 36, op := Op.move (Operand.tmp 35), type := 4, pos := "sector.go:113", after := #[{ on := 7, ground := Ground.data }, { on := 5, ground := Ground.chain }], guard := none }) (v := ?_) rfl (by kernel_rfl) (by kernel_rfl) (by kernel_rfl) (fun _ _ _ h => h) (Or.inl ⟨by rfl, ?_⟩) (by assumption) ?_; rotate_left; · ((intro w hSw; (try dsimp only at hSw); go_simp) <;> with_reducible rfl)
          try simp only [Act.put, List.setIfInBounds_toArray, List.set_cons_zero, List.set_cons_succ]
          refine wpAnyH_take (i := 9) (oi := { dst := some 37, op := Op.move (Operand.tmp 1), type := 3, pos := "sector.go:113", after := #[{ on := 8, ground := Ground.guard }], guard := some (8, false) }) (v := ?_) rfl (by kernel_rfl) (by kernel_rfl) (by kernel_rfl) (fun _ _ _ h => h) (Or.inl ⟨by rfl, ?_⟩) (by assumption) ?_; rotate_left; · ((intro w hSw; (try dsimp only at hSw); go_simp) <;> with_reducible rfl)
          try simp only [Act.put, List.setIfInBounds_toArray, List.set_cons_zero, List.set_cons_succ]
          refine wpAnyH_take (i := 10) (oi := { dst := some 38, op := Op.load 157 (Operand.tmp 8), type := 157, pos := "sector.go:113", after := #[{ on := 8, ground := Ground.guard }], guard := some (8, false) }) (v := ?_) rfl (by kernel_rfl) (by kernel_rfl) (by kernel_rfl) (fun _ _ _ h => h) (Or.inl ⟨by rfl, ?_⟩) (by assumption) ?_; rotate_left; · ((intro w hSw; (try dsimp only at hSw); go_simp) <;> with_reducible rfl)
          try simp only [Act.put, List.setIfInBounds_toArray, List.set_cons_zero, List.set_cons_succ]
          refine wpAnyH_take (i := 12) (oi := { dst := some 40, op := Op.move (Operand.tmp 2), type := 51, pos := "sector.go:113", after := #[{ on := 8, ground := Ground.guard }], guard := some (8, false) }) (v := ?_) rfl (by kernel_rfl) (by kernel_rfl) (by kernel_rfl) (fun _ _ _ h => h) (Or.inl ⟨by rfl, ?_⟩) (by assumption) ?_; rotate_left; · ((intro w hSw; (try dsimp only at hSw); go_simp) <;> with_reducible rfl)
          try simp only [Act.put, List.setIfInBounds_toArray, List.set_cons_zero, List.set_cons_succ]
          refine wpAnyH_take (i := 13) (oi := { dst := some 41, op := Op.slice 51 (Operand.tmp 40) none (some (Operand.const (Value.int IntKind.i64 504))) none, type := 51, pos := "sector.go:113", after := #[{ on := 12, ground := Ground.data }, { on := 8, ground := Ground.guard }], guard := some (8, false) }) (v := ?_) rfl (by kernel_rfl) (by kernel_rfl) (by kernel_rfl) (fun _ _ _ h => h) (Or.inl ⟨by rfl, ?_⟩) (by assumption) ?_; rotate_left; · ((intro w hSw; (try dsimp only at hSw); go_simp) <;> with_reducible rfl)
          try simp only [Act.put, List.setIfInBounds_toArray, List.set_cons_zero, List.set_cons_succ]
          refine wpAnyH_ready (rs := [11]) (by kernel_rfl) (by simp) ?_
          refine AllReadyH.cons (o := { dst := some 39, op := Op.call { callee := Callee.value (Operand.func 122), args := #[Operand.tmp 37, Operand.tmp 38], argTypes := #[3, 157] }, type := 51, pos := "sector.go:113", after := #[{ on := 9, ground := Ground.data }, { on := 10, ground := Ground.data }, { on := 8, ground := Ground.chain }, { on := 8, ground := Ground.guard }], guard := some (8, false) }) rfl (fun K hK => ?_) AllReadyH.nil
          go_simp; (first | ((go_at_call 121; refine (right_any p x A2 d2 _).mono ?_; rintro e w4 ⟨rfl, b4⟩; rw [← Hf.out]; have bb4 := bt bb3 b4)) | ((go_at_call 122; refine (written_any p x A2 d2 _ (hRx.on bb4) (by rw [← Hf.out]; exact h0)).mono ?_; rintro e w5 ⟨A5, d5, rfl, own5, b5⟩; rw [← HT.out] at own5 ⊢; have bb5 := bt bb4 b5; have rd5 := Rd.own own5; have rdb := Hrt.out.on (bt bw3 bb5); rw [HTl.out])) | ((go_at_call 113; refine (nsame_any _ _ T (b.take 504) _ _ _ _ _ HTl.out.symm Ht5.out.symm rd5 rdb).mono ?_; rintro e w6 ⟨rfl, rfl⟩; rw [HS.out]))); (try (go_wp2_with fail)); refine hK.out _ _ (by first | ((first | exact five5x (B3.on bb3) | exact five5x (B3.on bb4) | exact five5x (B3.on bb5) | exact five5x (B3.on bb7))) | ((try dsimp only); ((first | exact five5x (B3.on bb3) | exact five5x (B3.on bb4) | exact five5x (B3.on bb5) | exact five5x (B3.on bb7))))) (fun hHeld => ?_)
          clear hK K
          try simp only [Act.put, List.setIfInBounds_toArray, List.set_cons_zero, List.set_cons_succ]
          refine wpAnyH_ready (rs := [14]) (by kernel_rfl) (by simp) ?_
          refine AllReadyH.cons (o := { dst := some 42, op := Op.call { callee := Callee.value (Operand.func 113), args := #[Operand.tmp 39, Operand.tmp 41], argTypes := #[51, 51] }, type := 4, pos := "sector.go:113", after := #[{ on := 11, ground := Ground.data }, { on := 13, ground := Ground.data }, { on := 11, ground := Ground.chain }, { on := 8, ground := Ground.guard }], guard := some (8, false) }) rfl (fun K hK => ?_) AllReadyH.nil
          go_simp; (first | ((go_at_call 121; refine (right_any p x A2 d2 _).mono ?_; rintro e w4 ⟨rfl, b4⟩; rw [← Hf.out]; have bb4 := bt bb3 b4)) | ((go_at_call 122; refine (written_any p x A2 d2 _ (hRx.on bb4) (by rw [← Hf.out]; exact h0)).mono ?_; rintro e w5 ⟨A5, d5, rfl, own5, b5⟩; rw [← HT.out] at own5 ⊢; have bb5 := bt bb4 b5; have rd5 := Rd.own own5; have rdb := Hrt.out.on (bt bw3 bb5); rw [HTl.out])) | ((go_at_call 113; refine (nsame_any _ _ T (b.take 504) _ _ _ _ _ HTl.out.symm Ht5.out.symm rd5 rdb).mono ?_; rintro e w6 ⟨rfl, rfl⟩; rw [HS.out]))); (try (go_wp2_with fail)); refine hK.out _ _ (by first | ((first | exact five5x (B3.on bb3) | exact five5x (B3.on bb4) | exact five5x (B3.on bb5) | exact five5x (B3.on bb7))) | ((try dsimp only); ((first | exact five5x (B3.on bb3) | exact five5x (B3.on bb4) | exact five5x (B3.on bb5) | exact five5x (B3.on bb7))))) (fun hHeld => ?_)
          clear hK K
          try simp only [Act.put, List.setIfInBounds_toArray, List.set_cons_zero, List.set_cons_succ]
          refine wpAnyH_take (i := 15) (oi := { dst := some 43, op := Op.unOp UnOp.not 4 (Operand.tmp 42), type := 4, pos := "sector.go:113", after := #[{ on := 14, ground := Ground.data }, { on := 8, ground := Ground.guard }], guard := some (8, false) }) (v := ?_) rfl (by kernel_rfl) (by kernel_rfl) (by kernel_rfl) (fun _ _ _ h => h) (Or.inl ⟨by rfl, ?_⟩) (by assumption) ?_; rotate_left; · ((intro w hSw; (try dsimp only at hSw); go_simp) <;> with_reducible rfl)
          try simp only [Act.put, List.setIfInBounds_toArray, List.set_cons_zero, List.set_cons_succ]
          refine wpAnyH_take (i := 16) (oi := { dst := some 44, op := Op.pick (Operand.tmp 36) (Operand.const (Value.bool true)) (Operand.tmp 43), type := 4, pos := "sector.go:113", after := #[{ on := 8, ground := Ground.data }, { on := 15, ground := Ground.data }], guard := none }) (v := ?_) rfl (by kernel_rfl) (by kernel_rfl) (by kernel_rfl) (fun _ _ _ h => h) (Or.inl ⟨by rfl, ?_⟩) (by assumption) ?_; rotate_left; · ((intro w hSw; (try dsimp only at hSw); go_simp) <;> with_reducible rfl)
          try simp only [Act.put, List.setIfInBounds_toArray, List.set_cons_zero, List.set_cons_succ]
          refine wpAnyH_take (i := 17) (oi := { dst := some 45, op := Op.move (Operand.tmp 44), type := 4, pos := "sector.go:113", after := #[{ on := 16, ground := Ground.data }, { on := 14, ground := Ground.chain }], guard := none }) (v := ?_) rfl (by kernel_rfl) (by kernel_rfl) (by kernel_rfl) (fun _ _ _ h => h) (Or.inl ⟨by rfl, ?_⟩) (by assumption) ?_; rotate_left; · ((intro w hSw; (try dsimp only at hSw); go_simp) <;> with_reducible rfl)
          try simp only [Act.put, List.setIfInBounds_toArray, List.set_cons_zero, List.set_cons_succ]
          refine wpAnyH_take (i := 18) (oi := { dst := some 46, op := Op.move (Operand.tmp 0), type := 33, pos := "sector.go:113", after := #[{ on := 17, ground := Ground.guard }], guard := some (17, false) }) (v := undef) rfl (by kernel_rfl) (by kernel_rfl) (by kernel_rfl) (fun _ _ _ h => h) (Or.inr ⟨by rfl, rfl⟩) (by assumption) ?_
          try simp only [Act.put, List.setIfInBounds_toArray, List.set_cons_zero, List.set_cons_succ]
          refine wpAnyH_take (i := 19) (oi := { dst := some 47, op := Op.move (Operand.tmp 2), type := 51, pos := "sector.go:113", after := #[{ on := 17, ground := Ground.guard }], guard := some (17, false) }) (v := undef) rfl (by kernel_rfl) (by kernel_rfl) (by kernel_rfl) (fun _ _ _ h => h) (Or.inr ⟨by rfl, rfl⟩) (by assumption) ?_
          try simp only [Act.put, List.setIfInBounds_toArray, List.set_cons_zero, List.set_cons_succ]
          refine wpAnyH_take (i := 20) (oi := { dst := some 48, op := Op.slice 51 (Operand.tmp 47) none (some (Operand.const (Value.int IntKind.i64 504))) none, type := 51, pos := "sector.go:113", after := #[{ on := 19, ground := Ground.data }, { on := 17, ground := Ground.guard }], guard := some (17, false) }) (v := undef) rfl (by kernel_rfl) (by kernel_rfl) (by kernel_rfl) (fun _ _ _ h => h) (Or.inr ⟨by rfl, rfl⟩) (by assumption) ?_
          try simp only [Act.put, List.setIfInBounds_toArray, List.set_cons_zero, List.set_cons_succ]
          refine wpAnyH_take (i := 21) (oi := { dst := some 49, op := Op.move (Operand.tmp 2), type := 51, pos := "sector.go:113", after := #[{ on := 17, ground := Ground.guard }], guard := some (17, false) }) (v := undef) rfl (by kernel_rfl) (by kernel_rfl) (by kernel_rfl) (fun _ _ _ h => h) (Or.inr ⟨by rfl, rfl⟩) (by assumption) ?_
          try simp only [Act.put, List.setIfInBounds_toArray, List.set_cons_zero, List.set_cons_succ]
          refine wpAnyH_take (i := 22) (oi := { dst := some 50, op := Op.slice 51 (Operand.tmp 49) (some (Operand.const (Value.int IntKind.i64 504))) none none, type := 51, pos := "sector.go:113", after := #[{ on := 21, ground := Ground.data }, { on := 17, ground := Ground.guard }], guard := some (17, false) }) (v := undef) rfl (by kernel_rfl) (by kernel_rfl) (by kernel_rfl) (fun _ _ _ h => h) (Or.inr ⟨by rfl, rfl⟩) (by assumption) ?_
          try simp only [Act.put, List.setIfInBounds_toArray, List.set_cons_zero, List.set_cons_succ]
          refine wpAnyH_ready (rs := [23]) (by kernel_rfl) (by simp) ?_
          refine AllReadyH.cons (o := { dst := some 51, op := Op.call { callee := Callee.value (Operand.func 129), args := #[Operand.tmp 46, Operand.tmp 48, Operand.tmp 50], argTypes := #[33, 51, 51] }, type := 4, pos := "sector.go:113", after := #[{ on := 18, ground := Ground.data }, { on := 20, ground := Ground.data }, { on := 22, ground := Ground.data }, { on := 17, ground := Ground.chain }, { on := 17, ground := Ground.guard }], guard := some (17, false) }) rfl (fun K hK => ?_) AllReadyH.nil
          rw [if_neg]; rotate_left; · exact fun h => Bool.noConfusion (show false = true from h)
          refine hK.out _ _ hHeld (fun hHeld => ?_)
          clear hK K
          try simp only [Act.put, List.setIfInBounds_toArray, List.set_cons_zero, List.set_cons_succ]
          refine wpAnyH_take (i := 24) (oi := { dst := some 52, op := Op.unOp UnOp.not 4 (Operand.tmp 51), type := 4, pos := "sector.go:113", after := #[{ on := 23, ground := Ground.data }, { on := 17, ground := Ground.guard }], guard := some (17, false) }) (v := undef) rfl (by kernel_rfl) (by kernel_rfl) (by kernel_rfl) (fun _ _ _ h => h) (Or.inr ⟨by rfl, rfl⟩) (by assumption) ?_
          try simp only [Act.put, List.setIfInBounds_toArray, List.set_cons_zero, List.set_cons_succ]
          refine wpAnyH_take (i := 25) (oi := { dst := some 53, op := Op.pick (Operand.tmp 45) (Operand.const (Value.bool true)) (Operand.tmp 52), type := 4, pos := "sector.go:113", after := #[{ on := 17, ground := Ground.data }, { on := 24, ground := Ground.data }], guard := none }) (v := ?_) rfl (by kernel_rfl) (by kernel_rfl) (by kernel_rfl) (fun _ _ _ h => h) (Or.inl ⟨by rfl, ?_⟩) (by assumption) ?_; rotate_left; · ((intro w hSw; (try dsimp only at hSw); go_simp) <;> with_reducible rfl)
          try simp only [Act.put, List.setIfInBounds_toArray, List.set_cons_zero, List.set_cons_succ]
          refine wpAnyH_done (by kernel_rfl) ?_ _
          have bw7 := bt bw3 bb5
          have B7 := B2'.on bb5
          obtain ⟨c0, c1, c2, c3, c4, fr⟩ := five5 B7
          go_wp2
          have B8 := ((((B7.set (k := 0) (.int .i64 0)).set (k := 1) (.int .u64 0)).set (k := 2) (.int .i64 0)).set (k := 3) (.int .u64 0)).set (k := 4) (.slice none 0 0)
          obtain ⟨z0, z1, z2, z3, z4, zf⟩ := five5 B8
          refine bodyPost_ret (v := .tuple #[.agg #[.int .i64 0, .int .u64 0, .int .i64 0, .int .u64 0, .slice none 0 0], .int .i64 11]) (by simp [results, Tryz.results112, go_sem, z0, z1, z2, z3, z4]) rfl ?_
          rw [hd.out]
          exact ⟨RetX.zero _ _ _, bset5 bw7 (Nat.le_refl _)⟩
      · have hd := Lib.hid (hno.out (hbad.out (by rw [← Hf.out]; exact h0)))
        have hf1 := bne_yes h0
        refine wp_region_held_drew (S := (fun w' => w'.cell? ⟨w2.heap.size, 0, none⟩ = some (.int .i64 x.kind) ∧ w'.cell? ⟨w2.heap.size, 1, none⟩ = some (.int .u64 (x.life.toNat : Int)) ∧ w'.cell? ⟨w2.heap.size, 2, none⟩ = some (.int .i64 x.seq) ∧ w'.cell? ⟨w2.heap.size, 3, none⟩ = some (.int .u64 (x.gen.toNat : Int)) ∧ w'.cell? ⟨w2.heap.size, 4, none⟩ = some (.slice A2 x.body.length d2))) (by kernel_rfl) (by exact five5x (B3.on bb3)) (fun hHeld => ?_)
        refine wpAnyH_take (i := 0) (oi := { dst := some 28, op := Op.move (Operand.tmp 9), type := 4, pos := "sector.go:113", after := #[], guard := none }) (v := ?_) rfl (by kernel_rfl) (by kernel_rfl) (by kernel_rfl) (fun _ _ _ h => h) (Or.inl ⟨by rfl, ?_⟩) (by assumption) ?_; rotate_left; · ((intro w hSw; (try dsimp only at hSw); go_simp) <;> with_reducible rfl)
        try simp only [Act.put, List.setIfInBounds_toArray, List.set_cons_zero, List.set_cons_succ]
        refine wpAnyH_take (i := 1) (oi := { dst := some 29, op := Op.unOp UnOp.not 4 (Operand.tmp 28), type := 4, pos := "sector.go:113", after := #[{ on := 0, ground := Ground.data }], guard := none }) (v := ?_) rfl (by kernel_rfl) (by kernel_rfl) (by kernel_rfl) (fun _ _ _ h => h) (Or.inl ⟨by rfl, ?_⟩) (by assumption) ?_; rotate_left; · ((intro w hSw; (try dsimp only at hSw); go_simp) <;> with_reducible rfl)
        try simp only [Act.put, List.setIfInBounds_toArray, List.set_cons_zero, List.set_cons_succ]
        refine wpAnyH_take (i := 2) (oi := { dst := some 30, op := Op.move (Operand.tmp 29), type := 4, pos := "sector.go:113", after := #[{ on := 1, ground := Ground.data }], guard := none }) (v := ?_) rfl (by kernel_rfl) (by kernel_rfl) (by kernel_rfl) (fun _ _ _ h => h) (Or.inl ⟨by rfl, ?_⟩) (by assumption) ?_; rotate_left; · ((intro w hSw; (try dsimp only at hSw); go_simp) <;> with_reducible rfl)
        try simp only [Act.put, List.setIfInBounds_toArray, List.set_cons_zero, List.set_cons_succ]
        refine wpAnyH_take (i := 3) (oi := { dst := some 31, op := Op.move (Operand.tmp 1), type := 3, pos := "sector.go:113", after := #[{ on := 2, ground := Ground.guard }], guard := some (2, false) }) (v := ?_) rfl (by kernel_rfl) (by kernel_rfl) (by kernel_rfl) (fun _ _ _ h => h) (Or.inl ⟨by rfl, ?_⟩) (by assumption) ?_; rotate_left; · ((intro w hSw; (try dsimp only at hSw); go_simp) <;> with_reducible rfl)
        try simp only [Act.put, List.setIfInBounds_toArray, List.set_cons_zero, List.set_cons_succ]
        refine wpAnyH_take (i := 4) (oi := { dst := some 32, op := Op.load 157 (Operand.tmp 8), type := 157, pos := "sector.go:113", after := #[{ on := 2, ground := Ground.guard }], guard := some (2, false) }) (v := ?_) rfl (by kernel_rfl) (by kernel_rfl) (by kernel_rfl) (fun _ _ _ h => h) (Or.inl ⟨by rfl, ?_⟩) (by assumption) ?_; rotate_left; · ((intro w hSw; (try dsimp only at hSw); go_simp) <;> with_reducible rfl)
        try simp only [Act.put, List.setIfInBounds_toArray, List.set_cons_zero, List.set_cons_succ]
        refine wpAnyH_ready (rs := [5]) (by kernel_rfl) (by simp) ?_
        refine AllReadyH.cons (o := { dst := some 33, op := Op.call { callee := Callee.value (Operand.func 121), args := #[Operand.tmp 31, Operand.tmp 32], argTypes := #[3, 157] }, type := 29, pos := "sector.go:113", after := #[{ on := 3, ground := Ground.data }, { on := 4, ground := Ground.data }, { on := 2, ground := Ground.chain }, { on := 2, ground := Ground.guard }], guard := some (2, false) }) rfl (fun K hK => ?_) AllReadyH.nil
        go_simp; (first | ((go_at_call 121; refine (right_any p x A2 d2 _).mono ?_; rintro e w4 ⟨rfl, b4⟩; rw [← Hf.out]; have bb4 := bt bb3 b4))); (try (go_wp2_with fail)); refine hK.out _ _ (by first | ((first | exact five5x (B3.on bb3) | exact five5x (B3.on bb4) | exact five5x (B3.on bb5) | exact five5x (B3.on bb7))) | ((try dsimp only); ((first | exact five5x (B3.on bb3) | exact five5x (B3.on bb4) | exact five5x (B3.on bb5) | exact five5x (B3.on bb7))))) (fun hHeld => ?_)
        clear hK K
        try simp only [Act.put, List.setIfInBounds_toArray, List.set_cons_zero, List.set_cons_succ]
        refine wpAnyH_take (i := 6) (oi := { dst := some 34, op := Op.binOp BinOp.neq 29 (Operand.tmp 33) (Operand.const (Value.int IntKind.i64 0)) 29, type := 4, pos := "sector.go:113", after := #[{ on := 5, ground := Ground.data }, { on := 2, ground := Ground.guard }], guard := some (2, false) }) (v := ?_) rfl (by kernel_rfl) (by kernel_rfl) (by kernel_rfl) (fun _ _ _ h => h) (Or.inl ⟨by rfl, ?_⟩) (by assumption) ?_; rotate_left; · ((intro w hSw; (try dsimp only at hSw); go_simp) <;> with_reducible rfl)
        try simp only [Act.put, List.setIfInBounds_toArray, List.set_cons_zero, List.set_cons_succ]
        refine wpAnyH_take (i := 7) (oi := { dst := some 35, op := Op.pick (Operand.tmp 30) (Operand.const (Value.bool true)) (Operand.tmp 34), type := 4, pos := "sector.go:113", after := #[{ on := 2, ground := Ground.data }, { on := 6, ground := Ground.data }], guard := none }) (v := ?_) rfl (by kernel_rfl) (by kernel_rfl) (by kernel_rfl) (fun _ _ _ h => h) (Or.inl ⟨by rfl, ?_⟩) (by assumption) ?_; rotate_left; · ((intro w hSw; (try dsimp only at hSw); go_simp) <;> with_reducible rfl)
        try simp only [Act.put, List.setIfInBounds_toArray, List.set_cons_zero, List.set_cons_succ]
        refine wpAnyH_take (i := 8) (oi := { dst := some 36, op := Op.move (Operand.tmp 35), type := 4, pos := "sector.go:113", after := #[{ on := 7, ground := Ground.data }, { on := 5, ground := Ground.chain }], guard := none }) (v := ?_) rfl (by kernel_rfl) (by kernel_rfl) (by kernel_rfl) (fun _ _ _ h => h) (Or.inl ⟨by rfl, ?_⟩) (by assumption) ?_; rotate_left; · ((intro w hSw; (try dsimp only at hSw); go_simp) <;> with_reducible rfl)
        try simp only [Act.put, List.setIfInBounds_toArray, List.set_cons_zero, List.set_cons_succ]
        refine wpAnyH_take (i := 9) (oi := { dst := some 37, op := Op.move (Operand.tmp 1), type := 3, pos := "sector.go:113", after := #[{ on := 8, ground := Ground.guard }], guard := some (8, false) }) (v := undef) rfl (by kernel_rfl) (by kernel_rfl) (by kernel_rfl) (fun _ _ _ h => h) (Or.inr ⟨by rfl, rfl⟩) (by assumption) ?_
        try simp only [Act.put, List.setIfInBounds_toArray, List.set_cons_zero, List.set_cons_succ]
        refine wpAnyH_take (i := 10) (oi := { dst := some 38, op := Op.load 157 (Operand.tmp 8), type := 157, pos := "sector.go:113", after := #[{ on := 8, ground := Ground.guard }], guard := some (8, false) }) (v := undef) rfl (by kernel_rfl) (by kernel_rfl) (by kernel_rfl) (fun _ _ _ h => h) (Or.inr ⟨by rfl, rfl⟩) (by assumption) ?_
        try simp only [Act.put, List.setIfInBounds_toArray, List.set_cons_zero, List.set_cons_succ]
        refine wpAnyH_take (i := 12) (oi := { dst := some 40, op := Op.move (Operand.tmp 2), type := 51, pos := "sector.go:113", after := #[{ on := 8, ground := Ground.guard }], guard := some (8, false) }) (v := undef) rfl (by kernel_rfl) (by kernel_rfl) (by kernel_rfl) (fun _ _ _ h => h) (Or.inr ⟨by rfl, rfl⟩) (by assumption) ?_
        try simp only [Act.put, List.setIfInBounds_toArray, List.set_cons_zero, List.set_cons_succ]
        refine wpAnyH_take (i := 13) (oi := { dst := some 41, op := Op.slice 51 (Operand.tmp 40) none (some (Operand.const (Value.int IntKind.i64 504))) none, type := 51, pos := "sector.go:113", after := #[{ on := 12, ground := Ground.data }, { on := 8, ground := Ground.guard }], guard := some (8, false) }) (v := undef) rfl (by kernel_rfl) (by kernel_rfl) (by kernel_rfl) (fun _ _ _ h => h) (Or.inr ⟨by rfl, rfl⟩) (by assumption) ?_
        try simp only [Act.put, List.setIfInBounds_toArray, List.set_cons_zero, List.set_cons_succ]
        refine wpAnyH_ready (rs := [11]) (by kernel_rfl) (by simp) ?_
        refine AllReadyH.cons (o := { dst := some 39, op := Op.call { callee := Callee.value (Operand.func 122), args := #[Operand.tmp 37, Operand.tmp 38], argTypes := #[3, 157] }, type := 51, pos := "sector.go:113", after := #[{ on := 9, ground := Ground.data }, { on := 10, ground := Ground.data }, { on := 8, ground := Ground.chain }, { on := 8, ground := Ground.guard }], guard := some (8, false) }) rfl (fun K hK => ?_) AllReadyH.nil
        rw [if_neg]; rotate_left; · exact fun h => Bool.noConfusion (show false = true from h)
        refine hK.out _ _ hHeld (fun hHeld => ?_)
        clear hK K
        try simp only [Act.put, List.setIfInBounds_toArray, List.set_cons_zero, List.set_cons_succ]
        refine wpAnyH_ready (rs := [14]) (by kernel_rfl) (by simp) ?_
        refine AllReadyH.cons (o := { dst := some 42, op := Op.call { callee := Callee.value (Operand.func 113), args := #[Operand.tmp 39, Operand.tmp 41], argTypes := #[51, 51] }, type := 4, pos := "sector.go:113", after := #[{ on := 11, ground := Ground.data }, { on := 13, ground := Ground.data }, { on := 11, ground := Ground.chain }, { on := 8, ground := Ground.guard }], guard := some (8, false) }) rfl (fun K hK => ?_) AllReadyH.nil
        rw [if_neg]; rotate_left; · exact fun h => Bool.noConfusion (show false = true from h)
        refine hK.out _ _ hHeld (fun hHeld => ?_)
        clear hK K
        try simp only [Act.put, List.setIfInBounds_toArray, List.set_cons_zero, List.set_cons_succ]
        refine wpAnyH_take (i := 15) (oi := { dst := some 43, op := Op.unOp UnOp.not 4 (Operand.tmp 42), type := 4, pos := "sector.go:113", after := #[{ on := 14, ground := Ground.data }, { on := 8, ground := Ground.guard }], guard := some (8, false) }) (v := undef) rfl (by kernel_rfl) (by kernel_rfl) (by kernel_rfl) (fun _ _ _ h => h) (Or.inr ⟨by rfl, rfl⟩) (by assumption) ?_
        try simp only [Act.put, List.setIfInBounds_toArray, List.set_cons_zero, List.set_cons_succ]
        refine wpAnyH_take (i := 16) (oi := { dst := some 44, op := Op.pick (Operand.tmp 36) (Operand.const (Value.bool true)) (Operand.tmp 43), type := 4, pos := "sector.go:113", after := #[{ on := 8, ground := Ground.data }, { on := 15, ground := Ground.data }], guard := none }) (v := ?_) rfl (by kernel_rfl) (by kernel_rfl) (by kernel_rfl) (fun _ _ _ h => h) (Or.inl ⟨by rfl, ?_⟩) (by assumption) ?_; rotate_left; · ((intro w hSw; (try dsimp only at hSw); go_simp) <;> with_reducible rfl)
        try simp only [Act.put, List.setIfInBounds_toArray, List.set_cons_zero, List.set_cons_succ]
        refine wpAnyH_take (i := 17) (oi := { dst := some 45, op := Op.move (Operand.tmp 44), type := 4, pos := "sector.go:113", after := #[{ on := 16, ground := Ground.data }, { on := 14, ground := Ground.chain }], guard := none }) (v := ?_) rfl (by kernel_rfl) (by kernel_rfl) (by kernel_rfl) (fun _ _ _ h => h) (Or.inl ⟨by rfl, ?_⟩) (by assumption) ?_; rotate_left; · ((intro w hSw; (try dsimp only at hSw); go_simp) <;> with_reducible rfl)
        try simp only [Act.put, List.setIfInBounds_toArray, List.set_cons_zero, List.set_cons_succ]
        refine wpAnyH_take (i := 18) (oi := { dst := some 46, op := Op.move (Operand.tmp 0), type := 33, pos := "sector.go:113", after := #[{ on := 17, ground := Ground.guard }], guard := some (17, false) }) (v := undef) rfl (by kernel_rfl) (by kernel_rfl) (by kernel_rfl) (fun _ _ _ h => h) (Or.inr ⟨by rfl, rfl⟩) (by assumption) ?_
        try simp only [Act.put, List.setIfInBounds_toArray, List.set_cons_zero, List.set_cons_succ]
        refine wpAnyH_take (i := 19) (oi := { dst := some 47, op := Op.move (Operand.tmp 2), type := 51, pos := "sector.go:113", after := #[{ on := 17, ground := Ground.guard }], guard := some (17, false) }) (v := undef) rfl (by kernel_rfl) (by kernel_rfl) (by kernel_rfl) (fun _ _ _ h => h) (Or.inr ⟨by rfl, rfl⟩) (by assumption) ?_
        try simp only [Act.put, List.setIfInBounds_toArray, List.set_cons_zero, List.set_cons_succ]
        refine wpAnyH_take (i := 20) (oi := { dst := some 48, op := Op.slice 51 (Operand.tmp 47) none (some (Operand.const (Value.int IntKind.i64 504))) none, type := 51, pos := "sector.go:113", after := #[{ on := 19, ground := Ground.data }, { on := 17, ground := Ground.guard }], guard := some (17, false) }) (v := undef) rfl (by kernel_rfl) (by kernel_rfl) (by kernel_rfl) (fun _ _ _ h => h) (Or.inr ⟨by rfl, rfl⟩) (by assumption) ?_
        try simp only [Act.put, List.setIfInBounds_toArray, List.set_cons_zero, List.set_cons_succ]
        refine wpAnyH_take (i := 21) (oi := { dst := some 49, op := Op.move (Operand.tmp 2), type := 51, pos := "sector.go:113", after := #[{ on := 17, ground := Ground.guard }], guard := some (17, false) }) (v := undef) rfl (by kernel_rfl) (by kernel_rfl) (by kernel_rfl) (fun _ _ _ h => h) (Or.inr ⟨by rfl, rfl⟩) (by assumption) ?_
        try simp only [Act.put, List.setIfInBounds_toArray, List.set_cons_zero, List.set_cons_succ]
        refine wpAnyH_take (i := 22) (oi := { dst := some 50, op := Op.slice 51 (Operand.tmp 49) (some (Operand.const (Value.int IntKind.i64 504))) none none, type := 51, pos := "sector.go:113", after := #[{ on := 21, ground := Ground.data }, { on := 17, ground := Ground.guard }], guard := some (17, false) }) (v := undef) rfl (by kernel_rfl) (by kernel_rfl) (by kernel_rfl) (fun _ _ _ h => h) (Or.inr ⟨by rfl, rfl⟩) (by assumption) ?_
        try simp only [Act.put, List.setIfInBounds_toArray, List.set_cons_zero, List.set_cons_succ]
        refine wpAnyH_ready (rs := [23]) (by kernel_rfl) (by simp) ?_
        refine AllReadyH.cons (o := { dst := some 51, op := Op.call { callee := Callee.value (Operand.func 129), args := #[Operand.tmp 46, Operand.tmp 48, Operand.tmp 50], argTypes := #[33, 51, 51] }, type := 4, pos := "sector.go:113", after := #[{ on := 18, ground := Ground.data }, { on := 20, ground := Ground.data }, { on := 22, ground := Ground.data }, { on := 17, ground := Ground.chain }, { on := 17, ground := Ground.guard }], guard := some (17, false) }) rfl (fun K hK => ?_) AllReadyH.nil
        rw [if_neg]; rotate_left; · exact fun h => Bool.noConfusion (show false = true from h)
        refine hK.out _ _ hHeld (fun hHeld => ?_)
        clear hK K
        try simp only [Act.put, List.setIfInBounds_toArray, List.set_cons_zero, List.set_cons_succ]
        refine wpAnyH_take (i := 24) (oi := { dst := some 52, op := Op.unOp UnOp.not 4 (Operand.tmp 51), type := 4, pos := "sector.go:113", after := #[{ on := 23, ground := Ground.data }, { on := 17, ground := Ground.guard }], guard := some (17, false) }) (v := undef) rfl (by kernel_rfl) (by kernel_rfl) (by kernel_rfl) (fun _ _ _ h => h) (Or.inr ⟨by rfl, rfl⟩) (by assumption) ?_
        try simp only [Act.put, List.setIfInBounds_toArray, List.set_cons_zero, List.set_cons_succ]
        refine wpAnyH_take (i := 25) (oi := { dst := some 53, op := Op.pick (Operand.tmp 45) (Operand.const (Value.bool true)) (Operand.tmp 52), type := 4, pos := "sector.go:113", after := #[{ on := 17, ground := Ground.data }, { on := 24, ground := Ground.data }], guard := none }) (v := ?_) rfl (by kernel_rfl) (by kernel_rfl) (by kernel_rfl) (fun _ _ _ h => h) (Or.inl ⟨by rfl, ?_⟩) (by assumption) ?_; rotate_left; · ((intro w hSw; (try dsimp only at hSw); go_simp) <;> with_reducible rfl)
        try simp only [Act.put, List.setIfInBounds_toArray, List.set_cons_zero, List.set_cons_succ]
        refine wpAnyH_done (by kernel_rfl) ?_ _
        have bw7 := bt bw3 bb4
        have B7 := B2'.on bb4
        obtain ⟨c0, c1, c2, c3, c4, fr⟩ := five5 B7
        go_wp2
        have B8 := ((((B7.set (k := 0) (.int .i64 0)).set (k := 1) (.int .u64 0)).set (k := 2) (.int .i64 0)).set (k := 3) (.int .u64 0)).set (k := 4) (.slice none 0 0)
        obtain ⟨z0, z1, z2, z3, z4, zf⟩ := five5 B8
        refine bodyPost_ret (v := .tuple #[.agg #[.int .i64 0, .int .u64 0, .int .i64 0, .int .u64 0, .slice none 0 0], .int .i64 11]) (by simp [results, Tryz.results112, go_sem, z0, z1, z2, z3, z4]) rfl ?_
        rw [hd.out]
        exact ⟨RetX.zero _ _ _, bset5 bw7 (Nat.le_refl _)⟩
    · have hd := Lib.hid (dec_none (ck := ck) (p := p) h5 hbl (reads_no (by rw [lenB_take (Nat.le_refl _)]; omega)))
      have H479 := Lib.hid h479
      obtain ⟨x, hx⟩ : ∃ x, x = X0 := ⟨_, rfl⟩
      have hx0 := Lib.hid hx
      clear HC h5 hbl hblf hck hrt hrd ht504 hd504 h479 hr hx
      go_enter Tryz.func112, Tryz.ntmps112
      go_wp2_with (first
        | (go_at_call 120; refine (none_any _ _).mono ?_; rintro e w1 ⟨rfl, rfl⟩)
        | (go_at_call 127; refine (hB.out _ (b1alloc _ _)).mono ?_; rintro e w1 ⟨rfl, b1⟩; rw [Hbl.out]; have B1 := (Blk.new w [.int .i64 0, .int .u64 0, .int .i64 0, .int .u64 0, .slice none 0 0] 157).on b1; have bw1 := bt (b1alloc w _) b1))
      refine (hRd.out _ bw1).mono ?_
      rintro e w2 ⟨hres, b2⟩
      rw [if_neg H479.out, ← hx0.out] at hres
      obtain ⟨A2, d2, rfl, own2⟩ := hres
      have bw2 := bt bw1 b2
      have B2 := B1.on b2
      unfold xv
      have hw2 : w.heap.size < w2.heap.size := B2.lt
      have B3 := Blk.new w2 [.int .i64 x.kind, .int .u64 (x.life.toNat : Int), .int .i64 x.seq, .int .u64 (x.gen.toNat : Int), .slice A2 x.body.length d2] 157
      have b3 := b1alloc w2 (.cells #[.int .i64 x.kind, .int .u64 (x.life.toNat : Int), .int .i64 x.seq, .int .u64 (x.gen.toNat : Int), .slice A2 x.body.length d2] 157)
      have bw3 := bt bw2 b3
      have own3 := own_on own2 b3
      have B2' := B2.on b3
      have bh1 := bw1.size
      have hlt1 : w.heap.size < w1.heap.size := B1.lt
      go_wp2_with fail
      obtain ⟨w3, hw3⟩ : ∃ w3, w3 = w2.alloc (.cells #[.int .i64 x.kind, .int .u64 (x.life.toNat : Int), .int .i64 x.seq, .int .u64 (x.gen.toNat : Int), .slice A2 x.body.length d2] 157) := ⟨_, rfl⟩
      try rw [← hw3]
      have B3 : Blk w3 w2.heap.size [.int .i64 x.kind, .int .u64 (x.life.toNat : Int), .int .i64 x.seq, .int .u64 (x.gen.toNat : Int), .slice A2 x.body.length d2] := by rw [hw3]; exact B3
      rw [← hw3] at bw3 own3 B2' b3
      clear hw3
      have bb3 : Below w3.heap.size w3 w3.drew := (Below.refl _ _).drew
      clear B2 B1
      refine wp_region_held_drew (S := (fun w' => w'.cell? ⟨w2.heap.size, 0, none⟩ = some (.int .i64 x.kind) ∧ w'.cell? ⟨w2.heap.size, 1, none⟩ = some (.int .u64 (x.life.toNat : Int)) ∧ w'.cell? ⟨w2.heap.size, 2, none⟩ = some (.int .i64 x.seq) ∧ w'.cell? ⟨w2.heap.size, 3, none⟩ = some (.int .u64 (x.gen.toNat : Int)) ∧ w'.cell? ⟨w2.heap.size, 4, none⟩ = some (.slice A2 x.body.length d2))) (by kernel_rfl) (by exact five5x (B3.on bb3)) (fun hHeld => ?_)
      refine wpAnyH_take (i := 0) (oi := { dst := some 28, op := Op.move (Operand.tmp 9), type := 4, pos := "sector.go:113", after := #[], guard := none }) (v := ?_) rfl (by kernel_rfl) (by kernel_rfl) (by kernel_rfl) (fun _ _ _ h => h) (Or.inl ⟨by rfl, ?_⟩) (by assumption) ?_; rotate_left; · ((intro w hSw; (try dsimp only at hSw); go_simp) <;> with_reducible rfl)
      try simp only [Act.put, List.setIfInBounds_toArray, List.set_cons_zero, List.set_cons_succ]
      refine wpAnyH_take (i := 1) (oi := { dst := some 29, op := Op.unOp UnOp.not 4 (Operand.tmp 28), type := 4, pos := "sector.go:113", after := #[{ on := 0, ground := Ground.data }], guard := none }) (v := ?_) rfl (by kernel_rfl) (by kernel_rfl) (by kernel_rfl) (fun _ _ _ h => h) (Or.inl ⟨by rfl, ?_⟩) (by assumption) ?_; rotate_left; · ((intro w hSw; (try dsimp only at hSw); go_simp) <;> with_reducible rfl)
      try simp only [Act.put, List.setIfInBounds_toArray, List.set_cons_zero, List.set_cons_succ]
      refine wpAnyH_take (i := 2) (oi := { dst := some 30, op := Op.move (Operand.tmp 29), type := 4, pos := "sector.go:113", after := #[{ on := 1, ground := Ground.data }], guard := none }) (v := ?_) rfl (by kernel_rfl) (by kernel_rfl) (by kernel_rfl) (fun _ _ _ h => h) (Or.inl ⟨by rfl, ?_⟩) (by assumption) ?_; rotate_left; · ((intro w hSw; (try dsimp only at hSw); go_simp) <;> with_reducible rfl)
      try simp only [Act.put, List.setIfInBounds_toArray, List.set_cons_zero, List.set_cons_succ]
      refine wpAnyH_take (i := 3) (oi := { dst := some 31, op := Op.move (Operand.tmp 1), type := 3, pos := "sector.go:113", after := #[{ on := 2, ground := Ground.guard }], guard := some (2, false) }) (v := undef) rfl (by kernel_rfl) (by kernel_rfl) (by kernel_rfl) (fun _ _ _ h => h) (Or.inr ⟨by rfl, rfl⟩) (by assumption) ?_
      try simp only [Act.put, List.setIfInBounds_toArray, List.set_cons_zero, List.set_cons_succ]
      refine wpAnyH_take (i := 4) (oi := { dst := some 32, op := Op.load 157 (Operand.tmp 8), type := 157, pos := "sector.go:113", after := #[{ on := 2, ground := Ground.guard }], guard := some (2, false) }) (v := undef) rfl (by kernel_rfl) (by kernel_rfl) (by kernel_rfl) (fun _ _ _ h => h) (Or.inr ⟨by rfl, rfl⟩) (by assumption) ?_
      try simp only [Act.put, List.setIfInBounds_toArray, List.set_cons_zero, List.set_cons_succ]
      refine wpAnyH_ready (rs := [5]) (by kernel_rfl) (by simp) ?_
      refine AllReadyH.cons (o := { dst := some 33, op := Op.call { callee := Callee.value (Operand.func 121), args := #[Operand.tmp 31, Operand.tmp 32], argTypes := #[3, 157] }, type := 29, pos := "sector.go:113", after := #[{ on := 3, ground := Ground.data }, { on := 4, ground := Ground.data }, { on := 2, ground := Ground.chain }, { on := 2, ground := Ground.guard }], guard := some (2, false) }) rfl (fun K hK => ?_) AllReadyH.nil
      rw [if_neg]; rotate_left; · exact fun h => Bool.noConfusion (show false = true from h)
      refine hK.out _ _ hHeld (fun hHeld => ?_)
      clear hK K
      try simp only [Act.put, List.setIfInBounds_toArray, List.set_cons_zero, List.set_cons_succ]
      refine wpAnyH_take (i := 6) (oi := { dst := some 34, op := Op.binOp BinOp.neq 29 (Operand.tmp 33) (Operand.const (Value.int IntKind.i64 0)) 29, type := 4, pos := "sector.go:113", after := #[{ on := 5, ground := Ground.data }, { on := 2, ground := Ground.guard }], guard := some (2, false) }) (v := undef) rfl (by kernel_rfl) (by kernel_rfl) (by kernel_rfl) (fun _ _ _ h => h) (Or.inr ⟨by rfl, rfl⟩) (by assumption) ?_
      try simp only [Act.put, List.setIfInBounds_toArray, List.set_cons_zero, List.set_cons_succ]
      refine wpAnyH_take (i := 7) (oi := { dst := some 35, op := Op.pick (Operand.tmp 30) (Operand.const (Value.bool true)) (Operand.tmp 34), type := 4, pos := "sector.go:113", after := #[{ on := 2, ground := Ground.data }, { on := 6, ground := Ground.data }], guard := none }) (v := ?_) rfl (by kernel_rfl) (by kernel_rfl) (by kernel_rfl) (fun _ _ _ h => h) (Or.inl ⟨by rfl, ?_⟩) (by assumption) ?_; rotate_left; · ((intro w hSw; (try dsimp only at hSw); go_simp) <;> with_reducible rfl)
      try simp only [Act.put, List.setIfInBounds_toArray, List.set_cons_zero, List.set_cons_succ]
      refine wpAnyH_take (i := 8) (oi := { dst := some 36, op := Op.move (Operand.tmp 35), type := 4, pos := "sector.go:113", after := #[{ on := 7, ground := Ground.data }, { on := 5, ground := Ground.chain }], guard := none }) (v := ?_) rfl (by kernel_rfl) (by kernel_rfl) (by kernel_rfl) (fun _ _ _ h => h) (Or.inl ⟨by rfl, ?_⟩) (by assumption) ?_; rotate_left; · ((intro w hSw; (try dsimp only at hSw); go_simp) <;> with_reducible rfl)
      try simp only [Act.put, List.setIfInBounds_toArray, List.set_cons_zero, List.set_cons_succ]
      refine wpAnyH_take (i := 9) (oi := { dst := some 37, op := Op.move (Operand.tmp 1), type := 3, pos := "sector.go:113", after := #[{ on := 8, ground := Ground.guard }], guard := some (8, false) }) (v := undef) rfl (by kernel_rfl) (by kernel_rfl) (by kernel_rfl) (fun _ _ _ h => h) (Or.inr ⟨by rfl, rfl⟩) (by assumption) ?_
      try simp only [Act.put, List.setIfInBounds_toArray, List.set_cons_zero, List.set_cons_succ]
      refine wpAnyH_take (i := 10) (oi := { dst := some 38, op := Op.load 157 (Operand.tmp 8), type := 157, pos := "sector.go:113", after := #[{ on := 8, ground := Ground.guard }], guard := some (8, false) }) (v := undef) rfl (by kernel_rfl) (by kernel_rfl) (by kernel_rfl) (fun _ _ _ h => h) (Or.inr ⟨by rfl, rfl⟩) (by assumption) ?_
      try simp only [Act.put, List.setIfInBounds_toArray, List.set_cons_zero, List.set_cons_succ]
      refine wpAnyH_take (i := 12) (oi := { dst := some 40, op := Op.move (Operand.tmp 2), type := 51, pos := "sector.go:113", after := #[{ on := 8, ground := Ground.guard }], guard := some (8, false) }) (v := undef) rfl (by kernel_rfl) (by kernel_rfl) (by kernel_rfl) (fun _ _ _ h => h) (Or.inr ⟨by rfl, rfl⟩) (by assumption) ?_
      try simp only [Act.put, List.setIfInBounds_toArray, List.set_cons_zero, List.set_cons_succ]
      refine wpAnyH_take (i := 13) (oi := { dst := some 41, op := Op.slice 51 (Operand.tmp 40) none (some (Operand.const (Value.int IntKind.i64 504))) none, type := 51, pos := "sector.go:113", after := #[{ on := 12, ground := Ground.data }, { on := 8, ground := Ground.guard }], guard := some (8, false) }) (v := undef) rfl (by kernel_rfl) (by kernel_rfl) (by kernel_rfl) (fun _ _ _ h => h) (Or.inr ⟨by rfl, rfl⟩) (by assumption) ?_
      try simp only [Act.put, List.setIfInBounds_toArray, List.set_cons_zero, List.set_cons_succ]
      refine wpAnyH_ready (rs := [11]) (by kernel_rfl) (by simp) ?_
      refine AllReadyH.cons (o := { dst := some 39, op := Op.call { callee := Callee.value (Operand.func 122), args := #[Operand.tmp 37, Operand.tmp 38], argTypes := #[3, 157] }, type := 51, pos := "sector.go:113", after := #[{ on := 9, ground := Ground.data }, { on := 10, ground := Ground.data }, { on := 8, ground := Ground.chain }, { on := 8, ground := Ground.guard }], guard := some (8, false) }) rfl (fun K hK => ?_) AllReadyH.nil
      rw [if_neg]; rotate_left; · exact fun h => Bool.noConfusion (show false = true from h)
      refine hK.out _ _ hHeld (fun hHeld => ?_)
      clear hK K
      try simp only [Act.put, List.setIfInBounds_toArray, List.set_cons_zero, List.set_cons_succ]
      refine wpAnyH_ready (rs := [14]) (by kernel_rfl) (by simp) ?_
      refine AllReadyH.cons (o := { dst := some 42, op := Op.call { callee := Callee.value (Operand.func 113), args := #[Operand.tmp 39, Operand.tmp 41], argTypes := #[51, 51] }, type := 4, pos := "sector.go:113", after := #[{ on := 11, ground := Ground.data }, { on := 13, ground := Ground.data }, { on := 11, ground := Ground.chain }, { on := 8, ground := Ground.guard }], guard := some (8, false) }) rfl (fun K hK => ?_) AllReadyH.nil
      rw [if_neg]; rotate_left; · exact fun h => Bool.noConfusion (show false = true from h)
      refine hK.out _ _ hHeld (fun hHeld => ?_)
      clear hK K
      try simp only [Act.put, List.setIfInBounds_toArray, List.set_cons_zero, List.set_cons_succ]
      refine wpAnyH_take (i := 15) (oi := { dst := some 43, op := Op.unOp UnOp.not 4 (Operand.tmp 42), type := 4, pos := "sector.go:113", after := #[{ on := 14, ground := Ground.data }, { on := 8, ground := Ground.guard }], guard := some (8, false) }) (v := undef) rfl (by kernel_rfl) (by kernel_rfl) (by kernel_rfl) (fun _ _ _ h => h) (Or.inr ⟨by rfl, rfl⟩) (by assumption) ?_
      try simp only [Act.put, List.setIfInBounds_toArray, List.set_cons_zero, List.set_cons_succ]
      refine wpAnyH_take (i := 16) (oi := { dst := some 44, op := Op.pick (Operand.tmp 36) (Operand.const (Value.bool true)) (Operand.tmp 43), type := 4, pos := "sector.go:113", after := #[{ on := 8, ground := Ground.data }, { on := 15, ground := Ground.data }], guard := none }) (v := ?_) rfl (by kernel_rfl) (by kernel_rfl) (by kernel_rfl) (fun _ _ _ h => h) (Or.inl ⟨by rfl, ?_⟩) (by assumption) ?_; rotate_left; · ((intro w hSw; (try dsimp only at hSw); go_simp) <;> with_reducible rfl)
      try simp only [Act.put, List.setIfInBounds_toArray, List.set_cons_zero, List.set_cons_succ]
      refine wpAnyH_take (i := 17) (oi := { dst := some 45, op := Op.move (Operand.tmp 44), type := 4, pos := "sector.go:113", after := #[{ on := 16, ground := Ground.data }, { on := 14, ground := Ground.chain }], guard := none }) (v := ?_) rfl (by kernel_rfl) (by kernel_rfl) (by kernel_rfl) (fun _ _ _ h => h) (Or.inl ⟨by rfl, ?_⟩) (by assumption) ?_; rotate_left; · ((intro w hSw; (try dsimp only at hSw); go_simp) <;> with_reducible rfl)
      try simp only [Act.put, List.setIfInBounds_toArray, List.set_cons_zero, List.set_cons_succ]
      refine wpAnyH_take (i := 18) (oi := { dst := some 46, op := Op.move (Operand.tmp 0), type := 33, pos := "sector.go:113", after := #[{ on := 17, ground := Ground.guard }], guard := some (17, false) }) (v := undef) rfl (by kernel_rfl) (by kernel_rfl) (by kernel_rfl) (fun _ _ _ h => h) (Or.inr ⟨by rfl, rfl⟩) (by assumption) ?_
      try simp only [Act.put, List.setIfInBounds_toArray, List.set_cons_zero, List.set_cons_succ]
      refine wpAnyH_take (i := 19) (oi := { dst := some 47, op := Op.move (Operand.tmp 2), type := 51, pos := "sector.go:113", after := #[{ on := 17, ground := Ground.guard }], guard := some (17, false) }) (v := undef) rfl (by kernel_rfl) (by kernel_rfl) (by kernel_rfl) (fun _ _ _ h => h) (Or.inr ⟨by rfl, rfl⟩) (by assumption) ?_
      try simp only [Act.put, List.setIfInBounds_toArray, List.set_cons_zero, List.set_cons_succ]
      refine wpAnyH_take (i := 20) (oi := { dst := some 48, op := Op.slice 51 (Operand.tmp 47) none (some (Operand.const (Value.int IntKind.i64 504))) none, type := 51, pos := "sector.go:113", after := #[{ on := 19, ground := Ground.data }, { on := 17, ground := Ground.guard }], guard := some (17, false) }) (v := undef) rfl (by kernel_rfl) (by kernel_rfl) (by kernel_rfl) (fun _ _ _ h => h) (Or.inr ⟨by rfl, rfl⟩) (by assumption) ?_
      try simp only [Act.put, List.setIfInBounds_toArray, List.set_cons_zero, List.set_cons_succ]
      refine wpAnyH_take (i := 21) (oi := { dst := some 49, op := Op.move (Operand.tmp 2), type := 51, pos := "sector.go:113", after := #[{ on := 17, ground := Ground.guard }], guard := some (17, false) }) (v := undef) rfl (by kernel_rfl) (by kernel_rfl) (by kernel_rfl) (fun _ _ _ h => h) (Or.inr ⟨by rfl, rfl⟩) (by assumption) ?_
      try simp only [Act.put, List.setIfInBounds_toArray, List.set_cons_zero, List.set_cons_succ]
      refine wpAnyH_take (i := 22) (oi := { dst := some 50, op := Op.slice 51 (Operand.tmp 49) (some (Operand.const (Value.int IntKind.i64 504))) none none, type := 51, pos := "sector.go:113", after := #[{ on := 21, ground := Ground.data }, { on := 17, ground := Ground.guard }], guard := some (17, false) }) (v := undef) rfl (by kernel_rfl) (by kernel_rfl) (by kernel_rfl) (fun _ _ _ h => h) (Or.inr ⟨by rfl, rfl⟩) (by assumption) ?_
      try simp only [Act.put, List.setIfInBounds_toArray, List.set_cons_zero, List.set_cons_succ]
      refine wpAnyH_ready (rs := [23]) (by kernel_rfl) (by simp) ?_
      refine AllReadyH.cons (o := { dst := some 51, op := Op.call { callee := Callee.value (Operand.func 129), args := #[Operand.tmp 46, Operand.tmp 48, Operand.tmp 50], argTypes := #[33, 51, 51] }, type := 4, pos := "sector.go:113", after := #[{ on := 18, ground := Ground.data }, { on := 20, ground := Ground.data }, { on := 22, ground := Ground.data }, { on := 17, ground := Ground.chain }, { on := 17, ground := Ground.guard }], guard := some (17, false) }) rfl (fun K hK => ?_) AllReadyH.nil
      rw [if_neg]; rotate_left; · exact fun h => Bool.noConfusion (show false = true from h)
      refine hK.out _ _ hHeld (fun hHeld => ?_)
      clear hK K
      try simp only [Act.put, List.setIfInBounds_toArray, List.set_cons_zero, List.set_cons_succ]
      refine wpAnyH_take (i := 24) (oi := { dst := some 52, op := Op.unOp UnOp.not 4 (Operand.tmp 51), type := 4, pos := "sector.go:113", after := #[{ on := 23, ground := Ground.data }, { on := 17, ground := Ground.guard }], guard := some (17, false) }) (v := undef) rfl (by kernel_rfl) (by kernel_rfl) (by kernel_rfl) (fun _ _ _ h => h) (Or.inr ⟨by rfl, rfl⟩) (by assumption) ?_
      try simp only [Act.put, List.setIfInBounds_toArray, List.set_cons_zero, List.set_cons_succ]
      refine wpAnyH_take (i := 25) (oi := { dst := some 53, op := Op.pick (Operand.tmp 45) (Operand.const (Value.bool true)) (Operand.tmp 52), type := 4, pos := "sector.go:113", after := #[{ on := 17, ground := Ground.data }, { on := 24, ground := Ground.data }], guard := none }) (v := ?_) rfl (by kernel_rfl) (by kernel_rfl) (by kernel_rfl) (fun _ _ _ h => h) (Or.inl ⟨by rfl, ?_⟩) (by assumption) ?_; rotate_left; · ((intro w hSw; (try dsimp only at hSw); go_simp) <;> with_reducible rfl)
      try simp only [Act.put, List.setIfInBounds_toArray, List.set_cons_zero, List.set_cons_succ]
      refine wpAnyH_done (by kernel_rfl) ?_ _
      obtain ⟨w4, hw4⟩ : ∃ w4, w4 = w3.drew := ⟨_, rfl⟩
      have bb4 : Below w3.heap.size w3 w4 := by rw [hw4]; exact bb3
      rw [← hw4]
      clear hw4
      have bw7 := bt bw3 bb4
      have B7 := B2'.on bb4
      obtain ⟨c0, c1, c2, c3, c4, fr⟩ := five5 B7
      go_wp2
      have B8 := ((((B7.set (k := 0) (.int .i64 0)).set (k := 1) (.int .u64 0)).set (k := 2) (.int .i64 0)).set (k := 3) (.int .u64 0)).set (k := 4) (.slice none 0 0)
      obtain ⟨z0, z1, z2, z3, z4, zf⟩ := five5 B8
      refine bodyPost_ret (v := .tuple #[.agg #[.int .i64 0, .int .u64 0, .int .i64 0, .int .u64 0, .slice none 0 0], .int .i64 11]) (by simp [results, Tryz.results112, go_sem, z0, z1, z2, z3, z4]) rfl ?_
      rw [hd.out]
      exact ⟨RetX.zero _ _ _, bset5 bw7 (Nat.le_refl _)⟩
end Go.Proofs.YtchcmklelmlbgaaGreat.Sec

/- The walks of sector.Encode, Same, and of the reference's Same; the laws' of, back. -/
namespace Go.Proofs.YtchcmklelmlbgaaGreat.Sec
open Go.RowKit
open Go.Proofs.YtchcmklelmlbgaaGreat.Num (putL getN)
open Go.Proofs.YtchcmklelmlbgaaGreat.Mac (padTo)
set_option linter.unusedVariables false
set_option maxRecDepth 100000
theorem below_none {w w' : World} (b : Below w.heap.size w w') : w.grownBy w' none := below_grown b none
theorem Keep.grownK {fp : List Nat} {w w1 w2 : World} {r : Option Nat} (h : Keep fp w w1) (g : w1.grownBy w2 r) (hr : ∀ k, r = some k → w.heap.size ≤ k) : Keep fp w w2 :=
  ⟨g.os.trans h.1, g.tape.trans h.2.1, g.output.trans h.2.2.1, Nat.le_trans h.size g.size, fun j hj hn => (g.block j (Nat.lt_of_lt_of_le hj h.size) (fun e => by have := hr j e.symm; omega)).trans (h.block hj hn)⟩
theorem padTo_self {l : List UInt8} {n : Nat} (h : l.length = n) : padTo l n = l := by subst h; simp [padTo]
set_option maxHeartbeats 1000000 in
theorem encode_gen (p : Int) (g : Nat) (x : X) (A : Option Addr) (c : Nat) (w : World) (hr : Rd w w.heap.size A (x.body.map e8)) (h : rightF p x = 0) (s : List UInt8) (hs : s.length = 8) (fp : List Nat) (hfp : ∀ j ∈ fp, j < w.heap.size) (Q : World → Prop)
    (hQ : ∀ W W' r, Q W → W.grownBy W' r → (∀ k, r = some k → w.heap.size ≤ k) → Q W')
    (HS : ∀ W, Below w.heap.size w W → ∀ A1 c1, Rd W W.heap.size A1 ((text p x).map e8) → (∀ a, A1 = some a → w.heap.size ≤ a.block) → Calls Tryz.prog 124 #[.pointer (some ⟨g, 0, none⟩), .slice A1 504 c1] W fun e W' => ∃ A2 c2, e = .returned (.slice A2 8 c2) ∧ Rd W' W'.heap.size A2 (s.map e8) ∧ Keep fp W W' ∧ Q W') :
    Calls Tryz.prog 105 #[.pointer (some ⟨g, 0, none⟩), .int .i64 p, .agg #[.int .i64 x.kind, .int .u64 (x.life.toNat : Int), .int .i64 x.seq, .int .u64 (x.gen.toNat : Int), .slice A x.body.length c]] w fun e w' =>
      ∃ A' c', e = .returned (.tuple #[.slice A' 512 c', .int .i64 0]) ∧ w'.ownsRow w.heap.size 5 1 (.slice A' 512 c') 512 ((text p x ++ s).map e8) ∧ Keep fp w w' ∧ Q w' := by
  obtain ⟨i0', hi0, hz0, hz1, hz2⟩ := info_parts info8
  have hW := fun W (bW : Below w.heap.size w W) => written_any p x A c W (hr.on bW) h
  obtain ⟨f, hf⟩ : ∃ f, f = rightF p x := ⟨_, rfl⟩
  rw [← hf] at h
  have hf1 := bne_no h
  have Hf := Lib.hid hf
  obtain ⟨T, hT⟩ : ∃ T, T = text p x := ⟨_, rfl⟩
  have hTl : T.length = 504 := by rw [hT, text_len]
  rw [← hT] at hW HS ⊢
  have HTl := Lib.hid hTl
  have HW := Lib.hid hW
  have Hs := Lib.hid hs
  have hp8 := fun A1 n d1 W hn h => Mac.npad_any A1 s n d1 8 8 (by rfl) W hn (by omega) (by omega) h
  rw [padTo_self hs] at hp8
  have Hp := Lib.hid hp8
  clear hf hT hTl hW hs hp8 hr
  go_enter Tryz.func105, Tryz.ntmps105
  go_wp2_with fail
  refine (none_any _ _).mono ?_
  rintro e w1 ⟨rfl, rfl⟩
  have B0 := Blk.new w [.int .i64 x.kind, .int .u64 (x.life.toNat : Int), .int .i64 x.seq, .int .u64 (x.gen.toNat : Int), .slice A x.body.length c] 157
  go_wp2_with fail
  refine (right_any p x A c _).mono ?_
  rintro e w2 ⟨rfl, b2⟩
  rw [← Hf.out]
  have bw2 := bt (b1alloc w _) b2
  obtain ⟨c0, c1, c2, c3, c4, fr⟩ := five5 (B0.on b2)
  go_wp2_with fail
  refine (HW.out _ bw2).mono ?_
  rintro e w3 ⟨A3, d3, rfl, own3, b3⟩
  rw [HTl.out]
  have bw3 := bt bw2 b3
  clear c0 c1 c2 c3 c4 fr B0
  go_wp2_with fail
  refine (HS _ bw3 A3 d3 (Rd.own own3) (fun a ha => by subst ha; have h1 := own_block own3 (k := a.block) rfl; have h2 := bw2.size; omega)).mono ?_
  rintro e w4 ⟨A4, d4, rfl, rd4, k4, q4⟩
  have own4 := own_keep own3 k4 (fun k hk e => by have := own_block own3 hk; have := hfp k e; have := bw2.size; omega)
  have kw4 : Keep fp w w4 := (Keep.of_below bw3 fp).trans k4 (Fresh.refl _ _)
  go_wp2_with fail
  refine (Hp.out A4 8 d4 w4 Hs.out.symm rd4).mono ?_
  rintro e w5 ⟨A5, d5, rfl, own5, b5⟩
  rw [Hs.out]
  have own6 := own_on own4 b5
  have rd5 := Rd.own own5
  have kw5 : Keep fp w w5 := kw4.trans (Keep.of_below b5 fp) (Fresh.refl _ _)
  have q5 := hQ _ _ none q4 (below_none b5) (fun k hk => by cases hk)
  have hs25 : w2.heap.size ≤ w5.heap.size := Nat.le_trans b3.size (Nat.le_trans k4.size b5.size)
  have hbase : w.heap.size ≤ w2.heap.size := bw2.size
  rw [HTl.out] at own6
  go_wp2_with ((with_reducible show wpList _ _ _ (⟨some 26, _, _, _, _, _⟩ :: _) _ _); refine wpList_append_rd _ rfl (.tmp 21) (.tmp 25) _ rfl w2.heap.size 5 i0' _ 1 1 Tryz.underlying51 hi0 hz0 hz1 hz2 rfl (by omega) _ 504 (T.map e8) rfl own6 _ A5 8 d5 (s.map e8) rfl (by rw [List.length_map, Hs.out]) rd5 (e8_one _) (by simp only [maxLen]; omega) (by omega) hs25 ?_; intro v6 w6 own7 hg6 hat6)
  obtain ⟨A6, d6, rfl⟩ := own_form own7
  go_ret2
  refine ⟨A6, d6, rfl, ?_, Keep.grownK kw5 hg6 (fun k hk => by have := own_block own6 hk; omega), hQ _ _ _ q5 hg6 (fun k hk => by have := own_block own6 hk; omega)⟩
  rw [List.map_append]; exact own_base own7 hbase
end Go.Proofs.YtchcmklelmlbgaaGreat.Sec

/- Encode and Decode by real sums; the example of the layer sector's laws. -/
namespace Go.Proofs.YtchcmklelmlbgaaGreat.Sec
open Go.RowKit
open Go.Proofs.YtchcmklelmlbgaaGreat.Num (putL getN)
set_option linter.unusedVariables false
set_option maxRecDepth 100000
end Go.Proofs.YtchcmklelmlbgaaGreat.Sec

/- What was summed: a map of texts to their numbers, as a list of texts in their order. -/
namespace Go.Proofs.YtchcmklelmlbgaaGreat.Sec
open Go.RowKit
open Go.Proofs.YtchcmklelmlbgaaGreat.Num (putL getN)
set_option linter.unusedVariables false
set_option maxRecDepth 100000
/-- block b is a map in which each text of l has its place in l -/
def SumsAt (w : World) (b : Nat) (l : List (List UInt8)) : Prop := ∃ (n : Nat) (D : DataW Unit), w.ownsMap Tryz.prog 9 (plainElem Tryz.prog 3) b n D ∧ n ≤ l.length ∧ Maps.size D = l.length ∧ (∀ s, Maps.has D (.string s) = decide (s ∈ l)) ∧
  ∀ s, s ∈ l → D.atKey (.string s) (.lit (.int .i64 0)) = .lit (.int .i64 (l.idxOf s : Int))
theorem keyed : Maps.Keyed Tryz.prog 9 := Maps.string_keyed Tryz.underlying9
theorem key_of {l : List UInt8} (h : l.length ≤ 1000000) : keyOf Tryz.prog 9 (.string ⟨l.toArray⟩) = some (.string l) := by
  have := Go.WideMaps.keyOf_string_mk (P := Tryz.prog) Tryz.underlying9 (s := ⟨l.toArray⟩) (by simp [ByteArray.size, maxLen]; omega)
  simpa using this
theorem keyLit (s : List UInt8) : WideAt.IsKeyLit (.string s) := by simp [WideAt.IsKeyLit]
theorem zeroInt (w : World) : (zeroValue 3).run Tryz.prog w = .ok (.int .i64 0) w := by kernel_rfl
theorem SumsAt.made (w : World) : SumsAt (w.alloc (.map #[] 0)) w.heap.size [] :=
  ⟨0, _, World.ownsMap_made w _ _ _, Nat.le_refl _, rfl, fun s => by simp [Maps.has], fun s hs => by cases hs⟩
theorem SumsAt.lt {w : World} {b : Nat} {l : List (List UInt8)} (h : SumsAt w b l) : b < w.heap.size := by obtain ⟨n, D, h, _⟩ := h; exact h.lt
theorem SumsAt.kept {w w' : World} {b : Nat} {l : List (List UInt8)} {r : Option Nat} (h : SumsAt w b l) (g : w.grownBy w' r) (hne : some b ≠ r) : SumsAt w' b l := by
  obtain ⟨n, D, h, h2⟩ := h; exact ⟨n, D, h.kept g hne, h2⟩
theorem SumsAt.on {w w' : World} {b : Nat} {l : List (List UInt8)} (h : SumsAt w b l) (k : Below w.heap.size w w') : SumsAt w' b l := h.kept (below_grown k none) (by simp)
theorem SumsAt.look {w : World} {b : Nat} {l : List (List UInt8)} (h : SumsAt w b l) (T : List UInt8) (hT : T.length ≤ 1000000) :
    ∃ c : Int, (Instr.lookup 81 (.map (some b)) (.string ⟨T.toArray⟩) true).run Tryz.prog w = .ok (.tuple #[.int .i64 c, .bool (decide (T ∈ l))]) w ∧ (T ∈ l → c = (l.idxOf T : Int)) := by
  obtain ⟨n, D, h, hn, hs, hh, ha⟩ := h
  obtain ⟨v, ps, hrun, hv⟩ := h.look_ok keyed Tryz.underlying81 (zeroInt w) (plainElem_int Tryz.underlying3 (by decide)) (key_of hT)
  obtain ⟨c, rfl, hc, _⟩ := plainElem_int_inv Tryz.underlying3 hv
  rw [hh] at hrun
  refine ⟨c, hrun, fun hm => ?_⟩
  simp only [Prod.mk.injEq] at hc
  have h2 := hc.1
  rw [ha T hm] at h2
  injection h2 with h2
  injection h2 with h2 h3
  exact h3.symm
theorem SumsAt.len {w : World} {b : Nat} {l : List (List UInt8)} (h : SumsAt w b l) (ty : TypeId) : (Builtin.len_ #[81] ty #[.map (some b)]).run Tryz.prog w = .ok (.int .i64 (l.length : Int)) w := by
  obtain ⟨n, D, h, hn, hs, hh, ha⟩ := h
  rw [← hs]
  exact h.len Tryz.underlying81 ty
theorem SumsAt.put {w : World} {b : Nat} {l : List (List UInt8)} (h : SumsAt w b l) (T : List UInt8) (hT : T.length ≤ 1000000) (hn : T ∉ l) (hl : l.length ≤ 1000000) :
    ∃ w', (Instr.mapUpdate 81 (.map (some b)) (.string ⟨T.toArray⟩) (.int .i64 (l.length : Int))).run Tryz.prog w = .ok () w' ∧ SumsAt w' b (l ++ [T]) ∧ w.grownBy w' (some b) := by
  obtain ⟨n, D, h, hnl, hs, hh, ha⟩ := h
  obtain ⟨w', hrun, hown, hg⟩ := h.update keyed Tryz.underlying81 (by unfold maxLen; omega) (key_of hT) (plainElem_int Tryz.underlying3 (a := (l.length : Int)) (by simp [Lit.wf, IntKind.min, IntKind.max, IntKind.signed, IntKind.bits]; omega))
  have hm := h.isMap
  have ht := h.tidy keyed
  refine ⟨w', hrun, ⟨n + 1, _, hown, by simp; omega, ?_, ?_, ?_⟩, hg⟩
  · rw [Maps.size_put ht, hh, hs]; simp [hn]
  · intro s
    by_cases e : s = T
    · subst e; rw [Maps.has_put_same hm (keyLit _)]; simp
    · rw [Maps.has_put_other (by intro e2; injection e2 with e2; exact e e2), hh]; simp [e]
  · intro s hsm
    by_cases e : s = T
    · subst e; rw [Maps.atKey_put_same hm (keyLit _), List.idxOf_append, if_neg hn]; simp
    · have hsl : s ∈ l := by rcases List.mem_append.1 hsm with h1 | h1; exact h1; exact absurd (List.mem_singleton.1 h1) e
      rw [Maps.atKey_put_other (by intro e2; injection e2 with e2; exact e e2), ha s hsl, List.idxOf_append, if_pos hsl]
end Go.Proofs.YtchcmklelmlbgaaGreat.Sec

/- The suite of terms: Symbolic, none, real, mark. -/
namespace Go.Proofs.YtchcmklelmlbgaaGreat.Sec
open Go.RowKit
open Go.Proofs.YtchcmklelmlbgaaGreat.Num (putL getN)
set_option linter.unusedVariables false
set_option maxRecDepth 100000
theorem info8' : (Tryz.prog.info? 5).map (fun i => (i.zero, i.size, i.bytes)) = some (some (.int .u8 0), 1, 1) := by kernel_rfl
/-- a suite of terms lies at block g, its sums in block b -/
def SymAt (w : World) (g b : Nat) (l : List (List UInt8)) : Prop := (∃ k, w.heap[g]? = some (.cells #[.pointer (some ⟨k, 0, none⟩), .map (some b), .pointer none] 86 (0, 0))) ∧ SumsAt w b l
theorem SymAt.ne {w : World} {g b : Nat} {l : List (List UInt8)} (h : SymAt w g b l) : g ≠ b := by
  obtain ⟨⟨k, h⟩, n, D, ⟨es, cl, h2, _⟩, _⟩ := h
  rintro rfl
  rw [h] at h2; cases h2
theorem SymAt.lt {w : World} {g b : Nat} {l : List (List UInt8)} (h : SymAt w g b l) : g < w.heap.size ∧ b < w.heap.size := ⟨h.1.elim fun _ h => lt_of_block h, h.2.lt⟩
theorem SymAt.grown {w w' : World} {g b : Nat} {l : List (List UInt8)} {r : Option Nat} (h : SymAt w g b l) (k : w.grownBy w' r) (h1 : some g ≠ r) (h2 : some b ≠ r) : SymAt w' g b l :=
  ⟨h.1.elim fun q hq => ⟨q, (k.block g (lt_of_block hq) h1).trans hq⟩, h.2.kept k h2⟩
theorem SymAt.on {w w' : World} {g b : Nat} {l : List (List UInt8)} (h : SymAt w g b l) (k : Below w.heap.size w w') : SymAt w' g b l := h.grown (below_grown k none) (by simp) (by simp)
theorem termNew_any (w : World) : Calls Tryz.prog 35 #[] w fun e w' => ∃ k, e = .returned (.pointer (some ⟨k, 0, none⟩)) ∧ Below w.heap.size w w' := by
  have hmm := @run_makeMap Tryz.prog
  go_enter Tryz.func35, Tryz.ntmps35
  go_wp2
  go_ret
  exact ⟨_, rfl, b2alloc _ _ _⟩
theorem symbolic_any (w : World) : Calls Tryz.prog 13 #[] w fun e w' => ∃ g b, e = .returned (.pointer (some ⟨g, 0, none⟩)) ∧ SymAt w' g b [] ∧ w.heap.size ≤ g ∧ w.heap.size ≤ b ∧ Below w.heap.size w w' := by
  have hmm := @run_makeMap Tryz.prog
  go_enter Tryz.func13, Tryz.ntmps13
  go_wp2_with (go_at_call 35; refine (termNew_any _).mono ?_; rintro e w' ⟨k, rfl, b1⟩)
  go_ret
  have hn := heap_alloc_new (w'.alloc (.map #[] 0)) (.cells #[.pointer (some ⟨k, 0, none⟩), .map (some w'.heap.size), .pointer none] 86)
  rw [show (w'.alloc (.map #[] 0)).heap.size = w'.heap.size + 1 by simp] at hn
  have hs := b1.size
  exact ⟨_, _, rfl, ⟨⟨k, hn⟩, (SumsAt.made w').on (b1alloc _ _)⟩, by omega, hs, bt b1 (b2alloc _ _ _)⟩
theorem sNone_sym (w : World) (g b : Nat) (l : List (List UInt8)) (h : SymAt w g b l) : Calls Tryz.prog 132 #[.pointer (some ⟨g, 0, none⟩)] w fun e w' => e = .returned (.bool false) ∧ w = w' := by
  obtain ⟨⟨k, h⟩, _⟩ := h
  obtain ⟨c0, c1, c2⟩ := three h
  go_enter Tryz.func132, Tryz.ntmps132
  go_wp2
  go_ret
  exact ⟨rfl, rfl⟩
theorem sReal_sym (w : World) (g b : Nat) (l : List (List UInt8)) (h : SymAt w g b l) : Calls Tryz.prog 133 #[.pointer (some ⟨g, 0, none⟩)] w fun e w' => e = .returned (.bool false) ∧ w = w' := by
  obtain ⟨⟨k, h⟩, _⟩ := h
  obtain ⟨c0, c1, c2⟩ := three h
  go_enter Tryz.func133, Tryz.ntmps133
  go_wp2
  go_ret
  exact ⟨rfl, rfl⟩
/-- the sum that has a number -/
def mark (n : Nat) : List UInt8 := [255, 253] ++ putL n 6
theorem mark_len (n : Nat) : (mark n).length = 8 := by simp [mark, Num.putL_len]
set_option maxHeartbeats 400000 in
theorem mark_any (n : Nat) (w : World) (hn : n ≤ 1000000) : Calls Tryz.prog 135 #[.int .i64 (n : Int)] w (RetB 5 w (mark n)) := by
  obtain ⟨i0', hi0, hz0, hz1, hz2⟩ := info_parts info8'
  obtain ⟨u, hu⟩ := to64 (n : Int) (by omega) (by omega)
  have Hu := Lib.hid hu
  have hu2 : u.toNat = n := by omega
  have Hp := Lib.hid (fun W => Num.put_any u (n : Int) hu 6 6 (by rfl) (by omega) (by omega) W)
  have Hu2 := Lib.hid hu2
  clear hu hu2
  have hcv := Lib.run_convert_bytes_const (P := Tryz.prog) w 51 5 #[.int .u8 255, .int .u8 253] 2 2 Tryz.underlying51 Tryz.underlying5
  have b0 := b1alloc w (.cells #[.int .u8 255, .int .u8 253] 5 (2, 3))
  have hq0 : (w.alloc (.cells #[.int .u8 255, .int .u8 253] 5 (2, 3))).heap[w.heap.size]? = some (.cells #[.int .u8 255, .int .u8 253] 5 (2, 3)) := heap_alloc_new w _
  go_enter Tryz.func135, Tryz.ntmps135
  go_wp2_with fail
  refine (Hp.out _).mono ?_
  rintro e w1 ⟨A1, c1, rfl, own1, b1⟩
  have bw1 := bt b0 b1
  have hq1 := (b1.block _ (lt_of_block hq0)).trans hq0
  have rd1 := Rd.own own1
  have hl : (putL u.toNat 6).length = 6 := Num.putL_len _ _
  rw [hl] at own1 ⊢
  obtain ⟨b', off', rfl, _, hcs⟩ := rd1 (by intro e; have := congrArg List.length e; rw [List.length_map, hl] at this; cases this)
  have hc2 : ∀ (j : Nat) v, ((putL u.toNat 6).map e8)[j]? = some v → w1.cell? ((⟨b', off', none⟩ : Addr).add j) = some v := fun j v hv => by
    obtain ⟨hj, rfl⟩ := List.getElem?_eq_some_iff.1 hv
    rw [Addr.add_lit]; exact hcs j hj
  have ho : ∀ (bb : Addr), (some ⟨w.heap.size, 0, none⟩ : Option Addr) = some bb → ∀ (j : Nat) v, ([.int .u8 255, .int .u8 253] : List Value)[j]? = some v → w1.cell? (bb.add j) = some v := fun bb hb j v hv => by
    injection hb with hb
    subst hb
    rw [Addr.add_lit, Nat.zero_add]
    unfold World.cell?
    rw [hq1]
    match j, hv with
    | 0, hv => simpa using hv
    | 1, hv => simpa using hv
  go_wp2_with ((with_reducible show wpList _ _ _ (⟨some 8, _, _, _, _, _⟩ :: _) _ _); refine wpList_append_grows w1 rfl (.tmp 4) (.tmp 7) _ rfl 5 i0' _ 1 1 Tryz.underlying51 hi0 hz0 hz1 hz2 rfl (by omega) (some ⟨w.heap.size, 0, none⟩) 2 2 [.int .u8 255, .int .u8 253] rfl (fun e => by cases e) rfl ho ⟨b', off', none⟩ 6 c1 ((putL u.toNat 6).map e8) rfl (by rw [List.length_map, hl]) hc2 (e8_one _) (by omega) (by simp only [maxLen]; omega) (by omega) ?_; intro v2 w2 own2 hg2)
  go_ret
  exact RetB.mk (own_base own2 bw1.size) (by rw [mark, List.map_append, Hu2.out]; rfl) (bw1.grown hg2 bw1.size (fun z hz => by cases hz))
end Go.Proofs.YtchcmklelmlbgaaGreat.Sec

/- The suite of terms: Sum, Check. -/
namespace Go.Proofs.YtchcmklelmlbgaaGreat.Sec
open Go.RowKit
open Go.Proofs.YtchcmklelmlbgaaGreat.Num (putL getN)
set_option linter.unusedVariables false
set_option maxRecDepth 100000
/-- the sum of a text by those that were summed, and those behind it -/
def sumOf (l : List (List UInt8)) (T : List UInt8) : List UInt8 := mark (if T ∈ l then l.idxOf T else l.length)
def sumAfter (l : List (List UInt8)) (T : List UInt8) : List (List UInt8) := if T ∈ l then l else l ++ [T]
def checkOf (l : List (List UInt8)) (T s : List UInt8) : Bool := decide (T ∈ l) && R1.sameB (mark (l.idxOf T)) s
theorem rd_grown {w w' : World} {A : Option Addr} {xs : List Value} {r : Option Nat} (h : Rd w w.heap.size A xs) (g : w.grownBy w' r) (hb : ∀ a, A = some a → r ≠ some a.block) : Rd w' w'.heap.size A xs := by
  intro hne
  obtain ⟨b, off, rfl, hl, hc⟩ := h hne
  exact ⟨b, off, rfl, Nat.lt_of_lt_of_le hl g.size, fun i hi => (World.cell?_of_block (g.block b hl (fun e => hb _ rfl e.symm))).trans (hc i hi)⟩
set_option maxHeartbeats 1000000 in
theorem sum_sym (w : World) (g b : Nat) (l : List (List UInt8)) (h : SymAt w g b l) (A : Option Addr) (T : List UInt8) (n c : Nat) (hn : n = T.length) (hr : Rd w w.heap.size A (T.map e8)) (hAb : ∀ a, A = some a → some b ≠ some a.block) (hT : T.length ≤ 1000000) (hl : l.length ≤ 1000000) :
    Calls Tryz.prog 124 #[.pointer (some ⟨g, 0, none⟩), .slice A n c] w fun e w' => ∃ A2 c2, e = .returned (.slice A2 8 c2) ∧ w'.ownsRow w.heap.size 5 1 (.slice A2 8 c2) 8 ((sumOf l T).map e8) ∧ Keep [b] w w' ∧ SymAt w' g b (sumAfter l T) := by
  subst hn
  have hgb := h.ne
  have hblt := h.lt.2
  have hN := Lib.hid (sNone_sym w g b l h)
  have hRe := Lib.hid (sReal_sym w g b l h)
  obtain ⟨⟨k, hblk⟩, hsums⟩ := h
  obtain ⟨c0, c1, c2⟩ := three hblk
  have hcv := run_conv_rd (P := Tryz.prog) 51 9 5 T.length c rfl Tryz.underlying51 Tryz.underlying5 Tryz.underlying9 (hr.on ((Below.refl w.heap.size w).drew))
  obtain ⟨v, hlk, hv⟩ := (hsums.on ((Below.refl w.heap.size w).drew)).look T hT
  by_cases hm : T ∈ l
  · have hvv := hv hm
    have hd := decide_eq_true hm
    rw [hd, hvv] at hlk
    have hso := Lib.hid (show sumOf l T = mark (l.idxOf T) by unfold sumOf; rw [if_pos hm])
    have hsa := Lib.hid (show sumAfter l T = l by unfold sumAfter; rw [if_pos hm])
    have hil : l.idxOf T ≤ 1000000 := Nat.le_trans List.idxOf_le_length hl
    have hM := Lib.hid (mark_any (l.idxOf T) w.drew hil)
    have HS := Lib.hid (show SymAt w.drew g b l from ⟨⟨k, hblk⟩, hsums.on ((Below.refl w.heap.size w).drew)⟩)
    clear hd hv hvv hm hsums hr
    obtain ⟨q, hq⟩ : ∃ q, q = l.idxOf T := ⟨_, rfl⟩
    rw [← hq] at hlk hso hM hil
    clear hq
    go_enter Tryz.func124, Tryz.ntmps124
    go_wp2_with fail
    refine hN.out.mono ?_
    rintro e w1 ⟨rfl, rfl⟩
    go_wp2_with fail
    refine hRe.out.mono ?_
    rintro e w1 ⟨rfl, rfl⟩
    go_wp2_with fail
    refine wp_region_held_drew (S := (fun w' => w'.cell? ⟨g, 1, none⟩ = some (.map (some b)) ∧ (convert 51 9 (.slice A T.length c)).run Tryz.prog w' = .ok (.string ⟨T.toArray⟩) w' ∧ (Instr.lookup 81 (.map (some b)) (.string ⟨T.toArray⟩) true).run Tryz.prog w' = .ok (.tuple #[.int .i64 (q : Int), .bool true]) w')) (by kernel_rfl) (by exact ⟨c1, hcv, hlk⟩) (fun hHeld => ?_)
    refine wpAnyH_take (i := 0) (oi := { dst := some 16, op := Op.move (Operand.tmp 0), type := 33, pos := "suite.go:197", after := #[], guard := none }) (v := ?_) rfl (by kernel_rfl) (by kernel_rfl) (by kernel_rfl) (fun _ _ _ h => h) (Or.inl ⟨by rfl, ?_⟩) (by assumption) ?_; rotate_left; · ((intro w hSw; (try dsimp only at hSw); go_simp) <;> with_reducible rfl)
    try simp only [Act.put, List.setIfInBounds_toArray, List.set_cons_zero, List.set_cons_succ]
    refine wpAnyH_take (i := 1) (oi := { dst := some 17, op := Op.nilCheck (Operand.tmp 16), type := 0, pos := "suite.go:197", after := #[{ on := 0, ground := Ground.data }], guard := none }) (v := ?_) rfl (by kernel_rfl) (by kernel_rfl) (by kernel_rfl) (fun _ _ _ h => h) (Or.inl ⟨by rfl, ?_⟩) (by assumption) ?_; rotate_left; · ((intro w hSw; (try dsimp only at hSw); go_simp) <;> with_reducible rfl)
    try simp only [Act.put, List.setIfInBounds_toArray, List.set_cons_zero, List.set_cons_succ]
    refine wpAnyH_take (i := 2) (oi := { dst := some 18, op := Op.fieldAddr 86 (Operand.tmp 17) 0, type := 0, pos := "suite.go:197", after := #[{ on := 1, ground := Ground.data }], guard := none }) (v := ?_) rfl (by kernel_rfl) (by kernel_rfl) (by kernel_rfl) (fun _ _ _ h => h) (Or.inl ⟨by rfl, ?_⟩) (by assumption) ?_; rotate_left; · ((intro w hSw; (try dsimp only at hSw); go_simp) <;> with_reducible rfl)
    try simp only [Act.put, List.setIfInBounds_toArray, List.set_cons_zero, List.set_cons_succ]
    refine wpAnyH_take (i := 3) (oi := { dst := some 19, op := Op.fieldAddr 83 (Operand.tmp 18) 1, type := 0, pos := "suite.go:197", after := #[{ on := 2, ground := Ground.data }], guard := none }) (v := ?_) rfl (by kernel_rfl) (by kernel_rfl) (by kernel_rfl) (fun _ _ _ h => h) (Or.inl ⟨by rfl, ?_⟩) (by assumption) ?_; rotate_left; · ((intro w hSw; (try dsimp only at hSw); go_simp) <;> with_reducible rfl)
    try simp only [Act.put, List.setIfInBounds_toArray, List.set_cons_zero, List.set_cons_succ]
    refine wpAnyH_take (i := 4) (oi := { dst := some 20, op := Op.load 81 (Operand.tmp 19), type := 81, pos := "suite.go:197", after := #[{ on := 3, ground := Ground.data }], guard := none }) (v := ?_) rfl (by kernel_rfl) (by kernel_rfl) (by kernel_rfl) (fun _ _ _ h => h) (Or.inl ⟨by rfl, ?_⟩) (by assumption) ?_; rotate_left; · ((intro w hSw; (try dsimp only at hSw); go_simp) <;> with_reducible rfl)
    try simp only [Act.put, List.setIfInBounds_toArray, List.set_cons_zero, List.set_cons_succ]
    refine wpAnyH_take (i := 5) (oi := { dst := some 21, op := Op.move (Operand.tmp 1), type := 51, pos := "suite.go:197", after := #[], guard := none }) (v := ?_) rfl (by kernel_rfl) (by kernel_rfl) (by kernel_rfl) (fun _ _ _ h => h) (Or.inl ⟨by rfl, ?_⟩) (by assumption) ?_; rotate_left; · ((intro w hSw; (try dsimp only at hSw); go_simp) <;> with_reducible rfl)
    try simp only [Act.put, List.setIfInBounds_toArray, List.set_cons_zero, List.set_cons_succ]
    refine wpAnyH_take (i := 6) (oi := { dst := some 22, op := Op.convert 51 9 (Operand.tmp 21), type := 9, pos := "suite.go:197", after := #[{ on := 5, ground := Ground.data }], guard := none }) (v := ?_) rfl (by kernel_rfl) (by kernel_rfl) (by kernel_rfl) (fun _ _ _ h => h) (Or.inl ⟨by rfl, ?_⟩) (by assumption) ?_; rotate_left; · ((intro w hSw; (try dsimp only at hSw); go_simp) <;> with_reducible rfl)
    try simp only [Act.put, List.setIfInBounds_toArray, List.set_cons_zero, List.set_cons_succ]
    refine wpAnyH_take (i := 7) (oi := { dst := some 23, op := Op.lookup 81 (Operand.tmp 20) (Operand.tmp 22) true, type := 202, pos := "suite.go:197", after := #[{ on := 4, ground := Ground.data }, { on := 6, ground := Ground.data }], guard := none }) (v := ?_) rfl (by kernel_rfl) (by kernel_rfl) (by kernel_rfl) (fun _ _ _ h => h) (Or.inl ⟨by rfl, ?_⟩) (by assumption) ?_; rotate_left; · ((intro w hSw; (try dsimp only at hSw); go_simp) <;> with_reducible rfl)
    try simp only [Act.put, List.setIfInBounds_toArray, List.set_cons_zero, List.set_cons_succ]
    refine wpAnyH_take (i := 8) (oi := { dst := some 15, op := Op.move (Operand.tmp 23), type := 202, pos := "suite.go:197", after := #[{ on := 7, ground := Ground.data }], guard := none }) (v := ?_) rfl (by kernel_rfl) (by kernel_rfl) (by kernel_rfl) (fun _ _ _ h => h) (Or.inl ⟨by rfl, ?_⟩) (by assumption) ?_; rotate_left; · ((intro w hSw; (try dsimp only at hSw); go_simp) <;> with_reducible rfl)
    try simp only [Act.put, List.setIfInBounds_toArray, List.set_cons_zero, List.set_cons_succ]
    refine wpAnyH_take (i := 9) (oi := { dst := some 24, op := Op.extract (Operand.tmp 15) 0, type := 3, pos := "suite.go:197", after := #[{ on := 8, ground := Ground.data }], guard := none }) (v := ?_) rfl (by kernel_rfl) (by kernel_rfl) (by kernel_rfl) (fun _ _ _ h => h) (Or.inl ⟨by rfl, ?_⟩) (by assumption) ?_; rotate_left; · ((intro w hSw; (try dsimp only at hSw); go_simp) <;> with_reducible rfl)
    try simp only [Act.put, List.setIfInBounds_toArray, List.set_cons_zero, List.set_cons_succ]
    refine wpAnyH_take (i := 10) (oi := { dst := some 25, op := Op.extract (Operand.tmp 15) 1, type := 4, pos := "suite.go:197", after := #[{ on := 8, ground := Ground.data }, { on := 11, ground := Ground.gcOnly Go.Departure.lateStores }], guard := none }) (v := ?_) rfl (by kernel_rfl) (by kernel_rfl) (by kernel_rfl) (fun _ _ _ h => h) (Or.inl ⟨by rfl, ?_⟩) (by assumption) ?_; rotate_left; · ((intro w hSw; (try dsimp only at hSw); go_simp) <;> with_reducible rfl)
    try simp only [Act.put, List.setIfInBounds_toArray, List.set_cons_zero, List.set_cons_succ]
    refine wpAnyH_take (i := 11) (oi := { dst := some 5, op := Op.assign (Operand.tmp 24), type := 3, pos := "suite.go:197", after := #[{ on := 9, ground := Ground.data }, { on := 0, ground := Ground.phase }, { on := 1, ground := Ground.phase }, { on := 2, ground := Ground.phase }, { on := 3, ground := Ground.phase }, { on := 4, ground := Ground.phase }, { on := 5, ground := Ground.phase }, { on := 6, ground := Ground.phase }, { on := 7, ground := Ground.phase }, { on := 8, ground := Ground.phase }, { on := 9, ground := Ground.phase }, { on := 10, ground := Ground.textOnly Go.Departure.lateStores }], guard := none }) (v := ?_) rfl (by kernel_rfl) (by kernel_rfl) (by kernel_rfl) (fun _ _ _ h => h) (Or.inl ⟨by rfl, ?_⟩) (by assumption) ?_; rotate_left; · ((intro w hSw; (try dsimp only at hSw); go_simp) <;> with_reducible rfl)
    try simp only [Act.put, List.setIfInBounds_toArray, List.set_cons_zero, List.set_cons_succ]
    refine wpAnyH_take (i := 12) (oi := { dst := some 6, op := Op.assign (Operand.tmp 25), type := 4, pos := "suite.go:197", after := #[{ on := 10, ground := Ground.data }, { on := 11, ground := Ground.chain }, { on := 0, ground := Ground.phase }, { on := 1, ground := Ground.phase }, { on := 2, ground := Ground.phase }, { on := 3, ground := Ground.phase }, { on := 4, ground := Ground.phase }, { on := 5, ground := Ground.phase }, { on := 6, ground := Ground.phase }, { on := 7, ground := Ground.phase }, { on := 8, ground := Ground.phase }, { on := 9, ground := Ground.phase }, { on := 10, ground := Ground.phase }, { on := 11, ground := Ground.phase }], guard := none }) (v := ?_) rfl (by kernel_rfl) (by kernel_rfl) (by kernel_rfl) (fun _ _ _ h => h) (Or.inl ⟨by rfl, ?_⟩) (by assumption) ?_; rotate_left; · ((intro w hSw; (try dsimp only at hSw); go_simp) <;> with_reducible rfl)
    try simp only [Act.put, List.setIfInBounds_toArray, List.set_cons_zero, List.set_cons_succ]
    refine wpAnyH_done (by kernel_rfl) ?_ _
    go_wp2_with fail
    refine hM.out.mono ?_
    rintro e w2 ⟨A2, d2, rfl, own2, b2⟩
    rw [mark_len]
    rw [mark_len] at own2
    go_wp2
    go_ret
    rw [hso.out, hsa.out]
    exact ⟨A2, d2, rfl, own2, (Keep.of_below b2 [b]), HS.out.on b2⟩
  · have hd : decide (T ∈ l) = false := decide_eq_false hm
    rw [hd] at hlk
    have hso := Lib.hid (show sumOf l T = mark l.length by unfold sumOf; rw [if_neg hm])
    have hsa := Lib.hid (show sumAfter l T = l ++ [T] by unfold sumAfter; rw [if_neg hm])
    have hdd : Below w.heap.size w w.drew.drew := ((Below.refl w.heap.size w).drew).drew
    have hlen := fun ty => (hsums.on ((Below.refl w.heap.size w).drew)).len ty
    obtain ⟨w3, hup, hs3, hg3⟩ := (hsums.on hdd).put T hT hm hl
    have hg3' : w.grownBy w3 (some b) := ⟨hg3.os, hg3.tape, hg3.output, hg3.size, hg3.block⟩
    have hcv2 := run_conv_rd (P := Tryz.prog) 51 9 5 T.length c rfl Tryz.underlying51 Tryz.underlying5 Tryz.underlying9 (hr.on hdd)
    have hcv3 := run_conv_rd (P := Tryz.prog) 51 9 5 T.length c rfl Tryz.underlying51 Tryz.underlying5 Tryz.underlying9 (rd_grown hr hg3' hAb)
    have hblk3 := (hg3'.block g (lt_of_block hblk) (fun e => hgb (by injection e))).trans hblk
    obtain ⟨e0, e1, e2⟩ := three hblk3
    have hM := Lib.hid (mark_any l.length w3 hl)
    have HS := Lib.hid (show SymAt w3 g b (l ++ [T]) from ⟨⟨k, hblk3⟩, hs3⟩)
    have hG := Lib.hid hg3'
    clear hd hv hm hsums hr hs3 hblk3 hg3 hg3' hdd
    obtain ⟨m, hm⟩ : ∃ q, q = l.length := ⟨_, rfl⟩
    rw [← hm] at hso hM hl hup
    simp only [← hm] at hlen
    clear hm
    go_enter Tryz.func124, Tryz.ntmps124
    go_wp2_with fail
    refine hN.out.mono ?_
    rintro e w1 ⟨rfl, rfl⟩
    go_wp2_with fail
    refine hRe.out.mono ?_
    rintro e w1 ⟨rfl, rfl⟩
    go_wp2_with fail
    refine wp_region_held_drew (S := (fun w' => w'.cell? ⟨g, 1, none⟩ = some (.map (some b)) ∧ (convert 51 9 (.slice A T.length c)).run Tryz.prog w' = .ok (.string ⟨T.toArray⟩) w' ∧ (Instr.lookup 81 (.map (some b)) (.string ⟨T.toArray⟩) true).run Tryz.prog w' = .ok (.tuple #[.int .i64 v, .bool false]) w')) (by kernel_rfl) (by exact ⟨c1, hcv, hlk⟩) (fun hHeld => ?_)
    refine wpAnyH_take (i := 0) (oi := { dst := some 16, op := Op.move (Operand.tmp 0), type := 33, pos := "suite.go:197", after := #[], guard := none }) (v := ?_) rfl (by kernel_rfl) (by kernel_rfl) (by kernel_rfl) (fun _ _ _ h => h) (Or.inl ⟨by rfl, ?_⟩) (by assumption) ?_; rotate_left; · ((intro w hSw; (try dsimp only at hSw); go_simp) <;> with_reducible rfl)
    try simp only [Act.put, List.setIfInBounds_toArray, List.set_cons_zero, List.set_cons_succ]
    refine wpAnyH_take (i := 1) (oi := { dst := some 17, op := Op.nilCheck (Operand.tmp 16), type := 0, pos := "suite.go:197", after := #[{ on := 0, ground := Ground.data }], guard := none }) (v := ?_) rfl (by kernel_rfl) (by kernel_rfl) (by kernel_rfl) (fun _ _ _ h => h) (Or.inl ⟨by rfl, ?_⟩) (by assumption) ?_; rotate_left; · ((intro w hSw; (try dsimp only at hSw); go_simp) <;> with_reducible rfl)
    try simp only [Act.put, List.setIfInBounds_toArray, List.set_cons_zero, List.set_cons_succ]
    refine wpAnyH_take (i := 2) (oi := { dst := some 18, op := Op.fieldAddr 86 (Operand.tmp 17) 0, type := 0, pos := "suite.go:197", after := #[{ on := 1, ground := Ground.data }], guard := none }) (v := ?_) rfl (by kernel_rfl) (by kernel_rfl) (by kernel_rfl) (fun _ _ _ h => h) (Or.inl ⟨by rfl, ?_⟩) (by assumption) ?_; rotate_left; · ((intro w hSw; (try dsimp only at hSw); go_simp) <;> with_reducible rfl)
    try simp only [Act.put, List.setIfInBounds_toArray, List.set_cons_zero, List.set_cons_succ]
    refine wpAnyH_take (i := 3) (oi := { dst := some 19, op := Op.fieldAddr 83 (Operand.tmp 18) 1, type := 0, pos := "suite.go:197", after := #[{ on := 2, ground := Ground.data }], guard := none }) (v := ?_) rfl (by kernel_rfl) (by kernel_rfl) (by kernel_rfl) (fun _ _ _ h => h) (Or.inl ⟨by rfl, ?_⟩) (by assumption) ?_; rotate_left; · ((intro w hSw; (try dsimp only at hSw); go_simp) <;> with_reducible rfl)
    try simp only [Act.put, List.setIfInBounds_toArray, List.set_cons_zero, List.set_cons_succ]
    refine wpAnyH_take (i := 4) (oi := { dst := some 20, op := Op.load 81 (Operand.tmp 19), type := 81, pos := "suite.go:197", after := #[{ on := 3, ground := Ground.data }], guard := none }) (v := ?_) rfl (by kernel_rfl) (by kernel_rfl) (by kernel_rfl) (fun _ _ _ h => h) (Or.inl ⟨by rfl, ?_⟩) (by assumption) ?_; rotate_left; · ((intro w hSw; (try dsimp only at hSw); go_simp) <;> with_reducible rfl)
    try simp only [Act.put, List.setIfInBounds_toArray, List.set_cons_zero, List.set_cons_succ]
    refine wpAnyH_take (i := 5) (oi := { dst := some 21, op := Op.move (Operand.tmp 1), type := 51, pos := "suite.go:197", after := #[], guard := none }) (v := ?_) rfl (by kernel_rfl) (by kernel_rfl) (by kernel_rfl) (fun _ _ _ h => h) (Or.inl ⟨by rfl, ?_⟩) (by assumption) ?_; rotate_left; · ((intro w hSw; (try dsimp only at hSw); go_simp) <;> with_reducible rfl)
    try simp only [Act.put, List.setIfInBounds_toArray, List.set_cons_zero, List.set_cons_succ]
    refine wpAnyH_take (i := 6) (oi := { dst := some 22, op := Op.convert 51 9 (Operand.tmp 21), type := 9, pos := "suite.go:197", after := #[{ on := 5, ground := Ground.data }], guard := none }) (v := ?_) rfl (by kernel_rfl) (by kernel_rfl) (by kernel_rfl) (fun _ _ _ h => h) (Or.inl ⟨by rfl, ?_⟩) (by assumption) ?_; rotate_left; · ((intro w hSw; (try dsimp only at hSw); go_simp) <;> with_reducible rfl)
    try simp only [Act.put, List.setIfInBounds_toArray, List.set_cons_zero, List.set_cons_succ]
    refine wpAnyH_take (i := 7) (oi := { dst := some 23, op := Op.lookup 81 (Operand.tmp 20) (Operand.tmp 22) true, type := 202, pos := "suite.go:197", after := #[{ on := 4, ground := Ground.data }, { on := 6, ground := Ground.data }], guard := none }) (v := ?_) rfl (by kernel_rfl) (by kernel_rfl) (by kernel_rfl) (fun _ _ _ h => h) (Or.inl ⟨by rfl, ?_⟩) (by assumption) ?_; rotate_left; · ((intro w hSw; (try dsimp only at hSw); go_simp) <;> with_reducible rfl)
    try simp only [Act.put, List.setIfInBounds_toArray, List.set_cons_zero, List.set_cons_succ]
    refine wpAnyH_take (i := 8) (oi := { dst := some 15, op := Op.move (Operand.tmp 23), type := 202, pos := "suite.go:197", after := #[{ on := 7, ground := Ground.data }], guard := none }) (v := ?_) rfl (by kernel_rfl) (by kernel_rfl) (by kernel_rfl) (fun _ _ _ h => h) (Or.inl ⟨by rfl, ?_⟩) (by assumption) ?_; rotate_left; · ((intro w hSw; (try dsimp only at hSw); go_simp) <;> with_reducible rfl)
    try simp only [Act.put, List.setIfInBounds_toArray, List.set_cons_zero, List.set_cons_succ]
    refine wpAnyH_take (i := 9) (oi := { dst := some 24, op := Op.extract (Operand.tmp 15) 0, type := 3, pos := "suite.go:197", after := #[{ on := 8, ground := Ground.data }], guard := none }) (v := ?_) rfl (by kernel_rfl) (by kernel_rfl) (by kernel_rfl) (fun _ _ _ h => h) (Or.inl ⟨by rfl, ?_⟩) (by assumption) ?_; rotate_left; · ((intro w hSw; (try dsimp only at hSw); go_simp) <;> with_reducible rfl)
    try simp only [Act.put, List.setIfInBounds_toArray, List.set_cons_zero, List.set_cons_succ]
    refine wpAnyH_take (i := 10) (oi := { dst := some 25, op := Op.extract (Operand.tmp 15) 1, type := 4, pos := "suite.go:197", after := #[{ on := 8, ground := Ground.data }, { on := 11, ground := Ground.gcOnly Go.Departure.lateStores }], guard := none }) (v := ?_) rfl (by kernel_rfl) (by kernel_rfl) (by kernel_rfl) (fun _ _ _ h => h) (Or.inl ⟨by rfl, ?_⟩) (by assumption) ?_; rotate_left; · ((intro w hSw; (try dsimp only at hSw); go_simp) <;> with_reducible rfl)
    try simp only [Act.put, List.setIfInBounds_toArray, List.set_cons_zero, List.set_cons_succ]
    refine wpAnyH_take (i := 11) (oi := { dst := some 5, op := Op.assign (Operand.tmp 24), type := 3, pos := "suite.go:197", after := #[{ on := 9, ground := Ground.data }, { on := 0, ground := Ground.phase }, { on := 1, ground := Ground.phase }, { on := 2, ground := Ground.phase }, { on := 3, ground := Ground.phase }, { on := 4, ground := Ground.phase }, { on := 5, ground := Ground.phase }, { on := 6, ground := Ground.phase }, { on := 7, ground := Ground.phase }, { on := 8, ground := Ground.phase }, { on := 9, ground := Ground.phase }, { on := 10, ground := Ground.textOnly Go.Departure.lateStores }], guard := none }) (v := ?_) rfl (by kernel_rfl) (by kernel_rfl) (by kernel_rfl) (fun _ _ _ h => h) (Or.inl ⟨by rfl, ?_⟩) (by assumption) ?_; rotate_left; · ((intro w hSw; (try dsimp only at hSw); go_simp) <;> with_reducible rfl)
    try simp only [Act.put, List.setIfInBounds_toArray, List.set_cons_zero, List.set_cons_succ]
    refine wpAnyH_take (i := 12) (oi := { dst := some 6, op := Op.assign (Operand.tmp 25), type := 4, pos := "suite.go:197", after := #[{ on := 10, ground := Ground.data }, { on := 11, ground := Ground.chain }, { on := 0, ground := Ground.phase }, { on := 1, ground := Ground.phase }, { on := 2, ground := Ground.phase }, { on := 3, ground := Ground.phase }, { on := 4, ground := Ground.phase }, { on := 5, ground := Ground.phase }, { on := 6, ground := Ground.phase }, { on := 7, ground := Ground.phase }, { on := 8, ground := Ground.phase }, { on := 9, ground := Ground.phase }, { on := 10, ground := Ground.phase }, { on := 11, ground := Ground.phase }], guard := none }) (v := ?_) rfl (by kernel_rfl) (by kernel_rfl) (by kernel_rfl) (fun _ _ _ h => h) (Or.inl ⟨by rfl, ?_⟩) (by assumption) ?_; rotate_left; · ((intro w hSw; (try dsimp only at hSw); go_simp) <;> with_reducible rfl)
    try simp only [Act.put, List.setIfInBounds_toArray, List.set_cons_zero, List.set_cons_succ]
    refine wpAnyH_done (by kernel_rfl) ?_ _
    go_wp2_with fail
    refine wp_region_held_drew (S := (fun w' => w'.cell? ⟨g, 1, none⟩ = some (.map (some b)) ∧ (convert 51 9 (.slice A T.length c)).run Tryz.prog w' = .ok (.string ⟨T.toArray⟩) w')) (by kernel_rfl) (by exact ⟨c1, hcv2⟩) (fun hHeld => ?_)
    refine wpAnyH_take (i := 0) (oi := { dst := some 34, op := Op.move (Operand.tmp 0), type := 33, pos := "suite.go:200", after := #[], guard := none }) (v := ?_) rfl (by kernel_rfl) (by kernel_rfl) (by kernel_rfl) (fun _ _ _ h => h) (Or.inl ⟨by rfl, ?_⟩) (by assumption) ?_; rotate_left; · ((intro w hSw; (try dsimp only at hSw); go_simp) <;> with_reducible rfl)
    try simp only [Act.put, List.setIfInBounds_toArray, List.set_cons_zero, List.set_cons_succ]
    refine wpAnyH_take (i := 1) (oi := { dst := some 35, op := Op.nilCheck (Operand.tmp 34), type := 0, pos := "suite.go:200", after := #[{ on := 0, ground := Ground.data }], guard := none }) (v := ?_) rfl (by kernel_rfl) (by kernel_rfl) (by kernel_rfl) (fun _ _ _ h => h) (Or.inl ⟨by rfl, ?_⟩) (by assumption) ?_; rotate_left; · ((intro w hSw; (try dsimp only at hSw); go_simp) <;> with_reducible rfl)
    try simp only [Act.put, List.setIfInBounds_toArray, List.set_cons_zero, List.set_cons_succ]
    refine wpAnyH_take (i := 2) (oi := { dst := some 36, op := Op.fieldAddr 86 (Operand.tmp 35) 0, type := 0, pos := "suite.go:200", after := #[{ on := 1, ground := Ground.data }], guard := none }) (v := ?_) rfl (by kernel_rfl) (by kernel_rfl) (by kernel_rfl) (fun _ _ _ h => h) (Or.inl ⟨by rfl, ?_⟩) (by assumption) ?_; rotate_left; · ((intro w hSw; (try dsimp only at hSw); go_simp) <;> with_reducible rfl)
    try simp only [Act.put, List.setIfInBounds_toArray, List.set_cons_zero, List.set_cons_succ]
    refine wpAnyH_take (i := 3) (oi := { dst := some 37, op := Op.fieldAddr 83 (Operand.tmp 36) 1, type := 0, pos := "suite.go:200", after := #[{ on := 2, ground := Ground.data }], guard := none }) (v := ?_) rfl (by kernel_rfl) (by kernel_rfl) (by kernel_rfl) (fun _ _ _ h => h) (Or.inl ⟨by rfl, ?_⟩) (by assumption) ?_; rotate_left; · ((intro w hSw; (try dsimp only at hSw); go_simp) <;> with_reducible rfl)
    try simp only [Act.put, List.setIfInBounds_toArray, List.set_cons_zero, List.set_cons_succ]
    refine wpAnyH_take (i := 4) (oi := { dst := some 38, op := Op.load 81 (Operand.tmp 37), type := 81, pos := "suite.go:200", after := #[{ on := 3, ground := Ground.data }], guard := none }) (v := ?_) rfl (by kernel_rfl) (by kernel_rfl) (by kernel_rfl) (fun _ _ _ h => h) (Or.inl ⟨by rfl, ?_⟩) (by assumption) ?_; rotate_left; · ((intro w hSw; (try dsimp only at hSw); go_simp) <;> with_reducible rfl)
    try simp only [Act.put, List.setIfInBounds_toArray, List.set_cons_zero, List.set_cons_succ]
    refine wpAnyH_take (i := 5) (oi := { dst := some 39, op := Op.move (Operand.tmp 1), type := 51, pos := "suite.go:200", after := #[], guard := none }) (v := ?_) rfl (by kernel_rfl) (by kernel_rfl) (by kernel_rfl) (fun _ _ _ h => h) (Or.inl ⟨by rfl, ?_⟩) (by assumption) ?_; rotate_left; · ((intro w hSw; (try dsimp only at hSw); go_simp) <;> with_reducible rfl)
    try simp only [Act.put, List.setIfInBounds_toArray, List.set_cons_zero, List.set_cons_succ]
    refine wpAnyH_take (i := 6) (oi := { dst := some 40, op := Op.convert 51 9 (Operand.tmp 39), type := 9, pos := "suite.go:200", after := #[{ on := 5, ground := Ground.data }], guard := none }) (v := ?_) rfl (by kernel_rfl) (by kernel_rfl) (by kernel_rfl) (fun _ _ _ h => h) (Or.inl ⟨by rfl, ?_⟩) (by assumption) ?_; rotate_left; · ((intro w hSw; (try dsimp only at hSw); go_simp) <;> with_reducible rfl)
    try simp only [Act.put, List.setIfInBounds_toArray, List.set_cons_zero, List.set_cons_succ]
    refine wpAnyH_take (i := 7) (oi := { dst := some 41, op := Op.move (Operand.tmp 5), type := 3, pos := "suite.go:200", after := #[], guard := none }) (v := ?_) rfl (by kernel_rfl) (by kernel_rfl) (by kernel_rfl) (fun _ _ _ h => h) (Or.inl ⟨by rfl, ?_⟩) (by assumption) ?_; rotate_left; · ((intro w hSw; (try dsimp only at hSw); go_simp) <;> with_reducible rfl)
    try simp only [Act.put, List.setIfInBounds_toArray, List.set_cons_zero, List.set_cons_succ]
    refine wpAnyH_ready (rs := [8]) (by kernel_rfl) (by simp) ?_
    refine AllReadyH.cons (o := { dst := none, op := Op.mapUpdate 81 (Operand.tmp 38) (Operand.tmp 40) (Operand.tmp 41), type := 0, pos := "suite.go:200", after := #[{ on := 4, ground := Ground.data }, { on := 6, ground := Ground.data }, { on := 7, ground := Ground.data }, { on := 0, ground := Ground.phase }, { on := 1, ground := Ground.phase }, { on := 2, ground := Ground.phase }, { on := 3, ground := Ground.phase }, { on := 4, ground := Ground.phase }, { on := 5, ground := Ground.phase }, { on := 6, ground := Ground.phase }, { on := 7, ground := Ground.phase }], guard := none }) rfl (fun K hK => ?_) AllReadyH.nil
    go_simp; skip; (try (go_wp2_with fail)); refine hK.out _ _ (by first | exact ⟨e1, hcv3⟩ | ((try dsimp only); exact ⟨e1, hcv3⟩)) (fun hHeld => ?_)
    clear hK K
    try simp only [Act.put, List.setIfInBounds_toArray, List.set_cons_zero, List.set_cons_succ]
    refine wpAnyH_done (by kernel_rfl) ?_ _
    go_wp2_with fail
    refine hM.out.mono ?_
    rintro e w4 ⟨A2, d2, rfl, own2, b2⟩
    rw [mark_len]
    rw [mark_len] at own2
    go_wp2
    go_ret
    rw [hso.out, hsa.out]
    exact ⟨A2, d2, rfl, own_base own2 hG.out.size, (Keep.of_grown hG.out (fun g hg => by injection hg with hg; simp [hg])).trans (Keep.of_below b2 [b]) (Fresh.refl _ _), HS.out.on b2⟩
set_option maxHeartbeats 1000000 in
theorem check_sym (w : World) (g b : Nat) (l : List (List UInt8)) (h : SymAt w g b l) (A B : Option Addr) (T s : List UInt8) (n c o d : Nat) (hn : n = T.length) (ho : o = s.length) (hr : Rd w w.heap.size A (T.map e8)) (hs : Rd w w.heap.size B (s.map e8)) (hT : T.length ≤ 1000000) (hl : l.length ≤ 1000000) :
    Calls Tryz.prog 129 #[.pointer (some ⟨g, 0, none⟩), .slice A n c, .slice B o d] w fun e w' => e = .returned (.bool (checkOf l T s)) ∧ Below w.heap.size w w' := by
  subst hn ho
  have hN := Lib.hid (sNone_sym w g b l h)
  have hRe := Lib.hid (sReal_sym w g b l h)
  obtain ⟨⟨k, hblk⟩, hsums⟩ := h
  obtain ⟨c0, c1, c2⟩ := three hblk
  have hbd : Below w.heap.size w w.drew := (Below.refl w.heap.size w).drew
  have hcv := run_conv_rd (P := Tryz.prog) 51 9 5 T.length c rfl Tryz.underlying51 Tryz.underlying5 Tryz.underlying9 (hr.on hbd)
  obtain ⟨v, hlk, hv⟩ := (hsums.on hbd).look T hT
  obtain ⟨is, his⟩ : ∃ x, x = decide (T ∈ l) := ⟨_, rfl⟩
  rw [← his] at hlk
  have Hs := Lib.hid (hs.on hbd)
  clear hsums hr hs
  cases is with
  | true =>
    have hm : T ∈ l := of_decide_eq_true his.symm
    have hvv := hv hm
    rw [hvv] at hlk
    have hso := Lib.hid (show checkOf l T s = R1.sameB (mark (l.idxOf T)) s by unfold checkOf; rw [decide_eq_true hm, Bool.true_and])
    have hil : l.idxOf T ≤ 1000000 := Nat.le_trans List.idxOf_le_length hl
    have hM := Lib.hid (mark_any (l.idxOf T) w.drew hil)
    clear his hv hvv hm
    obtain ⟨q, hq⟩ : ∃ q, q = l.idxOf T := ⟨_, rfl⟩
    rw [← hq] at hlk hso hM hil
    clear hq
    go_enter Tryz.func129, Tryz.ntmps129
    go_wp2_with fail
    refine hN.out.mono ?_
    rintro e w1 ⟨rfl, rfl⟩
    go_wp2_with fail
    refine hRe.out.mono ?_
    rintro e w1 ⟨rfl, rfl⟩
    go_wp2_with fail
    refine wp_region_held_drew (S := (fun w' => w'.cell? ⟨g, 1, none⟩ = some (.map (some b)) ∧ (convert 51 9 (.slice A T.length c)).run Tryz.prog w' = .ok (.string ⟨T.toArray⟩) w' ∧ (Instr.lookup 81 (.map (some b)) (.string ⟨T.toArray⟩) true).run Tryz.prog w' = .ok (.tuple #[.int .i64 (q : Int), .bool true]) w')) (by kernel_rfl) (by exact ⟨c1, hcv, hlk⟩) (fun hHeld => ?_)
    refine wpAnyH_take (i := 0) (oi := { dst := some 20, op := Op.move (Operand.tmp 0), type := 33, pos := "suite.go:215", after := #[], guard := none }) (v := ?_) rfl (by kernel_rfl) (by kernel_rfl) (by kernel_rfl) (fun _ _ _ h => h) (Or.inl ⟨by rfl, ?_⟩) (by assumption) ?_; rotate_left; · ((intro w hSw; (try dsimp only at hSw); go_simp) <;> with_reducible rfl)
    try simp only [Act.put, List.setIfInBounds_toArray, List.set_cons_zero, List.set_cons_succ]
    refine wpAnyH_take (i := 1) (oi := { dst := some 21, op := Op.nilCheck (Operand.tmp 20), type := 0, pos := "suite.go:215", after := #[{ on := 0, ground := Ground.data }], guard := none }) (v := ?_) rfl (by kernel_rfl) (by kernel_rfl) (by kernel_rfl) (fun _ _ _ h => h) (Or.inl ⟨by rfl, ?_⟩) (by assumption) ?_; rotate_left; · ((intro w hSw; (try dsimp only at hSw); go_simp) <;> with_reducible rfl)
    try simp only [Act.put, List.setIfInBounds_toArray, List.set_cons_zero, List.set_cons_succ]
    refine wpAnyH_take (i := 2) (oi := { dst := some 22, op := Op.fieldAddr 86 (Operand.tmp 21) 0, type := 0, pos := "suite.go:215", after := #[{ on := 1, ground := Ground.data }], guard := none }) (v := ?_) rfl (by kernel_rfl) (by kernel_rfl) (by kernel_rfl) (fun _ _ _ h => h) (Or.inl ⟨by rfl, ?_⟩) (by assumption) ?_; rotate_left; · ((intro w hSw; (try dsimp only at hSw); go_simp) <;> with_reducible rfl)
    try simp only [Act.put, List.setIfInBounds_toArray, List.set_cons_zero, List.set_cons_succ]
    refine wpAnyH_take (i := 3) (oi := { dst := some 23, op := Op.fieldAddr 83 (Operand.tmp 22) 1, type := 0, pos := "suite.go:215", after := #[{ on := 2, ground := Ground.data }], guard := none }) (v := ?_) rfl (by kernel_rfl) (by kernel_rfl) (by kernel_rfl) (fun _ _ _ h => h) (Or.inl ⟨by rfl, ?_⟩) (by assumption) ?_; rotate_left; · ((intro w hSw; (try dsimp only at hSw); go_simp) <;> with_reducible rfl)
    try simp only [Act.put, List.setIfInBounds_toArray, List.set_cons_zero, List.set_cons_succ]
    refine wpAnyH_take (i := 4) (oi := { dst := some 24, op := Op.load 81 (Operand.tmp 23), type := 81, pos := "suite.go:215", after := #[{ on := 3, ground := Ground.data }], guard := none }) (v := ?_) rfl (by kernel_rfl) (by kernel_rfl) (by kernel_rfl) (fun _ _ _ h => h) (Or.inl ⟨by rfl, ?_⟩) (by assumption) ?_; rotate_left; · ((intro w hSw; (try dsimp only at hSw); go_simp) <;> with_reducible rfl)
    try simp only [Act.put, List.setIfInBounds_toArray, List.set_cons_zero, List.set_cons_succ]
    refine wpAnyH_take (i := 5) (oi := { dst := some 25, op := Op.move (Operand.tmp 1), type := 51, pos := "suite.go:215", after := #[], guard := none }) (v := ?_) rfl (by kernel_rfl) (by kernel_rfl) (by kernel_rfl) (fun _ _ _ h => h) (Or.inl ⟨by rfl, ?_⟩) (by assumption) ?_; rotate_left; · ((intro w hSw; (try dsimp only at hSw); go_simp) <;> with_reducible rfl)
    try simp only [Act.put, List.setIfInBounds_toArray, List.set_cons_zero, List.set_cons_succ]
    refine wpAnyH_take (i := 6) (oi := { dst := some 26, op := Op.convert 51 9 (Operand.tmp 25), type := 9, pos := "suite.go:215", after := #[{ on := 5, ground := Ground.data }], guard := none }) (v := ?_) rfl (by kernel_rfl) (by kernel_rfl) (by kernel_rfl) (fun _ _ _ h => h) (Or.inl ⟨by rfl, ?_⟩) (by assumption) ?_; rotate_left; · ((intro w hSw; (try dsimp only at hSw); go_simp) <;> with_reducible rfl)
    try simp only [Act.put, List.setIfInBounds_toArray, List.set_cons_zero, List.set_cons_succ]
    refine wpAnyH_take (i := 7) (oi := { dst := some 27, op := Op.lookup 81 (Operand.tmp 24) (Operand.tmp 26) true, type := 202, pos := "suite.go:215", after := #[{ on := 4, ground := Ground.data }, { on := 6, ground := Ground.data }], guard := none }) (v := ?_) rfl (by kernel_rfl) (by kernel_rfl) (by kernel_rfl) (fun _ _ _ h => h) (Or.inl ⟨by rfl, ?_⟩) (by assumption) ?_; rotate_left; · ((intro w hSw; (try dsimp only at hSw); go_simp) <;> with_reducible rfl)
    try simp only [Act.put, List.setIfInBounds_toArray, List.set_cons_zero, List.set_cons_succ]
    refine wpAnyH_take (i := 8) (oi := { dst := some 19, op := Op.move (Operand.tmp 27), type := 202, pos := "suite.go:215", after := #[{ on := 7, ground := Ground.data }], guard := none }) (v := ?_) rfl (by kernel_rfl) (by kernel_rfl) (by kernel_rfl) (fun _ _ _ h => h) (Or.inl ⟨by rfl, ?_⟩) (by assumption) ?_; rotate_left; · ((intro w hSw; (try dsimp only at hSw); go_simp) <;> with_reducible rfl)
    try simp only [Act.put, List.setIfInBounds_toArray, List.set_cons_zero, List.set_cons_succ]
    refine wpAnyH_take (i := 9) (oi := { dst := some 28, op := Op.extract (Operand.tmp 19) 0, type := 3, pos := "suite.go:215", after := #[{ on := 8, ground := Ground.data }], guard := none }) (v := ?_) rfl (by kernel_rfl) (by kernel_rfl) (by kernel_rfl) (fun _ _ _ h => h) (Or.inl ⟨by rfl, ?_⟩) (by assumption) ?_; rotate_left; · ((intro w hSw; (try dsimp only at hSw); go_simp) <;> with_reducible rfl)
    try simp only [Act.put, List.setIfInBounds_toArray, List.set_cons_zero, List.set_cons_succ]
    refine wpAnyH_take (i := 10) (oi := { dst := some 29, op := Op.extract (Operand.tmp 19) 1, type := 4, pos := "suite.go:215", after := #[{ on := 8, ground := Ground.data }, { on := 11, ground := Ground.gcOnly Go.Departure.lateStores }], guard := none }) (v := ?_) rfl (by kernel_rfl) (by kernel_rfl) (by kernel_rfl) (fun _ _ _ h => h) (Or.inl ⟨by rfl, ?_⟩) (by assumption) ?_; rotate_left; · ((intro w hSw; (try dsimp only at hSw); go_simp) <;> with_reducible rfl)
    try simp only [Act.put, List.setIfInBounds_toArray, List.set_cons_zero, List.set_cons_succ]
    refine wpAnyH_take (i := 11) (oi := { dst := some 7, op := Op.assign (Operand.tmp 28), type := 3, pos := "suite.go:215", after := #[{ on := 9, ground := Ground.data }, { on := 0, ground := Ground.phase }, { on := 1, ground := Ground.phase }, { on := 2, ground := Ground.phase }, { on := 3, ground := Ground.phase }, { on := 4, ground := Ground.phase }, { on := 5, ground := Ground.phase }, { on := 6, ground := Ground.phase }, { on := 7, ground := Ground.phase }, { on := 8, ground := Ground.phase }, { on := 9, ground := Ground.phase }, { on := 10, ground := Ground.textOnly Go.Departure.lateStores }], guard := none }) (v := ?_) rfl (by kernel_rfl) (by kernel_rfl) (by kernel_rfl) (fun _ _ _ h => h) (Or.inl ⟨by rfl, ?_⟩) (by assumption) ?_; rotate_left; · ((intro w hSw; (try dsimp only at hSw); go_simp) <;> with_reducible rfl)
    try simp only [Act.put, List.setIfInBounds_toArray, List.set_cons_zero, List.set_cons_succ]
    refine wpAnyH_take (i := 12) (oi := { dst := some 8, op := Op.assign (Operand.tmp 29), type := 4, pos := "suite.go:215", after := #[{ on := 10, ground := Ground.data }, { on := 11, ground := Ground.chain }, { on := 0, ground := Ground.phase }, { on := 1, ground := Ground.phase }, { on := 2, ground := Ground.phase }, { on := 3, ground := Ground.phase }, { on := 4, ground := Ground.phase }, { on := 5, ground := Ground.phase }, { on := 6, ground := Ground.phase }, { on := 7, ground := Ground.phase }, { on := 8, ground := Ground.phase }, { on := 9, ground := Ground.phase }, { on := 10, ground := Ground.phase }, { on := 11, ground := Ground.phase }], guard := none }) (v := ?_) rfl (by kernel_rfl) (by kernel_rfl) (by kernel_rfl) (fun _ _ _ h => h) (Or.inl ⟨by rfl, ?_⟩) (by assumption) ?_; rotate_left; · ((intro w hSw; (try dsimp only at hSw); go_simp) <;> with_reducible rfl)
    try simp only [Act.put, List.setIfInBounds_toArray, List.set_cons_zero, List.set_cons_succ]
    refine wpAnyH_done (by kernel_rfl) ?_ _
    go_wp2_with fail
    refine hM.out.mono ?_
    rintro e w2 ⟨A2, d2, rfl, own2, b2⟩
    go_wp2_with fail
    refine (nsame_any A2 B (mark q) s _ _ d2 d w2 rfl rfl (Rd.own own2) (Hs.out.on b2)).mono ?_
    rintro e w3 ⟨rfl, rfl⟩
    go_wp2
    go_ret
    rw [hso.out]
    exact ⟨rfl, ⟨b2.os, b2.tape, b2.output, b2.size, b2.block⟩⟩
  | false =>
    have hm : T ∉ l := of_decide_eq_false his.symm
    have hso := Lib.hid (show checkOf l T s = false by unfold checkOf; rw [decide_eq_false hm, Bool.false_and])
    clear his hv hm
    go_enter Tryz.func129, Tryz.ntmps129
    go_wp2_with fail
    refine hN.out.mono ?_
    rintro e w1 ⟨rfl, rfl⟩
    go_wp2_with fail
    refine hRe.out.mono ?_
    rintro e w1 ⟨rfl, rfl⟩
    go_wp2_with fail
    refine wp_region_held_drew (S := (fun w' => w'.cell? ⟨g, 1, none⟩ = some (.map (some b)) ∧ (convert 51 9 (.slice A T.length c)).run Tryz.prog w' = .ok (.string ⟨T.toArray⟩) w' ∧ (Instr.lookup 81 (.map (some b)) (.string ⟨T.toArray⟩) true).run Tryz.prog w' = .ok (.tuple #[.int .i64 v, .bool false]) w')) (by kernel_rfl) (by exact ⟨c1, hcv, hlk⟩) (fun hHeld => ?_)
    refine wpAnyH_take (i := 0) (oi := { dst := some 20, op := Op.move (Operand.tmp 0), type := 33, pos := "suite.go:215", after := #[], guard := none }) (v := ?_) rfl (by kernel_rfl) (by kernel_rfl) (by kernel_rfl) (fun _ _ _ h => h) (Or.inl ⟨by rfl, ?_⟩) (by assumption) ?_; rotate_left; · ((intro w hSw; (try dsimp only at hSw); go_simp) <;> with_reducible rfl)
    try simp only [Act.put, List.setIfInBounds_toArray, List.set_cons_zero, List.set_cons_succ]
    refine wpAnyH_take (i := 1) (oi := { dst := some 21, op := Op.nilCheck (Operand.tmp 20), type := 0, pos := "suite.go:215", after := #[{ on := 0, ground := Ground.data }], guard := none }) (v := ?_) rfl (by kernel_rfl) (by kernel_rfl) (by kernel_rfl) (fun _ _ _ h => h) (Or.inl ⟨by rfl, ?_⟩) (by assumption) ?_; rotate_left; · ((intro w hSw; (try dsimp only at hSw); go_simp) <;> with_reducible rfl)
    try simp only [Act.put, List.setIfInBounds_toArray, List.set_cons_zero, List.set_cons_succ]
    refine wpAnyH_take (i := 2) (oi := { dst := some 22, op := Op.fieldAddr 86 (Operand.tmp 21) 0, type := 0, pos := "suite.go:215", after := #[{ on := 1, ground := Ground.data }], guard := none }) (v := ?_) rfl (by kernel_rfl) (by kernel_rfl) (by kernel_rfl) (fun _ _ _ h => h) (Or.inl ⟨by rfl, ?_⟩) (by assumption) ?_; rotate_left; · ((intro w hSw; (try dsimp only at hSw); go_simp) <;> with_reducible rfl)
    try simp only [Act.put, List.setIfInBounds_toArray, List.set_cons_zero, List.set_cons_succ]
    refine wpAnyH_take (i := 3) (oi := { dst := some 23, op := Op.fieldAddr 83 (Operand.tmp 22) 1, type := 0, pos := "suite.go:215", after := #[{ on := 2, ground := Ground.data }], guard := none }) (v := ?_) rfl (by kernel_rfl) (by kernel_rfl) (by kernel_rfl) (fun _ _ _ h => h) (Or.inl ⟨by rfl, ?_⟩) (by assumption) ?_; rotate_left; · ((intro w hSw; (try dsimp only at hSw); go_simp) <;> with_reducible rfl)
    try simp only [Act.put, List.setIfInBounds_toArray, List.set_cons_zero, List.set_cons_succ]
    refine wpAnyH_take (i := 4) (oi := { dst := some 24, op := Op.load 81 (Operand.tmp 23), type := 81, pos := "suite.go:215", after := #[{ on := 3, ground := Ground.data }], guard := none }) (v := ?_) rfl (by kernel_rfl) (by kernel_rfl) (by kernel_rfl) (fun _ _ _ h => h) (Or.inl ⟨by rfl, ?_⟩) (by assumption) ?_; rotate_left; · ((intro w hSw; (try dsimp only at hSw); go_simp) <;> with_reducible rfl)
    try simp only [Act.put, List.setIfInBounds_toArray, List.set_cons_zero, List.set_cons_succ]
    refine wpAnyH_take (i := 5) (oi := { dst := some 25, op := Op.move (Operand.tmp 1), type := 51, pos := "suite.go:215", after := #[], guard := none }) (v := ?_) rfl (by kernel_rfl) (by kernel_rfl) (by kernel_rfl) (fun _ _ _ h => h) (Or.inl ⟨by rfl, ?_⟩) (by assumption) ?_; rotate_left; · ((intro w hSw; (try dsimp only at hSw); go_simp) <;> with_reducible rfl)
    try simp only [Act.put, List.setIfInBounds_toArray, List.set_cons_zero, List.set_cons_succ]
    refine wpAnyH_take (i := 6) (oi := { dst := some 26, op := Op.convert 51 9 (Operand.tmp 25), type := 9, pos := "suite.go:215", after := #[{ on := 5, ground := Ground.data }], guard := none }) (v := ?_) rfl (by kernel_rfl) (by kernel_rfl) (by kernel_rfl) (fun _ _ _ h => h) (Or.inl ⟨by rfl, ?_⟩) (by assumption) ?_; rotate_left; · ((intro w hSw; (try dsimp only at hSw); go_simp) <;> with_reducible rfl)
    try simp only [Act.put, List.setIfInBounds_toArray, List.set_cons_zero, List.set_cons_succ]
    refine wpAnyH_take (i := 7) (oi := { dst := some 27, op := Op.lookup 81 (Operand.tmp 24) (Operand.tmp 26) true, type := 202, pos := "suite.go:215", after := #[{ on := 4, ground := Ground.data }, { on := 6, ground := Ground.data }], guard := none }) (v := ?_) rfl (by kernel_rfl) (by kernel_rfl) (by kernel_rfl) (fun _ _ _ h => h) (Or.inl ⟨by rfl, ?_⟩) (by assumption) ?_; rotate_left; · ((intro w hSw; (try dsimp only at hSw); go_simp) <;> with_reducible rfl)
    try simp only [Act.put, List.setIfInBounds_toArray, List.set_cons_zero, List.set_cons_succ]
    refine wpAnyH_take (i := 8) (oi := { dst := some 19, op := Op.move (Operand.tmp 27), type := 202, pos := "suite.go:215", after := #[{ on := 7, ground := Ground.data }], guard := none }) (v := ?_) rfl (by kernel_rfl) (by kernel_rfl) (by kernel_rfl) (fun _ _ _ h => h) (Or.inl ⟨by rfl, ?_⟩) (by assumption) ?_; rotate_left; · ((intro w hSw; (try dsimp only at hSw); go_simp) <;> with_reducible rfl)
    try simp only [Act.put, List.setIfInBounds_toArray, List.set_cons_zero, List.set_cons_succ]
    refine wpAnyH_take (i := 9) (oi := { dst := some 28, op := Op.extract (Operand.tmp 19) 0, type := 3, pos := "suite.go:215", after := #[{ on := 8, ground := Ground.data }], guard := none }) (v := ?_) rfl (by kernel_rfl) (by kernel_rfl) (by kernel_rfl) (fun _ _ _ h => h) (Or.inl ⟨by rfl, ?_⟩) (by assumption) ?_; rotate_left; · ((intro w hSw; (try dsimp only at hSw); go_simp) <;> with_reducible rfl)
    try simp only [Act.put, List.setIfInBounds_toArray, List.set_cons_zero, List.set_cons_succ]
    refine wpAnyH_take (i := 10) (oi := { dst := some 29, op := Op.extract (Operand.tmp 19) 1, type := 4, pos := "suite.go:215", after := #[{ on := 8, ground := Ground.data }, { on := 11, ground := Ground.gcOnly Go.Departure.lateStores }], guard := none }) (v := ?_) rfl (by kernel_rfl) (by kernel_rfl) (by kernel_rfl) (fun _ _ _ h => h) (Or.inl ⟨by rfl, ?_⟩) (by assumption) ?_; rotate_left; · ((intro w hSw; (try dsimp only at hSw); go_simp) <;> with_reducible rfl)
    try simp only [Act.put, List.setIfInBounds_toArray, List.set_cons_zero, List.set_cons_succ]
    refine wpAnyH_take (i := 11) (oi := { dst := some 7, op := Op.assign (Operand.tmp 28), type := 3, pos := "suite.go:215", after := #[{ on := 9, ground := Ground.data }, { on := 0, ground := Ground.phase }, { on := 1, ground := Ground.phase }, { on := 2, ground := Ground.phase }, { on := 3, ground := Ground.phase }, { on := 4, ground := Ground.phase }, { on := 5, ground := Ground.phase }, { on := 6, ground := Ground.phase }, { on := 7, ground := Ground.phase }, { on := 8, ground := Ground.phase }, { on := 9, ground := Ground.phase }, { on := 10, ground := Ground.textOnly Go.Departure.lateStores }], guard := none }) (v := ?_) rfl (by kernel_rfl) (by kernel_rfl) (by kernel_rfl) (fun _ _ _ h => h) (Or.inl ⟨by rfl, ?_⟩) (by assumption) ?_; rotate_left; · ((intro w hSw; (try dsimp only at hSw); go_simp) <;> with_reducible rfl)
    try simp only [Act.put, List.setIfInBounds_toArray, List.set_cons_zero, List.set_cons_succ]
    refine wpAnyH_take (i := 12) (oi := { dst := some 8, op := Op.assign (Operand.tmp 29), type := 4, pos := "suite.go:215", after := #[{ on := 10, ground := Ground.data }, { on := 11, ground := Ground.chain }, { on := 0, ground := Ground.phase }, { on := 1, ground := Ground.phase }, { on := 2, ground := Ground.phase }, { on := 3, ground := Ground.phase }, { on := 4, ground := Ground.phase }, { on := 5, ground := Ground.phase }, { on := 6, ground := Ground.phase }, { on := 7, ground := Ground.phase }, { on := 8, ground := Ground.phase }, { on := 9, ground := Ground.phase }, { on := 10, ground := Ground.phase }, { on := 11, ground := Ground.phase }], guard := none }) (v := ?_) rfl (by kernel_rfl) (by kernel_rfl) (by kernel_rfl) (fun _ _ _ h => h) (Or.inl ⟨by rfl, ?_⟩) (by assumption) ?_; rotate_left; · ((intro w hSw; (try dsimp only at hSw); go_simp) <;> with_reducible rfl)
    try simp only [Act.put, List.setIfInBounds_toArray, List.set_cons_zero, List.set_cons_succ]
    refine wpAnyH_done (by kernel_rfl) ?_ _
    go_wp2
    go_ret
    rw [hso.out]
    exact ⟨rfl, hbd⟩
end Go.Proofs.YtchcmklelmlbgaaGreat.Sec

/- What is written of a sector is read as it was, at its place alone: plain. -/
namespace Go.Proofs.YtchcmklelmlbgaaGreat.Sec
open Go.RowKit
open Go.Proofs.YtchcmklelmlbgaaGreat.Num (putL getN putL_len getN_putL)
open Go.Proofs.YtchcmklelmlbgaaGreat.Mac (padTo)
set_option linter.unusedVariables false
theorem padTo_eq {l : List UInt8} {n : Nat} (h : l.length ≤ n) : padTo l n = l ++ List.replicate (n - l.length) 0 := by unfold padTo; rw [List.take_of_length_le h]
theorem text_form {p : Int} {x : X} (h : rightF p x = 0) : text p x = head p x ++ (x.body ++ List.replicate (479 - x.body.length) 0) := by
  have hb := (right_of h).2.2.2.2.2.2
  unfold text
  rw [padTo_eq (by rw [List.length_append, head_len]; omega), List.append_assoc, List.length_append, head_len, show 504 - (25 + x.body.length) = 479 - x.body.length by omega]
theorem cut_app (a b : List UInt8) (i n : Nat) (h : i + n ≤ a.length) : cut (a ++ b) i n = cut a i n := by
  unfold cut
  rw [List.drop_append_of_le_length (by omega), List.take_append_of_le_length (by rw [List.length_drop]; omega)]
theorem cut_mid (a b c : List UInt8) (i n : Nat) (hi : i = a.length) (hn : n = b.length) : cut (a ++ (b ++ c)) i n = b := by
  subst hi hn
  unfold cut
  rw [List.drop_left, List.take_left]
theorem of_text {p : Int} {x : X} (h : rightF p x = 0) : lenB (text p x) = x.body.length ∧ ofB (text p x) = x := by
  obtain ⟨h1, h2, h3, h4, h5, h6, h7⟩ := right_of h
  have hl : lenB (text p x) = x.body.length := by
    unfold lenB
    rw [text_form h, cut_app _ _ _ _ (by rw [head_len]; decide)]
    unfold head
    rw [show putL x.kind.toNat 1 ++ putL p.toNat 2 ++ putL x.life.toNat 8 ++ putL x.seq.toNat 4 ++ putL x.gen.toNat 8 ++ putL x.body.length 2 = (putL x.kind.toNat 1 ++ putL p.toNat 2 ++ putL x.life.toNat 8 ++ putL x.seq.toNat 4 ++ putL x.gen.toNat 8) ++ (putL x.body.length 2 ++ []) by simp]
    rw [cut_mid _ _ _ _ _ (by simp [putL_len]) (by simp [putL_len]), getN_putL]
    exact Nat.mod_eq_of_lt (by simp only [Nat.reducePow]; omega)
  refine ⟨hl, ?_⟩
  have f0 : cut (text p x) 0 1 = putL x.kind.toNat 1 := by
    rw [text_form h, cut_app _ _ _ _ (by rw [head_len]; omega)]
    unfold head
    rw [show putL x.kind.toNat 1 ++ putL p.toNat 2 ++ putL x.life.toNat 8 ++ putL x.seq.toNat 4 ++ putL x.gen.toNat 8 ++ putL x.body.length 2 = [] ++ (putL x.kind.toNat 1 ++ (putL p.toNat 2 ++ putL x.life.toNat 8 ++ putL x.seq.toNat 4 ++ putL x.gen.toNat 8 ++ putL x.body.length 2)) by simp]
    rw [cut_mid [] _ _ 0 1 rfl (by simp [putL_len])]
  have f3 : cut (text p x) 3 8 = putL x.life.toNat 8 := by
    rw [text_form h, cut_app _ _ _ _ (by rw [head_len]; omega)]
    unfold head
    rw [show putL x.kind.toNat 1 ++ putL p.toNat 2 ++ putL x.life.toNat 8 ++ putL x.seq.toNat 4 ++ putL x.gen.toNat 8 ++ putL x.body.length 2 = (putL x.kind.toNat 1 ++ putL p.toNat 2) ++ (putL x.life.toNat 8 ++ (putL x.seq.toNat 4 ++ putL x.gen.toNat 8 ++ putL x.body.length 2)) by simp]
    rw [cut_mid _ _ _ _ _ (by simp [putL_len]) (by simp [putL_len])]
  have f11 : cut (text p x) 11 4 = putL x.seq.toNat 4 := by
    rw [text_form h, cut_app _ _ _ _ (by rw [head_len]; omega)]
    unfold head
    rw [show putL x.kind.toNat 1 ++ putL p.toNat 2 ++ putL x.life.toNat 8 ++ putL x.seq.toNat 4 ++ putL x.gen.toNat 8 ++ putL x.body.length 2 = (putL x.kind.toNat 1 ++ putL p.toNat 2 ++ putL x.life.toNat 8) ++ (putL x.seq.toNat 4 ++ (putL x.gen.toNat 8 ++ putL x.body.length 2)) by simp]
    rw [cut_mid _ _ _ _ _ (by simp [putL_len]) (by simp [putL_len])]
  have f15 : cut (text p x) 15 8 = putL x.gen.toNat 8 := by
    rw [text_form h, cut_app _ _ _ _ (by rw [head_len]; omega)]
    unfold head
    rw [show putL x.kind.toNat 1 ++ putL p.toNat 2 ++ putL x.life.toNat 8 ++ putL x.seq.toNat 4 ++ putL x.gen.toNat 8 ++ putL x.body.length 2 = (putL x.kind.toNat 1 ++ putL p.toNat 2 ++ putL x.life.toNat 8 ++ putL x.seq.toNat 4) ++ (putL x.gen.toNat 8 ++ putL x.body.length 2) by simp]
    rw [cut_mid _ _ _ _ _ (by simp [putL_len]) (by simp [putL_len])]
  have fb : cut (text p x) 25 x.body.length = x.body := by
    rw [text_form h, cut_mid _ _ _ _ _ (by rw [head_len]) rfl]
  have e8 : (256 : Nat) ^ 8 = 18446744073709551616 := rfl
  unfold ofB
  rw [hl, f0, f3, f11, f15, fb, getN_putL, getN_putL, getN_putL, getN_putL]
  have hk : ((x.kind.toNat % 256 ^ 1 : Nat) : Int) = x.kind := by simp only [Nat.pow_one]; omega
  have hs : ((x.seq.toNat % 256 ^ 4 : Nat) : Int) = x.seq := by simp only [Nat.reducePow]; omega
  have hl8 : UInt64.ofNat (x.life.toNat % 256 ^ 8) = x.life := by rw [e8, Nat.mod_eq_of_lt x.life.toNat_lt]; simp
  have hg8 : UInt64.ofNat (x.gen.toNat % 256 ^ 8) = x.gen := by rw [e8, Nat.mod_eq_of_lt x.gen.toNat_lt]; simp
  rw [hk, hs, hl8, hg8]
theorem reads_text {p : Int} {x : X} (h : rightF p x = 0) : reads p (text p x) = some x := by
  obtain ⟨h1, h2⟩ := of_text h
  have hb := (right_of h).2.2.2.2.2.2
  have := reads_yes (p := p) (b := text p x) (by omega) (by rw [h2]; exact h) (by rw [h2])
  rw [h2] at this; exact this
theorem place_of {p q : Int} {x : X} (h : rightF p x = 0) (h' : rightF q x = 0) (he : text q x = text p x) : q = p := by
  have key : ∀ r, rightF r x = 0 → cut (text r x) 1 2 = putL r.toNat 2 := fun r hr => by
    rw [text_form hr, cut_app _ _ _ _ (by rw [head_len]; omega)]
    unfold head
    rw [show putL x.kind.toNat 1 ++ putL r.toNat 2 ++ putL x.life.toNat 8 ++ putL x.seq.toNat 4 ++ putL x.gen.toNat 8 ++ putL x.body.length 2 = (putL x.kind.toNat 1) ++ (putL r.toNat 2 ++ (putL x.life.toNat 8 ++ putL x.seq.toNat 4 ++ putL x.gen.toNat 8 ++ putL x.body.length 2)) by simp]
    rw [cut_mid _ _ _ _ _ (by simp [putL_len]) (by simp [putL_len])]
  have h3 := key p h
  have h4 := key q h'
  rw [he, h3] at h4
  have h5 := congrArg getN h4
  rw [getN_putL, getN_putL] at h5
  have := right_of h
  have := right_of h'
  simp only [Nat.reducePow] at h5
  omega
theorem text_blank {p : Int} {x : X} (h : rightF p x = 0) (s : List UInt8) : ¬ blankB (text p x ++ s) = true := by
  intro hb
  have hb : text p x ++ s = zero512 := of_decide_eq_true hb
  have h1 := right_of h
  have e1 : cut (text p x ++ s) 0 1 = putL x.kind.toNat 1 := by
    rw [cut_app _ _ _ _ (by rw [text_len]; omega), text_form h, cut_app _ _ _ _ (by rw [head_len]; omega)]
    unfold head
    rw [show putL x.kind.toNat 1 ++ putL p.toNat 2 ++ putL x.life.toNat 8 ++ putL x.seq.toNat 4 ++ putL x.gen.toNat 8 ++ putL x.body.length 2 = [] ++ (putL x.kind.toNat 1 ++ (putL p.toNat 2 ++ putL x.life.toNat 8 ++ putL x.seq.toNat 4 ++ putL x.gen.toNat 8 ++ putL x.body.length 2)) by simp]
    rw [cut_mid [] _ _ 0 1 rfl (by simp [putL_len])]
  rw [hb] at e1
  have h5 := congrArg getN e1
  rw [getN_putL] at h5
  have h6 : getN (cut zero512 0 1) = 0 := by decide +kernel
  rw [h6] at h5
  simp only [Nat.pow_one] at h5
  omega
/-- read as it was written -/
theorem dec_back {p : Int} {x : X} (h : rightF p x = 0) (s : List UInt8) (hs : s.length = 8) : decode true p (text p x ++ s) = (x, 0) :=
  dec_yes (by rw [List.length_append, text_len, hs]) (text_blank h s) (by rw [List.take_left' (text_len p x)]; exact reads_text h)
end Go.Proofs.YtchcmklelmlbgaaGreat.Sec

/- Encode and Decode by terms. -/
namespace Go.Proofs.YtchcmklelmlbgaaGreat.Sec
open Go.RowKit
open Go.Proofs.YtchcmklelmlbgaaGreat.Num (putL getN)
set_option linter.unusedVariables false
set_option maxRecDepth 100000
/-- is the sum of 512 bytes right, by terms? -/
def ckS (l : List (List UInt8)) (b : List UInt8) : Bool := checkOf l (b.take 504) (b.drop 504)
theorem decode_sym (p : Int) (g bS : Nat) (l : List (List UInt8)) (A : Option Addr) (b : List UInt8) (n c : Nat) (w : World) (hg : SymAt w g bS l) (hl1 : l.length ≤ 1000000) (hp0 : -9223372036854775808 ≤ p) (hp1 : p ≤ 9223372036854775807) (hn : n = b.length) (hr : Rd w w.heap.size A (b.map e8)) (hl : b.length ≤ 100000) (hc : n ≤ c) (hcm : c ≤ maxLen) :
    Calls Tryz.prog 112 #[.pointer (some ⟨g, 0, none⟩), .int .i64 p, .slice A n c] w fun e w' => RetX (decode (ckS l b) p b).1 (.int .i64 (decode (ckS l b) p b).2) w e w' ∧ Below w.heap.size w w' :=
  decode_gen p g (ckS l b) A b n c w hp0 hp1 hn hr hl hc hcm fun h5 W bW A1 A2 c1 c2 r1 r2 =>
    check_sym W g bS l (hg.on bW) A1 A2 (b.take 504) (b.drop 504) 504 c1 8 c2 (by rw [List.length_take]; omega) (by rw [List.length_drop]; omega) r1 r2 (by rw [List.length_take]; omega) hl1
theorem sumOf_len (l : List (List UInt8)) (T : List UInt8) : (sumOf l T).length = 8 := mark_len _
theorem encode_sym (p : Int) (g bS : Nat) (l : List (List UInt8)) (x : X) (A : Option Addr) (c : Nat) (w : World) (hg : SymAt w g bS l) (hl1 : l.length ≤ 1000000) (hr : Rd w w.heap.size A (x.body.map e8)) (h : rightF p x = 0) :
    Calls Tryz.prog 105 #[.pointer (some ⟨g, 0, none⟩), .int .i64 p, .agg #[.int .i64 x.kind, .int .u64 (x.life.toNat : Int), .int .i64 x.seq, .int .u64 (x.gen.toNat : Int), .slice A x.body.length c]] w fun e w' =>
      ∃ A' c', e = .returned (.tuple #[.slice A' 512 c', .int .i64 0]) ∧ w'.ownsRow w.heap.size 5 1 (.slice A' 512 c') 512 ((text p x ++ sumOf l (text p x)).map e8) ∧ Keep [bS] w w' ∧ SymAt w' g bS (sumAfter l (text p x)) := by
  have hlt := hg.lt
  refine encode_gen p g x A c w hr h (sumOf l (text p x)) (sumOf_len _ _) [bS] (fun j hj => by rw [List.mem_singleton] at hj; subst hj; exact hlt.2) (fun W => SymAt W g bS (sumAfter l (text p x))) (fun W W' r hW hgr hrr => hW.grown hgr (fun e => by have := hrr _ e.symm; omega) (fun e => by have := hrr _ e.symm; omega)) ?_
  intro W bW A1 c1 r1 ha
  refine (sum_sym W g bS l (hg.on bW) A1 (text p x) 504 c1 (text_len _ _).symm r1 (fun a he e => by have := ha a he; injection e with e; omega) (by rw [text_len]; omega) hl1).mono ?_
  rintro e W' ⟨A2, c2, he, own2, k2, s2⟩
  exact ⟨A2, c2, he, Rd.own own2, k2, s2⟩
end Go.Proofs.YtchcmklelmlbgaaGreat.Sec
