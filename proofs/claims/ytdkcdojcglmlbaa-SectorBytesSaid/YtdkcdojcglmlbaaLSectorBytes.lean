/- SectorBytes: for every input the law returns true: the bytes of any sector at any place, by real sums, or why it has none. No condition. -/
import Derived.Test.YtdkcdojcglmlbaaSec9
import Derived.Test.YtdkcdojcglmlbaaOpenSec
namespace Go.Proofs.Ytdkcdojcglmlbaa.SectorBytes
open Go.ChangeShapes Go.WideShapes Go.ChangeAt Go.RowKit Go.Joins
open Go.ChangeMaps (open_string shut_string)
open Go.Proofs.Ytdkcdojcglmlbaa.Sec
set_option linter.unusedVariables false
set_option maxRecDepth 100000
set_option maxHeartbeats 1000000 in
theorem walk (p : Int) (x : X) (A : Option Addr) (c : Nat) (y : X) (B : Option Addr) (d : Nat) (w : World) (hp0 : -9223372036854775808 ≤ p) (hp1 : p ≤ 9223372036854775807) (hr : Rd w w.heap.size A (x.body.map e8)) (hc : x.body.length ≤ c) (hcm : c ≤ maxLen) (hs : Rd w w.heap.size B (y.body.map e8)) (hd : y.body.length ≤ d) (hdm : d ≤ maxLen) :
    Calls Try.prog 10 #[.int .i64 p, .agg #[.int .i64 x.kind, .int .u64 (x.life.toNat : Int), .int .i64 x.seq, .int .u64 (x.gen.toNat : Int), .slice A x.body.length c], .agg #[.int .i64 y.kind, .int .u64 (y.life.toNat : Int), .int .i64 y.seq, .int .u64 (y.gen.toNat : Int), .slice B y.body.length d]] w fun e w' => e = .returned (.bool true) ∧ Below w.heap.size w w' := by
  by_cases h1 : 1000 < x.body.length
  · go_enter Try.func10, Try.ntmps10
    go_wp2_with (go_at_call 44; refine (alive_any _).mono ?_; rintro e w' ⟨rfl, hw⟩)
    go_ret
    exact ⟨rfl, bt (b2alloc _ _ _) hw⟩
  by_cases h2 : 1000 < y.body.length
  · go_enter Try.func10, Try.ntmps10
    go_wp2_with (go_at_call 44; refine (alive_any _).mono ?_; rintro e w' ⟨rfl, hw⟩)
    go_ret
    exact ⟨rfl, bt (b2alloc _ _ _) hw⟩
  obtain ⟨f, hf⟩ : ∃ f, f = rightF p x := ⟨_, rfl⟩
  have Hf := Lib.hid hf
  clear hf
  have hff : (f != f) = false := by simp
  have tK1 : True := trivial
  obtain ⟨w3, hw3⟩ : ∃ w3, w3 = (w.alloc (.cells #[.int .i64 x.kind, .int .u64 (x.life.toNat : Int), .int .i64 x.seq, .int .u64 (x.gen.toNat : Int), .slice A x.body.length c] 83)).alloc (.cells #[.int .i64 y.kind, .int .u64 (y.life.toNat : Int), .int .i64 y.seq, .int .u64 (y.gen.toNat : Int), .slice B y.body.length d] 83) := ⟨_, rfl⟩
  have Hw3 := Lib.hid hw3
  clear hw3
  by_cases h0 : f = 0
  · have hf1 := bne_no h0
    have hf2 := beq_yes h0
    go_enter Try.func10, Try.ntmps10
    go_wp2_with fail
    have B3 : Blk w3 w.heap.size [.int .i64 x.kind, .int .u64 (x.life.toNat : Int), .int .i64 x.seq, .int .u64 (x.gen.toNat : Int), .slice A x.body.length c] := by rw [Hw3.out]; exact (Blk.new w [.int .i64 x.kind, .int .u64 (x.life.toNat : Int), .int .i64 x.seq, .int .u64 (x.gen.toNat : Int), .slice A x.body.length c] 83).alloc _
    have C3 : Blk w3 (w.heap.size + 1) [.int .i64 y.kind, .int .u64 (y.life.toNat : Int), .int .i64 y.seq, .int .u64 (y.gen.toNat : Int), .slice B y.body.length d] := by
      rw [Hw3.out]
      have := Blk.new (w.alloc (.cells #[.int .i64 x.kind, .int .u64 (x.life.toNat : Int), .int .i64 x.seq, .int .u64 (x.gen.toNat : Int), .slice A x.body.length c] 83)) [.int .i64 y.kind, .int .u64 (y.life.toNat : Int), .int .i64 y.seq, .int .u64 (y.gen.toNat : Int), .slice B y.body.length d] 83
      rwa [show (w.alloc (.cells #[.int .i64 x.kind, .int .u64 (x.life.toNat : Int), .int .i64 x.seq, .int .u64 (x.gen.toNat : Int), .slice A x.body.length c] 83)).heap.size = w.heap.size + 1 by simp] at this
    have bw3 : Below w.heap.size w w3 := by rw [Hw3.out]; exact b2alloc _ _ _
    rw [← Hw3.out]
    have bb3 : Below w3.heap.size w3 w3.drew := (Below.refl _ _).drew
    refine wp_region_held_drew (S := (fun w' => (w'.cell? ⟨w.heap.size, 0, none⟩ = some (.int .i64 x.kind) ∧ w'.cell? ⟨w.heap.size, 1, none⟩ = some (.int .u64 (x.life.toNat : Int)) ∧ w'.cell? ⟨w.heap.size, 2, none⟩ = some (.int .i64 x.seq) ∧ w'.cell? ⟨w.heap.size, 3, none⟩ = some (.int .u64 (x.gen.toNat : Int)) ∧ w'.cell? ⟨w.heap.size, 4, none⟩ = some (.slice A x.body.length c)))) (by kernel_rfl) (by exact five5x (B3.on bb3)) (fun hHeld => ?_)
    refine wpAnyH_take (i := 1) (oi := { dst := some 26, op := Op.move (Operand.tmp 0), type := 3, pos := "law.go:34", after := #[], guard := none }) (v := ?_) rfl (by kernel_rfl) (by kernel_rfl) (by kernel_rfl) (fun _ _ _ h => h) (Or.inl ⟨by rfl, ?_⟩) (by assumption) ?_; rotate_left; · ((intro w hSw; (try dsimp only at hSw); go_simp) <;> with_reducible rfl)
    try simp only [Act.put, List.setIfInBounds_toArray, List.set_cons_zero, List.set_cons_succ]
    refine wpAnyH_take (i := 2) (oi := { dst := some 27, op := Op.load 83 (Operand.tmp 4), type := 83, pos := "law.go:34", after := #[], guard := none }) (v := ?_) rfl (by kernel_rfl) (by kernel_rfl) (by kernel_rfl) (fun _ _ _ h => h) (Or.inl ⟨by rfl, ?_⟩) (by assumption) ?_; rotate_left; · ((intro w hSw; (try dsimp only at hSw); go_simp) <;> with_reducible rfl)
    try simp only [Act.put, List.setIfInBounds_toArray, List.set_cons_zero, List.set_cons_succ]
    refine wpAnyH_ready (rs := [0]) (by kernel_rfl) (by simp) ?_
    refine AllReadyH.cons (o := { dst := some 25, op := Op.call { callee := Callee.value (Operand.func 46), args := #[Operand.const (Value.slice none 0 0)], argTypes := #[26] }, type := 80, pos := "law.go:34", after := #[], guard := none }) rfl (fun K hK => ?_) AllReadyH.nil
    go_simp; (first | ((go_at_call 46; refine (real_any _).mono ?_; rintro e w4 ⟨g, rfl, hg, hgl, b4⟩; have bb4 := bt bb3 b4; have Hg := Lib.hid hg)) | ((go_at_call 59; refine (of_any x A c _).mono ?_; rintro e w5 ⟨rfl, b5⟩; have bb5 := bt bb4 b5)) | ((go_at_call 58; refine (encode_real p g x A c _ (Hg.out.on b5) (hr.on (bt bw3 bb5)) (by rw [← Hf.out]; exact h0)).mono ?_; rintro e w6 ⟨A6, c6, rfl, own6, b6⟩; have bb6 := bt bb5 b6))); (try (go_wp2_with fail)); refine hK.out _ _ (by first | (first | exact five5x (B3.on bb4) | exact five5x (B3.on bb5) | exact five5x (B3.on bb6)) | ((try dsimp only); (first | exact five5x (B3.on bb4) | exact five5x (B3.on bb5) | exact five5x (B3.on bb6)))) (fun hHeld => ?_)
    clear hK K
    try simp only [Act.put, List.setIfInBounds_toArray, List.set_cons_zero, List.set_cons_succ]
    refine wpAnyH_ready (rs := [3]) (by kernel_rfl) (by simp) ?_
    refine AllReadyH.cons (o := { dst := some 28, op := Op.call { callee := Callee.value (Operand.func 59), args := #[Operand.tmp 27], argTypes := #[83] }, type := 77, pos := "law.go:34", after := #[{ on := 2, ground := Ground.data }, { on := 0, ground := Ground.chain }], guard := none }) rfl (fun K hK => ?_) AllReadyH.nil
    go_simp; (first | ((go_at_call 46; refine (real_any _).mono ?_; rintro e w4 ⟨g, rfl, hg, hgl, b4⟩; have bb4 := bt bb3 b4; have Hg := Lib.hid hg)) | ((go_at_call 59; refine (of_any x A c _).mono ?_; rintro e w5 ⟨rfl, b5⟩; have bb5 := bt bb4 b5)) | ((go_at_call 58; refine (encode_real p g x A c _ (Hg.out.on b5) (hr.on (bt bw3 bb5)) (by rw [← Hf.out]; exact h0)).mono ?_; rintro e w6 ⟨A6, c6, rfl, own6, b6⟩; have bb6 := bt bb5 b6))); (try (go_wp2_with fail)); refine hK.out _ _ (by first | (first | exact five5x (B3.on bb4) | exact five5x (B3.on bb5) | exact five5x (B3.on bb6)) | ((try dsimp only); (first | exact five5x (B3.on bb4) | exact five5x (B3.on bb5) | exact five5x (B3.on bb6)))) (fun hHeld => ?_)
    clear hK K
    try simp only [Act.put, List.setIfInBounds_toArray, List.set_cons_zero, List.set_cons_succ]
    refine wpAnyH_ready (rs := [4]) (by kernel_rfl) (by simp) ?_
    refine AllReadyH.cons (o := { dst := some 29, op := Op.call { callee := Callee.value (Operand.func 58), args := #[Operand.tmp 25, Operand.tmp 26, Operand.tmp 28], argTypes := #[80, 3, 77] }, type := 95, pos := "law.go:34", after := #[{ on := 0, ground := Ground.data }, { on := 1, ground := Ground.data }, { on := 3, ground := Ground.data }, { on := 3, ground := Ground.chain }], guard := none }) rfl (fun K hK => ?_) AllReadyH.nil
    go_simp; (first | ((go_at_call 46; refine (real_any _).mono ?_; rintro e w4 ⟨g, rfl, hg, hgl, b4⟩; have bb4 := bt bb3 b4; have Hg := Lib.hid hg)) | ((go_at_call 59; refine (of_any x A c _).mono ?_; rintro e w5 ⟨rfl, b5⟩; have bb5 := bt bb4 b5)) | ((go_at_call 58; refine (encode_real p g x A c _ (Hg.out.on b5) (hr.on (bt bw3 bb5)) (by rw [← Hf.out]; exact h0)).mono ?_; rintro e w6 ⟨A6, c6, rfl, own6, b6⟩; have bb6 := bt bb5 b6))); (try (go_wp2_with fail)); refine hK.out _ _ (by first | (first | exact five5x (B3.on bb4) | exact five5x (B3.on bb5) | exact five5x (B3.on bb6)) | ((try dsimp only); (first | exact five5x (B3.on bb4) | exact five5x (B3.on bb5) | exact five5x (B3.on bb6)))) (fun hHeld => ?_)
    clear hK K
    try simp only [Act.put, List.setIfInBounds_toArray, List.set_cons_zero, List.set_cons_succ]
    refine wpAnyH_take (i := 5) (oi := { dst := some 24, op := Op.move (Operand.tmp 29), type := 95, pos := "law.go:34", after := #[{ on := 4, ground := Ground.data }], guard := none }) (v := ?_) rfl (by kernel_rfl) (by kernel_rfl) (by kernel_rfl) (fun _ _ _ h => h) (Or.inl ⟨by rfl, ?_⟩) (by assumption) ?_; rotate_left; · ((intro w hSw; (try dsimp only at hSw); go_simp) <;> with_reducible rfl)
    try simp only [Act.put, List.setIfInBounds_toArray, List.set_cons_zero, List.set_cons_succ]
    refine wpAnyH_take (i := 6) (oi := { dst := some 30, op := Op.extract (Operand.tmp 24) 0, type := 26, pos := "law.go:34", after := #[{ on := 5, ground := Ground.data }], guard := none }) (v := ?_) rfl (by kernel_rfl) (by kernel_rfl) (by kernel_rfl) (fun _ _ _ h => h) (Or.inl ⟨by rfl, ?_⟩) (by assumption) ?_; rotate_left; · ((intro w hSw; (try dsimp only at hSw); go_simp) <;> with_reducible rfl)
    try simp only [Act.put, List.setIfInBounds_toArray, List.set_cons_zero, List.set_cons_succ]
    refine wpAnyH_take (i := 7) (oi := { dst := some 31, op := Op.extract (Operand.tmp 24) 1, type := 43, pos := "law.go:34", after := #[{ on := 5, ground := Ground.data }, { on := 8, ground := Ground.gcOnly Go.Departure.lateStores }], guard := none }) (v := ?_) rfl (by kernel_rfl) (by kernel_rfl) (by kernel_rfl) (fun _ _ _ h => h) (Or.inl ⟨by rfl, ?_⟩) (by assumption) ?_; rotate_left; · ((intro w hSw; (try dsimp only at hSw); go_simp) <;> with_reducible rfl)
    try simp only [Act.put, List.setIfInBounds_toArray, List.set_cons_zero, List.set_cons_succ]
    refine wpAnyH_take (i := 8) (oi := { dst := some 7, op := Op.assign (Operand.tmp 30), type := 26, pos := "law.go:34", after := #[{ on := 6, ground := Ground.data }, { on := 4, ground := Ground.chain }, { on := 0, ground := Ground.phase }, { on := 1, ground := Ground.phase }, { on := 2, ground := Ground.phase }, { on := 3, ground := Ground.phase }, { on := 4, ground := Ground.phase }, { on := 5, ground := Ground.phase }, { on := 6, ground := Ground.phase }, { on := 7, ground := Ground.textOnly Go.Departure.lateStores }], guard := none }) (v := ?_) rfl (by kernel_rfl) (by kernel_rfl) (by kernel_rfl) (fun _ _ _ h => h) (Or.inl ⟨by rfl, ?_⟩) (by assumption) ?_; rotate_left; · ((intro w hSw; (try dsimp only at hSw); go_simp) <;> with_reducible rfl)
    try simp only [Act.put, List.setIfInBounds_toArray, List.set_cons_zero, List.set_cons_succ]
    refine wpAnyH_take (i := 9) (oi := { dst := some 8, op := Op.assign (Operand.tmp 31), type := 43, pos := "law.go:34", after := #[{ on := 7, ground := Ground.data }, { on := 8, ground := Ground.chain }, { on := 0, ground := Ground.phase }, { on := 1, ground := Ground.phase }, { on := 2, ground := Ground.phase }, { on := 3, ground := Ground.phase }, { on := 4, ground := Ground.phase }, { on := 5, ground := Ground.phase }, { on := 6, ground := Ground.phase }, { on := 7, ground := Ground.phase }, { on := 8, ground := Ground.phase }], guard := none }) (v := ?_) rfl (by kernel_rfl) (by kernel_rfl) (by kernel_rfl) (fun _ _ _ h => h) (Or.inl ⟨by rfl, ?_⟩) (by assumption) ?_; rotate_left; · ((intro w hSw; (try dsimp only at hSw); go_simp) <;> with_reducible rfl)
    try simp only [Act.put, List.setIfInBounds_toArray, List.set_cons_zero, List.set_cons_succ]
    refine wpAnyH_done (by kernel_rfl) ?_ _
    have B6 := B3.on bb6
    have C6 := C3.on bb6
    have bw6 := bt bw3 bb6
    obtain ⟨c0, c1, c2, c3, c4, fr⟩ := five5 B6
    go_wp2_with fail
    refine (of_any x A c _).mono ?_
    rintro e w7 ⟨rfl, b7⟩
    go_wp2_with fail
    refine (encode_nil p x A c _).mono ?_
    rintro e w8 ⟨rfl, b8⟩
    have b68 := bt b7 b8
    have B8 := B6.on b68
    have C8 := C6.on b68
    have bw8 := bt bw6 b68
    clear c0 c1 c2 c3 c4 fr
    obtain ⟨c0, c1, c2, c3, c4, fr⟩ := five5 B8
    go_wp2_with fail
    refine (rright_any p x A c _).mono ?_
    rintro e w9 ⟨rfl, b9⟩
    rw [← Hf.out]
    have B9 := B8.on b9
    have C9 := C8.on b9
    have bw9 := bt bw8 b9
    clear c0 c1 c2 c3 c4 fr
    go_wp2_with fail
    have bd : Below w9.heap.size w9 w9.drew := (Below.refl _ _).drew
    refine wp_region_held_drew (S := (fun w' => (w'.cell? ⟨w.heap.size, 0, none⟩ = some (.int .i64 x.kind) ∧ w'.cell? ⟨w.heap.size, 1, none⟩ = some (.int .u64 (x.life.toNat : Int)) ∧ w'.cell? ⟨w.heap.size, 2, none⟩ = some (.int .i64 x.seq) ∧ w'.cell? ⟨w.heap.size, 3, none⟩ = some (.int .u64 (x.gen.toNat : Int)) ∧ w'.cell? ⟨w.heap.size, 4, none⟩ = some (.slice A x.body.length c)) ∧ (w'.cell? ⟨w.heap.size + 1, 0, none⟩ = some (.int .i64 y.kind) ∧ w'.cell? ⟨w.heap.size + 1, 1, none⟩ = some (.int .u64 (y.life.toNat : Int)) ∧ w'.cell? ⟨w.heap.size + 1, 2, none⟩ = some (.int .i64 y.seq) ∧ w'.cell? ⟨w.heap.size + 1, 3, none⟩ = some (.int .u64 (y.gen.toNat : Int)) ∧ w'.cell? ⟨w.heap.size + 1, 4, none⟩ = some (.slice B y.body.length d)))) (by kernel_rfl) (by exact ⟨five5x (B9.on bd), five5x (C9.on bd)⟩) (fun hHeld => ?_)
    refine wpAnyH_take (i := 0) (oi := { dst := some 42, op := Op.move (Operand.tmp 8), type := 43, pos := "law.go:37", after := #[], guard := none }) (v := ?_) rfl (by kernel_rfl) (by kernel_rfl) (by kernel_rfl) (fun _ _ _ h => h) (Or.inl ⟨by rfl, ?_⟩) (by assumption) ?_; rotate_left; · ((intro w hSw; (try dsimp only at hSw); go_simp) <;> with_reducible rfl)
    try simp only [Act.put, List.setIfInBounds_toArray, List.set_cons_zero, List.set_cons_succ]
    refine wpAnyH_take (i := 1) (oi := { dst := some 43, op := Op.move (Operand.tmp 11), type := 43, pos := "law.go:37", after := #[], guard := none }) (v := ?_) rfl (by kernel_rfl) (by kernel_rfl) (by kernel_rfl) (fun _ _ _ h => h) (Or.inl ⟨by rfl, ?_⟩) (by assumption) ?_; rotate_left; · ((intro w hSw; (try dsimp only at hSw); go_simp) <;> with_reducible rfl)
    try simp only [Act.put, List.setIfInBounds_toArray, List.set_cons_zero, List.set_cons_succ]
    refine wpAnyH_take (i := 2) (oi := { dst := some 44, op := Op.binOp BinOp.neq 43 (Operand.tmp 42) (Operand.tmp 43) 43, type := 4, pos := "law.go:37", after := #[{ on := 0, ground := Ground.data }, { on := 1, ground := Ground.data }], guard := none }) (v := ?_) rfl (by kernel_rfl) (by kernel_rfl) (by kernel_rfl) (fun _ _ _ h => h) (Or.inl ⟨by rfl, ?_⟩) (by assumption) ?_; rotate_left; · ((intro w hSw; (try dsimp only at hSw); go_simp) <;> with_reducible rfl)
    try simp only [Act.put, List.setIfInBounds_toArray, List.set_cons_zero, List.set_cons_succ]
    refine wpAnyH_take (i := 3) (oi := { dst := some 45, op := Op.move (Operand.tmp 44), type := 4, pos := "law.go:37", after := #[{ on := 2, ground := Ground.data }], guard := none }) (v := ?_) rfl (by kernel_rfl) (by kernel_rfl) (by kernel_rfl) (fun _ _ _ h => h) (Or.inl ⟨by rfl, ?_⟩) (by assumption) ?_; rotate_left; · ((intro w hSw; (try dsimp only at hSw); go_simp) <;> with_reducible rfl)
    try simp only [Act.put, List.setIfInBounds_toArray, List.set_cons_zero, List.set_cons_succ]
    refine wpAnyH_take (i := 4) (oi := { dst := some 46, op := Op.move (Operand.tmp 10), type := 43, pos := "law.go:37", after := #[{ on := 3, ground := Ground.guard }], guard := some (3, false) }) (v := ?_) rfl (by kernel_rfl) (by kernel_rfl) (by kernel_rfl) (fun _ _ _ h => h) (Or.inl ⟨by rfl, ?_⟩) (by assumption) ?_; rotate_left; · ((intro w hSw; (try dsimp only at hSw); go_simp) <;> with_reducible rfl)
    try simp only [Act.put, List.setIfInBounds_toArray, List.set_cons_zero, List.set_cons_succ]
    refine wpAnyH_take (i := 5) (oi := { dst := some 47, op := Op.binOp BinOp.neq 43 (Operand.tmp 46) (Operand.const (Value.int IntKind.i64 1)) 43, type := 4, pos := "law.go:37", after := #[{ on := 4, ground := Ground.data }, { on := 3, ground := Ground.guard }], guard := some (3, false) }) (v := ?_) rfl (by kernel_rfl) (by kernel_rfl) (by kernel_rfl) (fun _ _ _ h => h) (Or.inl ⟨by rfl, ?_⟩) (by assumption) ?_; rotate_left; · ((intro w hSw; (try dsimp only at hSw); go_simp) <;> with_reducible rfl)
    try simp only [Act.put, List.setIfInBounds_toArray, List.set_cons_zero, List.set_cons_succ]
    refine wpAnyH_take (i := 6) (oi := { dst := some 48, op := Op.pick (Operand.tmp 45) (Operand.const (Value.bool true)) (Operand.tmp 47), type := 4, pos := "law.go:37", after := #[{ on := 3, ground := Ground.data }, { on := 5, ground := Ground.data }], guard := none }) (v := ?_) rfl (by kernel_rfl) (by kernel_rfl) (by kernel_rfl) (fun _ _ _ h => h) (Or.inl ⟨by rfl, ?_⟩) (by assumption) ?_; rotate_left; · ((intro w hSw; (try dsimp only at hSw); go_simp) <;> with_reducible rfl)
    try simp only [Act.put, List.setIfInBounds_toArray, List.set_cons_zero, List.set_cons_succ]
    refine wpAnyH_take (i := 7) (oi := { dst := some 49, op := Op.move (Operand.tmp 48), type := 4, pos := "law.go:37", after := #[{ on := 6, ground := Ground.data }, { on := 3, ground := Ground.chain }], guard := none }) (v := ?_) rfl (by kernel_rfl) (by kernel_rfl) (by kernel_rfl) (fun _ _ _ h => h) (Or.inl ⟨by rfl, ?_⟩) (by assumption) ?_; rotate_left; · ((intro w hSw; (try dsimp only at hSw); go_simp) <;> with_reducible rfl)
    try simp only [Act.put, List.setIfInBounds_toArray, List.set_cons_zero, List.set_cons_succ]
    refine wpAnyH_take (i := 8) (oi := { dst := some 50, op := Op.load 83 (Operand.tmp 4), type := 83, pos := "law.go:37", after := #[{ on := 7, ground := Ground.guard }], guard := some (7, false) }) (v := ?_) rfl (by kernel_rfl) (by kernel_rfl) (by kernel_rfl) (fun _ _ _ h => h) (Or.inl ⟨by rfl, ?_⟩) (by assumption) ?_; rotate_left; · ((intro w hSw; (try dsimp only at hSw); go_simp) <;> with_reducible rfl)
    try simp only [Act.put, List.setIfInBounds_toArray, List.set_cons_zero, List.set_cons_succ]
    refine wpAnyH_take (i := 10) (oi := { dst := some 52, op := Op.load 83 (Operand.tmp 5), type := 83, pos := "law.go:37", after := #[{ on := 7, ground := Ground.guard }], guard := some (7, false) }) (v := ?_) rfl (by kernel_rfl) (by kernel_rfl) (by kernel_rfl) (fun _ _ _ h => h) (Or.inl ⟨by rfl, ?_⟩) (by assumption) ?_; rotate_left; · ((intro w hSw; (try dsimp only at hSw); go_simp) <;> with_reducible rfl)
    try simp only [Act.put, List.setIfInBounds_toArray, List.set_cons_zero, List.set_cons_succ]
    refine wpAnyH_take (i := 13) (oi := { dst := some 55, op := Op.load 83 (Operand.tmp 4), type := 83, pos := "law.go:37", after := #[{ on := 7, ground := Ground.guard }], guard := some (7, false) }) (v := ?_) rfl (by kernel_rfl) (by kernel_rfl) (by kernel_rfl) (fun _ _ _ h => h) (Or.inl ⟨by rfl, ?_⟩) (by assumption) ?_; rotate_left; · ((intro w hSw; (try dsimp only at hSw); go_simp) <;> with_reducible rfl)
    try simp only [Act.put, List.setIfInBounds_toArray, List.set_cons_zero, List.set_cons_succ]
    refine wpAnyH_take (i := 14) (oi := { dst := some 56, op := Op.load 83 (Operand.tmp 5), type := 83, pos := "law.go:37", after := #[{ on := 7, ground := Ground.guard }], guard := some (7, false) }) (v := ?_) rfl (by kernel_rfl) (by kernel_rfl) (by kernel_rfl) (fun _ _ _ h => h) (Or.inl ⟨by rfl, ?_⟩) (by assumption) ?_; rotate_left; · ((intro w hSw; (try dsimp only at hSw); go_simp) <;> with_reducible rfl)
    try simp only [Act.put, List.setIfInBounds_toArray, List.set_cons_zero, List.set_cons_succ]
    refine wpAnyH_ready (rs := [9]) (by kernel_rfl) (by simp) ?_
    refine AllReadyH.cons (o := { dst := some 51, op := Op.call { callee := Callee.value (Operand.func 59), args := #[Operand.tmp 50], argTypes := #[83] }, type := 77, pos := "law.go:37", after := #[{ on := 8, ground := Ground.data }, { on := 7, ground := Ground.chain }, { on := 7, ground := Ground.guard }], guard := some (7, false) }) rfl (fun K hK => ?_) AllReadyH.nil
    go_simp; (first | ((go_at_call 59; have _t := tK1; refine (of_any x A c _).mono ?_; rintro e w10 ⟨rfl, b10⟩; have bd1 := bt bd b10; clear tK1) ) | ((go_at_call 59; refine (of_any y B d _).mono ?_; rintro e w11 ⟨rfl, b11⟩; have bd2 := bt bd1 b11)) | ((go_at_call 61; refine (ssame_any x y A B c d _ (hr.on (bt bw9 bd2)) (hs.on (bt bw9 bd2)) (by omega) (by omega)).mono ?_; rintro e w12 ⟨rfl, b12⟩; have bd3 := bt bd2 b12)) | ((go_at_call 51; refine (rsame_any x y A B c d _ (hr.on (bt bw9 bd3)) (hs.on (bt bw9 bd3)) (by omega) (by omega)).mono ?_; rintro e w13 ⟨rfl, b13⟩; have bd4 := bt bd3 b13))); (try (go_wp2_with fail)); refine hK.out _ _ (by first | (first | exact ⟨five5x (B9.on bd1), five5x (C9.on bd1)⟩ | exact ⟨five5x (B9.on bd2), five5x (C9.on bd2)⟩ | exact ⟨five5x (B9.on bd3), five5x (C9.on bd3)⟩ | exact ⟨five5x (B9.on bd4), five5x (C9.on bd4)⟩) | ((try dsimp only); (first | exact ⟨five5x (B9.on bd1), five5x (C9.on bd1)⟩ | exact ⟨five5x (B9.on bd2), five5x (C9.on bd2)⟩ | exact ⟨five5x (B9.on bd3), five5x (C9.on bd3)⟩ | exact ⟨five5x (B9.on bd4), five5x (C9.on bd4)⟩))) (fun hHeld => ?_)
    clear hK K
    try simp only [Act.put, List.setIfInBounds_toArray, List.set_cons_zero, List.set_cons_succ]
    refine wpAnyH_ready (rs := [11]) (by kernel_rfl) (by simp) ?_
    refine AllReadyH.cons (o := { dst := some 53, op := Op.call { callee := Callee.value (Operand.func 59), args := #[Operand.tmp 52], argTypes := #[83] }, type := 77, pos := "law.go:37", after := #[{ on := 10, ground := Ground.data }, { on := 9, ground := Ground.chain }, { on := 7, ground := Ground.guard }], guard := some (7, false) }) rfl (fun K hK => ?_) AllReadyH.nil
    go_simp; (first | ((go_at_call 59; have _t := tK1; refine (of_any x A c _).mono ?_; rintro e w10 ⟨rfl, b10⟩; have bd1 := bt bd b10; clear tK1) ) | ((go_at_call 59; refine (of_any y B d _).mono ?_; rintro e w11 ⟨rfl, b11⟩; have bd2 := bt bd1 b11)) | ((go_at_call 61; refine (ssame_any x y A B c d _ (hr.on (bt bw9 bd2)) (hs.on (bt bw9 bd2)) (by omega) (by omega)).mono ?_; rintro e w12 ⟨rfl, b12⟩; have bd3 := bt bd2 b12)) | ((go_at_call 51; refine (rsame_any x y A B c d _ (hr.on (bt bw9 bd3)) (hs.on (bt bw9 bd3)) (by omega) (by omega)).mono ?_; rintro e w13 ⟨rfl, b13⟩; have bd4 := bt bd3 b13))); (try (go_wp2_with fail)); refine hK.out _ _ (by first | (first | exact ⟨five5x (B9.on bd1), five5x (C9.on bd1)⟩ | exact ⟨five5x (B9.on bd2), five5x (C9.on bd2)⟩ | exact ⟨five5x (B9.on bd3), five5x (C9.on bd3)⟩ | exact ⟨five5x (B9.on bd4), five5x (C9.on bd4)⟩) | ((try dsimp only); (first | exact ⟨five5x (B9.on bd1), five5x (C9.on bd1)⟩ | exact ⟨five5x (B9.on bd2), five5x (C9.on bd2)⟩ | exact ⟨five5x (B9.on bd3), five5x (C9.on bd3)⟩ | exact ⟨five5x (B9.on bd4), five5x (C9.on bd4)⟩))) (fun hHeld => ?_)
    clear hK K
    try simp only [Act.put, List.setIfInBounds_toArray, List.set_cons_zero, List.set_cons_succ]
    refine wpAnyH_ready (rs := [12]) (by kernel_rfl) (by simp) ?_
    refine AllReadyH.cons (o := { dst := some 54, op := Op.call { callee := Callee.value (Operand.func 61), args := #[Operand.tmp 51, Operand.tmp 53], argTypes := #[77, 77] }, type := 4, pos := "law.go:37", after := #[{ on := 9, ground := Ground.data }, { on := 11, ground := Ground.data }, { on := 11, ground := Ground.chain }, { on := 7, ground := Ground.guard }], guard := some (7, false) }) rfl (fun K hK => ?_) AllReadyH.nil
    go_simp; (first | ((go_at_call 59; have _t := tK1; refine (of_any x A c _).mono ?_; rintro e w10 ⟨rfl, b10⟩; have bd1 := bt bd b10; clear tK1) ) | ((go_at_call 59; refine (of_any y B d _).mono ?_; rintro e w11 ⟨rfl, b11⟩; have bd2 := bt bd1 b11)) | ((go_at_call 61; refine (ssame_any x y A B c d _ (hr.on (bt bw9 bd2)) (hs.on (bt bw9 bd2)) (by omega) (by omega)).mono ?_; rintro e w12 ⟨rfl, b12⟩; have bd3 := bt bd2 b12)) | ((go_at_call 51; refine (rsame_any x y A B c d _ (hr.on (bt bw9 bd3)) (hs.on (bt bw9 bd3)) (by omega) (by omega)).mono ?_; rintro e w13 ⟨rfl, b13⟩; have bd4 := bt bd3 b13))); (try (go_wp2_with fail)); refine hK.out _ _ (by first | (first | exact ⟨five5x (B9.on bd1), five5x (C9.on bd1)⟩ | exact ⟨five5x (B9.on bd2), five5x (C9.on bd2)⟩ | exact ⟨five5x (B9.on bd3), five5x (C9.on bd3)⟩ | exact ⟨five5x (B9.on bd4), five5x (C9.on bd4)⟩) | ((try dsimp only); (first | exact ⟨five5x (B9.on bd1), five5x (C9.on bd1)⟩ | exact ⟨five5x (B9.on bd2), five5x (C9.on bd2)⟩ | exact ⟨five5x (B9.on bd3), five5x (C9.on bd3)⟩ | exact ⟨five5x (B9.on bd4), five5x (C9.on bd4)⟩))) (fun hHeld => ?_)
    clear hK K
    try simp only [Act.put, List.setIfInBounds_toArray, List.set_cons_zero, List.set_cons_succ]
    refine wpAnyH_ready (rs := [15]) (by kernel_rfl) (by simp) ?_
    refine AllReadyH.cons (o := { dst := some 57, op := Op.call { callee := Callee.value (Operand.func 51), args := #[Operand.tmp 55, Operand.tmp 56], argTypes := #[83, 83] }, type := 4, pos := "law.go:37", after := #[{ on := 13, ground := Ground.data }, { on := 14, ground := Ground.data }, { on := 12, ground := Ground.chain }, { on := 7, ground := Ground.guard }], guard := some (7, false) }) rfl (fun K hK => ?_) AllReadyH.nil
    go_simp; (first | ((go_at_call 59; have _t := tK1; refine (of_any x A c _).mono ?_; rintro e w10 ⟨rfl, b10⟩; have bd1 := bt bd b10; clear tK1) ) | ((go_at_call 59; refine (of_any y B d _).mono ?_; rintro e w11 ⟨rfl, b11⟩; have bd2 := bt bd1 b11)) | ((go_at_call 61; refine (ssame_any x y A B c d _ (hr.on (bt bw9 bd2)) (hs.on (bt bw9 bd2)) (by omega) (by omega)).mono ?_; rintro e w12 ⟨rfl, b12⟩; have bd3 := bt bd2 b12)) | ((go_at_call 51; refine (rsame_any x y A B c d _ (hr.on (bt bw9 bd3)) (hs.on (bt bw9 bd3)) (by omega) (by omega)).mono ?_; rintro e w13 ⟨rfl, b13⟩; have bd4 := bt bd3 b13))); (try (go_wp2_with fail)); refine hK.out _ _ (by first | (first | exact ⟨five5x (B9.on bd1), five5x (C9.on bd1)⟩ | exact ⟨five5x (B9.on bd2), five5x (C9.on bd2)⟩ | exact ⟨five5x (B9.on bd3), five5x (C9.on bd3)⟩ | exact ⟨five5x (B9.on bd4), five5x (C9.on bd4)⟩) | ((try dsimp only); (first | exact ⟨five5x (B9.on bd1), five5x (C9.on bd1)⟩ | exact ⟨five5x (B9.on bd2), five5x (C9.on bd2)⟩ | exact ⟨five5x (B9.on bd3), five5x (C9.on bd3)⟩ | exact ⟨five5x (B9.on bd4), five5x (C9.on bd4)⟩))) (fun hHeld => ?_)
    clear hK K
    try simp only [Act.put, List.setIfInBounds_toArray, List.set_cons_zero, List.set_cons_succ]
    refine wpAnyH_take (i := 16) (oi := { dst := some 58, op := Op.binOp BinOp.neq 4 (Operand.tmp 54) (Operand.tmp 57) 4, type := 4, pos := "law.go:37", after := #[{ on := 12, ground := Ground.data }, { on := 15, ground := Ground.data }, { on := 7, ground := Ground.guard }], guard := some (7, false) }) (v := ?_) rfl (by kernel_rfl) (by kernel_rfl) (by kernel_rfl) (fun _ _ _ h => h) (Or.inl ⟨by rfl, ?_⟩) (by assumption) ?_; rotate_left; · ((intro w hSw; (try dsimp only at hSw); go_simp) <;> with_reducible rfl)
    try simp only [Act.put, List.setIfInBounds_toArray, List.set_cons_zero, List.set_cons_succ]
    refine wpAnyH_take (i := 17) (oi := { dst := some 59, op := Op.pick (Operand.tmp 49) (Operand.const (Value.bool true)) (Operand.tmp 58), type := 4, pos := "law.go:37", after := #[{ on := 7, ground := Ground.data }, { on := 16, ground := Ground.data }], guard := none }) (v := ?_) rfl (by kernel_rfl) (by kernel_rfl) (by kernel_rfl) (fun _ _ _ h => h) (Or.inl ⟨by rfl, ?_⟩) (by assumption) ?_; rotate_left; · ((intro w hSw; (try dsimp only at hSw); go_simp) <;> with_reducible rfl)
    try simp only [Act.put, List.setIfInBounds_toArray, List.set_cons_zero, List.set_cons_succ]
    refine wpAnyH_done (by kernel_rfl) ?_ _
    have bw13 := bt bw9 bd4
    have B13 := B9.on bd4
    have hss : (same x y != same x y) = false := by simp
    have own13 := own_on (own_on (own_on own6 b68) b9) bd4
    have hT := fun W (bW : Below w.heap.size w W) => rtext_any p x A c W (hr.on bW) (by rw [← Hf.out]; exact h0)
    have hTl := text_len p x
    obtain ⟨T, hTT⟩ : ∃ T, T = text p x := ⟨_, rfl⟩
    rw [← hTT] at hTl own13
    simp only [← hTT] at hT
    have HT := Lib.hid hT
    have HTl := Lib.hid hTl
    obtain ⟨S, hS⟩ : ∃ S, S = Crc.sumB T := ⟨_, rfl⟩
    have HSl := Lib.hid (show S.length = 8 by rw [hS, sumB_len])
    rw [← hS] at own13
    have hBy := fun A n c W hn hr => Crc.rbytes_any A T n c W hn hr (by rw [HTl.out]; omega)
    rw [← hS] at hBy
    have HBy := Lib.hid hBy
    have hJ := fun A B n o c d W hn ho h1 h2 => R1.join_any A B T S n o c d W hn ho h1 h2 (by rw [HTl.out, HSl.out]; omega)
    have hL : (T ++ S).length = 512 := by rw [List.length_append, HTl.out, HSl.out]
    obtain ⟨Z, hZ⟩ : ∃ Z, Z = T ++ S := ⟨_, rfl⟩
    rw [← hZ] at own13 hL hJ
    have HJ := Lib.hid hJ
    have HL := Lib.hid hL
    have hSm := fun A B n o c d W hn ho h1 h2 => R1.same_any A B Z Z n o c d W hn ho h1 h2 (by rw [HL.out]; omega) (by rw [HL.out]; omega)
    rw [R1.sameB_self] at hSm
    have HSm := Lib.hid hSm
    have HI := Lib.hid (fun A n c W hn hr => isBlank_any A Z n c W hn hr)
    have HB := Lib.hid (fun A n c W hn hr => rblank_any A Z n c W hn hr (by rw [HL.out]; omega))
    have hbb : (blankB Z == blankB Z) = true := by simp
    clear hT hTl hTT hS hBy hJ hL hZ hSm
    have rd13 := Rd.own own13
    obtain ⟨c0, c1, c2, c3, c4, fr⟩ := five5 B13
    go_wp2_with fail
    refine (HT.out _ bw13).mono ?_
    rintro e w14 ⟨A14, c14, rfl, own14, b14⟩
    rw [HTl.out]
    have rd14 := Rd.own own14
    have rz14 := rd13.on b14
    have bw14 := bt bw13 b14
    clear c0 c1 c2 c3 c4 fr
    go_wp2_with (first
      | (go_at_call 50; refine (HBy.out A14 504 c14 _ HTl.out.symm rd14).mono ?_; rintro e w15 ⟨A15, c15, rfl, own15, b15⟩; rw [HSl.out]; have rd15 := Rd.own own15; have bw15 := bt bw14 b15)
      | (go_at_call 17; refine (HJ.out A14 A15 504 8 c14 c15 _ HTl.out.symm HSl.out.symm (rd14.on b15) rd15).mono ?_; rintro e w16 ⟨A16, c16, rfl, own16, b16⟩; rw [HL.out]; have rd16 := Rd.own own16; have rz16 := (rz14.on b15).on b16; have bw16 := bt bw15 b16)
      | (go_at_call 19; refine (HSm.out A6 A16 512 512 c6 c16 _ HL.out.symm HL.out.symm rz16 rd16).mono ?_; rintro e w17 ⟨rfl, b17⟩; have rz17 := rz16.on b17; have bw17 := bt bw16 b17)
      | (go_at_call 47; refine (HI.out A6 512 c6 _ HL.out.symm rz17).mono ?_; rintro e w18 ⟨rfl, b18⟩; have rz18 := rz17.on b18; have bw18 := bt bw17 b18)
      | (go_at_call 48; refine (HB.out A6 512 c6 _ HL.out.symm rz18).mono ?_; rintro e w19 ⟨rfl, rfl⟩)
      | (go_at_call 44; refine (alive_any _).mono ?_; rintro e w20 ⟨rfl, b20⟩; have bw20 := bt bw18 b20))
    go_ret
    exact ⟨rfl, bw20⟩
  · have hf1 := bne_yes h0
    go_enter Try.func10, Try.ntmps10
    go_wp2_with fail
    have B3 : Blk w3 w.heap.size [.int .i64 x.kind, .int .u64 (x.life.toNat : Int), .int .i64 x.seq, .int .u64 (x.gen.toNat : Int), .slice A x.body.length c] := by rw [Hw3.out]; exact (Blk.new w [.int .i64 x.kind, .int .u64 (x.life.toNat : Int), .int .i64 x.seq, .int .u64 (x.gen.toNat : Int), .slice A x.body.length c] 83).alloc _
    have C3 : Blk w3 (w.heap.size + 1) [.int .i64 y.kind, .int .u64 (y.life.toNat : Int), .int .i64 y.seq, .int .u64 (y.gen.toNat : Int), .slice B y.body.length d] := by
      rw [Hw3.out]
      have := Blk.new (w.alloc (.cells #[.int .i64 x.kind, .int .u64 (x.life.toNat : Int), .int .i64 x.seq, .int .u64 (x.gen.toNat : Int), .slice A x.body.length c] 83)) [.int .i64 y.kind, .int .u64 (y.life.toNat : Int), .int .i64 y.seq, .int .u64 (y.gen.toNat : Int), .slice B y.body.length d] 83
      rwa [show (w.alloc (.cells #[.int .i64 x.kind, .int .u64 (x.life.toNat : Int), .int .i64 x.seq, .int .u64 (x.gen.toNat : Int), .slice A x.body.length c] 83)).heap.size = w.heap.size + 1 by simp] at this
    have bw3 : Below w.heap.size w w3 := by rw [Hw3.out]; exact b2alloc _ _ _
    rw [← Hw3.out]
    have bb3 : Below w3.heap.size w3 w3.drew := (Below.refl _ _).drew
    refine wp_region_held_drew (S := (fun w' => (w'.cell? ⟨w.heap.size, 0, none⟩ = some (.int .i64 x.kind) ∧ w'.cell? ⟨w.heap.size, 1, none⟩ = some (.int .u64 (x.life.toNat : Int)) ∧ w'.cell? ⟨w.heap.size, 2, none⟩ = some (.int .i64 x.seq) ∧ w'.cell? ⟨w.heap.size, 3, none⟩ = some (.int .u64 (x.gen.toNat : Int)) ∧ w'.cell? ⟨w.heap.size, 4, none⟩ = some (.slice A x.body.length c)))) (by kernel_rfl) (by exact five5x (B3.on bb3)) (fun hHeld => ?_)
    refine wpAnyH_take (i := 1) (oi := { dst := some 26, op := Op.move (Operand.tmp 0), type := 3, pos := "law.go:34", after := #[], guard := none }) (v := ?_) rfl (by kernel_rfl) (by kernel_rfl) (by kernel_rfl) (fun _ _ _ h => h) (Or.inl ⟨by rfl, ?_⟩) (by assumption) ?_; rotate_left; · ((intro w hSw; (try dsimp only at hSw); go_simp) <;> with_reducible rfl)
    try simp only [Act.put, List.setIfInBounds_toArray, List.set_cons_zero, List.set_cons_succ]
    refine wpAnyH_take (i := 2) (oi := { dst := some 27, op := Op.load 83 (Operand.tmp 4), type := 83, pos := "law.go:34", after := #[], guard := none }) (v := ?_) rfl (by kernel_rfl) (by kernel_rfl) (by kernel_rfl) (fun _ _ _ h => h) (Or.inl ⟨by rfl, ?_⟩) (by assumption) ?_; rotate_left; · ((intro w hSw; (try dsimp only at hSw); go_simp) <;> with_reducible rfl)
    try simp only [Act.put, List.setIfInBounds_toArray, List.set_cons_zero, List.set_cons_succ]
    refine wpAnyH_ready (rs := [0]) (by kernel_rfl) (by simp) ?_
    refine AllReadyH.cons (o := { dst := some 25, op := Op.call { callee := Callee.value (Operand.func 46), args := #[Operand.const (Value.slice none 0 0)], argTypes := #[26] }, type := 80, pos := "law.go:34", after := #[], guard := none }) rfl (fun K hK => ?_) AllReadyH.nil
    go_simp; (first | ((go_at_call 46; refine (real_any _).mono ?_; rintro e w4 ⟨g, rfl, hg, hgl, b4⟩; have bb4 := bt bb3 b4; have Hg := Lib.hid hg)) | ((go_at_call 59; refine (of_any x A c _).mono ?_; rintro e w5 ⟨rfl, b5⟩; have bb5 := bt bb4 b5)) | ((go_at_call 58; refine (encode_bad p g x A c _ (by rw [← Hf.out]; exact h0)).mono ?_; rintro e w6 ⟨rfl, b6⟩; rw [← Hf.out]; have bb6 := bt bb5 b6))); (try (go_wp2_with fail)); refine hK.out _ _ (by first | (first | exact five5x (B3.on bb4) | exact five5x (B3.on bb5) | exact five5x (B3.on bb6)) | ((try dsimp only); (first | exact five5x (B3.on bb4) | exact five5x (B3.on bb5) | exact five5x (B3.on bb6)))) (fun hHeld => ?_)
    clear hK K
    try simp only [Act.put, List.setIfInBounds_toArray, List.set_cons_zero, List.set_cons_succ]
    refine wpAnyH_ready (rs := [3]) (by kernel_rfl) (by simp) ?_
    refine AllReadyH.cons (o := { dst := some 28, op := Op.call { callee := Callee.value (Operand.func 59), args := #[Operand.tmp 27], argTypes := #[83] }, type := 77, pos := "law.go:34", after := #[{ on := 2, ground := Ground.data }, { on := 0, ground := Ground.chain }], guard := none }) rfl (fun K hK => ?_) AllReadyH.nil
    go_simp; (first | ((go_at_call 46; refine (real_any _).mono ?_; rintro e w4 ⟨g, rfl, hg, hgl, b4⟩; have bb4 := bt bb3 b4; have Hg := Lib.hid hg)) | ((go_at_call 59; refine (of_any x A c _).mono ?_; rintro e w5 ⟨rfl, b5⟩; have bb5 := bt bb4 b5)) | ((go_at_call 58; refine (encode_bad p g x A c _ (by rw [← Hf.out]; exact h0)).mono ?_; rintro e w6 ⟨rfl, b6⟩; rw [← Hf.out]; have bb6 := bt bb5 b6))); (try (go_wp2_with fail)); refine hK.out _ _ (by first | (first | exact five5x (B3.on bb4) | exact five5x (B3.on bb5) | exact five5x (B3.on bb6)) | ((try dsimp only); (first | exact five5x (B3.on bb4) | exact five5x (B3.on bb5) | exact five5x (B3.on bb6)))) (fun hHeld => ?_)
    clear hK K
    try simp only [Act.put, List.setIfInBounds_toArray, List.set_cons_zero, List.set_cons_succ]
    refine wpAnyH_ready (rs := [4]) (by kernel_rfl) (by simp) ?_
    refine AllReadyH.cons (o := { dst := some 29, op := Op.call { callee := Callee.value (Operand.func 58), args := #[Operand.tmp 25, Operand.tmp 26, Operand.tmp 28], argTypes := #[80, 3, 77] }, type := 95, pos := "law.go:34", after := #[{ on := 0, ground := Ground.data }, { on := 1, ground := Ground.data }, { on := 3, ground := Ground.data }, { on := 3, ground := Ground.chain }], guard := none }) rfl (fun K hK => ?_) AllReadyH.nil
    go_simp; (first | ((go_at_call 46; refine (real_any _).mono ?_; rintro e w4 ⟨g, rfl, hg, hgl, b4⟩; have bb4 := bt bb3 b4; have Hg := Lib.hid hg)) | ((go_at_call 59; refine (of_any x A c _).mono ?_; rintro e w5 ⟨rfl, b5⟩; have bb5 := bt bb4 b5)) | ((go_at_call 58; refine (encode_bad p g x A c _ (by rw [← Hf.out]; exact h0)).mono ?_; rintro e w6 ⟨rfl, b6⟩; rw [← Hf.out]; have bb6 := bt bb5 b6))); (try (go_wp2_with fail)); refine hK.out _ _ (by first | (first | exact five5x (B3.on bb4) | exact five5x (B3.on bb5) | exact five5x (B3.on bb6)) | ((try dsimp only); (first | exact five5x (B3.on bb4) | exact five5x (B3.on bb5) | exact five5x (B3.on bb6)))) (fun hHeld => ?_)
    clear hK K
    try simp only [Act.put, List.setIfInBounds_toArray, List.set_cons_zero, List.set_cons_succ]
    refine wpAnyH_take (i := 5) (oi := { dst := some 24, op := Op.move (Operand.tmp 29), type := 95, pos := "law.go:34", after := #[{ on := 4, ground := Ground.data }], guard := none }) (v := ?_) rfl (by kernel_rfl) (by kernel_rfl) (by kernel_rfl) (fun _ _ _ h => h) (Or.inl ⟨by rfl, ?_⟩) (by assumption) ?_; rotate_left; · ((intro w hSw; (try dsimp only at hSw); go_simp) <;> with_reducible rfl)
    try simp only [Act.put, List.setIfInBounds_toArray, List.set_cons_zero, List.set_cons_succ]
    refine wpAnyH_take (i := 6) (oi := { dst := some 30, op := Op.extract (Operand.tmp 24) 0, type := 26, pos := "law.go:34", after := #[{ on := 5, ground := Ground.data }], guard := none }) (v := ?_) rfl (by kernel_rfl) (by kernel_rfl) (by kernel_rfl) (fun _ _ _ h => h) (Or.inl ⟨by rfl, ?_⟩) (by assumption) ?_; rotate_left; · ((intro w hSw; (try dsimp only at hSw); go_simp) <;> with_reducible rfl)
    try simp only [Act.put, List.setIfInBounds_toArray, List.set_cons_zero, List.set_cons_succ]
    refine wpAnyH_take (i := 7) (oi := { dst := some 31, op := Op.extract (Operand.tmp 24) 1, type := 43, pos := "law.go:34", after := #[{ on := 5, ground := Ground.data }, { on := 8, ground := Ground.gcOnly Go.Departure.lateStores }], guard := none }) (v := ?_) rfl (by kernel_rfl) (by kernel_rfl) (by kernel_rfl) (fun _ _ _ h => h) (Or.inl ⟨by rfl, ?_⟩) (by assumption) ?_; rotate_left; · ((intro w hSw; (try dsimp only at hSw); go_simp) <;> with_reducible rfl)
    try simp only [Act.put, List.setIfInBounds_toArray, List.set_cons_zero, List.set_cons_succ]
    refine wpAnyH_take (i := 8) (oi := { dst := some 7, op := Op.assign (Operand.tmp 30), type := 26, pos := "law.go:34", after := #[{ on := 6, ground := Ground.data }, { on := 4, ground := Ground.chain }, { on := 0, ground := Ground.phase }, { on := 1, ground := Ground.phase }, { on := 2, ground := Ground.phase }, { on := 3, ground := Ground.phase }, { on := 4, ground := Ground.phase }, { on := 5, ground := Ground.phase }, { on := 6, ground := Ground.phase }, { on := 7, ground := Ground.textOnly Go.Departure.lateStores }], guard := none }) (v := ?_) rfl (by kernel_rfl) (by kernel_rfl) (by kernel_rfl) (fun _ _ _ h => h) (Or.inl ⟨by rfl, ?_⟩) (by assumption) ?_; rotate_left; · ((intro w hSw; (try dsimp only at hSw); go_simp) <;> with_reducible rfl)
    try simp only [Act.put, List.setIfInBounds_toArray, List.set_cons_zero, List.set_cons_succ]
    refine wpAnyH_take (i := 9) (oi := { dst := some 8, op := Op.assign (Operand.tmp 31), type := 43, pos := "law.go:34", after := #[{ on := 7, ground := Ground.data }, { on := 8, ground := Ground.chain }, { on := 0, ground := Ground.phase }, { on := 1, ground := Ground.phase }, { on := 2, ground := Ground.phase }, { on := 3, ground := Ground.phase }, { on := 4, ground := Ground.phase }, { on := 5, ground := Ground.phase }, { on := 6, ground := Ground.phase }, { on := 7, ground := Ground.phase }, { on := 8, ground := Ground.phase }], guard := none }) (v := ?_) rfl (by kernel_rfl) (by kernel_rfl) (by kernel_rfl) (fun _ _ _ h => h) (Or.inl ⟨by rfl, ?_⟩) (by assumption) ?_; rotate_left; · ((intro w hSw; (try dsimp only at hSw); go_simp) <;> with_reducible rfl)
    try simp only [Act.put, List.setIfInBounds_toArray, List.set_cons_zero, List.set_cons_succ]
    refine wpAnyH_done (by kernel_rfl) ?_ _
    have B6 := B3.on bb6
    have C6 := C3.on bb6
    have bw6 := bt bw3 bb6
    obtain ⟨c0, c1, c2, c3, c4, fr⟩ := five5 B6
    go_wp2_with fail
    refine (of_any x A c _).mono ?_
    rintro e w7 ⟨rfl, b7⟩
    go_wp2_with fail
    refine (encode_nil p x A c _).mono ?_
    rintro e w8 ⟨rfl, b8⟩
    have b68 := bt b7 b8
    have B8 := B6.on b68
    have C8 := C6.on b68
    have bw8 := bt bw6 b68
    clear c0 c1 c2 c3 c4 fr
    obtain ⟨c0, c1, c2, c3, c4, fr⟩ := five5 B8
    go_wp2_with fail
    refine (rright_any p x A c _).mono ?_
    rintro e w9 ⟨rfl, b9⟩
    rw [← Hf.out]
    have B9 := B8.on b9
    have C9 := C8.on b9
    have bw9 := bt bw8 b9
    clear c0 c1 c2 c3 c4 fr
    go_wp2_with fail
    have bd : Below w9.heap.size w9 w9.drew := (Below.refl _ _).drew
    refine wp_region_held_drew (S := (fun w' => (w'.cell? ⟨w.heap.size, 0, none⟩ = some (.int .i64 x.kind) ∧ w'.cell? ⟨w.heap.size, 1, none⟩ = some (.int .u64 (x.life.toNat : Int)) ∧ w'.cell? ⟨w.heap.size, 2, none⟩ = some (.int .i64 x.seq) ∧ w'.cell? ⟨w.heap.size, 3, none⟩ = some (.int .u64 (x.gen.toNat : Int)) ∧ w'.cell? ⟨w.heap.size, 4, none⟩ = some (.slice A x.body.length c)) ∧ (w'.cell? ⟨w.heap.size + 1, 0, none⟩ = some (.int .i64 y.kind) ∧ w'.cell? ⟨w.heap.size + 1, 1, none⟩ = some (.int .u64 (y.life.toNat : Int)) ∧ w'.cell? ⟨w.heap.size + 1, 2, none⟩ = some (.int .i64 y.seq) ∧ w'.cell? ⟨w.heap.size + 1, 3, none⟩ = some (.int .u64 (y.gen.toNat : Int)) ∧ w'.cell? ⟨w.heap.size + 1, 4, none⟩ = some (.slice B y.body.length d)))) (by kernel_rfl) (by exact ⟨five5x (B9.on bd), five5x (C9.on bd)⟩) (fun hHeld => ?_)
    refine wpAnyH_take (i := 0) (oi := { dst := some 42, op := Op.move (Operand.tmp 8), type := 43, pos := "law.go:37", after := #[], guard := none }) (v := ?_) rfl (by kernel_rfl) (by kernel_rfl) (by kernel_rfl) (fun _ _ _ h => h) (Or.inl ⟨by rfl, ?_⟩) (by assumption) ?_; rotate_left; · ((intro w hSw; (try dsimp only at hSw); go_simp) <;> with_reducible rfl)
    try simp only [Act.put, List.setIfInBounds_toArray, List.set_cons_zero, List.set_cons_succ]
    refine wpAnyH_take (i := 1) (oi := { dst := some 43, op := Op.move (Operand.tmp 11), type := 43, pos := "law.go:37", after := #[], guard := none }) (v := ?_) rfl (by kernel_rfl) (by kernel_rfl) (by kernel_rfl) (fun _ _ _ h => h) (Or.inl ⟨by rfl, ?_⟩) (by assumption) ?_; rotate_left; · ((intro w hSw; (try dsimp only at hSw); go_simp) <;> with_reducible rfl)
    try simp only [Act.put, List.setIfInBounds_toArray, List.set_cons_zero, List.set_cons_succ]
    refine wpAnyH_take (i := 2) (oi := { dst := some 44, op := Op.binOp BinOp.neq 43 (Operand.tmp 42) (Operand.tmp 43) 43, type := 4, pos := "law.go:37", after := #[{ on := 0, ground := Ground.data }, { on := 1, ground := Ground.data }], guard := none }) (v := ?_) rfl (by kernel_rfl) (by kernel_rfl) (by kernel_rfl) (fun _ _ _ h => h) (Or.inl ⟨by rfl, ?_⟩) (by assumption) ?_; rotate_left; · ((intro w hSw; (try dsimp only at hSw); go_simp) <;> with_reducible rfl)
    try simp only [Act.put, List.setIfInBounds_toArray, List.set_cons_zero, List.set_cons_succ]
    refine wpAnyH_take (i := 3) (oi := { dst := some 45, op := Op.move (Operand.tmp 44), type := 4, pos := "law.go:37", after := #[{ on := 2, ground := Ground.data }], guard := none }) (v := ?_) rfl (by kernel_rfl) (by kernel_rfl) (by kernel_rfl) (fun _ _ _ h => h) (Or.inl ⟨by rfl, ?_⟩) (by assumption) ?_; rotate_left; · ((intro w hSw; (try dsimp only at hSw); go_simp) <;> with_reducible rfl)
    try simp only [Act.put, List.setIfInBounds_toArray, List.set_cons_zero, List.set_cons_succ]
    refine wpAnyH_take (i := 4) (oi := { dst := some 46, op := Op.move (Operand.tmp 10), type := 43, pos := "law.go:37", after := #[{ on := 3, ground := Ground.guard }], guard := some (3, false) }) (v := ?_) rfl (by kernel_rfl) (by kernel_rfl) (by kernel_rfl) (fun _ _ _ h => h) (Or.inl ⟨by rfl, ?_⟩) (by assumption) ?_; rotate_left; · ((intro w hSw; (try dsimp only at hSw); go_simp) <;> with_reducible rfl)
    try simp only [Act.put, List.setIfInBounds_toArray, List.set_cons_zero, List.set_cons_succ]
    refine wpAnyH_take (i := 5) (oi := { dst := some 47, op := Op.binOp BinOp.neq 43 (Operand.tmp 46) (Operand.const (Value.int IntKind.i64 1)) 43, type := 4, pos := "law.go:37", after := #[{ on := 4, ground := Ground.data }, { on := 3, ground := Ground.guard }], guard := some (3, false) }) (v := ?_) rfl (by kernel_rfl) (by kernel_rfl) (by kernel_rfl) (fun _ _ _ h => h) (Or.inl ⟨by rfl, ?_⟩) (by assumption) ?_; rotate_left; · ((intro w hSw; (try dsimp only at hSw); go_simp) <;> with_reducible rfl)
    try simp only [Act.put, List.setIfInBounds_toArray, List.set_cons_zero, List.set_cons_succ]
    refine wpAnyH_take (i := 6) (oi := { dst := some 48, op := Op.pick (Operand.tmp 45) (Operand.const (Value.bool true)) (Operand.tmp 47), type := 4, pos := "law.go:37", after := #[{ on := 3, ground := Ground.data }, { on := 5, ground := Ground.data }], guard := none }) (v := ?_) rfl (by kernel_rfl) (by kernel_rfl) (by kernel_rfl) (fun _ _ _ h => h) (Or.inl ⟨by rfl, ?_⟩) (by assumption) ?_; rotate_left; · ((intro w hSw; (try dsimp only at hSw); go_simp) <;> with_reducible rfl)
    try simp only [Act.put, List.setIfInBounds_toArray, List.set_cons_zero, List.set_cons_succ]
    refine wpAnyH_take (i := 7) (oi := { dst := some 49, op := Op.move (Operand.tmp 48), type := 4, pos := "law.go:37", after := #[{ on := 6, ground := Ground.data }, { on := 3, ground := Ground.chain }], guard := none }) (v := ?_) rfl (by kernel_rfl) (by kernel_rfl) (by kernel_rfl) (fun _ _ _ h => h) (Or.inl ⟨by rfl, ?_⟩) (by assumption) ?_; rotate_left; · ((intro w hSw; (try dsimp only at hSw); go_simp) <;> with_reducible rfl)
    try simp only [Act.put, List.setIfInBounds_toArray, List.set_cons_zero, List.set_cons_succ]
    refine wpAnyH_take (i := 8) (oi := { dst := some 50, op := Op.load 83 (Operand.tmp 4), type := 83, pos := "law.go:37", after := #[{ on := 7, ground := Ground.guard }], guard := some (7, false) }) (v := ?_) rfl (by kernel_rfl) (by kernel_rfl) (by kernel_rfl) (fun _ _ _ h => h) (Or.inl ⟨by rfl, ?_⟩) (by assumption) ?_; rotate_left; · ((intro w hSw; (try dsimp only at hSw); go_simp) <;> with_reducible rfl)
    try simp only [Act.put, List.setIfInBounds_toArray, List.set_cons_zero, List.set_cons_succ]
    refine wpAnyH_take (i := 10) (oi := { dst := some 52, op := Op.load 83 (Operand.tmp 5), type := 83, pos := "law.go:37", after := #[{ on := 7, ground := Ground.guard }], guard := some (7, false) }) (v := ?_) rfl (by kernel_rfl) (by kernel_rfl) (by kernel_rfl) (fun _ _ _ h => h) (Or.inl ⟨by rfl, ?_⟩) (by assumption) ?_; rotate_left; · ((intro w hSw; (try dsimp only at hSw); go_simp) <;> with_reducible rfl)
    try simp only [Act.put, List.setIfInBounds_toArray, List.set_cons_zero, List.set_cons_succ]
    refine wpAnyH_take (i := 13) (oi := { dst := some 55, op := Op.load 83 (Operand.tmp 4), type := 83, pos := "law.go:37", after := #[{ on := 7, ground := Ground.guard }], guard := some (7, false) }) (v := ?_) rfl (by kernel_rfl) (by kernel_rfl) (by kernel_rfl) (fun _ _ _ h => h) (Or.inl ⟨by rfl, ?_⟩) (by assumption) ?_; rotate_left; · ((intro w hSw; (try dsimp only at hSw); go_simp) <;> with_reducible rfl)
    try simp only [Act.put, List.setIfInBounds_toArray, List.set_cons_zero, List.set_cons_succ]
    refine wpAnyH_take (i := 14) (oi := { dst := some 56, op := Op.load 83 (Operand.tmp 5), type := 83, pos := "law.go:37", after := #[{ on := 7, ground := Ground.guard }], guard := some (7, false) }) (v := ?_) rfl (by kernel_rfl) (by kernel_rfl) (by kernel_rfl) (fun _ _ _ h => h) (Or.inl ⟨by rfl, ?_⟩) (by assumption) ?_; rotate_left; · ((intro w hSw; (try dsimp only at hSw); go_simp) <;> with_reducible rfl)
    try simp only [Act.put, List.setIfInBounds_toArray, List.set_cons_zero, List.set_cons_succ]
    refine wpAnyH_ready (rs := [9]) (by kernel_rfl) (by simp) ?_
    refine AllReadyH.cons (o := { dst := some 51, op := Op.call { callee := Callee.value (Operand.func 59), args := #[Operand.tmp 50], argTypes := #[83] }, type := 77, pos := "law.go:37", after := #[{ on := 8, ground := Ground.data }, { on := 7, ground := Ground.chain }, { on := 7, ground := Ground.guard }], guard := some (7, false) }) rfl (fun K hK => ?_) AllReadyH.nil
    go_simp; (first | ((go_at_call 59; have _t := tK1; refine (of_any x A c _).mono ?_; rintro e w10 ⟨rfl, b10⟩; have bd1 := bt bd b10; clear tK1) ) | ((go_at_call 59; refine (of_any y B d _).mono ?_; rintro e w11 ⟨rfl, b11⟩; have bd2 := bt bd1 b11)) | ((go_at_call 61; refine (ssame_any x y A B c d _ (hr.on (bt bw9 bd2)) (hs.on (bt bw9 bd2)) (by omega) (by omega)).mono ?_; rintro e w12 ⟨rfl, b12⟩; have bd3 := bt bd2 b12)) | ((go_at_call 51; refine (rsame_any x y A B c d _ (hr.on (bt bw9 bd3)) (hs.on (bt bw9 bd3)) (by omega) (by omega)).mono ?_; rintro e w13 ⟨rfl, b13⟩; have bd4 := bt bd3 b13))); (try (go_wp2_with fail)); refine hK.out _ _ (by first | (first | exact ⟨five5x (B9.on bd1), five5x (C9.on bd1)⟩ | exact ⟨five5x (B9.on bd2), five5x (C9.on bd2)⟩ | exact ⟨five5x (B9.on bd3), five5x (C9.on bd3)⟩ | exact ⟨five5x (B9.on bd4), five5x (C9.on bd4)⟩) | ((try dsimp only); (first | exact ⟨five5x (B9.on bd1), five5x (C9.on bd1)⟩ | exact ⟨five5x (B9.on bd2), five5x (C9.on bd2)⟩ | exact ⟨five5x (B9.on bd3), five5x (C9.on bd3)⟩ | exact ⟨five5x (B9.on bd4), five5x (C9.on bd4)⟩))) (fun hHeld => ?_)
    clear hK K
    try simp only [Act.put, List.setIfInBounds_toArray, List.set_cons_zero, List.set_cons_succ]
    refine wpAnyH_ready (rs := [11]) (by kernel_rfl) (by simp) ?_
    refine AllReadyH.cons (o := { dst := some 53, op := Op.call { callee := Callee.value (Operand.func 59), args := #[Operand.tmp 52], argTypes := #[83] }, type := 77, pos := "law.go:37", after := #[{ on := 10, ground := Ground.data }, { on := 9, ground := Ground.chain }, { on := 7, ground := Ground.guard }], guard := some (7, false) }) rfl (fun K hK => ?_) AllReadyH.nil
    go_simp; (first | ((go_at_call 59; have _t := tK1; refine (of_any x A c _).mono ?_; rintro e w10 ⟨rfl, b10⟩; have bd1 := bt bd b10; clear tK1) ) | ((go_at_call 59; refine (of_any y B d _).mono ?_; rintro e w11 ⟨rfl, b11⟩; have bd2 := bt bd1 b11)) | ((go_at_call 61; refine (ssame_any x y A B c d _ (hr.on (bt bw9 bd2)) (hs.on (bt bw9 bd2)) (by omega) (by omega)).mono ?_; rintro e w12 ⟨rfl, b12⟩; have bd3 := bt bd2 b12)) | ((go_at_call 51; refine (rsame_any x y A B c d _ (hr.on (bt bw9 bd3)) (hs.on (bt bw9 bd3)) (by omega) (by omega)).mono ?_; rintro e w13 ⟨rfl, b13⟩; have bd4 := bt bd3 b13))); (try (go_wp2_with fail)); refine hK.out _ _ (by first | (first | exact ⟨five5x (B9.on bd1), five5x (C9.on bd1)⟩ | exact ⟨five5x (B9.on bd2), five5x (C9.on bd2)⟩ | exact ⟨five5x (B9.on bd3), five5x (C9.on bd3)⟩ | exact ⟨five5x (B9.on bd4), five5x (C9.on bd4)⟩) | ((try dsimp only); (first | exact ⟨five5x (B9.on bd1), five5x (C9.on bd1)⟩ | exact ⟨five5x (B9.on bd2), five5x (C9.on bd2)⟩ | exact ⟨five5x (B9.on bd3), five5x (C9.on bd3)⟩ | exact ⟨five5x (B9.on bd4), five5x (C9.on bd4)⟩))) (fun hHeld => ?_)
    clear hK K
    try simp only [Act.put, List.setIfInBounds_toArray, List.set_cons_zero, List.set_cons_succ]
    refine wpAnyH_ready (rs := [12]) (by kernel_rfl) (by simp) ?_
    refine AllReadyH.cons (o := { dst := some 54, op := Op.call { callee := Callee.value (Operand.func 61), args := #[Operand.tmp 51, Operand.tmp 53], argTypes := #[77, 77] }, type := 4, pos := "law.go:37", after := #[{ on := 9, ground := Ground.data }, { on := 11, ground := Ground.data }, { on := 11, ground := Ground.chain }, { on := 7, ground := Ground.guard }], guard := some (7, false) }) rfl (fun K hK => ?_) AllReadyH.nil
    go_simp; (first | ((go_at_call 59; have _t := tK1; refine (of_any x A c _).mono ?_; rintro e w10 ⟨rfl, b10⟩; have bd1 := bt bd b10; clear tK1) ) | ((go_at_call 59; refine (of_any y B d _).mono ?_; rintro e w11 ⟨rfl, b11⟩; have bd2 := bt bd1 b11)) | ((go_at_call 61; refine (ssame_any x y A B c d _ (hr.on (bt bw9 bd2)) (hs.on (bt bw9 bd2)) (by omega) (by omega)).mono ?_; rintro e w12 ⟨rfl, b12⟩; have bd3 := bt bd2 b12)) | ((go_at_call 51; refine (rsame_any x y A B c d _ (hr.on (bt bw9 bd3)) (hs.on (bt bw9 bd3)) (by omega) (by omega)).mono ?_; rintro e w13 ⟨rfl, b13⟩; have bd4 := bt bd3 b13))); (try (go_wp2_with fail)); refine hK.out _ _ (by first | (first | exact ⟨five5x (B9.on bd1), five5x (C9.on bd1)⟩ | exact ⟨five5x (B9.on bd2), five5x (C9.on bd2)⟩ | exact ⟨five5x (B9.on bd3), five5x (C9.on bd3)⟩ | exact ⟨five5x (B9.on bd4), five5x (C9.on bd4)⟩) | ((try dsimp only); (first | exact ⟨five5x (B9.on bd1), five5x (C9.on bd1)⟩ | exact ⟨five5x (B9.on bd2), five5x (C9.on bd2)⟩ | exact ⟨five5x (B9.on bd3), five5x (C9.on bd3)⟩ | exact ⟨five5x (B9.on bd4), five5x (C9.on bd4)⟩))) (fun hHeld => ?_)
    clear hK K
    try simp only [Act.put, List.setIfInBounds_toArray, List.set_cons_zero, List.set_cons_succ]
    refine wpAnyH_ready (rs := [15]) (by kernel_rfl) (by simp) ?_
    refine AllReadyH.cons (o := { dst := some 57, op := Op.call { callee := Callee.value (Operand.func 51), args := #[Operand.tmp 55, Operand.tmp 56], argTypes := #[83, 83] }, type := 4, pos := "law.go:37", after := #[{ on := 13, ground := Ground.data }, { on := 14, ground := Ground.data }, { on := 12, ground := Ground.chain }, { on := 7, ground := Ground.guard }], guard := some (7, false) }) rfl (fun K hK => ?_) AllReadyH.nil
    go_simp; (first | ((go_at_call 59; have _t := tK1; refine (of_any x A c _).mono ?_; rintro e w10 ⟨rfl, b10⟩; have bd1 := bt bd b10; clear tK1) ) | ((go_at_call 59; refine (of_any y B d _).mono ?_; rintro e w11 ⟨rfl, b11⟩; have bd2 := bt bd1 b11)) | ((go_at_call 61; refine (ssame_any x y A B c d _ (hr.on (bt bw9 bd2)) (hs.on (bt bw9 bd2)) (by omega) (by omega)).mono ?_; rintro e w12 ⟨rfl, b12⟩; have bd3 := bt bd2 b12)) | ((go_at_call 51; refine (rsame_any x y A B c d _ (hr.on (bt bw9 bd3)) (hs.on (bt bw9 bd3)) (by omega) (by omega)).mono ?_; rintro e w13 ⟨rfl, b13⟩; have bd4 := bt bd3 b13))); (try (go_wp2_with fail)); refine hK.out _ _ (by first | (first | exact ⟨five5x (B9.on bd1), five5x (C9.on bd1)⟩ | exact ⟨five5x (B9.on bd2), five5x (C9.on bd2)⟩ | exact ⟨five5x (B9.on bd3), five5x (C9.on bd3)⟩ | exact ⟨five5x (B9.on bd4), five5x (C9.on bd4)⟩) | ((try dsimp only); (first | exact ⟨five5x (B9.on bd1), five5x (C9.on bd1)⟩ | exact ⟨five5x (B9.on bd2), five5x (C9.on bd2)⟩ | exact ⟨five5x (B9.on bd3), five5x (C9.on bd3)⟩ | exact ⟨five5x (B9.on bd4), five5x (C9.on bd4)⟩))) (fun hHeld => ?_)
    clear hK K
    try simp only [Act.put, List.setIfInBounds_toArray, List.set_cons_zero, List.set_cons_succ]
    refine wpAnyH_take (i := 16) (oi := { dst := some 58, op := Op.binOp BinOp.neq 4 (Operand.tmp 54) (Operand.tmp 57) 4, type := 4, pos := "law.go:37", after := #[{ on := 12, ground := Ground.data }, { on := 15, ground := Ground.data }, { on := 7, ground := Ground.guard }], guard := some (7, false) }) (v := ?_) rfl (by kernel_rfl) (by kernel_rfl) (by kernel_rfl) (fun _ _ _ h => h) (Or.inl ⟨by rfl, ?_⟩) (by assumption) ?_; rotate_left; · ((intro w hSw; (try dsimp only at hSw); go_simp) <;> with_reducible rfl)
    try simp only [Act.put, List.setIfInBounds_toArray, List.set_cons_zero, List.set_cons_succ]
    refine wpAnyH_take (i := 17) (oi := { dst := some 59, op := Op.pick (Operand.tmp 49) (Operand.const (Value.bool true)) (Operand.tmp 58), type := 4, pos := "law.go:37", after := #[{ on := 7, ground := Ground.data }, { on := 16, ground := Ground.data }], guard := none }) (v := ?_) rfl (by kernel_rfl) (by kernel_rfl) (by kernel_rfl) (fun _ _ _ h => h) (Or.inl ⟨by rfl, ?_⟩) (by assumption) ?_; rotate_left; · ((intro w hSw; (try dsimp only at hSw); go_simp) <;> with_reducible rfl)
    try simp only [Act.put, List.setIfInBounds_toArray, List.set_cons_zero, List.set_cons_succ]
    refine wpAnyH_done (by kernel_rfl) ?_ _
    have bw13 := bt bw9 bd4
    have B13 := B9.on bd4
    have hss : (same x y != same x y) = false := by simp
    go_wp2_with (go_at_call 44; refine (alive_any _).mono ?_; rintro e w' ⟨rfl, hw⟩)
    go_ret
    exact ⟨rfl, bt bw13 hw⟩
set_option maxRecDepth 100000 in
theorem lifted (os : Os) (started : os.Started) (H : Type) (enc : TypeId × Value → H) :
    ReturnsInHanded {} Try.checked os 10 .any (Rows.sectorBytesSpec.pre6 enc Try.prog Try.f10 Rows.sectorBytesRow.domain false) (Rows.sectorBytesSpec.post enc Try.prog Try.f10 false true false false) := by
  refine returnsInHanded_of_change (C := Try.checked) own started (by kernel_rfl) Try.func10
    (ChangeSpec.witness6 (enc := enc) (C := Try.checked) false ⟨#[], #[.int .i64 0, .agg #[.int .i64 0, .int .u64 0, .int .i64 0, .int .u64 0, .slice none 0 0], .agg #[.int .i64 0, .int .u64 0, .int .i64 0, .int .u64 0, .slice none 0 0]], []⟩ 8 (by kernel_rfl) (by kernel_rfl) (by kernel_rfl) (by kernel_rfl)) ?_
  intro W base args ds gs before hval0 hW hcnd _
  have hval : ∀ (j : Nat) t v, Try.f10.params[j]? = some t → args[j]? = some v → Value.okWide Try.prog W .any base t v := hval0
  have hW' := hW
  obtain ⟨p, q, hA0, hV, rfl, hfz, hnd⟩ := hW
  have hA : DataW.TrodAll enc Try.prog W 0 (fun _ => true) true Try.f10.params.toList args.toList ds p := hA0
  rw [Try.params10] at hA hval
  obtain ⟨v0, vs0, d0, ds0, p0, q0, hargs, rfl, rfl, h0, r0⟩ := trodAll_cons hA
  obtain ⟨v1, vs1, d1, ds1, p1, q1, rfl, rfl, rfl, h1, r1⟩ := trodAll_cons r0
  obtain ⟨v2, vs2, d2, ds2, p2, q2, rfl, rfl, rfl, h2, r2⟩ := trodAll_cons r1
  obtain ⟨rfl, rfl, rfl⟩ := trodAll_nil r2
  obtain rfl : args = #[v0, v1, v2] := by cases args; simp_all
  obtain ⟨rfl, rfl⟩ := trodVars_none hV
  have k0 := h0
  have lt0 := places_lt k0
  obtain ⟨n0, rfl, _, _, w0⟩ := open_int Try.underlying3 (hval 0 3 v0 rfl rfl) h0
  have k1 := h1
  have lt1 := places_lt k1
  obtain ⟨x1, a1, cap1, rfl, rr1, rc1, rm1⟩ := sector_of (hval 1 83 v1 rfl rfl) h1
  have k2 := h2
  have lt2 := places_lt k2
  obtain ⟨x2, a2, cap2, rfl, rr2, rc2, rm2⟩ := sector_of (hval 2 83 v2 rfl rfl) h2
  clear hA0 hval0
  refine (walk n0 x1 a1 cap1 x2 a2 cap2 W (wfi w0).1 (wfi w0).2 rr1 rc1 rm1 rr2 rc2 rm2).mono fun e W' ⟨he, bel⟩ => ?_
  subst he
  exact ⟨_, rfl, _, _, _, [], _, [], hW', trodAll_mk1 (shut_bool Try.underlying4 _), (trodAll_cons_mk (Below.trod laidOut (by kernel_rfl) (of_decide_eq_true (by kernel_rfl)) k0 bel lt0) (trodAll_cons_mk (Below.trod laidOut (by kernel_rfl) (of_decide_eq_true (by kernel_rfl)) k1 bel lt1) (trodAll_cons_mk (Below.trod laidOut (by kernel_rfl) (of_decide_eq_true (by kernel_rfl)) k2 bel lt2) trodAll_mk0))), rfl, bel.frame _, fun h => by cases h⟩

theorem proved : Rows.SectorBytesSaid :=
  OpenClaim.holds_of_wide 10 Try.f10 rfl rfl rfl rfl rfl rfl rfl ⟨rfl, rfl, rfl, rfl, rfl⟩ rfl rfl rfl rfl rfl (by kernel_rfl) Try.func10 (by kernel_rfl)
    (of_decide_eq_true (by kernel_rfl)) (by unfold Func.isWrapper; first | (rw [if_pos (by decide +kernel)]; kernel_rfl) | (rw [if_neg (by decide +kernel)]; exact ⟨rfl, rfl⟩))
    (fun os started H enc _ => lifted os started H enc)
#print axioms proved
end Go.Proofs.Ytdkcdojcglmlbaa.SectorBytes
