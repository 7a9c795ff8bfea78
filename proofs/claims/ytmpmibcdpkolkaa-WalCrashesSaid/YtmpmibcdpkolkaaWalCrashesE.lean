/- Texts of this claim, joined: Wal1, Wal2, Sup3, Sup4, SupPlain, EncPlain, RegionIn, Wal3, Rw, Pgs, Wal4, Wal5, Wal6, WalPlain, Snap2, Snap3. -/
import Derived.Test.YtmpmibcdpkolkaaWalCrashesD
import Derived.Test.YtmpmibcdpkolkaaWalCrashesA
import Derived.OrdersIn
import Derived.RangeFuncCalls
import Derived.OwnWalkIn
import Derived.Test.YtmpmibcdpkolkaaWalCrashesB
/- The log: which ring is right, where its sectors stand, what a log tells. -/
namespace Go.Proofs.Ytmpmibcdpkolkaa.Wal
open Go.RowKit
open Go.Proofs.Ytmpmibcdpkolkaa.Geom
open Go.Proofs.Ytmpmibcdpkolkaa.Sup (Gb gv gcell gthree)
open Go.Proofs.Ytmpmibcdpkolkaa.Disk (St DAt Did New8 Told8)
set_option linter.unusedVariables false
set_option maxRecDepth 100000
abbrev rcell (d s : Value) (ga gd gl : Int) (life : UInt64) (base : Int) : List Value := [d, s, .int .i64 ga, .int .i64 gd, .int .i64 gl, .int .u64 (life.toNat : Int), .int .i64 base]
abbrev rv (d s : Value) (ga gd gl : Int) (life : UInt64) (base : Int) : Value := .agg #[d, s, .int .i64 ga, .int .i64 gd, .int .i64 gl, .int .u64 (life.toNat : Int), .int .i64 base]
abbrev lcell (d s : Value) (ga gd gl : Int) (life : UInt64) (base seq : Int) : List Value := [d, s, .int .i64 ga, .int .i64 gd, .int .i64 gl, .int .u64 (life.toNat : Int), .int .i64 base, .int .i64 seq]
theorem seven7 {w : World} {g : Nat} {v0 v1 v2 v3 v4 v5 v6 : Value} (h : Blk w g [v0, v1, v2, v3, v4, v5, v6]) : w.cell? ⟨g, 0, none⟩ = some v0 ∧ w.cell? ⟨g, 1, none⟩ = some v1 ∧ w.cell? ⟨g, 2, none⟩ = some v2 ∧ w.cell? ⟨g, 3, none⟩ = some v3 ∧ w.cell? ⟨g, 4, none⟩ = some v4 ∧ w.cell? ⟨g, 5, none⟩ = some v5 ∧ w.cell? ⟨g, 6, none⟩ = some v6 :=
  ⟨h.cell (k := 0) (by simp), h.cell (k := 1) (by simp), h.cell (k := 2) (by simp), h.cell (k := 3) (by simp), h.cell (k := 4) (by simp), h.cell (k := 5) (by simp), h.cell (k := 6) (by simp)⟩
theorem eight8 {w : World} {g : Nat} {v0 v1 v2 v3 v4 v5 v6 v7 : Value} (h : Blk w g [v0, v1, v2, v3, v4, v5, v6, v7]) : w.cell? ⟨g, 0, none⟩ = some v0 ∧ w.cell? ⟨g, 1, none⟩ = some v1 ∧ w.cell? ⟨g, 2, none⟩ = some v2 ∧ w.cell? ⟨g, 3, none⟩ = some v3 ∧ w.cell? ⟨g, 4, none⟩ = some v4 ∧ w.cell? ⟨g, 5, none⟩ = some v5 ∧ w.cell? ⟨g, 6, none⟩ = some v6 ∧ w.cell? ⟨g, 7, none⟩ = some v7 :=
  ⟨h.cell (k := 0) (by simp), h.cell (k := 1) (by simp), h.cell (k := 2) (by simp), h.cell (k := 3) (by simp), h.cell (k := 4) (by simp), h.cell (k := 5) (by simp), h.cell (k := 6) (by simp), h.cell (k := 7) (by simp)⟩
/-- may there be a ring? -/
def wrightF (s : St) (ga gd gl base : Int) : Int := if right ga gd gl = true ∧ (s.size : Int) = Geom.sizeOf ga gd gl ∧ 0 ≤ base ∧ base ≤ 1073741824 then 0 else 2
theorem rightD_nil (g : Nat) (ga gd gl : Int) (life : UInt64) (base : Int) (w : World) : Calls Try.prog 100 #[rv (.pointer none) (.pointer (some ⟨g, 0, none⟩)) ga gd gl life base] w fun e w' => e = .returned (.int .i64 1) ∧ Below w.heap.size w w' := by
  obtain ⟨z0, z1, z2, z3, z4, z5, z6⟩ := seven7 (Blk.new w (rcell (.pointer none) (.pointer (some ⟨g, 0, none⟩)) ga gd gl life base) 160)
  go_enter Try.func100, Try.ntmps100
  go_wp2
  go_ret
  exact ⟨rfl, b1alloc _ _⟩
theorem rightS_nil (g : Nat) (ga gd gl : Int) (life : UInt64) (base : Int) (w : World) : Calls Try.prog 100 #[rv (.pointer (some ⟨g, 0, none⟩)) (.pointer none) ga gd gl life base] w fun e w' => e = .returned (.int .i64 1) ∧ Below w.heap.size w w' := by
  obtain ⟨z0, z1, z2, z3, z4, z5, z6⟩ := seven7 (Blk.new w (rcell (.pointer (some ⟨g, 0, none⟩)) (.pointer none) ga gd gl life base) 160)
  go_enter Try.func100, Try.ntmps100
  go_wp2
  go_ret
  exact ⟨rfl, b1alloc _ _⟩
set_option maxHeartbeats 2000000 in
theorem right_any (g : Nat) (fp : List Nat) (s : St) (gS : Nat) (ga gd gl : Int) (life : UInt64) (base : Int) (w : World) (hG : Gb ga gd gl) (h : DAt w g fp s) : Calls Try.prog 100 #[rv (.pointer (some ⟨g, 0, none⟩)) (.pointer (some ⟨gS, 0, none⟩)) ga gd gl life base] w fun e w' => e = .returned (.int .i64 (wrightF s ga gd gl base)) ∧ Below w.heap.size w w' := by
  have F := Blk.new w (rcell (.pointer (some ⟨g, 0, none⟩)) (.pointer (some ⟨gS, 0, none⟩)) ga gd gl life base) 160
  have b0 := b1alloc w (.cells (rcell (.pointer (some ⟨g, 0, none⟩)) (.pointer (some ⟨gS, 0, none⟩)) ga gd gl life base).toArray 160)
  obtain ⟨z0, z1, z2, z3, z4, z5, z6⟩ := seven7 F
  have HR := Lib.hid (fun W => Geom.right_any ga gd gl W hG.a0 hG.a1 hG.d0 hG.d1 hG.g0 hG.g1)
  have HZ := Lib.hid (fun W => Geom.size_any ga gd gl W hG.a0 hG.a1 hG.d0 hG.d1 hG.g0 hG.g1)
  have HD := Lib.hid (fun W (bW : Below w.heap.size w W) => Disk.size_any g fp s W (h.on bW))
  have hW : wrightF s ga gd gl base = if right ga gd gl = true ∧ (s.size : Int) = Geom.sizeOf ga gd gl ∧ 0 ≤ base ∧ base ≤ 1073741824 then 0 else 2 := rfl
  obtain ⟨F, hF⟩ : ∃ F, F = wrightF s ga gd gl base := ⟨_, rfl⟩
  rw [← hF] at hW ⊢
  obtain ⟨q, hq⟩ : ∃ q, q = right ga gd gl := ⟨_, rfl⟩
  obtain ⟨z, hz⟩ : ∃ z, z = Geom.sizeOf ga gd gl := ⟨_, rfl⟩
  rw [← hq] at HR hW
  rw [← hz] at HZ hW
  clear hq hz hF
  cases q with
  | false =>
    rw [if_neg (by simp)] at hW
    subst hW
    go_enter Try.func100, Try.ntmps100
    go_wp2_with fail
    refine region_inb (by kernel_rfl) (by kernel_rfl) ?_
    have inbNe := InB.some
    have inbW := @wrap_small
    have inbU := IntKind.wrap_u8'
    repeat (refine wpQuiet_step (fun K hK => ?_); go_simp; first | (refine hK _ ?_; clear hK K) | (apply Exists.intro; refine ⟨?_, hK _ ?_⟩; (· (intro w' hw'; first | (go_at_call 71; refine (HR.out _).mono ?_; rintro e w1 ⟨rfl, b1⟩; exact ⟨rfl, hw'.on b1⟩) | (have hcw := hw'.cell; go_simp; exact rfl))); clear hK K))
    refine wpQuiet_nil ?_
    intro wq hq
    clear inbNe inbW inbU
    go_wp2
    go_ret
    exact ⟨rfl, bt b0 hq.below⟩
  | true =>
    by_cases hs : (s.size : Int) = z
    rotate_left
    · rw [if_neg (fun e => hs e.2.1)] at hW
      subst hW
      have t0 := bne_yes hs
      clear hs
      go_enter Try.func100, Try.ntmps100
      go_wp2_with fail
      refine region_inb (by kernel_rfl) (by kernel_rfl) ?_
      have inbNe := InB.some
      have inbW := @wrap_small
      have inbU := IntKind.wrap_u8'
      repeat (refine wpQuiet_step (fun K hK => ?_); go_simp; first | (refine hK _ ?_; clear hK K) | (apply Exists.intro; refine ⟨?_, hK _ ?_⟩; (· (intro w' hw'; first | (go_at_call 71; refine (HR.out _).mono ?_; rintro e w1 ⟨rfl, b1⟩; exact ⟨rfl, hw'.on b1⟩) | (go_at_call 122; refine (HD.out _ (bt b0 hw'.below)).mono ?_; rintro e w1 ⟨rfl, rfl⟩; exact ⟨rfl, hw'⟩) | (go_at_call 123; refine (HZ.out _).mono ?_; rintro e w1 ⟨rfl, b1⟩; exact ⟨rfl, hw'.on b1⟩) | (have hcw := hw'.cell; go_simp; exact rfl))); clear hK K))
      refine wpQuiet_nil ?_
      intro wq hq
      clear inbNe inbW inbU
      go_wp2
      go_ret
      exact ⟨rfl, bt b0 hq.below⟩
    have t0 := bne_no hs
    by_cases hb0 : base < 0
    · rw [if_neg (fun e => by have := e.2.2.1; omega)] at hW
      subst hW
      clear hs
      go_enter Try.func100, Try.ntmps100
      go_wp2_with fail
      refine region_inb (by kernel_rfl) (by kernel_rfl) ?_
      have inbNe := InB.some
      have inbW := @wrap_small
      have inbU := IntKind.wrap_u8'
      repeat (refine wpQuiet_step (fun K hK => ?_); go_simp; first | (refine hK _ ?_; clear hK K) | (apply Exists.intro; refine ⟨?_, hK _ ?_⟩; (· (intro w' hw'; first | (go_at_call 71; refine (HR.out _).mono ?_; rintro e w1 ⟨rfl, b1⟩; exact ⟨rfl, hw'.on b1⟩) | (go_at_call 122; refine (HD.out _ (bt b0 hw'.below)).mono ?_; rintro e w1 ⟨rfl, rfl⟩; exact ⟨rfl, hw'⟩) | (go_at_call 123; refine (HZ.out _).mono ?_; rintro e w1 ⟨rfl, b1⟩; exact ⟨rfl, hw'.on b1⟩) | (have hcw := hw'.cell; go_simp; exact rfl))); clear hK K))
      refine wpQuiet_nil ?_
      intro wq hq
      clear inbNe inbW inbU
      go_wp2
      go_ret
      exact ⟨rfl, bt b0 hq.below⟩
    by_cases hb1 : 1073741824 < base
    · rw [if_neg (fun e => by have := e.2.2.2; omega)] at hW
      subst hW
      clear hs
      go_enter Try.func100, Try.ntmps100
      go_wp2_with fail
      refine region_inb (by kernel_rfl) (by kernel_rfl) ?_
      have inbNe := InB.some
      have inbW := @wrap_small
      have inbU := IntKind.wrap_u8'
      repeat (refine wpQuiet_step (fun K hK => ?_); go_simp; first | (refine hK _ ?_; clear hK K) | (apply Exists.intro; refine ⟨?_, hK _ ?_⟩; (· (intro w' hw'; first | (go_at_call 71; refine (HR.out _).mono ?_; rintro e w1 ⟨rfl, b1⟩; exact ⟨rfl, hw'.on b1⟩) | (go_at_call 122; refine (HD.out _ (bt b0 hw'.below)).mono ?_; rintro e w1 ⟨rfl, rfl⟩; exact ⟨rfl, hw'⟩) | (go_at_call 123; refine (HZ.out _).mono ?_; rintro e w1 ⟨rfl, b1⟩; exact ⟨rfl, hw'.on b1⟩) | (have hcw := hw'.cell; go_simp; exact rfl))); clear hK K))
      refine wpQuiet_nil ?_
      intro wq hq
      clear inbNe inbW inbU
      go_wp2
      go_ret
      exact ⟨rfl, bt b0 hq.below⟩
    · rw [if_pos ⟨rfl, hs, by omega, by omega⟩] at hW
      subst hW
      clear hs
      go_enter Try.func100, Try.ntmps100
      go_wp2_with fail
      refine region_inb (by kernel_rfl) (by kernel_rfl) ?_
      have inbNe := InB.some
      have inbW := @wrap_small
      have inbU := IntKind.wrap_u8'
      repeat (refine wpQuiet_step (fun K hK => ?_); go_simp; first | (refine hK _ ?_; clear hK K) | (apply Exists.intro; refine ⟨?_, hK _ ?_⟩; (· (intro w' hw'; first | (go_at_call 71; refine (HR.out _).mono ?_; rintro e w1 ⟨rfl, b1⟩; exact ⟨rfl, hw'.on b1⟩) | (go_at_call 122; refine (HD.out _ (bt b0 hw'.below)).mono ?_; rintro e w1 ⟨rfl, rfl⟩; exact ⟨rfl, hw'⟩) | (go_at_call 123; refine (HZ.out _).mono ?_; rintro e w1 ⟨rfl, b1⟩; exact ⟨rfl, hw'.on b1⟩) | (have hcw := hw'.cell; go_simp; exact rfl))); clear hK K))
      refine wpQuiet_nil ?_
      intro wq hq
      clear inbNe inbW inbU
      go_wp2
      go_ret
      exact ⟨rfl, bt b0 hq.below⟩
theorem place_any (v1 v2 : Value) (ga gd gl : Int) (life : UInt64) (base i : Int) (w : World) (g1 g2 : Nat) (e1 : v1 = .pointer (some ⟨g1, 0, none⟩)) (e2 : v2 = .pointer (some ⟨g2, 0, none⟩)) (hG : Gb ga gd gl) (h0 : 0 ≤ base) (h1 : base ≤ 1073741824) (h2 : 0 ≤ i) (h3 : i ≤ 1000) :
    Calls Try.prog 132 #[rv v1 v2 ga gd gl life base, .int .i64 i] w fun e w' => e = .returned (.int .i64 (logAt ga gd gl (base + i))) ∧ Below w.heap.size w w' := by
  subst e1 e2
  have F := Blk.new w (rcell (.pointer (some ⟨g1, 0, none⟩)) (.pointer (some ⟨g2, 0, none⟩)) ga gd gl life base) 160
  have b0 := b1alloc w (.cells (rcell (.pointer (some ⟨g1, 0, none⟩)) (.pointer (some ⟨g2, 0, none⟩)) ga gd gl life base).toArray 160)
  obtain ⟨z0, z1, z2, z3, z4, z5, z6⟩ := seven7 F
  have HL := Lib.hid (fun W => Geom.log_any ga gd gl (base + i) W hG.a0 hG.a1 hG.d0 hG.d1 hG.g0 hG.g1 (by unfold Geom.lo; omega) (by unfold Geom.hi; omega))
  have hw64 : wrap64 (base + i) = base + i := by unfold wrap64; omega
  go_enter Try.func132, Try.ntmps132
  go_wp2_with (go_at_call 138; refine (HL.out _).mono ?_; rintro e w1 ⟨rfl, b1⟩)
  go_ret
  exact ⟨rfl, bt b0 b1⟩
end Go.Proofs.Ytmpmibcdpkolkaa.Wal

/- The log: a new one, what it tells, how many pages it takes. -/
namespace Go.Proofs.Ytmpmibcdpkolkaa.Wal
open Go.RowKit
open Go.Proofs.Ytmpmibcdpkolkaa.Geom
open Go.Proofs.Ytmpmibcdpkolkaa.Sup (Gb gv gcell gthree)
open Go.Proofs.Ytmpmibcdpkolkaa.Disk (St DAt Did New8 Told8)
set_option linter.unusedVariables false
set_option maxRecDepth 100000
/-- a log, in its block -/
abbrev LAt (w : World) (L g gS : Nat) (ga gd gl : Int) (life : UInt64) (base : Int) (seq : Nat) : Prop := Blk w L (lcell (.pointer (some ⟨g, 0, none⟩)) (.pointer (some ⟨gS, 0, none⟩)) ga gd gl life base (seq : Int))
theorem newD_nil (gS : Nat) (ga gd gl : Int) (life : UInt64) (base : Int) (w : World) : Calls Try.prog 55 #[.pointer none, .pointer (some ⟨gS, 0, none⟩), gv ga gd gl, .int .u64 (life.toNat : Int), .int .i64 base] w fun e w' => e = .returned (.tuple #[.pointer none, .int .i64 1]) ∧ Below w.heap.size w w' := by
  obtain ⟨z0, z1, z2⟩ := gthree (Blk.new w (gcell ga gd gl) 23)
  have b0 := b2alloc w (.cells (gcell ga gd gl).toArray 23) (.cells (lcell (.pointer none) (.pointer (some ⟨gS, 0, none⟩)) ga gd gl life base 0).toArray 171)
  go_enter Try.func55, Try.ntmps55
  go_wp2_with (go_at_call 100; refine (rightD_nil _ _ _ _ _ _ _).mono ?_; rintro e w1 ⟨rfl, b1⟩)
  go_ret2
  exact ⟨rfl, bt b0 b1⟩
theorem new_wrong (g : Nat) (fp : List Nat) (s : St) (gS : Nat) (ga gd gl : Int) (life : UInt64) (base : Int) (w : World) (hG : Gb ga gd gl) (h : DAt w g fp s) (hf : wrightF s ga gd gl base ≠ 0) :
    Calls Try.prog 55 #[.pointer (some ⟨g, 0, none⟩), .pointer (some ⟨gS, 0, none⟩), gv ga gd gl, .int .u64 (life.toNat : Int), .int .i64 base] w fun e w' => e = .returned (.tuple #[.pointer none, .int .i64 (wrightF s ga gd gl base)]) ∧ Below w.heap.size w w' := by
  obtain ⟨z0, z1, z2⟩ := gthree (Blk.new w (gcell ga gd gl) 23)
  have b0 := b2alloc w (.cells (gcell ga gd gl).toArray 23) (.cells (lcell (.pointer (some ⟨g, 0, none⟩)) (.pointer (some ⟨gS, 0, none⟩)) ga gd gl life base 0).toArray 171)
  have HB := Lib.hid (fun W (bW : Below w.heap.size w W) => right_any g fp s gS ga gd gl life base W hG (h.on bW))
  obtain ⟨f, hf0⟩ : ∃ f, f = wrightF s ga gd gl base := ⟨_, rfl⟩
  rw [← hf0] at HB hf ⊢
  have t0 := bne_yes hf
  clear hf0
  go_enter Try.func55, Try.ntmps55
  go_wp2_with (go_at_call 100; refine (HB.out _ b0).mono ?_; rintro e w1 ⟨rfl, b1⟩)
  go_ret2
  exact ⟨rfl, bt b0 b1⟩
theorem new_any (g : Nat) (fp : List Nat) (s : St) (gS : Nat) (ga gd gl : Int) (life : UInt64) (base : Int) (w : World) (hG : Gb ga gd gl) (h : DAt w g fp s) (hf : wrightF s ga gd gl base = 0) :
    Calls Try.prog 55 #[.pointer (some ⟨g, 0, none⟩), .pointer (some ⟨gS, 0, none⟩), gv ga gd gl, .int .u64 (life.toNat : Int), .int .i64 base] w fun e w' => e = .returned (.tuple #[.pointer (some ⟨w.heap.size + 1, 0, none⟩), .int .i64 0]) ∧ LAt w' (w.heap.size + 1) g gS ga gd gl life base 0 ∧ Below w.heap.size w w' := by
  obtain ⟨z0, z1, z2⟩ := gthree (Blk.new w (gcell ga gd gl) 23)
  have b0 := b2alloc w (.cells (gcell ga gd gl).toArray 23) (.cells (lcell (.pointer (some ⟨g, 0, none⟩)) (.pointer (some ⟨gS, 0, none⟩)) ga gd gl life base 0).toArray 171)
  have hL : Blk ((w.alloc (.cells (gcell ga gd gl).toArray 23)).alloc (.cells (lcell (.pointer (some ⟨g, 0, none⟩)) (.pointer (some ⟨gS, 0, none⟩)) ga gd gl life base 0).toArray 171)) (w.heap.size + 1) (lcell (.pointer (some ⟨g, 0, none⟩)) (.pointer (some ⟨gS, 0, none⟩)) ga gd gl life base 0) := by simpa using Blk.new (w.alloc (.cells (gcell ga gd gl).toArray 23)) (lcell (.pointer (some ⟨g, 0, none⟩)) (.pointer (some ⟨gS, 0, none⟩)) ga gd gl life base 0) 171
  have HB := Lib.hid (fun W (bW : Below w.heap.size w W) => right_any g fp s gS ga gd gl life base W hG (h.on bW))
  rw [hf] at HB
  have HL := Lib.hid hL
  clear hL
  go_enter Try.func55, Try.ntmps55
  go_wp2_with (go_at_call 100; refine (HB.out _ b0).mono ?_; rintro e w1 ⟨rfl, b1⟩)
  go_ret2
  exact ⟨rfl, HL.out.on b1, bt b0 b1⟩
theorem room_any (L g gS : Nat) (ga gd gl : Int) (life : UInt64) (base : Int) (seq : Nat) (w : World) (h : LAt w L g gS ga gd gl life base seq) (hs : seq ≤ 100000) (hg : 0 ≤ gl) (hg1 : gl ≤ 100000) :
    Calls Try.prog 63 #[.pointer (some ⟨L, 0, none⟩)] w fun e w' => e = .returned (.int .i64 (gl - seq)) ∧ Below w.heap.size w w' := by
  obtain ⟨z0, z1, z2, z3, z4, z5, z6, z7⟩ := eight8 h
  have hw : IntKind.i64.wrap (gl - (seq : Int)) = gl - seq := wrap_small (by omega) (by omega)
  have hlL := h.lt
  go_enter Try.func63, Try.ntmps63
  go_wp2_with fail
  refine region_inb (by kernel_rfl) (by kernel_rfl) ?_
  have inbNe := InB.some
  have inbW := @wrap_small
  have inbU := IntKind.wrap_u8'
  repeat (refine wpQuiet_step (fun K hK => ?_); go_simp; first | (refine hK _ ?_; clear hK K) | (apply Exists.intro; refine ⟨?_, hK _ ?_⟩; (· (intro w' hw'; first | fail | (have hcw := hw'.cell; go_simp; exact rfl))); clear hK K))
  refine wpQuiet_nil ?_
  intro wq hq
  clear inbNe inbW inbU
  go_wp2
  go_ret
  exact ⟨rfl, hq.below⟩
theorem room_nil (w : World) : Calls Try.prog 63 #[.pointer none] w fun e w' => e = .returned (.int .i64 0) ∧ w = w' := by
  go_enter Try.func63, Try.ntmps63
  go_wp2
  go_ret
  exact ⟨rfl, rfl⟩
theorem seq_any (L g gS : Nat) (ga gd gl : Int) (life : UInt64) (base : Int) (seq : Nat) (w : World) (h : LAt w L g gS ga gd gl life base seq) :
    Calls Try.prog 62 #[.pointer (some ⟨L, 0, none⟩)] w fun e w' => e = .returned (.int .i64 (seq : Int)) ∧ w = w' := by
  obtain ⟨z0, z1, z2, z3, z4, z5, z6, z7⟩ := eight8 h
  go_enter Try.func62, Try.ntmps62
  go_wp2
  go_ret
  exact ⟨rfl, rfl⟩
theorem next_any (L g gS : Nat) (ga gd gl : Int) (life : UInt64) (base : Int) (seq : Nat) (w : World) (h : LAt w L g gS ga gd gl life base seq) (hs : seq ≤ 100000) (h0 : 0 ≤ base) (h1 : base ≤ 1073741824) (hg : 1 ≤ gl) (hg1 : gl ≤ 100000) :
    Calls Try.prog 64 #[.pointer (some ⟨L, 0, none⟩)] w fun e w' => e = .returned (.int .i64 ((base + seq) % gl)) ∧ Below w.heap.size w w' := by
  obtain ⟨z0, z1, z2, z3, z4, z5, z6, z7⟩ := eight8 h
  have hr := Int.emod_nonneg (base + seq) (show gl ≠ 0 by omega)
  have hr2 := Int.emod_lt_of_pos (base + seq) (show 0 < gl by omega)
  have hlL := h.lt
  have hw : IntKind.i64.wrap (base + (seq : Int)) = base + seq := wrap_small (by omega) (by omega)
  have ht : (base + (seq : Int)).tmod gl = (base + seq) % gl := Int.tmod_eq_emod_of_nonneg (by omega)
  have hw2 : IntKind.i64.wrap ((base + (seq : Int)) % gl) = (base + seq) % gl := wrap_small (by omega) (by omega)
  have hne : ¬ gl = 0 := by omega
  go_enter Try.func64, Try.ntmps64
  go_wp2_with fail
  refine region_inb (by kernel_rfl) (by kernel_rfl) ?_
  have inbNe := InB.some
  have inbW := @wrap_small
  have inbU := IntKind.wrap_u8'
  repeat (refine wpQuiet_step (fun K hK => ?_); go_simp; first | (refine hK _ ?_; clear hK K) | (apply Exists.intro; refine ⟨?_, hK _ ?_⟩; (· (intro w' hw'; first | fail | (have hcw := hw'.cell; go_simp; exact rfl))); clear hK K))
  refine wpQuiet_nil ?_
  intro wq hq
  clear inbNe inbW inbU
  go_wp2
  go_ret
  exact ⟨rfl, hq.below⟩
/-- do so many pages fit into a log? -/
def fitsB (ga gd gl : Int) (n : Int) : Bool := right ga gd gl && (decide (0 ≤ n) && decide (n < gl))
theorem fits_any (ga gd gl n : Int) (w : World) (hG : Gb ga gd gl) : Calls Try.prog 56 #[gv ga gd gl, .int .i64 n] w fun e w' => e = .returned (.bool (fitsB ga gd gl n)) ∧ Below w.heap.size w w' := by
  have F := Blk.new w (gcell ga gd gl) 23
  obtain ⟨z0, z1, z2⟩ := gthree F
  have b0 := b1alloc w (.cells (gcell ga gd gl).toArray 23)
  have HR := Lib.hid (fun W => Geom.right_any ga gd gl W hG.a0 hG.a1 hG.d0 hG.d1 hG.g0 hG.g1)
  have HF := Lib.hid F
  unfold fitsB
  cases hq : right ga gd gl with
  | false =>
    rw [hq] at HR
    rw [Bool.false_and]
    go_enter Try.func56, Try.ntmps56
    go_wp2_with (go_at_call 71; refine (HR.out _).mono ?_; rintro e w' ⟨rfl, b1⟩)
    go_ret
    exact ⟨rfl, bt b0 b1⟩
  | true =>
    rw [hq] at HR
    rw [Bool.true_and]
    by_cases h0 : 0 ≤ n
    · by_cases h1 : n < gl
      · rw [decide_eq_true h0, decide_eq_true h1]
        go_enter Try.func56, Try.ntmps56
        go_wp2_with (go_at_call 71; refine (HR.out _).mono ?_; rintro e w1 ⟨rfl, b1⟩; obtain ⟨y0, y1, y2⟩ := gthree (HF.out.on b1))
        go_ret
        exact ⟨by first | rfl | simp [h1], bt b0 b1⟩
      · rw [decide_eq_true h0, decide_eq_false h1]
        go_enter Try.func56, Try.ntmps56
        go_wp2_with (go_at_call 71; refine (HR.out _).mono ?_; rintro e w1 ⟨rfl, b1⟩; obtain ⟨y0, y1, y2⟩ := gthree (HF.out.on b1))
        go_ret
        exact ⟨by first | rfl | simp [h1], bt b0 b1⟩
    · rw [decide_eq_false h0, Bool.false_and]
      go_enter Try.func56, Try.ntmps56
      go_wp2_with (go_at_call 71; refine (HR.out _).mono ?_; rintro e w1 ⟨rfl, b1⟩; obtain ⟨y0, y1, y2⟩ := gthree (HF.out.on b1))
      go_ret
      exact ⟨by first | rfl | simp [h0], bt b0 b1⟩
theorem rfits_any (ga gd gl n : Int) (w : World) (hG : Gb ga gd gl) : Calls Try.prog 57 #[gv ga gd gl, .int .i64 n] w fun e w' => e = .returned (.bool (fitsB ga gd gl n)) ∧ Below w.heap.size w w' := by
  have F := Blk.new w (gcell ga gd gl) 23
  obtain ⟨z0, z1, z2⟩ := gthree F
  have b0 := b1alloc w (.cells (gcell ga gd gl).toArray 23)
  have HR := Lib.hid (fun W => Geom.rright_any ga gd gl W hG.a0 hG.a1 hG.d0 hG.d1 hG.g0 hG.g1)
  have HF := Lib.hid F
  unfold fitsB
  cases hq : right ga gd gl with
  | false =>
    rw [hq] at HR
    rw [Bool.false_and]
    go_enter Try.func57, Try.ntmps57
    go_wp2_with (go_at_call 19; refine (HR.out _).mono ?_; rintro e w' ⟨rfl, b1⟩)
    go_ret
    exact ⟨rfl, bt b0 b1⟩
  | true =>
    rw [hq] at HR
    rw [Bool.true_and]
    by_cases h0 : 0 ≤ n
    · by_cases h1 : n < gl
      · rw [decide_eq_true h0, decide_eq_true h1]
        go_enter Try.func57, Try.ntmps57
        go_wp2_with (go_at_call 19; refine (HR.out _).mono ?_; rintro e w1 ⟨rfl, b1⟩; obtain ⟨y0, y1, y2⟩ := gthree (HF.out.on b1))
        go_ret
        exact ⟨by first | rfl | simp [h1], bt b0 b1⟩
      · rw [decide_eq_true h0, decide_eq_false h1]
        go_enter Try.func57, Try.ntmps57
        go_wp2_with (go_at_call 19; refine (HR.out _).mono ?_; rintro e w1 ⟨rfl, b1⟩; obtain ⟨y0, y1, y2⟩ := gthree (HF.out.on b1))
        go_ret
        exact ⟨by first | rfl | simp [h1], bt b0 b1⟩
    · rw [decide_eq_false h0, Bool.false_and]
      go_enter Try.func57, Try.ntmps57
      go_wp2_with (go_at_call 19; refine (HR.out _).mono ?_; rintro e w1 ⟨rfl, b1⟩; obtain ⟨y0, y1, y2⟩ := gthree (HF.out.on b1))
      go_ret
      exact ⟨by first | rfl | simp [h0], bt b0 b1⟩
end Go.Proofs.Ytmpmibcdpkolkaa.Wal

/- The supers: super.At and Read and what they come to. -/
namespace Go.Proofs.Ytmpmibcdpkolkaa.Sup
open Go.RowKit
open Go.Proofs.Ytmpmibcdpkolkaa.Geom
open Go.Proofs.Ytmpmibcdpkolkaa.Disk (St DAt Did flush_any read_any New8 Told8)
open Go.Proofs.Ytmpmibcdpkolkaa.Sec (X SymAt text sumOf sumAfter ckS blankB rightF encode_sym decode_sym isBlank_any right_0 right_2 xv RetX X0 five5x)
set_option linter.unusedVariables false
set_option maxRecDepth 100000
/-- is what was read a super at a place? -/
def isSup (ga gd gl p : Int) (d : X × Int) : Bool := decide (d.2 = 0) && decide (d.1.kind = 2) && decide (splace d.1.life = p) && R1.sameB d.1.body (mk ga gd gl)
def dec (l : List (List UInt8)) (p : Int) (b : List UInt8) : X × Int := Sec.decode (ckS l b) p b
structure SV where
  life : UInt64
  base : Int
  gen : UInt64
def SV.v (x : SV) : Value := sv x.life x.base x.gen
def SV.zero : SV := ⟨0, 0, 0⟩
def atR (l : List (List UInt8)) (s : St) (ga gd gl p : Int) : Option SV :=
  if isSup ga gd gl p (dec l p (Disk.read s p).1) = true then some ⟨(dec l p (Disk.read s p).1).1.life, (dec l p (Disk.read s p).1).1.seq, (dec l p (Disk.read s p).1).1.gen⟩ else none
def atV : Option SV → Value
  | some x => .tuple #[x.v, .bool true, .int .i64 0]
  | none => .tuple #[SV.zero.v, .bool false, .int .i64 0]
theorem size_ge {ga gd gl : Int} (h : right ga gd gl = true) : 7 ≤ Geom.sizeOf ga gd gl := by
  have h1 := right_yes h
  have h2 := pagesOf_bd ga gd gl
  unfold Geom.sizeOf
  rw [if_pos h]; omega
theorem where_super {ga gd gl p : Int} (h : right ga gd gl = true) (h0 : 2 ≤ p) (h1 : p ≤ 3) : whereW ga gd gl p = ⟨#[115, 117, 112, 101, 114]⟩ := by
  have := size_ge h
  unfold whereW
  rw [if_neg (by omega), if_neg (by omega), if_pos (by omega)]
theorem srightF_yes {s : St} {ga gd gl : Int} (h : srightF s ga gd gl = 0) : right ga gd gl = true ∧ (s.size : Int) = Geom.sizeOf ga gd gl := by
  unfold srightF at h
  split at h
  · assumption
  · cases h
theorem read_up {s : St} (hd : s.down = false) {p : Int} (h0 : 0 ≤ p) (h1 : p < s.size) : Disk.read s p = (Disk.kept (s.all ++ s.pend) p.toNat, 0) := by
  unfold Disk.read
  rw [if_neg (by rw [hd]; simp), if_neg (by omega)]
set_option maxHeartbeats 2000000 in
theorem at_any (g : Nat) (fp : List Nat) (s : St) (gS bS : Nat) (l : List (List UInt8)) (ga gd gl p : Int) (w : World) (hG : Gb ga gd gl) (h : Both w g fp s gS bS l) (hl : l.length ≤ 1000000) (hs : s.sz ≤ 90000000) (hf : srightF s ga gd gl = 0) (hd : s.down = false) (h0 : 2 ≤ p) (h1 : p ≤ 3) :
    Calls Try.prog 45 #[.pointer (some ⟨g, 0, none⟩), .pointer (some ⟨gS, 0, none⟩), gv ga gd gl, .int .i64 p] w fun e w' => e = .returned (atV (atR l s ga gd gl p)) ∧ Below w.heap.size w w' := by
  obtain ⟨hrt, hsz⟩ := srightF_yes hf
  have hsg := size_ge hrt
  have FG := (Blk.new w (gcell ga gd gl) 23).alloc (.cells #[.int .u64 0, .int .i64 0, .int .u64 0] 35)
  have FX : Blk ((w.alloc (.cells (gcell ga gd gl).toArray 23)).alloc (.cells #[.int .u64 0, .int .i64 0, .int .u64 0] 35)) (w.heap.size + 1) [.int .u64 0, .int .i64 0, .int .u64 0] := by simpa using Blk.new (w.alloc (.cells (gcell ga gd gl).toArray 23)) [.int .u64 0, .int .i64 0, .int .u64 0] 35
  have b0 := b2alloc w (.cells (gcell ga gd gl).toArray 23) (.cells #[.int .u64 0, .int .i64 0, .int .u64 0] 35)
  obtain ⟨z0, z1, z2⟩ := gthree FG
  have HB := Lib.hid (both_any g fp s gS ga gd gl _ hG (h.disk.on b0))
  rw [hf] at HB
  have HM := Lib.hid (fun W => mark_any ga gd gl W hG)
  have hWh := fun W => where_any ga gd gl p W hG.a0 hG.a1 hG.d0 hG.d1 hG.g0 hG.g1 (show Geom.lo ≤ p by unfold Geom.lo; omega) (show p ≤ Geom.hi by unfold Geom.hi; omega)
  rw [where_super hrt h0 h1] at hWh
  have hR := fun W (bW : Below w.heap.size w W) => read_any g fp s p W (h.disk.on bW) (by omega)
  have hru := read_up (s := s) hd (p := p) (by omega) (by omega)
  have hlen : (Disk.read s p).1.length = 512 := by rw [hru]; exact Disk.kept_len (n := s.size) (fun x hx => (List.mem_append.1 hx).elim (h.disk.ok.all x) (h.disk.ok.pend x)) _
  have hr2 : (Disk.read s p).2 = 0 := by rw [hru]
  unfold atR dec
  obtain ⟨r, hr⟩ : ∃ r, r = Disk.read s p := ⟨_, rfl⟩
  rw [← hr] at hR hlen hr2 ⊢
  have hD := fun W (bW : Below w.heap.size w W) A c hrd hc hcm => decode_sym p gS bS l A r.1 _ c W (h.sym.on bW) hl (by omega) (by omega) rfl hrd (by omega) hc hcm
  obtain ⟨d, hd'⟩ : ∃ d, d = Sec.decode (ckS l r.1) p r.1 := ⟨_, rfl⟩
  rw [← hd'] at hD ⊢
  obtain ⟨wk, hwk⟩ : ∃ wk, wk = whereK ga gd gl p := ⟨_, rfl⟩
  rw [← hwk] at hWh
  have HR := Lib.hid hR
  have HD := Lib.hid hD
  have HW := Lib.hid hWh
  have FGh := Lib.hid FG
  have FXh := Lib.hid FX
  have Hr2 := Lib.hid hr2
  clear hr hR hD hd' hru hwk hWh hlen hrt hsz hsg FG FX hr2
  by_cases e0 : d.2 = 0
  rotate_left
  · rw [if_neg (by simp [isSup, e0])]
    have t0 := beq_no e0
    clear e0
    go_enter Try.func45, Try.ntmps45
    go_wp2_with (first
      | (go_at_call 67; refine HB.out.mono ?_; rintro e w1 ⟨rfl, b1⟩; obtain ⟨y0, y1, y2⟩ := gthree (FGh.out.on b1); have b01 := bt b0 b1)
      | (go_at_call 98; refine (HW.out _).mono ?_; rintro e w2 ⟨rfl, b2⟩; have b02 := bt b01 b2)
      | (go_at_call 99; refine (HR.out _ b02).mono ?_; rintro e w3 ⟨v, rfl, hN, b3⟩; rw [Hr2.out]; obtain ⟨A1, c1, rfl, hc1, hm1, rd1⟩ := hN.rdN (fp := []) (by simp); have b03 := bt b02 b3)
      | (go_at_call 22; refine (HD.out _ b03 _ _ rd1.rd hc1 hm1).mono ?_; rintro e w4 ⟨⟨A4, c4, rfl, own4⟩, b4⟩; unfold xv; have b04 := bt b03 b4))
    have FD := Blk.new w4 [.int .i64 d.1.kind, .int .u64 (d.1.life.toNat : Int), .int .i64 d.1.seq, .int .u64 (d.1.gen.toNat : Int), .slice A4 d.1.body.length c4] 43
    have b5 := b1alloc w4 (.cells ([.int .i64 d.1.kind, .int .u64 (d.1.life.toNat : Int), .int .i64 d.1.seq, .int .u64 (d.1.gen.toNat : Int), .slice A4 d.1.body.length c4] : List Value).toArray 43)
    have FX4 := (FXh.out.on (bt (bt (bt b1 b2) b3) b4)).on b5
    have FG4 := (FGh.out.on (bt (bt (bt b1 b2) b3) b4)).on b5
    have own5 := own_on own4 b5
    obtain ⟨w5, hw5⟩ : ∃ w5, w5 = w4.alloc (.cells ([.int .i64 d.1.kind, .int .u64 (d.1.life.toNat : Int), .int .i64 d.1.seq, .int .u64 (d.1.gen.toNat : Int), .slice A4 d.1.body.length c4] : List Value).toArray 43) := ⟨_, rfl⟩
    rw [show w4.alloc (.cells #[.int .i64 d.1.kind, .int .u64 (d.1.life.toNat : Int), .int .i64 d.1.seq, .int .u64 (d.1.gen.toNat : Int), .slice A4 d.1.body.length c4] 43) = w5 from hw5.symm]
    obtain ⟨hD5, hh5⟩ : ∃ q, q = w4.heap.size := ⟨_, rfl⟩
    rw [← hw5] at FD FX4 FG4 b5 own5
    rw [← hh5] at FD ⊢
    have b05 := bt b04 b5
    clear hw5 hh5 b5 b04 b4 rd1 hN b3 b03 own4
    have hltD := FD.lt
    obtain ⟨x0, x1, x2, x3, x4⟩ := five5x FD
    obtain ⟨u0, u1, u2⟩ := gthree FX4
    obtain ⟨g0', g1', g2'⟩ := gthree FG4
    refine region_inb (by kernel_rfl) (by kernel_rfl) ?_
    have inbNe := InB.some
    have inbW := @wrap_small
    have inbU := IntKind.wrap_u8'
    repeat (refine wpQuiet_step (fun K hK => ?_); go_simp; first | (refine hK _ ?_; clear hK K) | (apply Exists.intro; refine ⟨?_, hK _ ?_⟩; (· (intro w' hw'; first | fail | (have hcw := hw'.cell; go_simp; exact rfl))); clear hK K))
    refine wpQuiet_nil ?_
    intro wq hq
    clear inbNe inbW inbU
    clear u0 u1 u2
    obtain ⟨u0, u1, u2⟩ := gthree (FX4.on hq.below)
    have fx := (FX4.on hq.below).free
    go_wp2
    refine bodyPost_ret (v := atV none) (by simp [results, Try.results45, go_sem, atV, SV.v, SV.zero, sv, *]) rfl ⟨rfl, ?_⟩
    have bq := bt b05 hq.below
    first | exact bq | exact bset (bset (bset bq (by omega) _) (by omega) _) (by omega) _
  have t0 := beq_yes e0
  by_cases e1 : d.1.kind = 2
  rotate_left
  · rw [if_neg (by simp [isSup, e1])]
    have t1 := beq_no e1
    clear e0 e1
    go_enter Try.func45, Try.ntmps45
    go_wp2_with (first
      | (go_at_call 67; refine HB.out.mono ?_; rintro e w1 ⟨rfl, b1⟩; obtain ⟨y0, y1, y2⟩ := gthree (FGh.out.on b1); have b01 := bt b0 b1)
      | (go_at_call 98; refine (HW.out _).mono ?_; rintro e w2 ⟨rfl, b2⟩; have b02 := bt b01 b2)
      | (go_at_call 99; refine (HR.out _ b02).mono ?_; rintro e w3 ⟨v, rfl, hN, b3⟩; rw [Hr2.out]; obtain ⟨A1, c1, rfl, hc1, hm1, rd1⟩ := hN.rdN (fp := []) (by simp); have b03 := bt b02 b3)
      | (go_at_call 22; refine (HD.out _ b03 _ _ rd1.rd hc1 hm1).mono ?_; rintro e w4 ⟨⟨A4, c4, rfl, own4⟩, b4⟩; unfold xv; have b04 := bt b03 b4))
    have FD := Blk.new w4 [.int .i64 d.1.kind, .int .u64 (d.1.life.toNat : Int), .int .i64 d.1.seq, .int .u64 (d.1.gen.toNat : Int), .slice A4 d.1.body.length c4] 43
    have b5 := b1alloc w4 (.cells ([.int .i64 d.1.kind, .int .u64 (d.1.life.toNat : Int), .int .i64 d.1.seq, .int .u64 (d.1.gen.toNat : Int), .slice A4 d.1.body.length c4] : List Value).toArray 43)
    have FX4 := (FXh.out.on (bt (bt (bt b1 b2) b3) b4)).on b5
    have FG4 := (FGh.out.on (bt (bt (bt b1 b2) b3) b4)).on b5
    have own5 := own_on own4 b5
    obtain ⟨w5, hw5⟩ : ∃ w5, w5 = w4.alloc (.cells ([.int .i64 d.1.kind, .int .u64 (d.1.life.toNat : Int), .int .i64 d.1.seq, .int .u64 (d.1.gen.toNat : Int), .slice A4 d.1.body.length c4] : List Value).toArray 43) := ⟨_, rfl⟩
    rw [show w4.alloc (.cells #[.int .i64 d.1.kind, .int .u64 (d.1.life.toNat : Int), .int .i64 d.1.seq, .int .u64 (d.1.gen.toNat : Int), .slice A4 d.1.body.length c4] 43) = w5 from hw5.symm]
    obtain ⟨hD5, hh5⟩ : ∃ q, q = w4.heap.size := ⟨_, rfl⟩
    rw [← hw5] at FD FX4 FG4 b5 own5
    rw [← hh5] at FD ⊢
    have b05 := bt b04 b5
    clear hw5 hh5 b5 b04 b4 rd1 hN b3 b03 own4
    have hltD := FD.lt
    obtain ⟨x0, x1, x2, x3, x4⟩ := five5x FD
    obtain ⟨u0, u1, u2⟩ := gthree FX4
    obtain ⟨g0', g1', g2'⟩ := gthree FG4
    refine region_inb (by kernel_rfl) (by kernel_rfl) ?_
    have inbNe := InB.some
    have inbW := @wrap_small
    have inbU := IntKind.wrap_u8'
    repeat (refine wpQuiet_step (fun K hK => ?_); go_simp; first | (refine hK _ ?_; clear hK K) | (apply Exists.intro; refine ⟨?_, hK _ ?_⟩; (· (intro w' hw'; first | fail | (have hcw := hw'.cell; go_simp; exact rfl))); clear hK K))
    refine wpQuiet_nil ?_
    intro wq hq
    clear inbNe inbW inbU
    clear u0 u1 u2
    obtain ⟨u0, u1, u2⟩ := gthree (FX4.on hq.below)
    have fx := (FX4.on hq.below).free
    go_wp2
    refine bodyPost_ret (v := atV none) (by simp [results, Try.results45, go_sem, atV, SV.v, SV.zero, sv, *]) rfl ⟨rfl, ?_⟩
    have bq := bt b05 hq.below
    first | exact bq | exact bset (bset (bset bq (by omega) _) (by omega) _) (by omega) _
  have t1 := beq_yes e1
  have hSu := fun W => super_any d.1.life _ (by rfl) W
  rw [show (2 : Int) + (d.1.life.toNat : Int) % 2 = splace d.1.life from rfl] at hSu
  have HSu := Lib.hid hSu
  clear hSu
  by_cases e2 : splace d.1.life = p
  rotate_left
  · rw [if_neg (by simp [isSup, e2])]
    have t2 := beq_no e2
    clear e0 e1 e2
    go_enter Try.func45, Try.ntmps45
    go_wp2_with (first
      | (go_at_call 67; refine HB.out.mono ?_; rintro e w1 ⟨rfl, b1⟩; obtain ⟨y0, y1, y2⟩ := gthree (FGh.out.on b1); have b01 := bt b0 b1)
      | (go_at_call 98; refine (HW.out _).mono ?_; rintro e w2 ⟨rfl, b2⟩; have b02 := bt b01 b2)
      | (go_at_call 99; refine (HR.out _ b02).mono ?_; rintro e w3 ⟨v, rfl, hN, b3⟩; rw [Hr2.out]; obtain ⟨A1, c1, rfl, hc1, hm1, rd1⟩ := hN.rdN (fp := []) (by simp); have b03 := bt b02 b3)
      | (go_at_call 22; refine (HD.out _ b03 _ _ rd1.rd hc1 hm1).mono ?_; rintro e w4 ⟨⟨A4, c4, rfl, own4⟩, b4⟩; unfold xv; have b04 := bt b03 b4))
    have FD := Blk.new w4 [.int .i64 d.1.kind, .int .u64 (d.1.life.toNat : Int), .int .i64 d.1.seq, .int .u64 (d.1.gen.toNat : Int), .slice A4 d.1.body.length c4] 43
    have b5 := b1alloc w4 (.cells ([.int .i64 d.1.kind, .int .u64 (d.1.life.toNat : Int), .int .i64 d.1.seq, .int .u64 (d.1.gen.toNat : Int), .slice A4 d.1.body.length c4] : List Value).toArray 43)
    have FX4 := (FXh.out.on (bt (bt (bt b1 b2) b3) b4)).on b5
    have FG4 := (FGh.out.on (bt (bt (bt b1 b2) b3) b4)).on b5
    have own5 := own_on own4 b5
    obtain ⟨w5, hw5⟩ : ∃ w5, w5 = w4.alloc (.cells ([.int .i64 d.1.kind, .int .u64 (d.1.life.toNat : Int), .int .i64 d.1.seq, .int .u64 (d.1.gen.toNat : Int), .slice A4 d.1.body.length c4] : List Value).toArray 43) := ⟨_, rfl⟩
    rw [show w4.alloc (.cells #[.int .i64 d.1.kind, .int .u64 (d.1.life.toNat : Int), .int .i64 d.1.seq, .int .u64 (d.1.gen.toNat : Int), .slice A4 d.1.body.length c4] 43) = w5 from hw5.symm]
    obtain ⟨hD5, hh5⟩ : ∃ q, q = w4.heap.size := ⟨_, rfl⟩
    rw [← hw5] at FD FX4 FG4 b5 own5
    rw [← hh5] at FD ⊢
    have b05 := bt b04 b5
    clear hw5 hh5 b5 b04 b4 rd1 hN b3 b03 own4
    have hltD := FD.lt
    obtain ⟨x0, x1, x2, x3, x4⟩ := five5x FD
    obtain ⟨u0, u1, u2⟩ := gthree FX4
    obtain ⟨g0', g1', g2'⟩ := gthree FG4
    refine region_inb (by kernel_rfl) (by kernel_rfl) ?_
    have inbNe := InB.some
    have inbW := @wrap_small
    have inbU := IntKind.wrap_u8'
    repeat (refine wpQuiet_step (fun K hK => ?_); go_simp; first | (refine hK _ ?_; clear hK K) | (apply Exists.intro; refine ⟨?_, hK _ ?_⟩; (· (intro w' hw'; first | (go_at_call 68; refine (HSu.out _).mono ?_; rintro e x1 ⟨rfl, rfl⟩; exact ⟨rfl, hw'⟩) | (have hcw := hw'.cell; go_simp; exact rfl))); clear hK K))
    refine wpQuiet_nil ?_
    intro wq hq
    clear inbNe inbW inbU
    clear u0 u1 u2
    obtain ⟨u0, u1, u2⟩ := gthree (FX4.on hq.below)
    have fx := (FX4.on hq.below).free
    go_wp2
    refine bodyPost_ret (v := atV none) (by simp [results, Try.results45, go_sem, atV, SV.v, SV.zero, sv, *]) rfl ⟨rfl, ?_⟩
    have bq := bt b05 hq.below
    first | exact bq | exact bset (bset (bset bq (by omega) _) (by omega) _) (by omega) _
  have t2 := beq_yes e2
  have hSa := fun A B c d' W h3 h4 => Sec.nsame_any A B d.1.body (mk ga gd gl) d.1.body.length (mk ga gd gl).length c d' W rfl rfl h3 h4
  cases e3 : R1.sameB d.1.body (mk ga gd gl) with
  | false =>
    rw [if_neg (by simp [isSup, e3])]
    rw [e3] at hSa
    have HSa := Lib.hid hSa
    obtain ⟨M, hM⟩ : ∃ M, M = mk ga gd gl := ⟨_, rfl⟩
    rw [← hM] at HSa HM
    clear hSa e0 e1 e2 e3 hM
    go_enter Try.func45, Try.ntmps45
    go_wp2_with (first
      | (go_at_call 67; refine HB.out.mono ?_; rintro e w1 ⟨rfl, b1⟩; obtain ⟨y0, y1, y2⟩ := gthree (FGh.out.on b1); have b01 := bt b0 b1)
      | (go_at_call 98; refine (HW.out _).mono ?_; rintro e w2 ⟨rfl, b2⟩; have b02 := bt b01 b2)
      | (go_at_call 99; refine (HR.out _ b02).mono ?_; rintro e w3 ⟨v, rfl, hN, b3⟩; rw [Hr2.out]; obtain ⟨A1, c1, rfl, hc1, hm1, rd1⟩ := hN.rdN (fp := []) (by simp); have b03 := bt b02 b3)
      | (go_at_call 22; refine (HD.out _ b03 _ _ rd1.rd hc1 hm1).mono ?_; rintro e w4 ⟨⟨A4, c4, rfl, own4⟩, b4⟩; unfold xv; have b04 := bt b03 b4))
    have FD := Blk.new w4 [.int .i64 d.1.kind, .int .u64 (d.1.life.toNat : Int), .int .i64 d.1.seq, .int .u64 (d.1.gen.toNat : Int), .slice A4 d.1.body.length c4] 43
    have b5 := b1alloc w4 (.cells ([.int .i64 d.1.kind, .int .u64 (d.1.life.toNat : Int), .int .i64 d.1.seq, .int .u64 (d.1.gen.toNat : Int), .slice A4 d.1.body.length c4] : List Value).toArray 43)
    have FX4 := (FXh.out.on (bt (bt (bt b1 b2) b3) b4)).on b5
    have FG4 := (FGh.out.on (bt (bt (bt b1 b2) b3) b4)).on b5
    have own5 := own_on own4 b5
    obtain ⟨w5, hw5⟩ : ∃ w5, w5 = w4.alloc (.cells ([.int .i64 d.1.kind, .int .u64 (d.1.life.toNat : Int), .int .i64 d.1.seq, .int .u64 (d.1.gen.toNat : Int), .slice A4 d.1.body.length c4] : List Value).toArray 43) := ⟨_, rfl⟩
    rw [show w4.alloc (.cells #[.int .i64 d.1.kind, .int .u64 (d.1.life.toNat : Int), .int .i64 d.1.seq, .int .u64 (d.1.gen.toNat : Int), .slice A4 d.1.body.length c4] 43) = w5 from hw5.symm]
    obtain ⟨hD5, hh5⟩ : ∃ q, q = w4.heap.size := ⟨_, rfl⟩
    rw [← hw5] at FD FX4 FG4 b5 own5
    rw [← hh5] at FD ⊢
    have b05 := bt b04 b5
    clear hw5 hh5 b5 b04 b4 rd1 hN b3 b03 own4
    have hltD := FD.lt
    obtain ⟨x0, x1, x2, x3, x4⟩ := five5x FD
    obtain ⟨u0, u1, u2⟩ := gthree FX4
    obtain ⟨g0', g1', g2'⟩ := gthree FG4
    have cz : Below w5.heap.size w5 w5.drew := (Below.refl _ _).drew
    go_region_held3 (fun w' => (w'.cell? ⟨hD5, 0, none⟩ = some (.int .i64 d.1.kind) ∧ w'.cell? ⟨hD5, 1, none⟩ = some (.int .u64 (d.1.life.toNat : Int)) ∧ w'.cell? ⟨hD5, 2, none⟩ = some (.int .i64 d.1.seq) ∧ w'.cell? ⟨hD5, 3, none⟩ = some (.int .u64 (d.1.gen.toNat : Int)) ∧ w'.cell? ⟨hD5, 4, none⟩ = some (.slice A4 d.1.body.length c4)) ∧ (w'.cell? ⟨w.heap.size, 0, none⟩ = some (.int .i64 ga) ∧ w'.cell? ⟨w.heap.size, 1, none⟩ = some (.int .i64 gd) ∧ w'.cell? ⟨w.heap.size, 2, none⟩ = some (.int .i64 gl))) (first | exact ⟨five5x (FD.on cz), gthree (FG4.on cz)⟩ | exact ⟨five5x (FD.on (bt cz cm)), gthree (FG4.on (bt cz cm))⟩ | exact ⟨five5x (FD.on (bt (bt cz cm) cs)), gthree (FG4.on (bt (bt cz cm) cs))⟩) (first
      | (go_at_call 68; refine (HSu.out _).mono ?_; rintro e x6 ⟨rfl, rfl⟩)
      | (go_at_call 17; refine (HM.out _).mono ?_; rintro e x7 ⟨A7, c7, rfl, own7, cm⟩)
      | (go_at_call 77; refine (HSa.out A4 A7 c4 c7 _ ((Rd.own own5).on (bt cz cm)) (Rd.own own7)).mono ?_; rintro e x8 ⟨rfl, cs'⟩; have cs := (show Below x7.heap.size x7 x8 from cs' ▸ Below.refl _ _)))
    clear u0 u1 u2
    have bq := bt b05 (bt (bt cz cm) cs)
    obtain ⟨u0, u1, u2⟩ := gthree (FX4.on (bt (bt cz cm) cs))
    have fx := (FX4.on (bt (bt cz cm) cs)).free
    go_wp2
    refine bodyPost_ret (v := atV none) (by simp [results, Try.results45, go_sem, atV, SV.v, SV.zero, sv, *]) rfl ⟨rfl, ?_⟩
    exact bset (bset (bset bq (by omega) _) (by omega) _) (by omega) _
  | true =>
    rw [if_pos (by simp [isSup, e0, e1, e2, e3])]
    rw [e3] at hSa
    have HSa := Lib.hid hSa
    obtain ⟨M, hM⟩ : ∃ M, M = mk ga gd gl := ⟨_, rfl⟩
    rw [← hM] at HSa HM
    clear hSa e0 e1 e2 e3 hM
    go_enter Try.func45, Try.ntmps45
    go_wp2_with (first
      | (go_at_call 67; refine HB.out.mono ?_; rintro e w1 ⟨rfl, b1⟩; obtain ⟨y0, y1, y2⟩ := gthree (FGh.out.on b1); have b01 := bt b0 b1)
      | (go_at_call 98; refine (HW.out _).mono ?_; rintro e w2 ⟨rfl, b2⟩; have b02 := bt b01 b2)
      | (go_at_call 99; refine (HR.out _ b02).mono ?_; rintro e w3 ⟨v, rfl, hN, b3⟩; rw [Hr2.out]; obtain ⟨A1, c1, rfl, hc1, hm1, rd1⟩ := hN.rdN (fp := []) (by simp); have b03 := bt b02 b3)
      | (go_at_call 22; refine (HD.out _ b03 _ _ rd1.rd hc1 hm1).mono ?_; rintro e w4 ⟨⟨A4, c4, rfl, own4⟩, b4⟩; unfold xv; have b04 := bt b03 b4))
    have FD := Blk.new w4 [.int .i64 d.1.kind, .int .u64 (d.1.life.toNat : Int), .int .i64 d.1.seq, .int .u64 (d.1.gen.toNat : Int), .slice A4 d.1.body.length c4] 43
    have b5 := b1alloc w4 (.cells ([.int .i64 d.1.kind, .int .u64 (d.1.life.toNat : Int), .int .i64 d.1.seq, .int .u64 (d.1.gen.toNat : Int), .slice A4 d.1.body.length c4] : List Value).toArray 43)
    have FX4 := (FXh.out.on (bt (bt (bt b1 b2) b3) b4)).on b5
    have FG4 := (FGh.out.on (bt (bt (bt b1 b2) b3) b4)).on b5
    have own5 := own_on own4 b5
    obtain ⟨w5, hw5⟩ : ∃ w5, w5 = w4.alloc (.cells ([.int .i64 d.1.kind, .int .u64 (d.1.life.toNat : Int), .int .i64 d.1.seq, .int .u64 (d.1.gen.toNat : Int), .slice A4 d.1.body.length c4] : List Value).toArray 43) := ⟨_, rfl⟩
    rw [show w4.alloc (.cells #[.int .i64 d.1.kind, .int .u64 (d.1.life.toNat : Int), .int .i64 d.1.seq, .int .u64 (d.1.gen.toNat : Int), .slice A4 d.1.body.length c4] 43) = w5 from hw5.symm]
    obtain ⟨hD5, hh5⟩ : ∃ q, q = w4.heap.size := ⟨_, rfl⟩
    rw [← hw5] at FD FX4 FG4 b5 own5
    rw [← hh5] at FD ⊢
    have b05 := bt b04 b5
    clear hw5 hh5 b5 b04 b4 rd1 hN b3 b03 own4
    have hltD := FD.lt
    obtain ⟨x0, x1, x2, x3, x4⟩ := five5x FD
    obtain ⟨u0, u1, u2⟩ := gthree FX4
    obtain ⟨g0', g1', g2'⟩ := gthree FG4
    have cz : Below w5.heap.size w5 w5.drew := (Below.refl _ _).drew
    go_region_held3 (fun w' => (w'.cell? ⟨hD5, 0, none⟩ = some (.int .i64 d.1.kind) ∧ w'.cell? ⟨hD5, 1, none⟩ = some (.int .u64 (d.1.life.toNat : Int)) ∧ w'.cell? ⟨hD5, 2, none⟩ = some (.int .i64 d.1.seq) ∧ w'.cell? ⟨hD5, 3, none⟩ = some (.int .u64 (d.1.gen.toNat : Int)) ∧ w'.cell? ⟨hD5, 4, none⟩ = some (.slice A4 d.1.body.length c4)) ∧ (w'.cell? ⟨w.heap.size, 0, none⟩ = some (.int .i64 ga) ∧ w'.cell? ⟨w.heap.size, 1, none⟩ = some (.int .i64 gd) ∧ w'.cell? ⟨w.heap.size, 2, none⟩ = some (.int .i64 gl))) (first | exact ⟨five5x (FD.on cz), gthree (FG4.on cz)⟩ | exact ⟨five5x (FD.on (bt cz cm)), gthree (FG4.on (bt cz cm))⟩ | exact ⟨five5x (FD.on (bt (bt cz cm) cs)), gthree (FG4.on (bt (bt cz cm) cs))⟩) (first
      | (go_at_call 68; refine (HSu.out _).mono ?_; rintro e x6 ⟨rfl, rfl⟩)
      | (go_at_call 17; refine (HM.out _).mono ?_; rintro e x7 ⟨A7, c7, rfl, own7, cm⟩)
      | (go_at_call 77; refine (HSa.out A4 A7 c4 c7 _ ((Rd.own own5).on (bt cz cm)) (Rd.own own7)).mono ?_; rintro e x8 ⟨rfl, cs'⟩; have cs := (show Below x7.heap.size x7 x8 from cs' ▸ Below.refl _ _)))
    clear u0 u1 u2 x0 x1 x2 x3 x4
    have bq := bt b05 (bt (bt cz cm) cs)
    obtain ⟨u0, u1, u2⟩ := gthree (FX4.on (bt (bt cz cm) cs))
    obtain ⟨x0, x1, x2, x3, x4⟩ := five5x (FD.on (bt (bt cz cm) cs))
    have fx := (FX4.on (bt (bt cz cm) cs)).free
    go_wp2
    refine bodyPost_ret (v := atV (some ⟨d.1.life, d.1.seq, d.1.gen⟩)) (by simp [results, Try.results45, go_sem, atV, SV.v, sv, *]) rfl ⟨rfl, ?_⟩
    exact bset (bset (bset bq (by omega) _) (by omega) _) (by omega) _
end Go.Proofs.Ytmpmibcdpkolkaa.Sup

/- The supers: super.Read and what it comes to. -/
namespace Go.Proofs.Ytmpmibcdpkolkaa.Sup
open Go.RowKit
open Go.Proofs.Ytmpmibcdpkolkaa.Geom
open Go.Proofs.Ytmpmibcdpkolkaa.Disk (St DAt Did flush_any read_any New8 Told8)
open Go.Proofs.Ytmpmibcdpkolkaa.Sec (X SymAt)
set_option linter.unusedVariables false
set_option maxRecDepth 100000
set_option maxHeartbeats 1000000 in
theorem at_else (g : Nat) (fp : List Nat) (s : St) (gS : Nat) (ga gd gl p : Int) (w : World) (hG : Gb ga gd gl) (h : DAt w g fp s) (hf : srightF s ga gd gl = 0) (hp0 : lo ≤ p) (hp1 : p ≤ hi) (hne : whereW ga gd gl p ≠ ⟨#[115, 117, 112, 101, 114]⟩) :
    Calls Try.prog 45 #[.pointer (some ⟨g, 0, none⟩), .pointer (some ⟨gS, 0, none⟩), gv ga gd gl, .int .i64 p] w fun e w' => e = .returned (.tuple #[SV.zero.v, .bool false, .int .i64 2]) ∧ Below w.heap.size w w' := by
  have FG := (Blk.new w (gcell ga gd gl) 23).alloc (.cells #[.int .u64 0, .int .i64 0, .int .u64 0] 35)
  have FX : Blk ((w.alloc (.cells (gcell ga gd gl).toArray 23)).alloc (.cells #[.int .u64 0, .int .i64 0, .int .u64 0] 35)) (w.heap.size + 1) [.int .u64 0, .int .i64 0, .int .u64 0] := by simpa using Blk.new (w.alloc (.cells (gcell ga gd gl).toArray 23)) [.int .u64 0, .int .i64 0, .int .u64 0] 35
  have b0 := b2alloc w (.cells (gcell ga gd gl).toArray 23) (.cells #[.int .u64 0, .int .i64 0, .int .u64 0] 35)
  obtain ⟨z0, z1, z2⟩ := gthree FG
  have HB := Lib.hid (both_any g fp s gS ga gd gl _ hG (h.on b0))
  rw [hf] at HB
  have hWh := fun W => where_any ga gd gl p W hG.a0 hG.a1 hG.d0 hG.d1 hG.g0 hG.g1 hp0 hp1
  obtain ⟨wk, hwk⟩ : ∃ wk, wk = whereK ga gd gl p := ⟨_, rfl⟩
  obtain ⟨ws, hws⟩ : ∃ wk, wk = whereW ga gd gl p := ⟨_, rfl⟩
  rw [← hwk, ← hws] at hWh
  rw [← hws] at hne
  have HW := Lib.hid hWh
  have FGh := Lib.hid FG
  have FXh := Lib.hid FX
  have hwc : ws = ⟨#[]⟩ ∨ ws = ⟨#[114, 111, 111, 116]⟩ ∨ ws = ⟨#[108, 111, 103]⟩ ∨ ws = ⟨#[97, 114, 101, 97]⟩ := by
    rw [hws] at hne ⊢
    unfold whereW at hne ⊢
    split
    · simp
    · split
      · simp
      · split
        · rename_i h1 h2 h3; rw [if_neg h1, if_neg h2, if_pos h3] at hne; exact absurd rfl hne
        · split <;> simp
  clear hwk hws hWh FG FX hne
  have HW' := HW
  clear HW
  rcases hwc with rfl | rfl | rfl | rfl
  all_goals have HW := HW'
  all_goals go_enter Try.func45, Try.ntmps45
  all_goals go_wp2_with (first
      | (go_at_call 67; refine HB.out.mono ?_; rintro e w1 ⟨rfl, b1⟩; obtain ⟨y0, y1, y2⟩ := gthree (FGh.out.on b1); have b01 := bt b0 b1)
      | (go_at_call 98; refine (HW.out _).mono ?_; rintro e w2 ⟨rfl, b2⟩; have b02 := bt b01 b2; obtain ⟨u0, u1, u2⟩ := gthree (FXh.out.on (bt b1 b2)); have fx := (FXh.out.on (bt b1 b2)).free))
  all_goals refine bodyPost_ret (v := .tuple #[SV.zero.v, .bool false, .int .i64 2]) (by simp [results, Try.results45, go_sem, SV.v, SV.zero, sv, *]) rfl ⟨rfl, ?_⟩
  all_goals exact bset (bset (bset b02 (by omega) _) (by omega) _) (by omega) _
def after1 (o : Option SV) (x : SV) : Bool := match o with | none => true | some b => decide (b.life < x.life)
def best (o p : Option SV) : Option SV := match p with | none => o | some x => if after1 o x = true then some x else o
def oV (o : Option SV) : SV := o.getD SV.zero
def rdV : Option SV → Value
  | some x => .tuple #[x.v, .int .i64 0]
  | none => .tuple #[SV.zero.v, .int .i64 11]
theorem read1_any (x : SV) (o : Option SV) (gF gB : Nat) (w : World) (hF : Box w gF (.bool o.isSome)) (hB : Blk w gB (scell (oV o).life (oV o).base (oV o).gen)) :
    Calls Try.prog 81 #[x.v, .pointer (some ⟨gF, 0, none⟩), .pointer (some ⟨gB, 0, none⟩)] w fun e w' => e = .returned (.bool (after1 o x)) ∧ Below w.heap.size w w' := by
  have b0 := b1alloc w (.cells (scell x.life x.base x.gen).toArray 35)
  obtain ⟨z0, z1, z2⟩ := gthree (Blk.new w (scell x.life x.base x.gen) 35)
  obtain ⟨y0, y1, y2⟩ := gthree (hB.on b0)
  have f0 := (hF.on' b0).cell
  unfold SV.v
  cases o with
  | none =>
    rw [show (Option.isSome (none : Option SV)) = false from rfl] at f0
    go_enter Try.func81, Try.ntmps81
    go_wp2
    go_ret
    exact ⟨rfl, b0⟩
  | some b =>
    rw [show (Option.isSome (some b)) = true from rfl] at f0
    rw [show oV (some b) = b from rfl] at y0 y1 y2
    have hd : decide (b.life.toNat < x.life.toNat) = after1 (some b) x := by
      simp [after1, UInt64.lt_iff_toNat_lt]
    obtain ⟨q, hq⟩ : ∃ q, q = after1 (some b) x := ⟨_, rfl⟩
    rw [← hq] at hd ⊢
    have Hd := Lib.hid hd
    clear hq hd
    go_enter Try.func81, Try.ntmps81
    go_wp2
    go_ret
    exact ⟨by rw [← Hd.out]; rfl, b0⟩
theorem best_no {o : Option SV} {x : SV} (h : after1 o x = false) : best o (some x) = o := by simp [best, h]
theorem best_yes {o : Option SV} {x : SV} (h : after1 o x = true) : best o (some x) = some x := by simp [best, h]
theorem stored {W : World} {hF hB h0 : Nat} {u a b c : Value} {G : List Value} (h1 : Box W hF u) (h2 : Blk W hB [a, b, c]) (h3 : Blk W h0 G) (n1 : hF ≠ hB) (n2 : hF ≠ h0) (n3 : hB ≠ h0) (x y z v : Value) :
    Box ((((W.setCell ⟨hB, 0, none⟩ x).setCell ⟨hB, 1, none⟩ y).setCell ⟨hB, 2, none⟩ z).setCell ⟨hF, 0, none⟩ v) hF v ∧ Blk ((((W.setCell ⟨hB, 0, none⟩ x).setCell ⟨hB, 1, none⟩ y).setCell ⟨hB, 2, none⟩ z).setCell ⟨hF, 0, none⟩ v) hB [x, y, z] ∧ Blk ((((W.setCell ⟨hB, 0, none⟩ x).setCell ⟨hB, 1, none⟩ y).setCell ⟨hB, 2, none⟩ z).setCell ⟨hF, 0, none⟩ v) h0 G := by
  have ne : some hF ≠ some hB := fun e => n1 (by injection e)
  refine ⟨(((h1.kept (grown_set _ ⟨hB, 0, none⟩ x) ne).kept (grown_set _ ⟨hB, 1, none⟩ y) ne).kept (grown_set _ ⟨hB, 2, none⟩ z) ne).set v, ?_, ?_⟩
  · exact Blk.other (((h2.set (k := 0) x).set (k := 1) y).set (k := 2) z) v (fun e => n1 e.symm)
  · exact Blk.other (Blk.other (Blk.other (Blk.other h3 x (fun e => n3 e.symm)) y (fun e => n3 e.symm)) z (fun e => n3 e.symm)) v (fun e => n2 e.symm)
theorem readS_nil (v : Value) (ga gd gl : Int) (w : World) : Calls Try.prog 24 #[v, .pointer none, gv ga gd gl] w fun e w' => e = .returned (.tuple #[SV.zero.v, .int .i64 1]) ∧ Below w.heap.size w w' := by
  have FG := (Blk.new w (gcell ga gd gl) 23).alloc (.cells #[.int .u64 0, .int .i64 0, .int .u64 0] 35)
  have FX : Blk ((w.alloc (.cells (gcell ga gd gl).toArray 23)).alloc (.cells #[.int .u64 0, .int .i64 0, .int .u64 0] 35)) (w.heap.size + 1) [.int .u64 0, .int .i64 0, .int .u64 0] := by simpa using Blk.new (w.alloc (.cells (gcell ga gd gl).toArray 23)) [.int .u64 0, .int .i64 0, .int .u64 0] 35
  have b0 := b2alloc w (.cells (gcell ga gd gl).toArray 23) (.cells #[.int .u64 0, .int .i64 0, .int .u64 0] 35)
  obtain ⟨z0, z1, z2⟩ := gthree FG
  go_enter Try.func24, Try.ntmps24
  go_wp2
  go_step3
  go_wp2_with (go_at_call 67; refine (bothS_nil _ _ _ _ _).mono ?_; rintro e w1 ⟨rfl, b1⟩; obtain ⟨y0, y1, y2⟩ := gthree (FX.on b1); have fx := (FX.on b1).free; have bw := bt b0 b1)
  try rw [Exit.noGoto_ret]
  refine bodyPost_ret (v := .tuple #[SV.zero.v, .int .i64 1]) (by simp [results, Try.results24, go_sem, SV.v, SV.zero, sv, *]) rfl ⟨rfl, ?_⟩
  exact bset (bset (bset bw (by omega) _) (by omega) _) (by omega) _
theorem readD_nil (gS : Nat) (ga gd gl : Int) (w : World) : Calls Try.prog 24 #[.pointer none, .pointer (some ⟨gS, 0, none⟩), gv ga gd gl] w fun e w' => e = .returned (.tuple #[SV.zero.v, .int .i64 1]) ∧ Below w.heap.size w w' := by
  have FG := (Blk.new w (gcell ga gd gl) 23).alloc (.cells #[.int .u64 0, .int .i64 0, .int .u64 0] 35)
  have FX : Blk ((w.alloc (.cells (gcell ga gd gl).toArray 23)).alloc (.cells #[.int .u64 0, .int .i64 0, .int .u64 0] 35)) (w.heap.size + 1) [.int .u64 0, .int .i64 0, .int .u64 0] := by simpa using Blk.new (w.alloc (.cells (gcell ga gd gl).toArray 23)) [.int .u64 0, .int .i64 0, .int .u64 0] 35
  have b0 := b2alloc w (.cells (gcell ga gd gl).toArray 23) (.cells #[.int .u64 0, .int .i64 0, .int .u64 0] 35)
  obtain ⟨z0, z1, z2⟩ := gthree FG
  go_enter Try.func24, Try.ntmps24
  go_wp2
  go_step3
  go_wp2_with (go_at_call 67; refine (bothD_nil _ _ _ _ _).mono ?_; rintro e w1 ⟨rfl, b1⟩; obtain ⟨y0, y1, y2⟩ := gthree (FX.on b1); have fx := (FX.on b1).free; have bw := bt b0 b1)
  try rw [Exit.noGoto_ret]
  refine bodyPost_ret (v := .tuple #[SV.zero.v, .int .i64 1]) (by simp [results, Try.results24, go_sem, SV.v, SV.zero, sv, *]) rfl ⟨rfl, ?_⟩
  exact bset (bset (bset bw (by omega) _) (by omega) _) (by omega) _
set_option maxHeartbeats 2000000 in
theorem readSup_any (g : Nat) (fp : List Nat) (s : St) (gS bS : Nat) (l : List (List UInt8)) (ga gd gl : Int) (w : World) (hG : Gb ga gd gl) (h : Both w g fp s gS bS l) (hl : l.length ≤ 1000000) (hs : s.sz ≤ 90000000) (hf : srightF s ga gd gl = 0) (hd : s.down = false) :
    Calls Try.prog 24 #[.pointer (some ⟨g, 0, none⟩), .pointer (some ⟨gS, 0, none⟩), gv ga gd gl] w fun e w' => e = .returned (rdV (best (best none (atR l s ga gd gl 2)) (atR l s ga gd gl 3))) ∧ Below w.heap.size w w' := by
  have FG := (Blk.new w (gcell ga gd gl) 23).alloc (.cells #[.int .u64 0, .int .i64 0, .int .u64 0] 35)
  have FX : Blk ((w.alloc (.cells (gcell ga gd gl).toArray 23)).alloc (.cells #[.int .u64 0, .int .i64 0, .int .u64 0] 35)) (w.heap.size + 1) [.int .u64 0, .int .i64 0, .int .u64 0] := by simpa using Blk.new (w.alloc (.cells (gcell ga gd gl).toArray 23)) [.int .u64 0, .int .i64 0, .int .u64 0] 35
  have b0 := b2alloc w (.cells (gcell ga gd gl).toArray 23) (.cells #[.int .u64 0, .int .i64 0, .int .u64 0] 35)
  obtain ⟨z0, z1, z2⟩ := gthree FG
  have HB := Lib.hid (both_any g fp s gS ga gd gl _ hG (h.disk.on b0))
  rw [hf] at HB
  have hA2 := fun W (bW : Below w.heap.size w W) => at_any g fp s gS bS l ga gd gl 2 W hG (h.on bW) hl hs hf hd (by omega) (by omega)
  have hA3 := fun W (bW : Below w.heap.size w W) => at_any g fp s gS bS l ga gd gl 3 W hG (h.on bW) hl hs hf hd (by omega) (by omega)
  obtain ⟨o2, ho2⟩ : ∃ o, o = atR l s ga gd gl 2 := ⟨_, rfl⟩
  obtain ⟨o3, ho3⟩ : ∃ o, o = atR l s ga gd gl 3 := ⟨_, rfl⟩
  rw [← ho2] at hA2 ⊢
  rw [← ho3] at hA3 ⊢
  have HA2 := Lib.hid hA2
  have HA3 := Lib.hid hA3
  have HP := Lib.hid (fun W => places_any W)
  have FGh := Lib.hid FG
  have FXh := Lib.hid FX
  have i0 : ∀ W, (Instr.index 134 (.agg #[.int .i64 2, .int .i64 3]) (.int .i64 0)).run Try.prog W = .ok (.int .i64 2) W := fun W => by kernel_rfl
  have i1 : ∀ W, (Instr.index 134 (.agg #[.int .i64 2, .int .i64 3]) (.int .i64 1)).run Try.prog W = .ok (.int .i64 3) W := fun W => by kernel_rfl
  have hmf : ∀ (x : Array Value) (w : World), Sem.run Try.prog (callFunc 81 x) w = .ok (.enter 81 x) w := by intro x w; simp [go_sem]
  clear hA2 hA3 ho2 ho3 FG FX
  go_enter Try.func24, Try.ntmps24
  go_wp2
  go_step3
  go_wp2_with (first
    | (go_at_call 67; refine HB.out.mono ?_; rintro e w1 ⟨rfl, b1⟩; obtain ⟨y0, y1, y2⟩ := gthree (FGh.out.on b1); have b01 := bt b0 b1)
    | (go_at_call 82; refine (HP.out _).mono ?_; rintro e w2 ⟨rfl, b2⟩))
  have b02 := bt b01 (b1alloc w1 (.cells #[.bool false] 4))
  have hF0 := Box.new w1 4 (.bool false)
  have hB0 := (FXh.out.on b1).on (b1alloc w1 (.cells #[.bool false] 4))
  have hG0 := (FGh.out.on b1).on (b1alloc w1 (.cells #[.bool false] 4))
  obtain ⟨w2, hw2⟩ : ∃ q, q = w1.alloc (.cells #[.bool false] 4) := ⟨_, rfl⟩
  obtain ⟨hF, hhF⟩ : ∃ q, q = w1.heap.size := ⟨_, rfl⟩
  obtain ⟨hB, hhB⟩ : ∃ q, q = w.heap.size + 1 := ⟨_, rfl⟩
  rw [← hw2] at hF0 hB0 hG0 b02 ⊢
  rw [← hhF] at hF0 ⊢
  rw [← hhB] at hB0 ⊢
  have hlt : w.heap.size ≤ hF ∧ w.heap.size ≤ hB ∧ hF ≠ hB ∧ hF ≠ w.heap.size ∧ hB ≠ w.heap.size := by have h1 := (FXh.out.on b1).lt; refine ⟨?_, ?_, ?_, ?_, ?_⟩ <;> omega
  clear hw2 hhF hhB b1 b01 y0 y1 y2 z0 z1 z2
  go_step3
  go_wp2_with (go_at_call 82; refine (HP.out _).mono ?_; rintro e w3 ⟨rfl, b3⟩)
  have b03 := bt b02 b3
  have hF3 := hF0.on' b3
  have hB3 := hB0.on b3
  have hG3 := hG0.on b3
  clear b3 b02 hF0 hB0 hG0 b0
  go_loopw [26] (fun i wr => ∃ k : Nat, k ≤ 2 ∧ i = .int .i64 k ∧ Below w.heap.size w wr ∧ ∃ o : Option SV, ((k = 0 → o = none) ∧ (k = 1 → o = best none o2) ∧ (k = 2 → o = best (best none o2) o3)) ∧ Box wr hF (.bool o.isSome) ∧ Blk wr hB (scell (oV o).life (oV o).base (oV o).gen) ∧ Blk wr w.heap.size (gcell ga gd gl)) (fun i _ => 2 - (intOf i).toNat)
  case atStart => exact ⟨0, by omega, rfl, b03, none, ⟨fun _ => rfl, fun h => by omega, fun h => by omega⟩, hF3, hB3, hG3⟩
  case round =>
    obtain ⟨k, hk, rfl, bel, o, ho, hFb, hBb, hGb⟩ := hrel
    clear hF3 hB3 hG3 b03
    have fF := hFb.free
    have fB := hBb.free
    rcases (show k = 0 ∨ k = 1 ∨ k = 2 by omega) with rfl | rfl | rfl
    · obtain rfl := ho.1 rfl
      have H := Lib.hid (HA2.out wr bel)
      obtain ⟨c0, c1, c2⟩ := gthree hGb
      obtain hp | ⟨x, hp⟩ : o2 = none ∨ ∃ x, o2 = some x := by cases o2; exact .inl rfl; exact .inr ⟨_, rfl⟩
      · rw [hp] at H
        have H' := H.out
        unfold atV at H'
        have H'' := Lib.hid H'
        have hb := Lib.hid (show (best none o2) = (none : Option SV) by rw [hp]; rfl)
        have Hp := Lib.hid hp
        clear H H' hp
        go_wp2_with (go_at_call 45; refine H''.out.mono ?_; rintro e w4 ⟨rfl, b4⟩; unfold SV.v)
        case roundEnd =>
          have b5 := bt b4 (b1alloc w4 (.cells (scell SV.zero.life SV.zero.base SV.zero.gen).toArray 35))
          exact ⟨⟨1, by omega, rfl, (bt bel b5), (best none o2), ⟨fun h => by omega, fun _ => rfl, fun h => by omega⟩, by rw [hb.out]; exact (hFb.on' b5), by rw [hb.out]; exact (hBb.on b5), (hGb.on b5)⟩, by simp [intOf]⟩
      · rw [hp] at H
        have H' := H.out
        unfold atV at H'
        have H'' := Lib.hid H'
        cases hq : after1 (none : Option SV) x with
        | false =>
          have hb := Lib.hid (show (best none o2) = (none : Option SV) by rw [hp]; exact best_no hq)
          have Hp := Lib.hid hp
          clear H H' hp
          go_wp2_with (first
            | (go_at_call 45; refine H''.out.mono ?_; rintro e w4 ⟨rfl, b4⟩; unfold SV.v; have b5 := bt b4 (b1alloc w4 (.cells (scell x.life x.base x.gen).toArray 35)); have fF5 := (hFb.on' b5).free; have fB5 := (hBb.on b5).free; obtain ⟨x0, x1, x2⟩ := gthree (Blk.new w4 (scell x.life x.base x.gen) 35))
            | (go_at_call 81; refine (read1_any x _ hF hB _ (hFb.on' b5) (hBb.on b5)).mono ?_; rintro e w6 ⟨rfl, b6⟩; rw [hq]; have b56 := bt b5 b6; have hF6 := hFb.on' b56; have hB6 := hBb.on b56; have fF6 := hF6.free; have fB6 := hB6.free; obtain ⟨v0, v1, v2⟩ := gthree ((Blk.new w4 (scell x.life x.base x.gen) 35).on b6); obtain ⟨p0, p1, p2⟩ := gthree hB6; have pF := hF6.cell))
          case roundEnd => exact ⟨⟨1, by omega, rfl, (bt bel b56), (best none o2), ⟨fun h => by omega, fun _ => rfl, fun h => by omega⟩, by rw [hb.out]; exact (hFb.on' b56), by rw [hb.out]; exact (hBb.on b56), (hGb.on b56)⟩, by simp [intOf]⟩
        | true =>
          have hb := Lib.hid (show (best none o2) = some x by rw [hp]; exact best_yes hq)
          have Hp := Lib.hid hp
          clear H H' hp
          go_wp2_with (first
            | (go_at_call 45; refine H''.out.mono ?_; rintro e w4 ⟨rfl, b4⟩; unfold SV.v; have b5 := bt b4 (b1alloc w4 (.cells (scell x.life x.base x.gen).toArray 35)); have fF5 := (hFb.on' b5).free; have fB5 := (hBb.on b5).free; obtain ⟨x0, x1, x2⟩ := gthree (Blk.new w4 (scell x.life x.base x.gen) 35))
            | (go_at_call 81; refine (read1_any x _ hF hB _ (hFb.on' b5) (hBb.on b5)).mono ?_; rintro e w6 ⟨rfl, b6⟩; rw [hq]; have b56 := bt b5 b6; have hF6 := hFb.on' b56; have hB6 := hBb.on b56; have fF6 := hF6.free; have fB6 := hB6.free; obtain ⟨v0, v1, v2⟩ := gthree ((Blk.new w4 (scell x.life x.base x.gen) 35).on b6); obtain ⟨p0, p1, p2⟩ := gthree hB6; have pF := hF6.cell))
          case roundEnd =>
            obtain ⟨q1, q2, q3⟩ := stored hF6 hB6 (hGb.on b56) hlt.2.2.1 hlt.2.2.2.1 hlt.2.2.2.2 (.int .u64 (x.life.toNat : Int)) (.int .i64 x.base) (.int .u64 (x.gen.toNat : Int)) (.bool true)
            exact ⟨⟨1, by omega, rfl, bset (bset (bset (bset (bt bel b56) hlt.2.1 _) hlt.2.1 _) hlt.2.1 _) hlt.1 _, (best none o2), ⟨fun h => by omega, fun _ => rfl, fun h => by omega⟩, by rw [hb.out]; exact q1, by rw [hb.out]; exact q2, q3⟩, by simp [intOf]⟩
    · obtain rfl := ho.2.1 rfl
      have H := Lib.hid (HA3.out wr bel)
      obtain ⟨c0, c1, c2⟩ := gthree hGb
      obtain hp | ⟨x, hp⟩ : o3 = none ∨ ∃ x, o3 = some x := by cases o3; exact .inl rfl; exact .inr ⟨_, rfl⟩
      · rw [hp] at H
        have H' := H.out
        unfold atV at H'
        have H'' := Lib.hid H'
        have hb := Lib.hid (show (best (best none o2) o3) = (best none o2) by rw [hp]; rfl)
        have Hp := Lib.hid hp
        clear H H' hp
        go_wp2_with (go_at_call 45; refine H''.out.mono ?_; rintro e w4 ⟨rfl, b4⟩; unfold SV.v)
        case roundEnd =>
          have b5 := bt b4 (b1alloc w4 (.cells (scell SV.zero.life SV.zero.base SV.zero.gen).toArray 35))
          exact ⟨⟨2, by omega, rfl, (bt bel b5), (best (best none o2) o3), ⟨fun h => by omega, fun h => by omega, fun _ => rfl⟩, by rw [hb.out]; exact (hFb.on' b5), by rw [hb.out]; exact (hBb.on b5), (hGb.on b5)⟩, by simp [intOf]⟩
      · rw [hp] at H
        have H' := H.out
        unfold atV at H'
        have H'' := Lib.hid H'
        cases hq : after1 (best none o2) x with
        | false =>
          have hb := Lib.hid (show (best (best none o2) o3) = (best none o2) by rw [hp]; exact best_no hq)
          have Hp := Lib.hid hp
          clear H H' hp
          go_wp2_with (first
            | (go_at_call 45; refine H''.out.mono ?_; rintro e w4 ⟨rfl, b4⟩; unfold SV.v; have b5 := bt b4 (b1alloc w4 (.cells (scell x.life x.base x.gen).toArray 35)); have fF5 := (hFb.on' b5).free; have fB5 := (hBb.on b5).free; obtain ⟨x0, x1, x2⟩ := gthree (Blk.new w4 (scell x.life x.base x.gen) 35))
            | (go_at_call 81; refine (read1_any x _ hF hB _ (hFb.on' b5) (hBb.on b5)).mono ?_; rintro e w6 ⟨rfl, b6⟩; rw [hq]; have b56 := bt b5 b6; have hF6 := hFb.on' b56; have hB6 := hBb.on b56; have fF6 := hF6.free; have fB6 := hB6.free; obtain ⟨v0, v1, v2⟩ := gthree ((Blk.new w4 (scell x.life x.base x.gen) 35).on b6); obtain ⟨p0, p1, p2⟩ := gthree hB6; have pF := hF6.cell))
          case roundEnd => exact ⟨⟨2, by omega, rfl, (bt bel b56), (best (best none o2) o3), ⟨fun h => by omega, fun h => by omega, fun _ => rfl⟩, by rw [hb.out]; exact (hFb.on' b56), by rw [hb.out]; exact (hBb.on b56), (hGb.on b56)⟩, by simp [intOf]⟩
        | true =>
          have hb := Lib.hid (show (best (best none o2) o3) = some x by rw [hp]; exact best_yes hq)
          have Hp := Lib.hid hp
          clear H H' hp
          go_wp2_with (first
            | (go_at_call 45; refine H''.out.mono ?_; rintro e w4 ⟨rfl, b4⟩; unfold SV.v; have b5 := bt b4 (b1alloc w4 (.cells (scell x.life x.base x.gen).toArray 35)); have fF5 := (hFb.on' b5).free; have fB5 := (hBb.on b5).free; obtain ⟨x0, x1, x2⟩ := gthree (Blk.new w4 (scell x.life x.base x.gen) 35))
            | (go_at_call 81; refine (read1_any x _ hF hB _ (hFb.on' b5) (hBb.on b5)).mono ?_; rintro e w6 ⟨rfl, b6⟩; rw [hq]; have b56 := bt b5 b6; have hF6 := hFb.on' b56; have hB6 := hBb.on b56; have fF6 := hF6.free; have fB6 := hB6.free; obtain ⟨v0, v1, v2⟩ := gthree ((Blk.new w4 (scell x.life x.base x.gen) 35).on b6); obtain ⟨p0, p1, p2⟩ := gthree hB6; have pF := hF6.cell))
          case roundEnd =>
            obtain ⟨q1, q2, q3⟩ := stored hF6 hB6 (hGb.on b56) hlt.2.2.1 hlt.2.2.2.1 hlt.2.2.2.2 (.int .u64 (x.life.toNat : Int)) (.int .i64 x.base) (.int .u64 (x.gen.toNat : Int)) (.bool true)
            exact ⟨⟨2, by omega, rfl, bset (bset (bset (bset (bt bel b56) hlt.2.1 _) hlt.2.1 _) hlt.2.1 _) hlt.1 _, (best (best none o2) o3), ⟨fun h => by omega, fun h => by omega, fun _ => rfl⟩, by rw [hb.out]; exact q1, by rw [hb.out]; exact q2, q3⟩, by simp [intOf]⟩
    · obtain rfl := ho.2.2 rfl
      have cF := hFb.cell
      obtain ⟨p0, p1, p2⟩ := gthree hBb
      obtain ⟨O, hO⟩ : ∃ O, O = best (best none o2) o3 := ⟨_, rfl⟩
      rw [← hO] at cF p0 p1 p2
      have HO := Lib.hid hO
      clear hO
      cases O with
      | none =>
        rw [show (Option.isSome (none : Option SV)) = false from rfl] at cF
        go_wp2
        try rw [Exit.noGoto_ret]
        refine bodyPost_ret (v := rdV none) (by simp [results, Try.results24, go_sem, rdV, SV.v, SV.zero, sv, *]) rfl ⟨by rw [← HO.out], ?_⟩
        exact bset (bset (bset bel hlt.2.1 _) hlt.2.1 _) hlt.2.1 _
      | some x =>
        rw [show (Option.isSome (some x)) = true from rfl] at cF
        rw [show oV (some x) = x from rfl] at p0 p1 p2
        go_wp2
        try rw [Exit.noGoto_ret]
        refine bodyPost_ret (v := rdV (some x)) (by simp [results, Try.results24, go_sem, rdV, SV.v, sv, *]) rfl ⟨by rw [← HO.out], ?_⟩
        exact bset (bset (bset bel hlt.2.1 _) hlt.2.1 _) hlt.2.1 _
end Go.Proofs.Ytmpmibcdpkolkaa.Sup

/- The supers, in plain Lean: what stands behind a write, and a power that goes. -/
namespace Go.Proofs.Ytmpmibcdpkolkaa.Sup
open Go.RowKit
open Go.Proofs.Ytmpmibcdpkolkaa.Disk (St write flush read kept burn restart fates fate keptAt new zero512 arm)
open Go.Proofs.Ytmpmibcdpkolkaa.Sec (X text text_len sumOf sumOf_len sumAfter ckS checkOf blankB rightF dec_back dec_blank X0 mark of_text place_of reads)
set_option linter.unusedVariables false
theorem ckS_own' (l : List (List UInt8)) (T : List UInt8) (hT : T.length = 504) : ckS (sumAfter l T) (T ++ sumOf l T) = true := by
  unfold ckS checkOf sumAfter sumOf
  rw [List.take_left' hT, List.drop_left' hT]
  by_cases h : T ∈ l
  · simp [h, R1.sameB_self]
  · simp [h, List.idxOf_append, R1.sameB_self]
theorem ckS_more {l : List (List UInt8)} {b : List UInt8} (T : List UInt8) (h : ckS l b = true) : ckS (sumAfter l T) b = true := by
  unfold ckS checkOf at *
  unfold sumAfter
  split
  · exact h
  · rw [Bool.and_eq_true] at h ⊢
    have h1 : b.take 504 ∈ l := of_decide_eq_true h.1
    refine ⟨by simp [h1], ?_⟩
    rw [List.idxOf_append, if_pos h1]; exact h.2
/-- bytes that are a sector's at a place, by these sums -/
def Good (l : List (List UInt8)) (p : Int) (x : X) (b : List UInt8) : Prop := rightF p x = 0 ∧ ckS l b = true ∧ ∃ s, s.length = 8 ∧ b = text p x ++ s
theorem Good.dec {l : List (List UInt8)} {p : Int} {x : X} {b : List UInt8} (h : Good l p x b) : Sec.decode (ckS l b) p b = (x, 0) := by
  obtain ⟨h1, h2, s, hs, rfl⟩ := h
  rw [h2]; exact dec_back h1 s hs
theorem Good.len {l : List (List UInt8)} {p : Int} {x : X} {b : List UInt8} (h : Good l p x b) : b.length = 512 := by
  obtain ⟨h1, h2, s, hs, rfl⟩ := h
  rw [List.length_append, text_len, hs]
theorem Good.more {l : List (List UInt8)} {p : Int} {x : X} {b : List UInt8} (h : Good l p x b) (T : List UInt8) : Good (sumAfter l T) p x b := ⟨h.1, ckS_more T h.2.1, h.2.2⟩
theorem Good.made (l : List (List UInt8)) {p : Int} {x : X} (h : rightF p x = 0) : Good (sumAfter l (text p x)) p x (text p x ++ sumOf l (text p x)) := ⟨h, ckS_own' l _ (text_len _ _), _, sumOf_len _ _, rfl⟩
theorem dec_zero (ck : Bool) (p : Int) : Sec.decode ck p zero512 = (X0, 7) := dec_blank Disk.zero512_len (decide_eq_true rfl)
theorem mem_after {l : List (List UInt8)} {T U : List UInt8} : U ∈ sumAfter l T ↔ U ∈ l ∨ U = T := by
  unfold sumAfter
  split
  · rename_i h; exact ⟨.inl, fun e => e.elim id (fun e => e ▸ h)⟩
  · simp
/-- what is read was summed -/
theorem dec_sound {l : List (List UInt8)} {p : Int} {b : List UInt8} {x : X} (h : Sec.decode (ckS l b) p b = (x, 0)) : rightF p x = 0 ∧ text p x ∈ l := by
  unfold Sec.decode at h
  split at h
  · cases h
  · split at h
    · cases h
    · split at h
      · rename_i y hr
        split at h
        · rename_i hc
          cases h
          unfold reads at hr
          split at hr
          · rename_i h3
            injection hr with hr
            subst hr
            refine ⟨h3.2.1, ?_⟩
            rw [h3.2.2]
            unfold ckS checkOf at hc
            rw [Bool.and_eq_true] at hc
            exact of_decide_eq_true hc.1
          · cases hr
        · cases h
      · cases h
theorem text_inj {p q : Int} {x y : X} (h : rightF p x = 0) (h' : rightF q y = 0) (e : text p x = text q y) : x = y := by
  have h1 := (of_text h).2
  have h2 := (of_text h').2
  rw [e, h2] at h1; exact h1.symm
/-! a disk whose power is there, and nothing is pending -/
structure UpN (s : St) (n : Nat) : Prop where
  size : s.size = n
  pend : s.pend = []
  down : s.down = false
  fuse : s.fuse < 0
theorem up_new (n : Nat) : UpN (new n) n := ⟨rfl, rfl, rfl, by simp [new]⟩
theorem wf_cases {s : St} {n : Nat} (h2 : s.size = n) (hp : s.pend = []) (hd : s.down = false) {p : Int} (h0 : 0 ≤ p) (h1 : p < n) {b : List UInt8} (hb : b.length = 512) :
    ((wf s p b).2 = 12 ∧ (wf s p b).1.down = true ∧ (wf s p b).1.pend = [(p.toNat, b)] ∧ (wf s p b).1.all = s.all ∧ (wf s p b).1.size = n ∧ ¬ s.fuse < 0) ∨
    ((wf s p b).2 = 0 ∧ (wf s p b).1.down = false ∧ (wf s p b).1.pend = [] ∧ (wf s p b).1.all = s.all ++ [(p.toNat, b)] ∧ (wf s p b).1.size = n ∧ (s.fuse < 0 → (wf s p b).1.fuse < 0)) := by
  obtain ⟨size, pend, all, fuse, calls, down⟩ := s
  simp only at h2 hp hd
  subst h2 hp hd
  have hw : write ⟨size, [], all, fuse, calls, false⟩ p b = burn ⟨size, [(p.toNat, b)], all, fuse, calls, false⟩ := by
    unfold write; rw [if_neg (by simp), if_neg (by simp; omega), if_neg (by simpa using hb)]; rfl
  unfold wf
  rw [hw]
  by_cases h0 : fuse = 0
  · subst h0
    simp [burn]
  · by_cases h1 : 0 < fuse
    · have hb1 : burn ⟨size, [(p.toNat, b)], all, fuse, calls, false⟩ = (⟨size, [(p.toNat, b)], all, fuse - 1, calls + 1, false⟩, 0) := by unfold burn; simp [h0, h1]
      rw [hb1]
      simp only [if_true]
      by_cases h3 : fuse - 1 = 0
      · have : flush ⟨size, [(p.toNat, b)], all, fuse - 1, calls + 1, false⟩ = (⟨size, [(p.toNat, b)], all, fuse - 1, calls + 1 + 1, true⟩, 12) := by unfold flush burn; simp [h3]
        rw [this]; simp; omega
      · have : flush ⟨size, [(p.toNat, b)], all, fuse - 1, calls + 1, false⟩ = (⟨size, [], all ++ [(p.toNat, b)], fuse - 1 - 1, calls + 1 + 1, false⟩, 0) := by
          have h4 : 0 < fuse - 1 := by omega
          have h5 : burn ⟨size, [(p.toNat, b)], all, fuse - 1, calls + 1, false⟩ = (⟨size, [(p.toNat, b)], all, fuse - 1 - 1, calls + 1 + 1, false⟩, 0) := by unfold burn; rw [if_neg h3, if_pos h4]
          unfold flush; rw [if_neg (by simp), h5]; rfl
        rw [this]; simp; omega
    · have hb1 : burn ⟨size, [(p.toNat, b)], all, fuse, calls, false⟩ = (⟨size, [(p.toNat, b)], all, fuse, calls + 1, false⟩, 0) := by unfold burn; simp [h0, h1]
      rw [hb1]
      simp only [if_true]
      have : flush ⟨size, [(p.toNat, b)], all, fuse, calls + 1, false⟩ = (⟨size, [], all ++ [(p.toNat, b)], fuse, calls + 1 + 1, false⟩, 0) := by unfold flush burn; simp [h0, h1]
      rw [this]; simp
theorem UpN.wf {s : St} {n : Nat} (h : UpN s n) {p : Int} (h0 : 0 ≤ p) (h1 : p < n) {b : List UInt8} (hb : b.length = 512) : (wf s p b).2 = 0 ∧ UpN (wf s p b).1 n ∧ (wf s p b).1.all = s.all ++ [(p.toNat, b)] := by
  rcases wf_cases h.size h.pend h.down h0 h1 hb with ⟨_, _, _, _, _, h6⟩ | ⟨h1, h2, h3, h4, h5, h6⟩
  · exact absurd h.fuse h6
  · exact ⟨h1, ⟨h5, h3, h2, h6 h.fuse⟩, h4⟩
theorem UpN.read {s : St} {n : Nat} (h : UpN s n) {p : Int} (h0 : 0 ≤ p) (h1 : p < n) : read s p = (kept s.all p.toNat, 0) := by
  unfold Disk.read
  rw [if_neg (by rw [h.down]; simp), if_neg (by rw [h.size]; omega), h.pend, List.append_nil]
theorem UpN.keptAt {s : St} {n : Nat} (h : UpN s n) {p : Int} (h0 : 0 ≤ p) (h1 : p < n) : keptAt s p = kept s.all p.toNat := by
  unfold Disk.keptAt
  rw [if_neg (by rw [h.size]; omega)]
theorem kept_after (l : List Disk.Wr) (p : Nat) (b : List UInt8) : kept (l ++ [(p, b)]) p = b := by rw [Disk.kept_snoc]; simp
theorem kept_beside (l : List Disk.Wr) {p q : Nat} (b : List UInt8) (h : q ≠ p) : kept (l ++ [(q, b)]) p = kept l p := by rw [Disk.kept_snoc]; simp [h]
theorem restart_one {s : St} {n q : Nat} {b : List UInt8} (h2 : s.size = n) (hp : s.pend = [(q, b)] ∨ s.pend = []) (keep : List Int) (t a : Int) :
    UpN (restart s keep t a) n ∧ ((restart s keep t a).all = s.all ∨ ∃ z, (restart s keep t a).all = s.all ++ [(q, z)]) ∧ (s.pend = [] → (restart s keep t a).all = s.all) := by
  refine ⟨⟨h2, rfl, rfl, by simp [restart]⟩, ?_, fun h => by unfold restart; rw [h]; rfl⟩
  unfold restart
  rcases hp with hp | hp
  · rw [hp]
    simp only [fates]
    unfold fate
    split
    · exact .inr ⟨_, rfl⟩
    · split
      · exact .inr ⟨_, rfl⟩
      · exact .inl rfl
  · rw [hp]; exact .inl rfl
/-! what is at a place -/
theorem isSup_own {ga gd gl : Int} {life : UInt64} {base : Int} {gen : UInt64} : isSup ga gd gl (splace life) (sx ga gd gl life base gen, 0) = true := by
  simp [isSup, sx, R1.sameB_self]
theorem isSup_fault {ga gd gl p : Int} {d : X × Int} (h : d.2 ≠ 0) : isSup ga gd gl p d = false := by simp [isSup, h]
theorem UpN.at_own {s : St} {n : Nat} (h : UpN s n) {l : List (List UInt8)} {ga gd gl : Int} {life : UInt64} {base : Int} {gen : UInt64} (hn : splace life < n) (hg : Good l (splace life) (sx ga gd gl life base gen) (kept s.all (splace life).toNat)) : atR l s ga gd gl (splace life) = some ⟨life, base, gen⟩ := by
  have := splace_ok life
  unfold atR Sup.dec
  rw [h.read (by omega) hn]
  simp only []
  rw [hg.dec, if_pos isSup_own]; rfl
theorem UpN.at_zero {s : St} {n : Nat} (h : UpN s n) {l : List (List UInt8)} {ga gd gl p : Int} (h0 : 0 ≤ p) (hn : p < n) (hg : kept s.all p.toNat = zero512) : atR l s ga gd gl p = none := by
  unfold atR Sup.dec
  rw [h.read h0 hn]
  simp only []
  rw [hg, dec_zero, isSup_fault (by simp)]; rfl
/-- where but two texts were summed, at the second one's place there is none, or the second one -/
theorem UpN.at_second {s : St} {n : Nat} (h : UpN s n) {l : List (List UInt8)} {ga gd gl : Int} {life life' : UInt64} {base base' : Int} {gen gen' : UInt64} (hp : splace life ≠ splace life') (hn : splace life' < n)
    (hr : rightF (splace life) (sx ga gd gl life base gen) = 0) (hr' : rightF (splace life') (sx ga gd gl life' base' gen') = 0)
    (hl : ∀ T ∈ l, T = text (splace life) (sx ga gd gl life base gen) ∨ T = text (splace life') (sx ga gd gl life' base' gen')) :
    atR l s ga gd gl (splace life') = none ∨ atR l s ga gd gl (splace life') = some ⟨life', base', gen'⟩ := by
  have := splace_ok life'
  unfold atR Sup.dec
  rw [h.read (by omega) hn]
  simp only []
  obtain ⟨d, hd⟩ : ∃ d, d = Sec.decode (ckS l (kept s.all (splace life').toNat)) (splace life') (kept s.all (splace life').toNat) := ⟨_, rfl⟩
  rw [← hd]
  by_cases h0 : d.2 = 0
  · obtain ⟨x, f⟩ := d
    simp only at h0
    subst h0
    obtain ⟨g1, g2⟩ := dec_sound hd.symm
    rcases hl _ g2 with e | e
    · have e1 := text_inj g1 hr e
      rw [e1] at g1 e
      exact absurd (place_of hr g1 e).symm hp
    · have e1 := text_inj g1 hr' e
      rw [e1, if_pos isSup_own]; exact .inr rfl
  · rw [isSup_fault h0]; exact .inl rfl
theorem splace_next (life : UInt64) : splace (life + 1) = 5 - splace life := by
  unfold splace
  have h1 : (life + 1).toNat = (life.toNat + 1) % 18446744073709551616 := by simp [UInt64.toNat_add]
  rw [h1]; omega
/-- which of two counts -/
theorem best_first {p q : Int} {f : Int → Option SV} {x : SV} (hp : 2 ≤ p ∧ p ≤ 3) (hq : q = 5 - p) (h : f p = some x) (hn : f q = none) : best (best none (f 2)) (f 3) = some x := by
  rcases (show p = 2 ∨ p = 3 by omega) with rfl | rfl
  · have : q = 3 := by omega
    subst this; rw [h, hn]; rfl
  · have : q = 2 := by omega
    subst this; rw [h, hn]; rfl
theorem best_later {p q : Int} {f : Int → Option SV} {x y : SV} (hp : 2 ≤ p ∧ p ≤ 3) (hq : q = 5 - p) (h : f p = some x) (hn : f q = some y) (hl : x.life < y.life) : best (best none (f 2)) (f 3) = some y := by
  rcases (show p = 2 ∨ p = 3 by omega) with rfl | rfl
  · have : q = 3 := by omega
    subst this; rw [h, hn]; simp [best, after1, hl]
  · have : q = 2 := by omega
    subst this
    rw [h, hn]
    have : ¬ y.life < x.life := fun e => by rw [UInt64.lt_iff_toNat_lt] at e hl; omega
    simp [best, after1, this]
theorem UpN.clr {s : St} {n : Nat} (h : UpN s n) (hn : 4 ≤ n) : (clr s).2 = 0 ∧ UpN (clr s).1 n ∧ (clr s).1.all = s.all ++ [(2, zero512), (3, zero512)] ∧ (clr s).1.sz ≤ s.sz + 5 := by
  obtain ⟨size, pend, all, fuse, calls, down⟩ := s
  obtain ⟨h1, h2, h3, h4⟩ := h
  simp only at h1 h2 h3 h4
  subst h1 h2 h3
  have f0 : ¬ fuse = 0 := by omega
  have f1 : ¬ 0 < fuse := by omega
  have e1 : write ⟨size, [], all, fuse, calls, false⟩ 2 zero512 = (⟨size, [(2, zero512)], all, fuse, calls + 1, false⟩, 0) := by
    unfold write; rw [if_neg (by simp), if_neg (by simp; omega), if_neg (by simp [Disk.zero512_len])]; unfold burn; simp [f0, f1]
  have e2 : write ⟨size, [(2, zero512)], all, fuse, calls + 1, false⟩ 3 zero512 = (⟨size, [(2, zero512), (3, zero512)], all, fuse, calls + 1 + 1, false⟩, 0) := by
    unfold write; rw [if_neg (by simp), if_neg (by simp; omega), if_neg (by simp [Disk.zero512_len])]; unfold burn; simp [f0, f1]
  have e3 : flush ⟨size, [(2, zero512), (3, zero512)], all, fuse, calls + 1 + 1, false⟩ = (⟨size, [], all ++ [(2, zero512), (3, zero512)], fuse, calls + 1 + 1 + 1, false⟩, 0) := by
    unfold flush burn; simp [f0, f1]
  have e : Sup.clr ⟨size, [], all, fuse, calls, false⟩ = (⟨size, [], all ++ [(2, zero512), (3, zero512)], fuse, calls + 1 + 1 + 1, false⟩, 0) := by
    unfold Sup.clr
    rw [e1]
    simp only [if_true]
    rw [e2]
    simp only [if_true]
    exact e3
  rw [e]
  exact ⟨rfl, ⟨rfl, rfl, rfl, h4⟩, rfl, by unfold Disk.St.sz; simp; omega⟩
theorem srightF_new {n : Nat} {ga gd gl : Int} (h : Geom.right ga gd gl = true) {s : St} (hs : s.size = n) (hn : (n : Int) = Geom.sizeOf ga gd gl) : srightF s ga gd gl = 0 := by
  unfold srightF; rw [if_pos ⟨h, by rw [hs, hn]⟩]
theorem srightF_no {ga gd gl : Int} (h : ¬ Geom.right ga gd gl = true) (s : St) : srightF s ga gd gl = 2 := by
  unfold srightF; rw [if_neg (fun e => h e.1)]
theorem sL_len (l : List (List UInt8)) (ga gd gl : Int) (life : UInt64) (base : Int) (gen : UInt64) : (sL l ga gd gl life base gen).length ≤ l.length + 1 := by unfold sL sumAfter; split <;> simp
theorem sB_good (l : List (List UInt8)) {ga gd gl : Int} {life : UInt64} {base : Int} {gen : UInt64} (h0 : 0 ≤ base) (h1 : base ≤ 1073741824) : Good (sL l ga gd gl life base gen) (splace life) (sx ga gd gl life base gen) (sB l ga gd gl life base gen) := Good.made l (sx_right h0 h1)
end Go.Proofs.Ytmpmibcdpkolkaa.Sup

/- Sectors encoded and written, one behind the other, and flushed: what becomes of the disk and of the sums: plain. -/
namespace Go.Proofs.Ytmpmibcdpkolkaa.Enc
open Go.RowKit
open Go.Proofs.Ytmpmibcdpkolkaa.Disk (St Wr write flush read kept burn restart fates fate keptAt new zero512 arm)
open Go.Proofs.Ytmpmibcdpkolkaa.Sec (X text text_len sumOf sumOf_len sumAfter ckS rightF X0)
open Go.Proofs.Ytmpmibcdpkolkaa.Sup (UpN dec_sound text_inj mem_after ckS_more)
set_option linter.unusedVariables false
/-- the bytes of a sector at a place -/
def xB (l : List (List UInt8)) (p : Int) (x : X) : List UInt8 := text p x ++ sumOf l (text p x)
theorem xB_len (l : List (List UInt8)) (p : Int) (x : X) : (xB l p x).length = 512 := by unfold xB; rw [List.length_append, text_len, sumOf_len]
abbrev Itm := Int × X
/-- sectors written one behind the other, up to the first that is not taken -/
def encs : List Itm → List (List UInt8) → St → List (List UInt8) × St × Int
  | [], l, s => (l, s, 0)
  | i :: r, l, s => if (write s i.1 (xB l i.1 i.2)).2 = 0 then encs r (sumAfter l (text i.1 i.2)) (write s i.1 (xB l i.1 i.2)).1
    else (sumAfter l (text i.1 i.2), write s i.1 (xB l i.1 i.2))
/-- and flushed -/
def enf (is : List Itm) (l : List (List UInt8)) (s : St) : List (List UInt8) × St × Int :=
  if (encs is l s).2.2 = 0 then ((encs is l s).1, flush (encs is l s).2.1) else encs is l s
theorem encs_nil (l : List (List UInt8)) (s : St) : encs [] l s = (l, s, 0) := rfl
theorem encs_go {i : Itm} {r : List Itm} {l : List (List UInt8)} {s : St} (h : (write s i.1 (xB l i.1 i.2)).2 = 0) : encs (i :: r) l s = encs r (sumAfter l (text i.1 i.2)) (write s i.1 (xB l i.1 i.2)).1 := by
  show (if _ then _ else _) = _
  rw [if_pos h]
theorem encs_stop {i : Itm} {r : List Itm} {l : List (List UInt8)} {s : St} (h : (write s i.1 (xB l i.1 i.2)).2 ≠ 0) : encs (i :: r) l s = (sumAfter l (text i.1 i.2), write s i.1 (xB l i.1 i.2)) := by
  show (if _ then _ else _) = _
  rw [if_neg h]
theorem encs_append : ∀ (a b : List Itm) (l : List (List UInt8)) (s : St), encs (a ++ b) l s = if (encs a l s).2.2 = 0 then encs b (encs a l s).1 (encs a l s).2.1 else encs a l s
  | [], b, l, s => by simp [encs_nil]
  | i :: a, b, l, s => by
    by_cases h : (write s i.1 (xB l i.1 i.2)).2 = 0
    · rw [List.cons_append, encs_go h, encs_go h]; exact encs_append a b _ _
    · rw [List.cons_append, encs_stop h, encs_stop h, if_neg h]
theorem sumAfter_len (l : List (List UInt8)) (T : List UInt8) : (sumAfter l T).length ≤ l.length + 1 := by unfold sumAfter; split <;> simp
theorem encs_lim : ∀ (is : List Itm) (l : List (List UInt8)) (s : St), (encs is l s).1.length ≤ l.length + is.length ∧ (encs is l s).2.1.sz ≤ s.sz + 2 * is.length
  | [], l, s => by simp [encs_nil]
  | i :: r, l, s => by
    have h1 := sumAfter_len l (text i.1 i.2)
    have h2 := Disk.sz_write s i.1 (xB l i.1 i.2)
    by_cases h : (write s i.1 (xB l i.1 i.2)).2 = 0
    · rw [encs_go h]
      obtain ⟨h3, h4⟩ := encs_lim r (sumAfter l (text i.1 i.2)) (write s i.1 (xB l i.1 i.2)).1
      simp only [List.length_cons]; omega
    · rw [encs_stop h]
      simp only [List.length_cons]; omega
theorem enf_lim (is : List Itm) (l : List (List UInt8)) (s : St) : (enf is l s).1.length ≤ l.length + is.length ∧ (enf is l s).2.1.sz ≤ s.sz + 2 * is.length + 1 := by
  obtain ⟨h1, h2⟩ := encs_lim is l s
  unfold enf
  split
  · have := Disk.sz_flush (encs is l s).2.1
    simp only []; omega
  · omega
/-- sums only come to be -/
def More (l l' : List (List UInt8)) : Prop := ∀ p x b, Sup.Good l p x b → Sup.Good l' p x b
theorem More.refl (l : List (List UInt8)) : More l l := fun _ _ _ h => h
theorem More.trans {a b c : List (List UInt8)} (h : More a b) (k : More b c) : More a c := fun p x y g => k p x y (h p x y g)
theorem More.after (l : List (List UInt8)) (T : List UInt8) : More l (sumAfter l T) := fun _ _ _ h => h.more T
/-- what the writes are: the first items' sectors -/
structure Put (n : Nat) (is : List Itm) (l : List (List UInt8)) (s : St) (q : List (List UInt8) × St × Int) (m : List Wr) : Prop where
  size : q.2.1.size = n
  all : q.2.1.all = s.all
  pend : q.2.1.pend = s.pend ++ m
  len : m.length ≤ is.length
  at_ : ∀ k (h : k < m.length) (h' : k < is.length), m[k].1 = is[k].1.toNat ∧ Sup.Good q.1 is[k].1 is[k].2 m[k].2
  more : More l q.1
  old : ∀ T ∈ l, T ∈ q.1
  text : ∀ T ∈ q.1, T ∈ l ∨ ∃ i ∈ is, T = text i.1 i.2
  res : (q.2.2 = 12 ∧ q.2.1.down = true ∧ ¬ s.fuse < 0) ∨ (q.2.2 = 0 ∧ q.2.1.down = false ∧ m.length = is.length ∧ (s.fuse < 0 → q.2.1.fuse < 0))
theorem write_cases {s : St} {n : Nat} (h2 : s.size = n) (hd : s.down = false) {p : Int} (h0 : 0 ≤ p) (h1 : p < n) {b : List UInt8} (hb : b.length = 512) :
    (write s p b).1.size = n ∧ (write s p b).1.all = s.all ∧ (write s p b).1.pend = s.pend ++ [(p.toNat, b)] ∧
    (((write s p b).2 = 12 ∧ (write s p b).1.down = true ∧ ¬ s.fuse < 0) ∨ ((write s p b).2 = 0 ∧ (write s p b).1.down = false ∧ (s.fuse < 0 → (write s p b).1.fuse < 0))) := by
  subst h2
  have hw : write s p b = burn { s with pend := s.pend ++ [(p.toNat, b)] } := by
    unfold write; rw [if_neg (by simp [hd]), if_neg (by omega), if_neg (by simpa using hb)]
  rw [hw]
  obtain ⟨e1, e2, e3⟩ := Disk.burn_lists { s with pend := s.pend ++ [(p.toNat, b)] }
  refine ⟨e3, e2, e1, ?_⟩
  unfold burn
  split
  · rename_i h; exact .inl ⟨rfl, rfl, by simp only [] at h; omega⟩
  · split
    · rename_i h; exact .inr ⟨rfl, hd, fun e => by simp only [] at h; omega⟩
    · exact .inr ⟨rfl, hd, fun e => e⟩
theorem flush_cases {s : St} {n : Nat} (h2 : s.size = n) (hd : s.down = false) :
    (flush s).1.size = n ∧ (((flush s).2 = 12 ∧ (flush s).1.down = true ∧ (flush s).1.all = s.all ∧ (flush s).1.pend = s.pend ∧ ¬ s.fuse < 0) ∨ ((flush s).2 = 0 ∧ (flush s).1.down = false ∧ (flush s).1.all = s.all ++ s.pend ∧ (flush s).1.pend = [] ∧ (s.fuse < 0 → (flush s).1.fuse < 0))) := by
  obtain ⟨size, pend, all, fuse, calls, down⟩ := s
  simp only at h2 hd
  subst h2 hd
  by_cases h0 : fuse = 0
  · subst h0; simp [flush, burn]
  · by_cases h1 : 0 < fuse
    · simp [flush, burn, h0, h1]; omega
    · simp [flush, burn, h0, h1]
theorem encs_put {n : Nat} : ∀ (is : List Itm) (l : List (List UInt8)) (s : St), s.size = n → s.down = false → (∀ i ∈ is, rightF i.1 i.2 = 0 ∧ 0 ≤ i.1 ∧ i.1 < n) → ∃ m, Put n is l s (encs is l s) m
  | [], l, s, h2, hd, _ => ⟨[], h2, rfl, by rw [encs_nil]; simp, by simp, fun k h => by simp at h, More.refl l, fun T h => h, fun T h => .inl h, .inr ⟨rfl, hd, rfl, fun h => h⟩⟩
  | i :: r, l, s, h2, hd, hi => by
    obtain ⟨hr, hp0, hp1⟩ := hi i (by simp)
    obtain ⟨w1, w2, w3, w4⟩ := write_cases h2 hd hp0 hp1 (xB_len l i.1 i.2)
    have hg : Sup.Good (sumAfter l (text i.1 i.2)) i.1 i.2 (xB l i.1 i.2) := Sup.Good.made l hr
    rcases w4 with ⟨w4, w5, w6⟩ | ⟨w4, w5, w6⟩
    · rw [encs_stop (by rw [w4]; decide)]
      refine ⟨[(i.1.toNat, xB l i.1 i.2)], w1, w2, w3, by simp, ?_, More.after _ _, fun T h => mem_after.2 (.inl h), fun T h => (mem_after.1 h).imp id (fun e => ⟨i, by simp, e⟩), .inl ⟨w4, w5, w6⟩⟩
      intro k h h'
      obtain rfl : k = 0 := by simp at h; exact h
      exact ⟨rfl, hg⟩
    · rw [encs_go w4]
      obtain ⟨m, hm⟩ := encs_put r (sumAfter l (text i.1 i.2)) (write s i.1 (xB l i.1 i.2)).1 w1 w5 (fun j hj => hi j (by simp [hj]))
      refine ⟨(i.1.toNat, xB l i.1 i.2) :: m, hm.size, hm.all.trans w2, by rw [hm.pend, w3]; simp, by simpa using hm.len, ?_, (More.after _ _).trans hm.more, fun T h => hm.old T (mem_after.2 (.inl h)), ?_, ?_⟩
      · intro k h h'
        cases k with
        | zero => exact ⟨rfl, hm.more _ _ _ hg⟩
        | succ k => exact hm.at_ k (by simpa using h) (by simpa using h')
      · intro T h
        rcases hm.text T h with h | ⟨j, hj, e⟩
        · exact (mem_after.1 h).imp id (fun e => ⟨i, by simp, e⟩)
        · exact .inr ⟨j, by simp [hj], e⟩
      · rcases hm.res with ⟨h1, h3, h4⟩ | ⟨h1, h3, h4, h5⟩
        · exact .inl ⟨h1, h3, fun e => h4 (w6 e)⟩
        · exact .inr ⟨h1, h3, by simp [h4], fun e => h5 (w6 e)⟩
/-- written and flushed: the power went, and some of them are pending; or they are kept -/
structure Enf (n : Nat) (is : List Itm) (l : List (List UInt8)) (s : St) (q : List (List UInt8) × St × Int) (m : List Wr) : Prop where
  size : q.2.1.size = n
  len : m.length ≤ is.length
  at_ : ∀ k (h : k < m.length) (h' : k < is.length), m[k].1 = is[k].1.toNat ∧ Sup.Good q.1 is[k].1 is[k].2 m[k].2
  more : More l q.1
  old : ∀ T ∈ l, T ∈ q.1
  text : ∀ T ∈ q.1, T ∈ l ∨ ∃ i ∈ is, T = text i.1 i.2
  res : (q.2.2 = 12 ∧ q.2.1.down = true ∧ q.2.1.all = s.all ∧ q.2.1.pend = s.pend ++ m ∧ ¬ s.fuse < 0) ∨
    (q.2.2 = 0 ∧ q.2.1.down = false ∧ q.2.1.all = s.all ++ (s.pend ++ m) ∧ q.2.1.pend = [] ∧ m.length = is.length ∧ (s.fuse < 0 → q.2.1.fuse < 0))
theorem enf_of {n : Nat} (is : List Itm) (l : List (List UInt8)) (s : St) (h2 : s.size = n) (hd : s.down = false) (hi : ∀ i ∈ is, rightF i.1 i.2 = 0 ∧ 0 ≤ i.1 ∧ i.1 < n) : ∃ m, Enf n is l s (enf is l s) m := by
  obtain ⟨m, h⟩ := encs_put is l s h2 hd hi
  refine ⟨m, ?_⟩
  unfold enf
  rcases h.res with ⟨r1, r2, r3⟩ | ⟨r1, r2, r3, r4⟩
  · rw [if_neg (by rw [r1]; decide)]
    exact ⟨h.size, h.len, h.at_, h.more, h.old, h.text, .inl ⟨r1, r2, h.all, h.pend, r3⟩⟩
  · rw [if_pos r1]
    obtain ⟨f1, f2⟩ := flush_cases h.size r2
    refine ⟨f1, h.len, h.at_, h.more, h.old, h.text, ?_⟩
    rcases f2 with ⟨g1, g2, g3, g4, g5⟩ | ⟨g1, g2, g3, g4, g5⟩
    · exact .inl ⟨g1, g2, by rw [g3, h.all], by rw [g4, h.pend], fun e => g5 (r4 e)⟩
    · exact .inr ⟨g1, g2, by rw [g3, h.all, h.pend], g4, r3, fun e => g5 (r4 e)⟩
/-- what is kept of writes to places that are not twice among them -/
theorem kept_of (all : List Wr) : ∀ (m : List Wr) (k : Nat) (h : k < m.length), (∀ a b (ha : a < m.length) (hb : b < m.length), m[a].1 = m[b].1 → a = b) → kept (all ++ m) m[k].1 = m[k].2 := by
  intro m k h hd
  have e : all ++ m = (all ++ m.take k ++ [m[k]]) ++ m.drop (k + 1) := by
    rw [List.append_assoc, List.append_assoc]
    congr 1
    rw [List.singleton_append, ← List.drop_eq_getElem_cons h, List.take_append_drop]
  have hk := Disk.kept_append (all ++ m.take k ++ [m[k]]) (m.drop (k + 1)) m[k].1 (by
    intro w hw he
    obtain ⟨j, hj, rfl⟩ := List.mem_iff_getElem.1 hw
    rw [List.length_drop] at hj
    rw [List.getElem_drop] at he
    have := hd (k + 1 + j) k (by omega) h he
    omega)
  rw [e, hk, Disk.kept_snoc, if_pos rfl]
theorem fates_places (keep : List Int) (t a : Int) : ∀ (m : List Wr) (i : Nat) (all : List Wr), ∃ m', fates keep t a i m all = all ++ m' ∧ ∀ w ∈ m', ∃ v ∈ m, w.1 = v.1
  | [], i, all => ⟨[], by simp [fates], fun w h => by simp at h⟩
  | v :: m, i, all => by
    obtain ⟨m', h1, h2⟩ := fates_places keep t a m (i + 1) (fate keep t a i v all)
    have h3 : ∃ m1, fate keep t a i v all = all ++ m1 ∧ ∀ w ∈ m1, w.1 = v.1 := by
      unfold fate
      split
      · exact ⟨_, rfl, fun w hw => by rw [List.mem_singleton] at hw; subst hw; rfl⟩
      · split
        · exact ⟨_, rfl, fun w hw => by rw [List.mem_singleton] at hw; subst hw; rfl⟩
        · exact ⟨[], by simp, fun w hw => by simp at hw⟩
    obtain ⟨m1, h4, h5⟩ := h3
    refine ⟨m1 ++ m', by show fates keep t a (i + 1) m _ = _; rw [h1, h4, List.append_assoc], fun w hw => ?_⟩
    rcases List.mem_append.1 hw with hw | hw
    · exact ⟨v, by simp, h5 w hw⟩
    · obtain ⟨u, hu, e⟩ := h2 w hw
      exact ⟨u, by simp [hu], e⟩
theorem restart_up {s : St} {n : Nat} (h : s.size = n) (keep : List Int) (t a : Int) : UpN (restart s keep t a) n ∧ (s.pend = [] → (restart s keep t a).all = s.all) ∧ ∃ m', (restart s keep t a).all = s.all ++ m' ∧ ∀ w ∈ m', ∃ v ∈ s.pend, w.1 = v.1 := by
  refine ⟨⟨h, rfl, rfl, by simp [restart]⟩, fun e => by unfold restart; rw [e]; rfl, ?_⟩
  exact fates_places keep t a s.pend 0 s.all
/-- what is read at a place by a disk's power -/
def rd (l : List (List UInt8)) (s : St) (p : Int) : X × Int := Sec.decode (ckS l (read s p).1) p (read s p).1
theorem rd_good {s : St} {n : Nat} (h : UpN s n) {l : List (List UInt8)} {p : Int} {x : X} (h0 : 0 ≤ p) (h1 : p < n) (hg : Sup.Good l p x (kept s.all p.toNat)) : rd l s p = (x, 0) := by
  unfold rd
  rw [h.read h0 h1]
  exact hg.dec
theorem rd_zero {s : St} {n : Nat} (h : UpN s n) {l : List (List UInt8)} {p : Int} (h0 : 0 ≤ p) (h1 : p < n) (hg : kept s.all p.toNat = zero512) : rd l s p = (X0, 7) := by
  unfold rd
  rw [h.read h0 h1, hg]
  exact Sup.dec_zero _ _
theorem rd_sound {l : List (List UInt8)} {s : St} {p : Int} (h : (rd l s p).2 = 0) : rightF p (rd l s p).1 = 0 ∧ text p (rd l s p).1 ∈ l := by
  unfold rd at h ⊢
  generalize hd : Sec.decode (ckS l (read s p).1) p (read s p).1 = d at h
  obtain ⟨x, f⟩ := d
  simp only at h
  subst h
  exact dec_sound hd
end Go.Proofs.Ytmpmibcdpkolkaa.Enc

/- A region that draws its order, in a round of a range over a function: what is shown of it outside the fence holds within. -/
namespace Go.Proofs.Ytmpmibcdpkolkaa
open Go.RowKit
set_option linter.unusedVariables false

section
variable {P : Program} {Q Q' : Exit → Act → World → Prop} {r n : Nat}
theorem fnW (f : FuncId) : (Fence.wide.inRound r).fn f := trivial
theorem oper_in {o : Oper} {a : Act} {w : World} {K K' : Act → World → Prop} (hd : ∀ c, o.op ≠ .defer c) (hno : ¬ LetsOut Q) (hk : ∀ a w, K a w → K' a w) (hq : ∀ e a w, Q e a w → Q' e a w) (h : o.wp P a w K Q) :
    o.wpIn (Fence.wide.inRound r) n P a w K' Q' := by
  refine ⟨fun f _ => trivial, ?_⟩
  rw [Oper.semAt_plain _ _ _ hd]
  unfold Oper.wp at h
  generalize (execOp a.eval o).run P w = x at *
  cases x with
  | halt hx w' =>
    cases hx <;> first | exact hq _ _ _ h | exact h.elim
  | ok nx w' =>
    cases nx with
    | value v => exact hk _ _ h
    | skip => exact hk _ _ h
    | defer d => exact hk _ _ h
    | enter f args =>
      refine ⟨fun h => by simp [Fence.wide] at h, (CallsIn.inRound r (callsIn_wide.2 h)).mono ?_⟩
      intro e w2 he
      cases e with
      | returned v => exact hk _ _ he
      | panicked c => exact hq _ _ _ he
      | outgrown => exact absurd he hno
    | row row args =>
      refine ⟨fun h => by simp [Fence.wide] at h, fun c cs _ => ?_⟩
      obtain ⟨v, w2, hv, hs⟩ := h c cs
      exact ⟨v, w2, hk _ _ hv, stepsIn_wide.2 hs⟩
    | _ => exact h.elim
theorem any_in {md : Region.Mode} {ops : Array Oper} (hd : ∀ (j : Nat) (o : Oper), ops[j]? = some o → ∀ c : Call, o.op ≠ Op.defer c) (hno : ¬ LetsOut Q) (hq : ∀ e a w, Q e a w → Q' e a w) :
    ∀ (g : Nat) (listed : Array Bool) (a : Act) (w : World), wpAny P md ops Q g listed a w → wpAnyIn (Fence.wide.inRound r) n P md ops Q' g listed a w
  | 0, listed, a, w, h => ⟨h.1, hq _ _ _ h.2⟩
  | g + 1, listed, a, w, h => by
    refine ⟨fun h0 => hq _ _ _ (h.1 h0), fun i hi => ?_⟩
    have h1 := h.2 i hi
    unfold wpOp at h1
    unfold wpOpIn
    cases ho : ops[i]? with
    | none => rw [ho] at h1; exact any_in hd hno hq g _ _ _ h1
    | some o =>
      rw [ho] at h1
      simp only at h1 ⊢
      split
      · rename_i hw
        rw [if_pos hw] at h1
        rcases h1 with h1 | h1
        · exact oper_in (hd i o ho) hno (fun a w h => any_in hd hno hq g _ a w h) hq h1
        · exact absurd h1.2 hno
      · rename_i hw
        rw [if_neg hw] at h1
        exact ⟨fun f _ => trivial, any_in hd hno hq g _ _ _ h1⟩
/-- no operation defers a call -/
def noDefer (l : List Oper) : Bool := l.all fun o => match o.op with | .defer _ => false | _ => true
theorem noDefer_spec {l : List Oper} (h : noDefer l = true) : ∀ (j : Nat) (o : Oper), l.toArray[j]? = some o → ∀ c : Call, o.op ≠ Op.defer c := by
  intro j o ho c hc
  have := List.all_eq_true.1 h o (by rw [List.getElem?_toArray] at ho; exact List.mem_of_getElem? ho)
  rw [hc] at this
  cases this
/-- only to the end, and no panic -/
def Nrm (Q : Exit → Act → World → Prop) (e : Exit) (a : Act) (w : World) : Prop := e = .normal ∧ Q .normal a w
theorem Nrm.no (Q : Exit → Act → World → Prop) : ¬ LetsOut (Nrm Q) := by rintro ⟨a, w, h, _⟩; cases h
theorem Nrm.all {Q : Exit → Act → World → Prop} : ∀ e a w, Nrm Q e a w → Q e a w := by rintro e a w ⟨rfl, h⟩; exact h
theorem region_inb_tail_in {id : Nat} {a : Act} {w : World} {l : List Oper} (k : Nat) (hm : P.follows .mixedOrders = true) (hB : Region.lexTailB .any l.toArray k = true) (hdf : noDefer l = true)
    (h : wpQuiet P l.toArray (InB w) (fun a' => ∀ w', InB w w' → wpList P l.toArray (Nrm Q) (l.drop k) a' w') (l.take k) a) : (Code.region id l.toArray true).wpIn (Fence.wide.inRound r) n P Q a w := by
  simp only [Region.lexTailB, Bool.and_eq_true, decide_eq_true_eq] at hB
  obtain ⟨⟨⟨⟨hsel, hn⟩, hs⟩, hc⟩, hlex⟩ := hB
  have hn' : k < l.length := by simpa using hn
  have htl : (l.take k).length = k := by simp; omega
  have hdl : (l.drop k).length = l.toArray.size - k := by simp
  have inv0 : HeadInv .any l.toArray k (Array.replicate l.toArray.size false) :=
    ⟨by simp, fun j oj _ hl => (by rw [getD_replicate_false] at hl; cases hl), fun t _ ht => getD_in (by simpa using ht) (getD_replicate_false _ _)⟩
  have H := headQ_lex (md := .any) (g := l.toArray.size - k) hsel hs hc hn (l.take k) 0 _ a (fun j hj => by
    have hj' : j < k := by rw [htl] at hj; exact hj
    simp [hj']) (by simpa using htl) inv0 (by rw [htl]; exact hlex) h
  refine wpIn_region_any hm (any_in (noDefer_spec hdf) (Nrm.no Q) Nrm.all _ _ _ _ ?_)
  have := any_of_headQ (Q' := Nrm Q) (g := l.toArray.size - k) (fun listed a' w' hw' hL => by
    have := wpAny_of_seq (md := .any) (Q' := Nrm Q) (l.drop k) k listed a' w' (fun j => by simp [List.getElem?_drop]) (by rw [hdl]; exact hL.1) (hL.2 w' hw')
    rwa [hdl] at this) _ _ _ _ (InB.start w) H
  rw [htl, show k + (l.toArray.size - k) = l.toArray.size by omega] at this
  exact this
/-- a region that draws, in a round: its orders as outside the fence -/
theorem region_any_in {id : Nat} {a : Act} {w : World} {l : List Oper} (hm : P.follows .mixedOrders = true) (hdf : noDefer l = true)
    (h : wpAny P .any l.toArray (Nrm Q) l.toArray.size (Array.replicate l.toArray.size false) a w.drew) : (Code.region id l.toArray true).wpIn (Fence.wide.inRound r) n P Q a w :=
  wpIn_region_any hm (any_in (noDefer_spec hdf) (Nrm.no Q) Nrm.all _ _ _ _ h)
end
theorem step_app {P : Program} (w : World) {ops : Array Oper} {o : Oper} {a : Act} {K : Act → World → Prop} {Q : Exit → Act → World → Prop} {E : Prop} (hgd : o.guard = none) (s x : Operand) (t : TypeId)
    (ho : o.op = .call { callee := .builtin .append, args := #[s, x], argTypes := #[t, t] })
    (base : Nat) (e : TypeId) (i : TypeInfo) (z : Value) (size bytes : Nat) (ht : P.underlying t = some (.slice e)) (hi : P.info? e = some i) (hz : i.zero = some z)
    (hsize : i.size = size) (hby : i.bytes = bytes) (hzs : z.cells.size = size) (hsz : 0 < size)
    (v : Value) (n : Nat) (xs : List Value) (hs : a.eval s = v) (hown : w.ownsRow base e size v n xs)
    (A : Option Addr) (m c : Nat) (news : List Value) (hx : a.eval x = .slice A m c) (hl : news.length = m * size) (hr : Rd w w.heap.size A news) (h1 : ∀ u ∈ news, u.oneCell' = true)
    (h63 : n + m ≤ maxLen) (hbytes : (n + m) * bytes ≤ 140737488355328) (hbase : base ≤ w.heap.size)
    (h : ∀ v' w', w'.ownsRow base e size v' (n + m) (xs ++ news) → w.grownBy w' v.ownBlock → K (a.put o.dst v') w') :
    if Region.wanted o (yielded ops a.tmps) = true then Oper.wp P o a w K Q else E := by
  have hw : Region.wanted o (yielded ops a.tmps) = true := by simp [Region.wanted, hgd]
  rw [if_pos hw]
  exact wp_append_rd w s x t ho base e i z size bytes ht hi hz hsize hby hzs hsz v n xs hs hown w.heap.size A m c news hx hl hr h1 h63 hbytes hbase fun v' w' h2 h3 _ => h v' w' h2 h3
end Go.Proofs.Ytmpmibcdpkolkaa

/- The log: a sector that is put. -/
namespace Go.Proofs.Ytmpmibcdpkolkaa.Wal
open Go.RowKit
open Go.Proofs.Ytmpmibcdpkolkaa.Geom
open Go.Proofs.Ytmpmibcdpkolkaa.Sup (Gb gv gcell gthree)
open Go.Proofs.Ytmpmibcdpkolkaa.Disk (St DAt Did New8 Told8)
open Go.Proofs.Ytmpmibcdpkolkaa.Num (putL putL_len)
open Go.Proofs.Ytmpmibcdpkolkaa.Sec (X SymAt text sumOf sumAfter rightF encode_sym right_0)
open Go.Proofs.Ytmpmibcdpkolkaa.Enc (xB)
set_option linter.unusedVariables false
set_option maxRecDepth 100000
/-- a sector of the log -/
def dX (kind : Int) (life : UInt64) (seq i : Nat) (gen : UInt64) (n : Nat) (body : List UInt8) : X := ⟨kind, life, ((seq + i : Nat) : Int), gen, putL seq 4 ++ putL n 2 ++ body⟩
theorem dX_right {p : Int} {kind : Int} {life : UInt64} {seq i : Nat} {gen : UInt64} {n : Nat} {body : List UInt8} (h0 : 0 ≤ p) (h1 : p ≤ 1023) (hk : 1 ≤ kind ∧ kind ≤ 5) (hs : seq + i ≤ 1000) (hb : body.length ≤ 473) : rightF p (dX kind life seq i gen n body) = 0 := by
  apply right_0
  · unfold dX; simp only []; omega
  · unfold dX; simp only [List.length_append, putL_len]; omega
theorem info8 : (Try.prog.info? 5).map (fun i => (i.zero, i.size, i.bytes)) = some (some (.int .u8 0), 1, 1) := by kernel_rfl
set_option maxHeartbeats 4000000 in
theorem put_any (g : Nat) (fp : List Nat) (s : St) (gS bS : Nat) (l : List (List UInt8)) (L : Nat) (ga gd gl : Int) (life : UInt64) (base : Int) (seq i : Nat) (kind : Int) (gen : UInt64) (n : Nat) (body : List UInt8) (A : Option Addr) (c : Nat) (w : World) (hG : Gb ga gd gl) (h : Both w g fp s gS bS l) (hL : LAt w L g gS ga gd gl life base seq) (hLn : L ∉ bS :: fp) (hl : l.length ≤ 1000000) (hs : s.sz ≤ 90000000)
    (hb0 : 0 ≤ base) (hb1 : base ≤ 1073741824) (hsi : seq + i ≤ 1000) (hn : n ≤ 65535) (hbl : body.length ≤ 1000) (p : Int) (hp : p = logAt ga gd gl (base + ((seq + i : Nat) : Int))) (hp1 : p ≤ 1023) (hx : rightF p (dX kind life seq i gen n body) = 0) (hr : Rd w w.heap.size A (body.map e8)) :
    Calls Try.prog 108 #[.pointer (some ⟨L, 0, none⟩), .int .i64 (i : Int), .int .i64 kind, .int .u64 (gen.toNat : Int), .int .i64 (n : Int), .slice A body.length c] w fun e w' =>
      e = .returned (.int .i64 (Disk.write s p (xB l p (dX kind life seq i gen n body))).2) ∧ Turn w g fp gS bS (Disk.write s p (xB l p (dX kind life seq i gen n body))).1 (sumAfter l (text p (dX kind life seq i gen n body))) w' := by
  obtain ⟨i0, hi0, hz0, hz1, hz2⟩ := info_parts info8
  obtain ⟨z0, z1, z2, z3, z4, z5, z6, z7⟩ := eight8 hL
  have hlL := hL.lt
  have hu : ∀ k : Nat, k ≤ 100000 → ((UInt64.ofNat k).toNat = k) := fun k hk => by rw [UInt64.toNat_ofNat']; exact Nat.mod_eq_of_lt (by omega)
  have hP4 := fun W => Num.put_any (UInt64.ofNat seq) (seq : Int) (by rw [hu seq (by omega)]) 4 4 rfl (by omega) (by omega) W
  have hP2 := fun W => Num.put_any (UInt64.ofNat n) (n : Int) (by rw [hu n (by omega)]) 2 2 rfl (by omega) (by omega) W
  rw [hu seq (by omega)] at hP4
  rw [hu n (by omega)] at hP2
  have hc4 : IntKind.u64.wrap (seq : Int) = (seq : Int) := IntWalk.u64_in _ (by omega)
  have hc2 : IntKind.u64.wrap (n : Int) = (n : Int) := IntWalk.u64_in _ (by omega)
  have hadd : IntKind.i64.wrap ((seq : Int) + (i : Int)) = ((seq + i : Nat) : Int) := by rw [wrap_small (by omega) (by omega)]; omega
  have hl4 := putL_len seq 4
  have hl2 := putL_len n 2
  have hPl := fun W => place_any (.pointer (some ⟨g, 0, none⟩)) (.pointer (some ⟨gS, 0, none⟩)) ga gd gl life base ((seq + i : Nat) : Int) W g gS rfl rfl hG hb0 hb1 (by omega) (by omega)
  rw [← hp] at hPl
  have hE : ∀ (A : Option Addr) (m c : Nat) (W : World), m = (dX kind life seq i gen n body).body.length → SymAt W gS bS l → Rd W W.heap.size A ((dX kind life seq i gen n body).body.map e8) → Calls Try.prog 42 #[.pointer (some ⟨gS, 0, none⟩), .int .i64 p, .agg #[.int .i64 kind, .int .u64 (life.toNat : Int), .int .i64 ((seq + i : Nat) : Int), .int .u64 (gen.toNat : Int), .slice A m c]] W fun e w' =>
      ∃ A' c', e = .returned (.tuple #[.slice A' 512 c', .int .i64 0]) ∧ w'.ownsRow W.heap.size 5 1 (.slice A' 512 c') 512 ((xB l p (dX kind life seq i gen n body)).map e8) ∧ Keep [bS] W w' ∧ SymAt w' gS bS (sumAfter l (text p (dX kind life seq i gen n body))) := by
    intro A m c W hm hS hr
    subst hm
    exact encode_sym p gS bS l (dX kind life seq i gen n body) A c W hS hl hr hx
  have hW := fun A c W hD hr' => Disk.write_any g fp s p A 512 c (xB l p (dX kind life seq i gen n body)) W hD (by omega) (Enc.xB_len l p _).symm hr'
  rw [show (dX kind life seq i gen n body).body = putL seq 4 ++ putL n 2 ++ body from rfl] at hE
  obtain ⟨V, hV⟩ : ∃ V, V = Disk.write s p (xB l p (dX kind life seq i gen n body)) := ⟨_, rfl⟩
  obtain ⟨bb, hbb⟩ : ∃ V, V = xB l p (dX kind life seq i gen n body) := ⟨_, rfl⟩
  obtain ⟨l', hl'⟩ : ∃ V, V = sumAfter l (text p (dX kind life seq i gen n body)) := ⟨_, rfl⟩
  rw [← hV] at hW ⊢
  rw [← hbb] at hW hE
  rw [← hl'] at hE ⊢
  obtain ⟨P4, hP4e⟩ : ∃ V, V = putL seq 4 := ⟨_, rfl⟩
  obtain ⟨P2, hP2e⟩ : ∃ V, V = putL n 2 := ⟨_, rfl⟩
  rw [← hP4e] at hP4 hl4 hE
  rw [← hP2e] at hP2 hl2 hE
  have H4 := Lib.hid hP4
  have H2 := Lib.hid hP2
  have HPl := Lib.hid hPl
  have HE := Lib.hid hE
  have HW := Lib.hid hW
  have Hl4 := Lib.hid hl4
  have Hl2 := Lib.hid hl2
  have HL := Lib.hid hL
  have n1 : P4.length + P2.length ≤ maxLen := by unfold maxLen; omega
  have n2 : (P4.length + P2.length) * 1 ≤ 140737488355328 := by omega
  have n3 : P4.length + P2.length + body.length ≤ maxLen := by unfold maxLen; omega
  have n4 : (P4.length + P2.length + body.length) * 1 ≤ 140737488355328 := by omega
  have tP : True := trivial
  clear hP4 hP2 hPl hE hW hV hbb hl' hP4e hP2e hl4 hl2 hL hx hp hu hsi hn hbl hb0 hb1
  go_enter Try.func108, Try.ntmps108
  go_wp2_with (first
    | (go_at_call 117; have _t := tP; refine (H4.out _).mono ?_; rintro e w1 ⟨A1, c1, rfl, own1, b1⟩; have L1 := HL.out.on b1; clear tP)
    | (go_at_call 117; refine (H2.out _).mono ?_; rintro e w2 ⟨A2, c2, rfl, own2, b2⟩; have own1' := own_on own1 b2; have b12 := bt b1 b2)
    | (refine wpList_append_rd _ rfl _ _ _ rfl w.heap.size 5 i0 _ 1 1 Try.underlying37 hi0 hz0 hz1 hz2 rfl Nat.zero_lt_one _ P4.length _ rfl own1' w2.heap.size A2 P2.length c2 (P2.map e8) rfl (by simp) (Rd.own own2) (e8_one _) n1 n2 b12.size ?_; intro v3 w3 own3 hg3 hat3))
  have bw3 : Below w.heap.size w w3 := b12.grown hg3 b12.size (fun g hg => own_block own1' hg)
  obtain ⟨A3, c3, rfl⟩ := own_form own3
  have L3 := HL.out.on bw3
  have H3 := h.on bw3
  have lt3 := L3.lt
  clear z0 z1 z2 z3 z4 z5 z6 z7 hg3 hat3
  obtain ⟨z0, z1, z2, z3, z4, z5, z6, z7⟩ := eight8 L3
  refine region_inb (by kernel_rfl) (by kernel_rfl) ?_
  have inbNe := InB.some
  have inbW := @wrap_small
  have inbU := IntKind.wrap_u8'
  repeat (refine wpQuiet_step (fun K hK => ?_); go_simp; first | (refine hK _ ?_; clear hK K) | (apply Exists.intro; refine ⟨?_, hK _ ?_⟩; (· (intro w' hw'; first | (go_at_call 132; refine (HPl.out _).mono ?_; rintro e w4 ⟨rfl, b4⟩; exact ⟨rfl, hw'.on b4⟩) | (have hcw := hw'.cell; go_simp; exact rfl))); clear hK K))
  refine wpQuiet_nil ?_
  intro wq hq
  clear inbNe inbW inbU
  have bw4 := bt bw3 hq.below
  have own4 := own_on own3 hq.below
  have L4 := HL.out.on bw4
  have H4 := h.on bw4
  have lt4 := L4.lt
  clear z0 z1 z2 z3 z4 z5 z6 z7 H3
  obtain ⟨z0, z1, z2, z3, z4, z5, z6, z7⟩ := eight8 L4
  go_wp2_with fail
  have nL1 : L ∉ [bS] := fun e => hLn (by rw [List.mem_singleton] at e; rw [e]; simp)
  have cz : Below wq.heap.size wq wq.drew := (Below.refl _ _).drew
  have ownz := own_on own4 cz
  have bwz := bt bw4 cz
  have hrz := hr.on bwz
  go_region_held3 (fun w' => w'.cell? ⟨L, 0, none⟩ = some (.pointer (some ⟨g, 0, none⟩)) ∧ w'.cell? ⟨L, 1, none⟩ = some (.pointer (some ⟨gS, 0, none⟩)) ∧ w'.cell? ⟨L, 2, none⟩ = some (.int .i64 ga) ∧ w'.cell? ⟨L, 3, none⟩ = some (.int .i64 gd) ∧ w'.cell? ⟨L, 4, none⟩ = some (.int .i64 gl) ∧ w'.cell? ⟨L, 5, none⟩ = some (.int .u64 (life.toNat : Int)) ∧ w'.cell? ⟨L, 6, none⟩ = some (.int .i64 base) ∧ w'.cell? ⟨L, 7, none⟩ = some (.int .i64 (seq : Int))) (first | with_reducible exact eight8 (L4.on cz) | with_reducible exact eight8 (HL.out.on bw5) | with_reducible exact eight8 (L5.keepK k6 nL1)) (first
    | ((refine step_app _ (by rfl) _ _ _ (by rfl) w.heap.size 5 i0 _ 1 1 Try.underlying37 hi0 hz0 hz1 hz2 rfl Nat.zero_lt_one _ (P4.length + P2.length) (P4.map e8 ++ P2.map e8) (by rfl) ?_ A body.length c (body.map e8) (by rfl) (by simp) ?_ (e8_one _) n3 n4 ?_ ?_); (· exact ownz); (· exact hrz); (· exact bwz.size); intro v5 w5 own5 hg5; have bw5 : Below w.heap.size w w5 := bwz.grown hg5 bwz.size (fun g hg => own_block ownz hg); obtain ⟨A5, c5, rfl⟩ := own_form own5; have L5 := HL.out.on bw5; have rd5 : Rd w5 w5.heap.size A5 ((P4 ++ P2 ++ body).map e8) := by rw [List.map_append, List.map_append]; exact Rd.own own5)
    | (go_at_call 42; refine (HE.out A5 _ c5 _ (by rw [List.length_append, List.length_append]) (h.on bw5).sym rd5).mono ?_; rintro e w6 ⟨A6, c6, rfl, own6, k6, s6⟩))
  have H6 := (h.on bw5).summed s6 k6
  have L6 := L5.keepK k6 nL1
  have K6 := keepT (fp := fp) (Keep.of_below bw5 (bS :: fp)) (Fresh.refl _ _) (keepB k6)
  clear z0 z1 z2 z3 z4 z5 z6 z7
  obtain ⟨z0, z1, z2, z3, z4, z5, z6, z7⟩ := eight8 L6
  go_wp2_with (go_at_call 69; refine (HW.out A6 c6 _ H6.disk (RdN.own own6 (fun j hj => (h.on bw5).disk.lt j hj))).mono ?_; rintro e w7 ⟨rfl, fp7, hD7, k7, f7⟩; have H7 := H6.did hD7 k7 f7)
  go_ret
  have hz6 := K6.size
  exact ⟨rfl, fp7, H7, keepT K6 (Fresh.refl _ _) (keepF k7), fun j hj => (f7 j hj).imp id (fun e => by omega)⟩
end Go.Proofs.Ytmpmibcdpkolkaa.Wal

/- Rows of bytes that lie in blocks of a kind: they stay while other blocks are turned. No statement is proved here. -/
namespace Go.Proofs.Ytmpmibcdpkolkaa
open Go.RowKit
set_option linter.unusedVariables false
/-- cells, in a block of a kind -/
def RdQ (w : World) (Q : Nat → Prop) (A : Option Addr) (xs : List Value) : Prop :=
  xs ≠ [] → ∃ b off, A = some ⟨b, off, none⟩ ∧ b < w.heap.size ∧ Q b ∧ ∀ i (h : i < xs.length), w.cell? ⟨b, off + i, none⟩ = some xs[i]
theorem RdQ.nil (w : World) (Q : Nat → Prop) (A : Option Addr) : RdQ w Q A [] := fun h => absurd rfl h
theorem RdQ.rd {w : World} {Q : Nat → Prop} {A : Option Addr} {xs : List Value} (h : RdQ w Q A xs) : Rd w w.heap.size A xs := fun hne => by
  obtain ⟨b, off, rfl, hb, _, hc⟩ := h hne
  exact ⟨b, off, rfl, hb, hc⟩
theorem RdQ.keep {w w' : World} {Q : Nat → Prop} {A : Option Addr} {xs : List Value} {fp : List Nat} (h : RdQ w Q A xs) (k : Keep fp w w') (hf : ∀ j, Q j → j < w.heap.size → j ∉ fp) : RdQ w' Q A xs := fun hne => by
  obtain ⟨b, off, rfl, hb, hq, hc⟩ := h hne
  exact ⟨b, off, rfl, Nat.lt_of_lt_of_le hb k.size, hq, fun i hi => (World.cell?_of_block (k.block hb (hf b hq hb))).trans (hc i hi)⟩
theorem RdQ.imp {w : World} {Q Q' : Nat → Prop} {A : Option Addr} {xs : List Value} (h : RdQ w Q A xs) (hq : ∀ j, j < w.heap.size → Q j → Q' j) : RdQ w Q' A xs := fun hne => by
  obtain ⟨b, off, rfl, hb, h1, hc⟩ := h hne
  exact ⟨b, off, rfl, hb, hq b hb h1, hc⟩
theorem RdQ.on {w w' : World} {Q : Nat → Prop} {A : Option Addr} {xs : List Value} (h : RdQ w Q A xs) (b : Below w.heap.size w w') : RdQ w' Q A xs := h.keep (Keep.of_below b []) (fun j _ _ => by simp)
theorem RdQ.own {w : World} {base : Nat} {e : TypeId} {A : Option Addr} {n c : Nat} {xs : List Value} (h : w.ownsRow base e 1 (.slice A n c) n xs) : RdQ w (fun j => base ≤ j) A xs := by
  intro hne
  rcases h.2 with ⟨hv, hn⟩ | ⟨g, cap, cur, hv, hg, hh, hnc, hcm, hcs, ht⟩
  · exact absurd (List.eq_nil_of_length_eq_zero (by have := h.1; omega)) hne
  · injection hv with hA _ _
    subst hA
    refine ⟨g, 0, rfl, lt_of_block hh, hg, fun i hi => ?_⟩
    have hl := h.1
    have := World.ownsRow.cellAt (j := i) h (by omega)
    rw [Nat.zero_add, this]; exact List.getElem?_eq_getElem hi
/-- rows of bytes, in blocks of a kind -/
def Rw (w : World) (Q : Nat → Prop) (A : Option Addr) (l : List (List UInt8)) : Prop :=
  l ≠ [] → ∃ b off, A = some ⟨b, off, none⟩ ∧ b < w.heap.size ∧ Q b ∧ ∀ i (h : i < l.length), ∃ Ai ci, w.cell? ⟨b, off + i, none⟩ = some (.slice Ai l[i].length ci) ∧ RdQ w Q Ai (l[i].map e8) ∧ l[i].length ≤ ci ∧ ci ≤ maxLen
theorem Rw.nil (w : World) (Q : Nat → Prop) (A : Option Addr) : Rw w Q A [] := fun h => absurd rfl h
theorem Rw.get {w : World} {Q : Nat → Prop} {A : Option Addr} {l : List (List UInt8)} (h : Rw w Q A l) {i : Nat} (hi : i < l.length) :
    ∃ b off Ai ci, A = some ⟨b, off, none⟩ ∧ b < w.heap.size ∧ w.cell? ⟨b, off + i, none⟩ = some (.slice Ai l[i].length ci) ∧ RdQ w Q Ai (l[i].map e8) ∧ l[i].length ≤ ci ∧ ci ≤ maxLen := by
  obtain ⟨b, off, rfl, hb, _, hc⟩ := h (by intro e; rw [e] at hi; exact absurd hi (by simp))
  obtain ⟨Ai, ci, h1⟩ := hc i hi
  exact ⟨b, off, Ai, ci, rfl, hb, h1⟩
theorem Rw.keep {w w' : World} {Q : Nat → Prop} {A : Option Addr} {l : List (List UInt8)} {fp : List Nat} (h : Rw w Q A l) (k : Keep fp w w') (hf : ∀ j, Q j → j < w.heap.size → j ∉ fp) : Rw w' Q A l := fun hne => by
  obtain ⟨b, off, rfl, hb, hq, hc⟩ := h hne
  refine ⟨b, off, rfl, Nat.lt_of_lt_of_le hb k.size, hq, fun i hi => ?_⟩
  obtain ⟨Ai, ci, h1, h2, h3⟩ := hc i hi
  exact ⟨Ai, ci, (World.cell?_of_block (k.block hb (hf b hq hb))).trans h1, h2.keep k hf, h3⟩
theorem Rw.on {w w' : World} {Q : Nat → Prop} {A : Option Addr} {l : List (List UInt8)} (h : Rw w Q A l) (b : Below w.heap.size w w') : Rw w' Q A l := h.keep (Keep.of_below b []) (fun j _ _ => by simp)
theorem Rw.imp {w : World} {Q Q' : Nat → Prop} {A : Option Addr} {l : List (List UInt8)} (h : Rw w Q A l) (hq : ∀ j, j < w.heap.size → Q j → Q' j) : Rw w Q' A l := fun hne => by
  obtain ⟨b, off, rfl, hb, h1, hc⟩ := h hne
  refine ⟨b, off, rfl, hb, hq b hb h1, fun i hi => ?_⟩
  obtain ⟨Ai, ci, g1, g2, g3⟩ := hc i hi
  exact ⟨Ai, ci, g1, g2.imp hq, g3⟩
theorem Rw.rws {w : World} {Q : Nat → Prop} {A : Option Addr} {l : List (List UInt8)} (h : Rw w Q A l) : Rws w w.heap.size A l := fun hne => by
  obtain ⟨b, off, rfl, hb, _, hc⟩ := h hne
  refine ⟨b, off, rfl, hb, fun i hi => ?_⟩
  obtain ⟨Ai, ci, h1, h2, h3⟩ := hc i hi
  exact ⟨Ai, ci, h1, h2.rd, h3⟩
theorem Rd.q {w : World} {B : Nat} {A : Option Addr} {xs : List Value} (h : Rd w B A xs) (hB : B ≤ w.heap.size) : RdQ w (fun j => j < B) A xs := fun hne => by
  obtain ⟨b, off, rfl, hb, hc⟩ := h hne
  exact ⟨b, off, rfl, Nat.lt_of_lt_of_le hb hB, hb, hc⟩
theorem Rws.rw {w : World} {B : Nat} {A : Option Addr} {l : List (List UInt8)} (h : Rws w B A l) (hB : B ≤ w.heap.size) : Rw w (fun j => j < B) A l := fun hne => by
  obtain ⟨b, off, rfl, hb, hc⟩ := h hne
  refine ⟨b, off, rfl, Nat.lt_of_lt_of_le hb hB, hb, fun i hi => ?_⟩
  obtain ⟨Ai, ci, h1, h2, h3⟩ := hc i hi
  exact ⟨Ai, ci, h1, h2.q hB, h3⟩
end Go.Proofs.Ytmpmibcdpkolkaa

/- Pages ([]Page: a number and bytes): how they read, in blocks of a kind. -/
namespace Go.Proofs.Ytmpmibcdpkolkaa
open Go.RowKit
set_option linter.unusedVariables false
structure Pg where
  n : Int
  body : List UInt8
/-- a page in two cells -/
structure PgAt (w : World) (Q : Nat → Prop) (b o : Nat) (x : Pg) (Ai : Option Addr) (ci : Nat) : Prop where
  c0 : w.cell? ⟨b, o, none⟩ = some (.int .i64 x.n)
  c1 : w.cell? ⟨b, o + 1, none⟩ = some (.slice Ai x.body.length ci)
  rd : RdQ w Q Ai (x.body.map e8)
  cap : x.body.length ≤ ci
  max : ci ≤ maxLen
  lo : -9223372036854775808 ≤ x.n
  hi : x.n ≤ 9223372036854775807
def Pgs (w : World) (Q : Nat → Prop) (A : Option Addr) (l : List Pg) : Prop :=
  l ≠ [] → ∃ b off, A = some ⟨b, off, none⟩ ∧ b < w.heap.size ∧ Q b ∧ ∀ i (h : i < l.length), ∃ Ai ci, PgAt w Q b (off + i * 2) l[i] Ai ci
theorem Pgs.nil (w : World) (Q : Nat → Prop) (A : Option Addr) : Pgs w Q A [] := fun h => absurd rfl h
theorem Pgs.get {w : World} {Q : Nat → Prop} {A : Option Addr} {l : List Pg} (h : Pgs w Q A l) {i : Nat} (hi : i < l.length) :
    ∃ b off Ai ci, A = some ⟨b, off, none⟩ ∧ b < w.heap.size ∧ PgAt w Q b (off + i * 2) l[i] Ai ci := by
  obtain ⟨b, off, rfl, hb, _, hc⟩ := h (by intro e; rw [e] at hi; exact absurd hi (by simp))
  obtain ⟨Ai, ci, h1⟩ := hc i hi
  exact ⟨b, off, Ai, ci, rfl, hb, h1⟩
theorem PgAt.keep {w w' : World} {Q : Nat → Prop} {b o : Nat} {x : Pg} {Ai : Option Addr} {ci : Nat} {fp : List Nat} (h : PgAt w Q b o x Ai ci) (k : Keep fp w w') (hf : ∀ j, Q j → j < w.heap.size → j ∉ fp) (hb : b < w.heap.size) (hq : Q b) : PgAt w' Q b o x Ai ci :=
  ⟨(World.cell?_of_block (k.block hb (hf b hq hb))).trans h.c0, (World.cell?_of_block (k.block hb (hf b hq hb))).trans h.c1, h.rd.keep k hf, h.cap, h.max, h.lo, h.hi⟩
theorem Pgs.keep {w w' : World} {Q : Nat → Prop} {A : Option Addr} {l : List Pg} {fp : List Nat} (h : Pgs w Q A l) (k : Keep fp w w') (hf : ∀ j, Q j → j < w.heap.size → j ∉ fp) : Pgs w' Q A l := fun hne => by
  obtain ⟨b, off, rfl, hb, hq, hc⟩ := h hne
  refine ⟨b, off, rfl, Nat.lt_of_lt_of_le hb k.size, hq, fun i hi => ?_⟩
  obtain ⟨Ai, ci, h1⟩ := hc i hi
  exact ⟨Ai, ci, h1.keep k hf hb hq⟩
theorem Pgs.on {w w' : World} {Q : Nat → Prop} {A : Option Addr} {l : List Pg} (h : Pgs w Q A l) (b : Below w.heap.size w w') : Pgs w' Q A l := h.keep (Keep.of_below b []) (fun j _ _ => by simp)
theorem Pgs.imp {w : World} {Q Q' : Nat → Prop} {A : Option Addr} {l : List Pg} (h : Pgs w Q A l) (hq : ∀ j, j < w.heap.size → Q j → Q' j) : Pgs w Q' A l := fun hne => by
  obtain ⟨b, off, rfl, hb, h1, hc⟩ := h hne
  refine ⟨b, off, rfl, hb, hq b hb h1, fun i hi => ?_⟩
  obtain ⟨Ai, ci, h⟩ := hc i hi
  exact ⟨Ai, ci, h.c0, h.c1, h.rd.imp hq, h.cap, h.max, h.lo, h.hi⟩
end Go.Proofs.Ytmpmibcdpkolkaa

/- The log: are pages such that they can not be appended: Append's closure, slices.IndexFunc and ContainsFunc with it. -/
namespace Go.Proofs.Ytmpmibcdpkolkaa.Wal
open Go.RowKit
open Go.Proofs.Ytmpmibcdpkolkaa.Geom
open Go.Proofs.Ytmpmibcdpkolkaa.Sup (Gb gv gcell gthree)
set_option linter.unusedVariables false
set_option maxRecDepth 100000
attribute [local irreducible] wpQuiet
theorem wrap_up {k : Nat} (h : k ≤ 1000000000) : wrap64 ((k : Int) + 1) = (k : Int) + 1 := by unfold wrap64; omega
def wrongB (ga gd gl : Int) (p : Pg) : Bool := decide (p.n < 0) || (decide (pagesOf ga gd gl ≤ p.n) || decide (473 < p.body.length))
def badB (ga gd gl : Int) (l : List Pg) : Bool := l.any (wrongB ga gd gl)
theorem badB_no {ga gd gl : Int} {l : List Pg} (h : ∀ j (hj : j < l.length), wrongB ga gd gl l[j] = false) : badB ga gd gl l = false := by
  unfold badB
  rw [List.any_eq_false]
  intro b hb
  obtain ⟨j, hj, rfl⟩ := List.mem_iff_getElem.1 hb
  rw [h j hj]; simp
theorem badB_yes {ga gd gl : Int} {l : List Pg} {j : Nat} (hj : j < l.length) (h : wrongB ga gd gl l[j] = true) : badB ga gd gl l = true := by
  unfold badB
  rw [List.any_eq_true]
  exact ⟨l[j], List.getElem_mem hj, h⟩
theorem badB_of {ga gd gl : Int} {l : List Pg} (h : badB ga gd gl l = false) {j : Nat} (hj : j < l.length) : 0 ≤ l[j].n ∧ l[j].n < pagesOf ga gd gl ∧ l[j].body.length ≤ 473 := by
  unfold badB at h
  rw [List.any_eq_false] at h
  have := h _ (List.getElem_mem hj)
  simp [wrongB] at this
  omega
set_option maxHeartbeats 1000000 in
theorem wrong_any (L g gS Bx : Nat) (ga gd gl : Int) (life : UInt64) (base : Int) (seq : Nat) (x : Pg) (A : Option Addr) (c : Nat) (w : World) (hG : Gb ga gd gl) (hL : LAt w L g gS ga gd gl life base seq) (hB : Box w Bx (.pointer (some ⟨L, 0, none⟩))) :
    Calls Try.prog 106 #[.agg #[.int .i64 x.n, .slice A x.body.length c], .pointer (some ⟨Bx, 0, none⟩)] w fun e w' => e = .returned (.bool (wrongB ga gd gl x)) ∧ Below w.heap.size w w' := by
  obtain ⟨xn, xb⟩ := x
  obtain ⟨m, hm⟩ : ∃ m : Nat, m = xb.length := ⟨_, rfl⟩
  obtain ⟨w0, hw0⟩ : ∃ q, q = w.alloc (.cells #[.int .i64 xn, .slice A m c] 157) := ⟨_, rfl⟩
  have FX : Blk w0 w.heap.size [.int .i64 xn, .slice A m c] := by rw [hw0]; exact Blk.new w [.int .i64 xn, .slice A m c] 157
  have b0 : Below w.heap.size w w0 := by rw [hw0]; exact b1alloc w _
  have E0 := Lib.hid hw0.symm
  have HFX := Lib.hid FX
  have HL0 := Lib.hid (hL.on b0)
  have HB0 := Lib.hid (hB.on' b0)
  have HP := Lib.hid (fun W => Geom.pages_any ga gd gl W hG.a0 hG.a1 hG.d0 hG.d1 hG.g0 hG.g1)
  have hW : wrongB ga gd gl ⟨xn, xb⟩ = (decide (xn < 0) || (decide (pagesOf ga gd gl ≤ xn) || decide (473 < xb.length))) := rfl
  obtain ⟨R, hR⟩ : ∃ R, R = wrongB ga gd gl ⟨xn, xb⟩ := ⟨_, rfl⟩
  rw [← hR] at hW ⊢
  obtain ⟨q, hq⟩ : ∃ q, q = pagesOf ga gd gl := ⟨_, rfl⟩
  rw [← hq] at HP hW
  rw [← hm] at hW ⊢
  clear hR hq FX hL hB hw0 hm
  by_cases h0 : xn < 0
  · rw [decide_eq_true h0, Bool.true_or] at hW
    have HW := Lib.hid hW
    clear hW
    go_enter Try.func106, Try.ntmps106
    go_wp2_with fail
    rw [E0.out]
    have lX := HFX.out.lt
    have lL := HL0.out.lt
    have lB := HB0.out.lt
    have y0 := HB0.out.cell
    have x0 := HFX.out.cell (k := 0) (by simp)
    have x1 := HFX.out.cell (k := 1) (by simp)
    simp only [List.getElem_cons_zero, List.getElem_cons_succ] at x0 x1
    obtain ⟨_, _, z2, z3, z4, _, _, _⟩ := eight8 HL0.out
    refine region_inb (by kernel_rfl) (by kernel_rfl) ?_
    have inbNe := InB.some
    have inbW := @wrap_small
    have inbU := IntKind.wrap_u8'
    repeat (refine wpQuiet_step (fun K hK => ?_); go_simp; first | (refine hK _ ?_; clear hK K) | (apply Exists.intro; refine ⟨?_, hK _ ?_⟩; (· (intro w' hw'; first | fail | (have hcw := hw'.cell; go_simp; exact rfl))); clear hK K))
    refine wpQuiet_nil ?_
    intro wq hq
    clear inbNe inbW inbU
    go_wp2
    go_ret
    exact ⟨ret_bool HW.out.symm, bt b0 hq.below⟩
  rw [decide_eq_false h0, Bool.false_or] at hW
  by_cases h1 : q ≤ xn
  · rw [decide_eq_true h1, Bool.true_or] at hW
    have HW := Lib.hid hW
    clear hW
    go_enter Try.func106, Try.ntmps106
    go_wp2_with fail
    rw [E0.out]
    have lX := HFX.out.lt
    have lL := HL0.out.lt
    have lB := HB0.out.lt
    have y0 := HB0.out.cell
    have x0 := HFX.out.cell (k := 0) (by simp)
    have x1 := HFX.out.cell (k := 1) (by simp)
    simp only [List.getElem_cons_zero, List.getElem_cons_succ] at x0 x1
    obtain ⟨_, _, z2, z3, z4, _, _, _⟩ := eight8 HL0.out
    refine region_inb (by kernel_rfl) (by kernel_rfl) ?_
    have inbNe := InB.some
    have inbW := @wrap_small
    have inbU := IntKind.wrap_u8'
    repeat (refine wpQuiet_step (fun K hK => ?_); go_simp; first | (refine hK _ ?_; clear hK K) | (apply Exists.intro; refine ⟨?_, hK _ ?_⟩; (· (intro w' hw'; first | (go_at_call 87; refine (HP.out _).mono ?_; rintro e w1 ⟨rfl, b1⟩; exact ⟨rfl, hw'.on b1⟩) | (have hcw := hw'.cell; go_simp; exact rfl))); clear hK K))
    refine wpQuiet_nil ?_
    intro wq hq
    clear inbNe inbW inbU
    go_wp2
    go_ret
    exact ⟨ret_bool HW.out.symm, bt b0 hq.below⟩
  rw [decide_eq_false h1, Bool.false_or] at hW
  by_cases h2 : 473 < m
  · rw [decide_eq_true h2] at hW
    have HW := Lib.hid hW
    have h2' : (473 : Int) < (m : Int) := by omega
    clear hW h2
    go_enter Try.func106, Try.ntmps106
    go_wp2_with fail
    rw [E0.out]
    have lX := HFX.out.lt
    have lL := HL0.out.lt
    have lB := HB0.out.lt
    have y0 := HB0.out.cell
    have x0 := HFX.out.cell (k := 0) (by simp)
    have x1 := HFX.out.cell (k := 1) (by simp)
    simp only [List.getElem_cons_zero, List.getElem_cons_succ] at x0 x1
    obtain ⟨_, _, z2, z3, z4, _, _, _⟩ := eight8 HL0.out
    refine region_inb (by kernel_rfl) (by kernel_rfl) ?_
    have inbNe := InB.some
    have inbW := @wrap_small
    have inbU := IntKind.wrap_u8'
    repeat (refine wpQuiet_step (fun K hK => ?_); go_simp; first | (refine hK _ ?_; clear hK K) | (apply Exists.intro; refine ⟨?_, hK _ ?_⟩; (· (intro w' hw'; first | (go_at_call 87; refine (HP.out _).mono ?_; rintro e w1 ⟨rfl, b1⟩; exact ⟨rfl, hw'.on b1⟩) | (have hcw := hw'.cell; go_simp; exact rfl))); clear hK K))
    refine wpQuiet_nil ?_
    intro wq hq
    clear inbNe inbW inbU
    go_wp2
    go_ret
    exact ⟨ret_bool HW.out.symm, bt b0 hq.below⟩
  · rw [decide_eq_false h2] at hW
    have HW := Lib.hid hW
    have h2' : ¬ (473 : Int) < (m : Int) := by omega
    clear hW h2
    go_enter Try.func106, Try.ntmps106
    go_wp2_with fail
    rw [E0.out]
    have lX := HFX.out.lt
    have lL := HL0.out.lt
    have lB := HB0.out.lt
    have y0 := HB0.out.cell
    have x0 := HFX.out.cell (k := 0) (by simp)
    have x1 := HFX.out.cell (k := 1) (by simp)
    simp only [List.getElem_cons_zero, List.getElem_cons_succ] at x0 x1
    obtain ⟨_, _, z2, z3, z4, _, _, _⟩ := eight8 HL0.out
    refine region_inb (by kernel_rfl) (by kernel_rfl) ?_
    have inbNe := InB.some
    have inbW := @wrap_small
    have inbU := IntKind.wrap_u8'
    repeat (refine wpQuiet_step (fun K hK => ?_); go_simp; first | (refine hK _ ?_; clear hK K) | (apply Exists.intro; refine ⟨?_, hK _ ?_⟩; (· (intro w' hw'; first | (go_at_call 87; refine (HP.out _).mono ?_; rintro e w1 ⟨rfl, b1⟩; exact ⟨rfl, hw'.on b1⟩) | (have hcw := hw'.cell; go_simp; exact rfl))); clear hK K))
    refine wpQuiet_nil ?_
    intro wq hq
    clear inbNe inbW inbU
    go_wp2
    go_ret
    exact ⟨ret_bool (by rw [HW.out]; simp; omega), bt b0 hq.below⟩
set_option maxHeartbeats 1000000 in
theorem index_any (L g gS Bx : Nat) (ga gd gl : Int) (life : UInt64) (base : Int) (seq : Nat) (Q : Nat → Prop) (A : Option Addr) (l : List Pg) (c : Nat) (w : World) (hG : Gb ga gd gl) (hL : LAt w L g gS ga gd gl life base seq) (hB : Box w Bx (.pointer (some ⟨L, 0, none⟩))) (hr : Pgs w Q A l) (hcl : l.length ≤ 1000000) :
    Calls Try.prog 135 #[.slice A l.length c, .func (.func 106) #[] #[.pointer (some ⟨Bx, 0, none⟩)]] w fun e w' => (∃ k : Int, e = .returned (.int .i64 k) ∧ decide (0 ≤ k) = badB ga gd gl l) ∧ Below w.heap.size w w' := by
  have hm1 : ∀ (x : Array Value) (w : World), Sem.run Try.prog (callFunc 106 x) w = .ok (.enter 106 x) w := by intro x w; simp [go_sem]
  go_enter Try.func135, Try.ntmps135
  go_wp2_with fail
  go_loopw [8] (fun i wr => ∃ k : Nat, k ≤ l.length ∧ i = .int .i64 (k : Int) ∧ Below w.heap.size w wr ∧ Hid (∀ j (hj : j < l.length), j < k → wrongB ga gd gl l[j] = false)) (fun i _ => l.length - (intOf i).toNat)
  case atStart => exact ⟨0, by omega, rfl, Below.refl _ _, Lib.hid (fun j hj h => by omega)⟩
  case round =>
    obtain ⟨k, hk, rfl, bel, hall⟩ := hrel
    by_cases hlt : k < l.length
    · have hkn : (k : Int) < (l.length : Int) := Int.ofNat_lt.2 hlt
      have hk1 : k + 1 ≤ l.length := hlt
      have hms : l.length - (k + 1) < l.length - k := by omega
      have hk9 : k ≤ 1000000000 := by omega
      obtain ⟨b, off, Ai, ci, rfl, hb, hp⟩ := (hr.on bel).get hlt
      have p0 := hp.c0
      have p1 := hp.c1
      have HWr := Lib.hid (wrong_any L g gS Bx ga gd gl life base seq l[k] Ai ci wr hG (hL.on bel) (hB.on' bel))
      obtain ⟨x, hx⟩ : ∃ x, x = l[k] := ⟨_, rfl⟩
      rw [← hx] at p0 p1 HWr
      have Hx := Lib.hid hx
      clear hx hp
      cases hw : wrongB ga gd gl x with
      | true =>
        rw [hw] at HWr
        have hy := Lib.hid (badB_yes hlt (by rw [← Hx.out]; exact hw))
        clear hw
        go_wp2_with (go_at_call 106; refine HWr.out.mono ?_; rintro e w1 ⟨rfl, b1⟩)
        go_ret
        exact ⟨⟨(k : Int), rfl, by rw [hy.out]; exact decide_eq_true (by omega)⟩, bt bel b1⟩
      | false =>
        rw [hw] at HWr
        have hall' := Lib.hid (show ∀ j (hj : j < l.length), j < k + 1 → wrongB ga gd gl l[j] = false from fun j hj h => by
          rcases (show j < k ∨ j = k by omega) with h1 | h1
          · exact hall.out j hj h1
          · subst h1; rw [← Hx.out]; exact hw)
        clear hw
        go_wp2_with (go_at_call 106; refine HWr.out.mono ?_; rintro e w1 ⟨rfl, b1⟩)
        case roundEnd => exact ⟨⟨k + 1, hk1, by first | rfl | (rw [wrap_up hk9]; rfl), bt bel b1, hall'⟩, by first | exact hms | (rw [wrap_up hk9]; exact hms)⟩
    · have hkn : ¬ (k : Int) < (l.length : Int) := fun h => hlt (Int.ofNat_lt.1 h)
      have hn := Lib.hid (badB_no (ga := ga) (gd := gd) (gl := gl) (l := l) (fun j hj => hall.out j hj (by omega)))
      go_wp2
      go_ret
      exact ⟨⟨-1, rfl, by rw [hn.out]; rfl⟩, bel⟩
theorem contains_any (L g gS Bx : Nat) (ga gd gl : Int) (life : UInt64) (base : Int) (seq : Nat) (Q : Nat → Prop) (A : Option Addr) (l : List Pg) (c : Nat) (w : World) (hG : Gb ga gd gl) (hL : LAt w L g gS ga gd gl life base seq) (hB : Box w Bx (.pointer (some ⟨L, 0, none⟩))) (hr : Pgs w Q A l) (hcl : l.length ≤ 1000000) :
    Calls Try.prog 107 #[.slice A l.length c, .func (.func 106) #[] #[.pointer (some ⟨Bx, 0, none⟩)]] w fun e w' => e = .returned (.bool (badB ga gd gl l)) ∧ Below w.heap.size w w' := by
  go_enter Try.func107, Try.ntmps107
  go_wp2_with (go_at_call 135; refine (index_any L g gS Bx ga gd gl life base seq Q A l c _ hG hL hB hr hcl).mono ?_; rintro e w1 ⟨⟨k, rfl, hk⟩, b1⟩)
  go_ret
  exact ⟨by first | rfl | exact ret_bool hk, b1⟩
end Go.Proofs.Ytmpmibcdpkolkaa.Wal

/- The log: what can not be appended. -/
namespace Go.Proofs.Ytmpmibcdpkolkaa.Wal
open Go.RowKit
open Go.Proofs.Ytmpmibcdpkolkaa.Geom
open Go.Proofs.Ytmpmibcdpkolkaa.Sup (Gb gv gcell gthree)
open Go.Proofs.Ytmpmibcdpkolkaa.Disk (St DAt Did New8 Told8)
open Go.Proofs.Ytmpmibcdpkolkaa.Sec (X SymAt text sumOf sumAfter)
open Go.Proofs.Ytmpmibcdpkolkaa.Enc (Itm xB encs enf)
set_option linter.unusedVariables false
set_option maxRecDepth 100000
/-- the sectors of pages from the i-th on -/
def dItems (ga gd gl base : Int) (life : UInt64) (seq : Nat) (gen : UInt64) : Nat → List Pg → List Itm
  | _, [] => []
  | i, x :: r => (logAt ga gd gl (base + ((seq + i : Nat) : Int)), dX 4 life seq i gen x.n.toNat x.body) :: dItems ga gd gl base life seq gen (i + 1) r
theorem dItems_drop {ga gd gl base : Int} {life : UInt64} {seq : Nat} {gen : UInt64} {l : List Pg} {k : Nat} (h : k < l.length) : dItems ga gd gl base life seq gen k (l.drop k) = (logAt ga gd gl (base + ((seq + k : Nat) : Int)), dX 4 life seq k gen l[k].n.toNat l[k].body) :: dItems ga gd gl base life seq gen (k + 1) (l.drop (k + 1)) := by
  rw [List.drop_eq_getElem_cons h]; rfl
/-- what becomes of sums and disk, and the fault -/
def putF (ga gd gl base : Int) (life : UInt64) (seq : Nat) (gen : UInt64) (pages : List Pg) (l : List (List UInt8)) (s : St) : List (List UInt8) × St × Int :=
  if (enf (dItems ga gd gl base life seq gen 0 pages) l s).2.2 = 0 then enf [(logAt ga gd gl (base + ((seq + pages.length : Nat) : Int)), dX 5 life seq pages.length gen pages.length [])] (enf (dItems ga gd gl base life seq gen 0 pages) l s).1 (enf (dItems ga gd gl base life seq gen 0 pages) l s).2.1
  else enf (dItems ga gd gl base life seq gen 0 pages) l s
theorem append_nil (A : Option Addr) (n c : Nat) (gen : UInt64) (w : World) : Calls Try.prog 59 #[.pointer none, .slice A n c, .int .u64 (gen.toNat : Int)] w fun e w' => e = .returned (.int .i64 1) ∧ Below w.heap.size w w' := by
  have b0 := b1alloc w (.cells #[.pointer none] 97)
  go_enter Try.func59, Try.ntmps59
  go_wp2
  go_ret
  exact ⟨rfl, b0⟩
set_option maxHeartbeats 1000000 in
theorem append_bad (L g gS : Nat) (ga gd gl : Int) (life : UInt64) (base : Int) (seq : Nat) (Q : Nat → Prop) (A : Option Addr) (l : List Pg) (c : Nat) (gen : UInt64) (w : World) (hG : Gb ga gd gl) (hL : LAt w L g gS ga gd gl life base seq) (hr : Pgs w Q A l) (hcl : l.length ≤ 1000000) (hb : badB ga gd gl l = true) :
    Calls Try.prog 59 #[.pointer (some ⟨L, 0, none⟩), .slice A l.length c, .int .u64 (gen.toNat : Int)] w fun e w' => e = .returned (.int .i64 2) ∧ Below w.heap.size w w' := by
  have b0 := b1alloc w (.cells #[.pointer (some ⟨L, 0, none⟩)] 97)
  have HC := Lib.hid (fun W (bW : Below w.heap.size w W) (hB : Box W w.heap.size (.pointer (some ⟨L, 0, none⟩))) => contains_any L g gS w.heap.size ga gd gl life base seq Q A l c W hG (hL.on bW) hB (hr.on bW) hcl)
  rw [hb] at HC
  go_enter Try.func59, Try.ntmps59
  go_wp2_with (go_at_call 107; refine (HC.out _ b0 (Box.new w _ _)).mono ?_; rintro e w1 ⟨rfl, b1⟩)
  go_ret
  exact ⟨rfl, bt b0 b1⟩
set_option maxHeartbeats 1000000 in
theorem append_big (L g gS : Nat) (ga gd gl : Int) (life : UInt64) (base : Int) (seq : Nat) (Q : Nat → Prop) (A : Option Addr) (l : List Pg) (c : Nat) (gen : UInt64) (w : World) (hG : Gb ga gd gl) (hL : LAt w L g gS ga gd gl life base seq) (hr : Pgs w Q A l) (hcl : l.length ≤ 1000000) (hb : badB ga gd gl l = false) (hf : fitsB ga gd gl l.length = false) :
    Calls Try.prog 59 #[.pointer (some ⟨L, 0, none⟩), .slice A l.length c, .int .u64 (gen.toNat : Int)] w fun e w' => e = .returned (.int .i64 6) ∧ Below w.heap.size w w' := by
  have b0 := b1alloc w (.cells #[.pointer (some ⟨L, 0, none⟩)] 97)
  have HC := Lib.hid (fun W (bW : Below w.heap.size w W) (hB : Box W w.heap.size (.pointer (some ⟨L, 0, none⟩))) => contains_any L g gS w.heap.size ga gd gl life base seq Q A l c W hG (hL.on bW) hB (hr.on bW) hcl)
  rw [hb] at HC
  have HF := Lib.hid (fun W => fits_any ga gd gl l.length W hG)
  rw [hf] at HF
  have HL := Lib.hid hL
  have HX := Lib.hid (Box.new w 97 (.pointer (some ⟨L, 0, none⟩)))
  clear hL
  go_enter Try.func59, Try.ntmps59
  go_wp2_with (first
    | (go_at_call 107; refine (HC.out _ b0 HX.out).mono ?_; rintro e w1 ⟨rfl, b1⟩; have b2 := bt b0 b1; obtain ⟨z0, z1, z2, z3, z4, z5, z6, z7⟩ := eight8 (HL.out.on b2); have y0 := (HX.out.on' b1).cell)
    | (go_at_call 56; refine (HF.out _).mono ?_; rintro e w2 ⟨rfl, b3⟩))
  go_ret
  exact ⟨rfl, bt b2 b3⟩
set_option maxHeartbeats 1000000 in
theorem append_full (L g gS : Nat) (ga gd gl : Int) (life : UInt64) (base : Int) (seq : Nat) (Q : Nat → Prop) (A : Option Addr) (l : List Pg) (c : Nat) (gen : UInt64) (w : World) (hG : Gb ga gd gl) (hL : LAt w L g gS ga gd gl life base seq) (hr : Pgs w Q A l) (hcl : l.length ≤ 1000000) (hb : badB ga gd gl l = false) (hf : fitsB ga gd gl l.length = true) (hs : seq ≤ 100000) (hg : 0 ≤ gl) (hg1 : gl ≤ 100000) (hn : gl - (seq : Int) ≤ (l.length : Int)) :
    Calls Try.prog 59 #[.pointer (some ⟨L, 0, none⟩), .slice A l.length c, .int .u64 (gen.toNat : Int)] w fun e w' => e = .returned (.int .i64 5) ∧ Below w.heap.size w w' := by
  have b0 := b1alloc w (.cells #[.pointer (some ⟨L, 0, none⟩)] 97)
  have HC := Lib.hid (fun W (bW : Below w.heap.size w W) (hB : Box W w.heap.size (.pointer (some ⟨L, 0, none⟩))) => contains_any L g gS w.heap.size ga gd gl life base seq Q A l c W hG (hL.on bW) hB (hr.on bW) hcl)
  rw [hb] at HC
  have HF := Lib.hid (fun W => fits_any ga gd gl l.length W hG)
  rw [hf] at HF
  have HR := Lib.hid (fun W (bW : Below w.heap.size w W) => room_any L g gS ga gd gl life base seq W (hL.on bW) hs hg hg1)
  have HL := Lib.hid hL
  have HX := Lib.hid (Box.new w 97 (.pointer (some ⟨L, 0, none⟩)))
  clear hL
  go_enter Try.func59, Try.ntmps59
  go_wp2_with (first
    | (go_at_call 107; refine (HC.out _ b0 HX.out).mono ?_; rintro e w1 ⟨rfl, b1⟩; have b2 := bt b0 b1; obtain ⟨z0, z1, z2, z3, z4, z5, z6, z7⟩ := eight8 (HL.out.on b2); have y0 := (HX.out.on' b1).cell)
    | (go_at_call 56; refine (HF.out _).mono ?_; rintro e w2 ⟨rfl, b3⟩; have b4 := bt b2 b3; have y1 := ((HX.out.on' b1).on' b3).cell)
    | (go_at_call 63; refine (HR.out _ b4).mono ?_; rintro e w3 ⟨rfl, b5⟩))
  go_ret
  exact ⟨rfl, bt b4 b5⟩
end Go.Proofs.Ytmpmibcdpkolkaa.Wal

/- The log: what is appended. -/
namespace Go.Proofs.Ytmpmibcdpkolkaa.Wal
open Go.RowKit
open Go.Proofs.Ytmpmibcdpkolkaa.Geom
open Go.Proofs.Ytmpmibcdpkolkaa.Sup (Gb gv gcell gthree)
open Go.Proofs.Ytmpmibcdpkolkaa.Disk (St DAt Did New8 Told8)
open Go.Proofs.Ytmpmibcdpkolkaa.Sec (X SymAt text sumOf sumAfter)
open Go.Proofs.Ytmpmibcdpkolkaa.Enc (Itm xB encs enf encs_go encs_stop)
set_option linter.unusedVariables false
set_option maxRecDepth 100000
theorem enf_one (i : Itm) (l : List (List UInt8)) (s : St) : enf [i] l s = if (Disk.write s i.1 (xB l i.1 i.2)).2 = 0 then (sumAfter l (text i.1 i.2), Disk.flush (Disk.write s i.1 (xB l i.1 i.2)).1) else (sumAfter l (text i.1 i.2), Disk.write s i.1 (xB l i.1 i.2)) := by
  unfold enf
  by_cases h : (Disk.write s i.1 (xB l i.1 i.2)).2 = 0
  · rw [encs_go h, Enc.encs_nil, if_pos rfl, if_pos h]
  · rw [encs_stop h, if_neg h]
theorem log_bd {ga gd gl i : Int} (h : right ga gd gl = true) (hi : 0 ≤ i) : 0 ≤ logAt ga gd gl i ∧ logAt ga gd gl i ≤ 1023 ∧ logAt ga gd gl i < 4 + gl := by
  obtain ⟨h1, h2, h3, h4, h5, h6⟩ := right_yes h
  unfold logAt
  rw [if_pos ⟨h, hi⟩]
  have := Int.emod_nonneg i (show gl ≠ 0 by omega)
  have := Int.emod_lt_of_pos i (show 0 < gl by omega)
  omega
theorem fits_yes {ga gd gl n : Int} (h : fitsB ga gd gl n = true) : right ga gd gl = true ∧ 0 ≤ n ∧ n < gl := by
  unfold fitsB at h
  simp only [Bool.and_eq_true, decide_eq_true_eq] at h
  exact ⟨h.1, h.2.1, h.2.2⟩
theorem Both.keep1 {W W' : World} {L g : Nat} {fp : List Nat} {s : St} {gS bS : Nat} {l : List (List UInt8)} (h : Both W g fp s gS bS l) (k : Keep [L] W W') (hn : L ∉ bS :: gS :: fp) : Both W' g fp s gS bS l := by
  have hm : ∀ j, j ∈ bS :: gS :: fp → j ∉ [L] := fun j hj e => hn (by rw [List.mem_singleton] at e; rw [← e]; exact hj)
  exact ⟨h.disk.keep k (fun j hj => hm j (by simp [hj])), h.sym.keepK k (hm gS (by simp)) (hm bS (by simp)), h.nS, h.nB⟩
/-- the world behind an append -/
def WTurn (w : World) (g : Nat) (fp : List Nat) (gS bS L : Nat) (ga gd gl : Int) (life : UInt64) (base : Int) (s' : St) (l' : List (List UInt8)) (seq' : Nat) (w' : World) : Prop :=
  ∃ fp', Both w' g fp' s' gS bS l' ∧ Keep (L :: bS :: fp) w w' ∧ Fresh w fp fp' ∧ LAt w' L g gS ga gd gl life base seq'
set_option maxHeartbeats 2000000 in
theorem append_any (g : Nat) (fp : List Nat) (s : St) (gS bS : Nat) (l : List (List UInt8)) (L : Nat) (ga gd gl : Int) (life : UInt64) (base : Int) (seq : Nat) (Q : Nat → Prop) (A : Option Addr) (pages : List Pg) (c : Nat) (gen : UInt64) (w : World) (hG : Gb ga gd gl) (h : Both w g fp s gS bS l) (hL : LAt w L g gS ga gd gl life base seq) (hLn : L ∉ bS :: gS :: fp) (hl : l.length ≤ 900000) (hs : s.sz ≤ 80000000)
    (hb0 : 0 ≤ base) (hb1 : base ≤ 1073741824) (hr : Pgs w Q A pages) (hQ : ∀ j, Q j → j < w.heap.size → j ∉ L :: bS :: fp) (hb : badB ga gd gl pages = false) (hf : fitsB ga gd gl pages.length = true) (hn : (seq : Int) + pages.length < gl) :
    Calls Try.prog 59 #[.pointer (some ⟨L, 0, none⟩), .slice A pages.length c, .int .u64 (gen.toNat : Int)] w fun e w' => e = .returned (.int .i64 (putF ga gd gl base life seq gen pages l s).2.2) ∧
      WTurn w g fp gS bS L ga gd gl life base (putF ga gd gl base life seq gen pages l s).2.1 (putF ga gd gl base life seq gen pages l s).1 (if (putF ga gd gl base life seq gen pages l s).2.2 = 0 then seq + (pages.length + 1) else seq) w' := by
  obtain ⟨hR, _, hn1⟩ := fits_yes hf
  have hRy := right_yes hR
  have b0 := b1alloc w (.cells #[.pointer (some ⟨L, 0, none⟩)] 97)
  have HC := Lib.hid (fun W (bW : Below w.heap.size w W) (hB : Box W w.heap.size (.pointer (some ⟨L, 0, none⟩))) => contains_any L g gS w.heap.size ga gd gl life base seq Q A pages c W hG (hL.on bW) hB (hr.on bW) (by omega))
  rw [hb] at HC
  have HF := Lib.hid (fun W => fits_any ga gd gl pages.length W hG)
  rw [hf] at HF
  have HR := Lib.hid (fun W (bW : Below w.heap.size w W) => room_any L g gS ga gd gl life base seq W (hL.on bW) (by omega) (by omega) (by omega))
  have HX := Lib.hid (Box.new w 97 (.pointer (some ⟨L, 0, none⟩)))
  have hnr : ¬ (gl - (seq : Int) ≤ (pages.length : Int)) := by omega
  have hN64 : pages.length ≤ 64 := by omega
  have hS64 : seq + pages.length ≤ 64 := by omega
  have hbd := Lib.hid (fun (k : Nat) => log_bd (i := base + ((seq + k : Nat) : Int)) hR (by omega))
  have hpg := Lib.hid (fun (k : Nat) (hk : k < pages.length) => badB_of hb hk)
  have HL := Lib.hid hL
  obtain ⟨E, hE⟩ : ∃ E, E = encs (dItems ga gd gl base life seq gen 0 pages) l s := ⟨_, rfl⟩
  have HE := Lib.hid hE
  have HD0 : enf (dItems ga gd gl base life seq gen 0 pages) l s = if E.2.2 = 0 then (E.1, Disk.flush E.2.1) else E := by rw [hE]; rfl
  obtain ⟨D, hD⟩ : ∃ D, D = enf (dItems ga gd gl base life seq gen 0 pages) l s := ⟨_, rfl⟩
  rw [← hD] at HD0
  have HRR : putF ga gd gl base life seq gen pages l s = if D.2.2 = 0 then enf [(logAt ga gd gl (base + ((seq + pages.length : Nat) : Int)), dX 5 life seq pages.length gen pages.length [])] D.1 D.2.1 else D := by rw [hD]; rfl
  obtain ⟨R, hRe⟩ : ∃ R, R = putF ga gd gl base life seq gen pages l s := ⟨_, rfl⟩
  rw [← hRe] at HRR ⊢
  obtain ⟨sq, hsq⟩ : ∃ q, q = if R.2.2 = 0 then seq + (pages.length + 1) else seq := ⟨_, rfl⟩
  rw [← hsq]
  have Hsq := Lib.hid hsq
  clear hsq
  have HDh := Lib.hid HD0
  have HRh := Lib.hid HRR
  clear hRe HRR HD0 hD
  have H0 := Lib.hid h
  have HG := Lib.hid hG
  have lL := hL.lt
  clear hL hE hf hb hR hRy hn1
  go_enter Try.func59, Try.ntmps59
  go_wp2_with (first
    | (go_at_call 107; refine (HC.out _ b0 HX.out).mono ?_; rintro e w1 ⟨rfl, b1⟩; have b2 := bt b0 b1; obtain ⟨z0, z1, z2, z3, z4, z5, z6, z7⟩ := eight8 (HL.out.on b2); have y0 := (HX.out.on' b1).cell)
    | (go_at_call 56; refine (HF.out _).mono ?_; rintro e w2 ⟨rfl, b3⟩; have b4 := bt b2 b3; have y1 := ((HX.out.on' b1).on' b3).cell)
    | (go_at_call 63; refine (HR.out _ b4).mono ?_; rintro e w3 ⟨rfl, b5⟩; have b6 := bt b4 b5; have hX3 := ((HX.out.on' b1).on' b3).on' b5; have L3 := HL.out.on b6; have H3 := H0.out.on b6; clear z0 z1 z2 z3 z4 z5 z6 z7 y0 y1))
  have nX : w.heap.size ∉ bS :: fp := fun e => by
    rcases List.mem_cons.1 e with e | e
    · have := H0.out.sym.lt.2; omega
    · have := H0.out.disk.lt _ e; omega
  go_loopw [40] (fun i wr => ∃ k : Nat, k ≤ pages.length ∧ i = .int .i64 k ∧ ∃ fp' s' l', Both wr g fp' s' gS bS l' ∧ Keep (bS :: fp) w wr ∧ Fresh w fp fp' ∧ LAt wr L g gS ga gd gl life base seq ∧ Box wr w.heap.size (.pointer (some ⟨L, 0, none⟩)) ∧ L ∉ bS :: gS :: fp' ∧ w.heap.size ∉ bS :: fp' ∧ Hid (E = encs (dItems ga gd gl base life seq gen k (pages.drop k)) l' s' ∧ l'.length ≤ l.length + k ∧ s'.sz ≤ s.sz + 2 * k)) (fun i _ => pages.length - (intOf i).toNat)
  case atStart => exact ⟨0, by omega, rfl, fp, s, l, H3, Keep.of_below b6 _, Fresh.refl _ _, L3, hX3, hLn, nX, Lib.hid ⟨by rw [List.drop_zero]; exact HE.out, by omega, by omega⟩⟩
  case round =>
    obtain ⟨k, hk, rfl, fp', s', l', HB', K, F, HA, hX', hLn', nX', hid⟩ := hrel
    clear H3 hX3 L3
    obtain ⟨z0, z1, z2, z3, z4, z5, z6, z7⟩ := eight8 HA
    have y0 := hX'.cell
    have lX := hX'.lt
    by_cases hlt : k < pages.length
    · have hL1 : l'.length ≤ 1000000 := Nat.le_trans hid.out.2.1 (by omega)
      have hS1 : s'.sz ≤ 90000000 := Nat.le_trans hid.out.2.2 (by omega)
      have hkn : (k : Int) < (pages.length : Int) := by omega
      obtain ⟨b, off, Ai, ci, rfl, hbl, hp⟩ := (hr.keep K (fun j hj hh e => hQ j hj hh (List.mem_cons_of_mem _ e))).get hlt
      have p0 := hp.c0
      have p1 := hp.c1
      have hst := hid.out.1
      rw [dItems_drop hlt] at hst
      have hgg := hpg.out k hlt
      obtain ⟨x, hx⟩ : ∃ x, x = pages[k] := ⟨_, rfl⟩
      rw [← hx] at p0 p1 hp hst hgg
      obtain ⟨xn, xb⟩ := x
      obtain ⟨m, rfl⟩ : ∃ m : Nat, xn = (m : Int) := ⟨_, (Int.toNat_of_nonneg hgg.1).symm⟩
      simp only [Int.toNat_natCast] at hst p0 p1 hgg
      have hm : m ≤ 1000 := by have := pagesOf_bd ga gd gl; omega
      obtain ⟨pl, hpl⟩ : ∃ q, q = logAt ga gd gl (base + ((seq + k : Nat) : Int)) := ⟨_, rfl⟩
      have hbk := hbd.out k
      rw [← hpl] at hst hbk
      have HPut := Lib.hid (fun W (bW : Below wr.heap.size wr W) => put_any g fp' s' gS bS l' L ga gd gl life base seq k 4 gen m xb Ai ci W hG (HB'.on bW) (HA.on bW) (fun e => hLn' (by rcases List.mem_cons.1 e with e | e; (· rw [e]; simp); (· simp [e]))) hL1 hS1 hb0 hb1 (by omega) (by omega) (by omega) pl hpl hbk.2.1 (dX_right hbk.1 hbk.2.1 (by decide) (by omega) hgg.2.2) ((hp.rd.keep (Keep.of_below bW []) (fun j _ _ => by simp)).rd))
      clear hpl
      obtain ⟨V, hV⟩ : ∃ V, V = Disk.write s' pl (xB l' pl (dX 4 life seq k gen m xb)) := ⟨_, rfl⟩
      obtain ⟨S, hS⟩ : ∃ S, S = sumAfter l' (text pl (dX 4 life seq k gen m xb)) := ⟨_, rfl⟩
      have hl2 : S.length ≤ l.length + (k + 1) := by have := Enc.sumAfter_len l' (text pl (dX 4 life seq k gen m xb)); have := hid.out.2.1; rw [hS]; omega
      have hs2 : V.1.sz ≤ s.sz + 2 * (k + 1) := by have := Disk.sz_write s' pl (xB l' pl (dX 4 life seq k gen m xb)); have := hid.out.2.2; rw [hV]; omega
      have hgo : V.2 = 0 → E = encs (dItems ga gd gl base life seq gen (k + 1) (pages.drop (k + 1))) S V.1 := fun e => by rw [hst, hS, hV]; rw [hV] at e; exact encs_go e
      have hstop : V.2 ≠ 0 → E = (S, V) := fun e => by rw [hst, hS, hV]; rw [hV] at e; exact encs_stop e
      rw [← hV, ← hS] at HPut
      have Hlm := Lib.hid (And.intro hl2 hs2)
      clear hst hV hS hl2 hs2 hp hx hgg hbk
      by_cases h0 : V.2 = 0
      · have t1 := bne_no h0
        have hgo' := Lib.hid (hgo h0)
        rw [h0] at HPut
        clear hgo hstop h0
        go_wp2_with (go_at_call 108; refine (HPut.out _ (b1alloc _ _)).mono ?_; rintro e w5 ⟨rfl, T5⟩)
        case roundEnd =>
          obtain ⟨fp5, H5, K5, F5⟩ := T5
          have Kz := keepT (Keep.of_below (b1alloc wr _) (bS :: fp')) (Fresh.refl wr fp') K5
          have Fz := (Fresh.refl wr fp').trans (b1alloc wr _).size F5
          have nL : L ∉ bS :: fp' := fun e => hLn' (by rcases List.mem_cons.1 e with e | e; (· rw [e]; simp); (· simp [e]))
          have nL5 : L ∉ bS :: gS :: fp5 := fun e => by
            rcases List.mem_cons.1 e with e | e
            · exact hLn' (by rw [e]; simp)
            · rcases List.mem_cons.1 e with e | e
              · exact hLn' (by rw [e]; simp)
              · exact Fz.out HA.lt (fun e => nL (List.mem_cons_of_mem _ e)) e
          have nX5 : w.heap.size ∉ bS :: fp5 := fun e => by
            rcases List.mem_cons.1 e with e | e
            · exact nX' (by rw [e]; simp)
            · exact Fz.out hX'.lt (fun e => nX' (List.mem_cons_of_mem _ e)) e
          exact ⟨⟨k + 1, by omega, by go_num, fp5, V.1, S, H5, keepT K F Kz, F.trans K.size Fz, HA.keepK Kz nL, hX'.keep Kz nX', nL5, nX5, Lib.hid ⟨hgo'.out, Hlm.out.1, Hlm.out.2⟩⟩, by simp only [intOf]; omega⟩
      · have t1 := bne_yes h0
        have hD' := Lib.hid (show D = (S, V) by rw [HDh.out, if_neg (by rw [hstop h0]; exact h0)]; exact hstop h0)
        have hstop' := Lib.hid (show R = (S, V) by rw [HRh.out, if_neg (by rw [hD'.out]; exact h0)]; exact hD'.out)
        have Hn0 := Lib.hid h0
        clear hgo hstop h0
        go_wp2_with (go_at_call 108; refine (HPut.out _ (b1alloc _ _)).mono ?_; rintro e w5 ⟨rfl, T5⟩)
        go_ret
        have hq : sq = seq := by rw [Hsq.out, hstop'.out, if_neg Hn0.out]
        rw [hstop'.out, hq]
        obtain ⟨fp5, H5, K5, F5⟩ := T5
        have Kz := keepT (Keep.of_below (b1alloc wr _) (bS :: fp')) (Fresh.refl wr fp') K5
        have Fz := (Fresh.refl wr fp').trans (b1alloc wr _).size F5
        have nL : L ∉ bS :: fp' := fun e => hLn' (by rcases List.mem_cons.1 e with e | e; (· rw [e]; simp); (· simp [e]))
        refine ⟨rfl, fp5, H5, (keepT K F Kz).more (fun j hj => List.mem_cons_of_mem _ hj), F.trans K.size Fz, HA.keepK Kz nL⟩
    · have hkn : ¬ (k : Int) < (pages.length : Int) := by omega
      have hst := hid.out.1
      rw [List.drop_of_length_le (by omega)] at hst
      have hst' : E = (l', s', 0) := hst
      have hD' : D = (l', Disk.flush s') := by rw [HDh.out, hst', if_pos (show (l', s', (0 : Int)).2.2 = 0 from rfl)]
      have hR1 := HRh.out
      rw [hD'] at hR1
      have hFl := Lib.hid (fun W hD => Disk.flush_any g fp' s' W hD (by have := hid.out.2.2; omega))
      have hsz := Disk.sz_flush s'
      obtain ⟨F1, hF1⟩ : ∃ F, F = Disk.flush s' := ⟨_, rfl⟩
      rw [← hF1] at hFl hR1 hsz
      clear hst hst' hD' hF1
      have nL : L ∉ bS :: fp' := fun e => hLn' (by rcases List.mem_cons.1 e with e | e; (· rw [e]; simp); (· simp [e]))
      by_cases h0 : F1.2 = 0
      · have t1 := bne_no h0
        have hR2 := hR1
        rw [if_pos h0, enf_one] at hR2
        clear hR1
        obtain ⟨pl, hpl⟩ : ∃ q, q = logAt ga gd gl (base + ((seq + pages.length : Nat) : Int)) := ⟨_, rfl⟩
        have hbk := hbd.out pages.length
        rw [← hpl] at hR2 hbk
        have HPut := Lib.hid (fun W fp5 (H5 : Both W g fp5 F1.1 gS bS l') (L5 : LAt W L g gS ga gd gl life base seq) (n5 : L ∉ bS :: fp5) => put_any g fp5 F1.1 gS bS l' L ga gd gl life base seq pages.length 5 gen pages.length [] none 0 W hG H5 L5 n5 (by have := hid.out.2.1; omega) (by have := hid.out.2.2; omega) hb0 hb1 (by omega) (by omega) (by decide) pl hpl hbk.2.1 (dX_right hbk.1 hbk.2.1 (by decide) (by omega) (by decide)) (Rd.nil _ _ _))
        have hsz2 := Disk.sz_write F1.1 pl (xB l' pl (dX 5 life seq pages.length gen pages.length []))
        obtain ⟨V, hV⟩ : ∃ V, V = Disk.write F1.1 pl (xB l' pl (dX 5 life seq pages.length gen pages.length [])) := ⟨_, rfl⟩
        obtain ⟨S, hS⟩ : ∃ S, S = sumAfter l' (text pl (dX 5 life seq pages.length gen pages.length [])) := ⟨_, rfl⟩
        simp only [] at hR2
        rw [← hV] at HPut hR2 hsz2
        rw [← hS] at HPut hR2
        have hFl2 := Lib.hid (fun fp7 W hD => Disk.flush_any g fp7 V.1 W hD (by have := hid.out.2.2; omega))
        clear hpl hV hS hbk h0
        by_cases hv : V.2 = 0
        · have t2 := bne_no hv
          rw [if_pos hv] at hR2
          have HR2 := Lib.hid hR2
          rw [hv] at HPut
          clear hR2 hv
          have hF2 := Disk.sz_flush V.1
          obtain ⟨F2, hF2⟩ : ∃ F, F = Disk.flush V.1 := ⟨_, rfl⟩
          rw [← hF2] at hFl2 HR2
          clear hF2
          have hadd : IntKind.i64.wrap ((pages.length : Int) + 1) = (pages.length : Int) + 1 := wrap_small (by omega) (by omega)
          have hadd2 : IntKind.i64.wrap ((seq : Int) + ((pages.length : Int) + 1)) = ((seq + (pages.length + 1) : Nat) : Int) := by rw [wrap_small (by omega) (by omega)]; omega
          by_cases hf2 : F2.2 = 0
          · have t3 := bne_no hf2
            have hq : sq = seq + (pages.length + 1) := by rw [Hsq.out, HR2.out, if_pos hf2]
            have Hq := Lib.hid hq
            have Hf2 := Lib.hid hf2
            clear hq hf2
            have tA : True := trivial
            go_wp2_with (first
              | (go_at_call 70; have _t := tA; refine (hFl.out _ HB'.disk).mono ?_; rintro e w5 D5; obtain ⟨rfl, T5⟩ := Turn.ofDid HB' D5; obtain ⟨fp5, H5, K5, F5⟩ := T5; have L5 := HA.keepK K5 nL; have X5 := hX'.keep K5 nX'; have n5 : L ∉ bS :: fp5 := (fun e => by rcases List.mem_cons.1 e with e | e; (· exact nL (by rw [e]; simp)); (· exact F5.out HA.lt (fun e => nL (List.mem_cons_of_mem _ e)) e)); have x5 : w.heap.size ∉ bS :: fp5 := (fun e => by rcases List.mem_cons.1 e with e | e; (· exact nX' (by rw [e]; simp)); (· exact F5.out hX'.lt (fun e => nX' (List.mem_cons_of_mem _ e)) e)); clear z0 z1 z2 z3 z4 z5 z6 z7 y0 tA; have y0 := X5.cell)
              | (go_at_call 108; refine (HPut.out _ fp5 H5 L5 n5).mono ?_; rintro e w7 ⟨rfl, T7⟩; obtain ⟨fp7, H7, K7, F7⟩ := T7; have L7 := L5.keepK K7 n5; have X7 := X5.keep K7 x5; have n7 : L ∉ bS :: fp7 := (fun e => by rcases List.mem_cons.1 e with e | e; (· exact n5 (by rw [e]; simp)); (· exact F7.out L5.lt (fun e => n5 (List.mem_cons_of_mem _ e)) e)); have x7 : w.heap.size ∉ bS :: fp7 := (fun e => by rcases List.mem_cons.1 e with e | e; (· exact x5 (by rw [e]; simp)); (· exact F7.out X5.lt (fun e => x5 (List.mem_cons_of_mem _ e)) e)); clear y0; have y0 := X7.cell; obtain ⟨z0, z1, z2, z3, z4, z5, z6, z7⟩ := eight8 L7)
              | (go_at_call 70; refine (hFl2.out _ _ H7.disk).mono ?_; rintro e w9 D9; obtain ⟨rfl, T9⟩ := Turn.ofDid H7 D9; obtain ⟨fp9, H9, K9, F9⟩ := T9; have L9 := L7.keepK K9 n7; have X9 := X7.keep K9 x7; clear z0 z1 z2 z3 z4 z5 z6 z7 y0; have y0 := X9.cell; obtain ⟨z0, z1, z2, z3, z4, z5, z6, z7⟩ := eight8 L9; have fL := L9.free 7; have lL9 := L9.lt))
            go_ret
            have K57 := keepT (keepT K F K5) (F.trans K.size F5) K7
            have F57 := (F.trans K.size F5).trans (keepT K F K5).size F7
            have K59 := keepT K57 F57 K9
            have F59 := F57.trans K57.size F9
            have n9 : L ∉ bS :: gS :: fp9 := fun e => by
              rcases List.mem_cons.1 e with e | e
              · exact nL (by rw [e]; simp)
              · rcases List.mem_cons.1 e with e | e
                · exact hLn (by rw [e]; simp)
                · exact F9.out L7.lt (fun e => n7 (List.mem_cons_of_mem _ e)) e
            have K60 : Keep (L :: bS :: fp) w w9 := K59.more (fun j hj => List.mem_cons_of_mem _ hj)
            rw [Hq.out, HR2.out]
            exact ⟨ret_int Hf2.out.symm, fp9, Both.keep1 H9 ((Keep.refl _ _).set (.inl (by simp)) _) n9, K60.set (.inl (by simp)) _, F59, L9.set (k := 7) _⟩
          · have t3 := bne_yes hf2
            have hq : sq = seq := by rw [Hsq.out, HR2.out, if_neg hf2]
            have Hq := Lib.hid hq
            clear hq hf2
            have tA : True := trivial
            go_wp2_with (first
              | (go_at_call 70; have _t := tA; refine (hFl.out _ HB'.disk).mono ?_; rintro e w5 D5; obtain ⟨rfl, T5⟩ := Turn.ofDid HB' D5; obtain ⟨fp5, H5, K5, F5⟩ := T5; have L5 := HA.keepK K5 nL; have X5 := hX'.keep K5 nX'; have n5 : L ∉ bS :: fp5 := (fun e => by rcases List.mem_cons.1 e with e | e; (· exact nL (by rw [e]; simp)); (· exact F5.out HA.lt (fun e => nL (List.mem_cons_of_mem _ e)) e)); have x5 : w.heap.size ∉ bS :: fp5 := (fun e => by rcases List.mem_cons.1 e with e | e; (· exact nX' (by rw [e]; simp)); (· exact F5.out hX'.lt (fun e => nX' (List.mem_cons_of_mem _ e)) e)); clear z0 z1 z2 z3 z4 z5 z6 z7 y0 tA; have y0 := X5.cell)
              | (go_at_call 108; refine (HPut.out _ fp5 H5 L5 n5).mono ?_; rintro e w7 ⟨rfl, T7⟩; obtain ⟨fp7, H7, K7, F7⟩ := T7; have L7 := L5.keepK K7 n5; have X7 := X5.keep K7 x5; have n7 : L ∉ bS :: fp7 := (fun e => by rcases List.mem_cons.1 e with e | e; (· exact n5 (by rw [e]; simp)); (· exact F7.out L5.lt (fun e => n5 (List.mem_cons_of_mem _ e)) e)); have x7 : w.heap.size ∉ bS :: fp7 := (fun e => by rcases List.mem_cons.1 e with e | e; (· exact x5 (by rw [e]; simp)); (· exact F7.out X5.lt (fun e => x5 (List.mem_cons_of_mem _ e)) e)); clear y0; have y0 := X7.cell; obtain ⟨z0, z1, z2, z3, z4, z5, z6, z7⟩ := eight8 L7)
              | (go_at_call 70; refine (hFl2.out _ _ H7.disk).mono ?_; rintro e w9 D9; obtain ⟨rfl, T9⟩ := Turn.ofDid H7 D9; obtain ⟨fp9, H9, K9, F9⟩ := T9; have L9 := L7.keepK K9 n7; have X9 := X7.keep K9 x7; clear z0 z1 z2 z3 z4 z5 z6 z7 y0; have y0 := X9.cell; obtain ⟨z0, z1, z2, z3, z4, z5, z6, z7⟩ := eight8 L9; have fL := L9.free 7; have lL9 := L9.lt))
            go_ret
            have K57 := keepT (keepT K F K5) (F.trans K.size F5) K7
            have F57 := (F.trans K.size F5).trans (keepT K F K5).size F7
            have K59 := keepT K57 F57 K9
            have F59 := F57.trans K57.size F9
            rw [Hq.out, HR2.out]
            exact ⟨rfl, fp9, H9, K59.more (fun j hj => List.mem_cons_of_mem _ hj), F59, L9⟩
        · have t2 := bne_yes hv
          have HR2 := Lib.hid (show R = (S, V) by rw [hR2, if_neg hv])
          have Hn0 := Lib.hid hv
          clear hR2 hv
          go_wp2_with (first
            | (go_at_call 70; refine (hFl.out _ HB'.disk).mono ?_; rintro e w5 D5; obtain ⟨rfl, T5⟩ := Turn.ofDid HB' D5; obtain ⟨fp5, H5, K5, F5⟩ := T5; have L5 := HA.keepK K5 nL; have X5 := hX'.keep K5 nX'; have n5 : L ∉ bS :: fp5 := (fun e => by rcases List.mem_cons.1 e with e | e; (· exact nL (by rw [e]; simp)); (· exact F5.out HA.lt (fun e => nL (List.mem_cons_of_mem _ e)) e)); clear z0 z1 z2 z3 z4 z5 z6 z7 y0; have y0 := X5.cell)
            | (go_at_call 108; refine (HPut.out _ fp5 H5 L5 n5).mono ?_; rintro e w7 ⟨rfl, T7⟩))
          go_ret
          have hq : sq = seq := by rw [Hsq.out, HR2.out, if_neg Hn0.out]
          rw [HR2.out, hq]
          obtain ⟨fp7, H7, K7, F7⟩ := T7
          exact ⟨rfl, fp7, H7, (keepT (keepT K F K5) (F.trans K.size F5) K7).more (fun j hj => List.mem_cons_of_mem _ hj), (F.trans K.size F5).trans (keepT K F K5).size F7, L5.keepK K7 n5⟩
      · have t1 := bne_yes h0
        have hR2 := Lib.hid (show R = (l', F1) by rw [hR1, if_neg h0])
        have Hn0 := Lib.hid h0
        clear hR1 h0
        go_wp2_with (go_at_call 70; refine (hFl.out _ HB'.disk).mono ?_; rintro e w5 D5; obtain ⟨rfl, T5⟩ := Turn.ofDid HB' D5)
        go_ret
        have hq : sq = seq := by rw [Hsq.out, hR2.out, if_neg Hn0.out]
        rw [hR2.out, hq]
        obtain ⟨fp5, H5, K5, F5⟩ := T5
        exact ⟨rfl, fp5, H5, (keepT K F K5).more (fun j hj => List.mem_cons_of_mem _ hj), F.trans K.size F5, HA.keepK K5 nL⟩
end Go.Proofs.Ytmpmibcdpkolkaa.Wal

/- The log: what is read back: plain. -/
namespace Go.Proofs.Ytmpmibcdpkolkaa.Wal
open Go.RowKit
open Go.Proofs.Ytmpmibcdpkolkaa.Geom
open Go.Proofs.Ytmpmibcdpkolkaa.Disk (St read)
open Go.Proofs.Ytmpmibcdpkolkaa.Sec (X)
set_option linter.unusedVariables false
/-- a transaction -/
structure Tx where
  pages : List Pg
  gen : UInt64
/-- what was read so far -/
structure Rg where
  all : List Tx
  now : List Pg
  gen : UInt64
  frm : Nat
def fstN (b : List UInt8) : Nat := Num.getN (b.take 4)
def sndN (b : List UInt8) : Nat := Num.getN ((b.drop 4).take 2)
/-- one more sector -/
def takeF (np : Int) (r : Rg) (i : Nat) (x : X) : Rg × Bool :=
  if x.body.length < 6 ∨ (r.now ≠ [] ∧ x.gen ≠ r.gen) then (r, false)
  else if fstN x.body ≠ r.frm then (r, false)
  else if x.kind = 4 ∧ (sndN x.body : Int) < np then ({ r with gen := x.gen, now := r.now ++ [⟨(sndN x.body : Int), x.body.drop 6⟩] }, true)
  else if x.kind = 5 ∧ sndN x.body = r.now.length ∧ x.body.length = 6 then (⟨r.all ++ [⟨r.now, x.gen⟩], [], 0, i + 1⟩, true)
  else ({ r with gen := x.gen }, false)
/-- those of the life, one behind the other -/
def scanG (l : List (List UInt8)) (s : St) (ga gd gl base : Int) (life : UInt64) : Nat → Nat → Rg → Rg × Int
  | 0, _, r => (r, 0)
  | n + 1, i, r =>
    if (read s (logAt ga gd gl (base + (i : Int)))).2 ≠ 0 then (r, (read s (logAt ga gd gl (base + (i : Int)))).2)
    else if (Enc.rd l s (logAt ga gd gl (base + (i : Int)))).2 ≠ 0 ∨ (Enc.rd l s (logAt ga gd gl (base + (i : Int)))).1.life ≠ life ∨ (Enc.rd l s (logAt ga gd gl (base + (i : Int)))).1.seq ≠ (i : Int) then (r, 0)
    else if (takeF (pagesOf ga gd gl) r i (Enc.rd l s (logAt ga gd gl (base + (i : Int)))).1).2 = true then scanG l s ga gd gl base life n (i + 1) (takeF (pagesOf ga gd gl) r i (Enc.rd l s (logAt ga gd gl (base + (i : Int)))).1).1
    else ((takeF (pagesOf ga gd gl) r i (Enc.rd l s (logAt ga gd gl (base + (i : Int)))).1).1, 0)
def scanF (l : List (List UInt8)) (s : St) (ga gd gl base : Int) (life : UInt64) : List Tx × Int :=
  if (scanG l s ga gd gl base life gl.toNat 0 ⟨[], [], 0, 0⟩).2 ≠ 0 then ([], (scanG l s ga gd gl base life gl.toNat 0 ⟨[], [], 0, 0⟩).2)
  else ((scanG l s ga gd gl base life gl.toNat 0 ⟨[], [], 0, 0⟩).1.all, 0)
end Go.Proofs.Ytmpmibcdpkolkaa.Wal

/- The pages of a life: a page that is put. -/
namespace Go.Proofs.Ytmpmibcdpkolkaa.Snap
open Go.RowKit
open Go.Proofs.Ytmpmibcdpkolkaa.Geom
open Go.Proofs.Ytmpmibcdpkolkaa.Sup (Gb gv gcell srightF)
open Go.Proofs.Ytmpmibcdpkolkaa.Disk (St DAt Did New8 Told8)
open Go.Proofs.Ytmpmibcdpkolkaa.Sec (X SymAt text sumOf sumAfter ckS blankB rightF encode_sym decode_sym right_0 right_2 xv RetX X0 five5x)
set_option linter.unusedVariables false
set_option maxRecDepth 100000
def px (life : UInt64) (n : Nat) (b : List UInt8) : X := ⟨3, life, (n : Int), 0, b⟩
def pB (l : List (List UInt8)) (p : Int) (life : UInt64) (n : Nat) (b : List UInt8) : List UInt8 := text p (px life n b) ++ sumOf l (text p (px life n b))
def pL (l : List (List UInt8)) (p : Int) (life : UInt64) (n : Nat) (b : List UInt8) : List (List UInt8) := sumAfter l (text p (px life n b))
theorem pB_len (l : List (List UInt8)) (p : Int) (life : UInt64) (n : Nat) (b : List UInt8) : (pB l p life n b).length = 512 := by unfold pB; rw [List.length_append, Sec.text_len, Sec.sumOf_len]
theorem px_right {p : Int} {life : UInt64} {n : Nat} {b : List UInt8} (h0 : 0 ≤ p) (h1 : p ≤ 1023) (hn : n ≤ 1000) (hb : b.length ≤ 479) : rightF p (px life n b) = 0 :=
  right_0 (by unfold px; simp only []; omega) (by unfold px; simp only []; omega)
set_option maxHeartbeats 2000000 in
theorem put_any (g : Nat) (fp : List Nat) (s : St) (gS bS : Nat) (l : List (List UInt8)) (ga gd gl : Int) (life : UInt64) (n : Nat) (b : List UInt8) (A : Option Addr) (c : Nat) (w : World) (hG : Gb ga gd gl) (h : Both w g fp s gS bS l) (hl : l.length ≤ 1000000) (hs : s.sz ≤ 90000000)
    (h0 : 0 ≤ areaAt ga gd gl life.toNat n) (h1 : areaAt ga gd gl life.toNat n ≤ 1023) (hn : n ≤ 1000) (hb : b.length ≤ 479) (hr : Rd w w.heap.size A (b.map e8)) :
    Calls Try.prog 89 #[av (.pointer (some ⟨g, 0, none⟩)) (.pointer (some ⟨gS, 0, none⟩)) ga gd gl life, .int .i64 (n : Int), .slice A b.length c] w fun e w' => e = .returned (.int .i64 (Disk.write s (areaAt ga gd gl life.toNat n) (pB l (areaAt ga gd gl life.toNat n) life n b)).2) ∧ Turn w g fp gS bS (Disk.write s (areaAt ga gd gl life.toNat n) (pB l (areaAt ga gd gl life.toNat n) life n b)).1 (pL l (areaAt ga gd gl life.toNat n) life n b) w' := by
  have F := Blk.new w (acell (.pointer (some ⟨g, 0, none⟩)) (.pointer (some ⟨gS, 0, none⟩)) ga gd gl life) 138
  have b0 := b1alloc w (.cells (acell (.pointer (some ⟨g, 0, none⟩)) (.pointer (some ⟨gS, 0, none⟩)) ga gd gl life).toArray 138)
  obtain ⟨z0, z1, z2, z3, z4, z5⟩ := six6 F
  have hAr := fun W => Geom.area_any ga gd gl life _ (by rfl) (n : Int) W hG.a0 hG.a1 hG.d0 hG.d1 hG.g0 hG.g1 (show Geom.lo ≤ (n : Int) by unfold Geom.lo; omega) (show (n : Int) ≤ Geom.hi by unfold Geom.hi; omega)
  obtain ⟨p, hp⟩ : ∃ p, p = areaAt ga gd gl life.toNat n := ⟨_, rfl⟩
  rw [← hp] at hAr h0 h1 ⊢
  have hE := fun A c W hb' hr' => encode_sym p gS bS l (px life n b) A c W hb' hl hr' (px_right h0 h1 hn hb)
  have hE' : ∀ A c W, SymAt W gS bS l → Rd W W.heap.size A (b.map e8) → Calls Try.prog 42 #[.pointer (some ⟨gS, 0, none⟩), .int .i64 p, .agg #[.int .i64 3, .int .u64 (life.toNat : Int), .int .i64 (n : Int), .int .u64 0, .slice A b.length c]] W _ := fun A c W hb' hr' => hE A c W hb' hr'
  rw [show text p (px life n b) ++ sumOf l (text p (px life n b)) = pB l p life n b from rfl, show sumAfter l (text p (px life n b)) = pL l p life n b from rfl] at hE'
  have hW := fun A c W hD hr' => Disk.write_any g fp s p A 512 c (pB l p life n b) W hD (by omega) (pB_len l p life n b).symm hr'
  obtain ⟨V, hV⟩ : ∃ V, V = Disk.write s p (pB l p life n b) := ⟨_, rfl⟩
  obtain ⟨bb, hbb⟩ : ∃ V, V = pB l p life n b := ⟨_, rfl⟩
  obtain ⟨l', hl'⟩ : ∃ V, V = pL l p life n b := ⟨_, rfl⟩
  rw [← hV] at hW ⊢
  rw [← hbb] at hW hE'
  rw [← hl'] at hE' ⊢
  have HA := Lib.hid hAr
  have HE := Lib.hid hE'
  have HW := Lib.hid hW
  have FG := Lib.hid F
  have nG : w.heap.size ∉ [bS] := by have := h.sym.lt.2; rw [List.mem_singleton]; omega
  clear hAr hE hE' hW hV hbb hl' hp F
  go_enter Try.func89, Try.ntmps89
  go_wp2_with (first
    | (go_at_call 126; refine (HA.out _).mono ?_; rintro e w1 ⟨rfl, b1⟩; have F1 := FG.out.on b1; clear z0 z1 z2 z3 z4 z5; obtain ⟨z0, z1, z2, z3, z4, z5⟩ := six6 F1; have H1 := h.on (bt b0 b1))
    | (go_at_call 42; refine (HE.out A c _ H1.sym ((hr.below (bt b0 b1)).more (bt b0 b1).size)).mono ?_; rintro e w2 ⟨A2, c2, rfl, own2, k2, s2⟩; have H2 := H1.summed s2 k2; have F2 := F1.keepK k2 nG; clear z0 z1 z2 z3 z4 z5; obtain ⟨z0, z1, z2, z3, z4, z5⟩ := six6 F2; have K2 := keepT (fp := fp) (Keep.of_below (bt b0 b1) (bS :: fp)) (Fresh.refl _ _) (keepB k2))
    | (go_at_call 69; refine (HW.out A2 c2 _ H2.disk (RdN.own own2 H1.disk.lt)).mono ?_; rintro e w3 ⟨rfl, fp3, hD3, k3, f3⟩; have H3 := H2.did hD3 k3 f3))
  go_ret
  have hz2 := K2.size
  exact ⟨rfl, fp3, H3, keepT K2 (Fresh.refl _ _) (keepF k3), fun j hj => (f3 j hj).imp id (fun e => by omega)⟩
end Go.Proofs.Ytmpmibcdpkolkaa.Snap

/- The pages of a life: is one of the rows too long: slices.IndexFunc and ContainsFunc with snap.Write's closure. -/
namespace Go.Proofs.Ytmpmibcdpkolkaa.Snap
open Go.RowKit
set_option linter.unusedVariables false
set_option maxRecDepth 100000
def longB (l : List (List UInt8)) : Bool := l.any fun b => decide (479 < b.length)
theorem longB_no {l : List (List UInt8)} (h : ∀ j (hj : j < l.length), l[j].length ≤ 479) : longB l = false := by
  unfold longB
  rw [List.any_eq_false]
  intro b hb
  obtain ⟨j, hj, rfl⟩ := List.mem_iff_getElem.1 hb
  have := h j hj
  simp; omega
theorem longB_yes {l : List (List UInt8)} {j : Nat} (hj : j < l.length) (h : 479 < l[j].length) : longB l = true := by
  unfold longB
  rw [List.any_eq_true]
  exact ⟨l[j], List.getElem_mem hj, by simpa using h⟩
set_option maxHeartbeats 1000000 in
theorem index_any (A : Option Addr) (l : List (List UInt8)) (c : Nat) (w : World) (hr : Rws w w.heap.size A l) (hcl : l.length ≤ 1000000) :
    Calls Try.prog 125 #[.slice A l.length c, .func (.func 86) #[] #[]] w fun e w' => (∃ k : Int, e = .returned (.int .i64 k) ∧ decide (0 ≤ k) = longB l) ∧ w = w' := by
  have hm1 : ∀ (x : Array Value) (w : World), Sem.run Try.prog (callFunc 86 x) w = .ok (.enter 86 x) w := by intro x w; simp [go_sem]
  go_enter Try.func125, Try.ntmps125
  go_wp2_with fail
  go_loopw [8] (fun i wr => ∃ k : Nat, k ≤ l.length ∧ i = .int .i64 k ∧ wr = w ∧ ∀ j (hj : j < l.length), j < k → l[j].length ≤ 479) (fun i _ => l.length - (intOf i).toNat)
  case atStart => exact ⟨0, by omega, rfl, rfl, fun j hj h => by omega⟩
  case round =>
    obtain ⟨k, hk, rfl, rfl, hall⟩ := hrel
    by_cases hlt : k < l.length
    · obtain ⟨b, off, Ai, ci, rfl, hb, hc, _, _, _⟩ := hr.get hlt
      have hkn : (k : Int) < (l.length : Int) := by omega
      have hwk : wrap64 ((k : Int) + 1) = (k : Int) + 1 := by unfold wrap64; omega
      by_cases hl : 479 < l[k].length
      · have hd := decide_eq_true hl
        have hy := Lib.hid (longB_yes hlt hl)
        go_wp2_with (go_at_call 86; refine (long_any _ _ _ _).mono ?_; rintro e w1 ⟨rfl, rfl⟩; rw [hd])
        go_ret
        exact ⟨⟨(k : Int), rfl, by rw [hy.out]; exact decide_eq_true (by omega)⟩, rfl⟩
      · have hd := decide_eq_false hl
        go_wp2_with (go_at_call 86; refine (long_any _ _ _ _).mono ?_; rintro e w1 ⟨rfl, rfl⟩; rw [hd])
        case roundEnd => exact ⟨⟨k + 1, by omega, by first | rfl | simp | (rw [hwk]; rfl), by first | trivial | rfl, fun j hj h => by
          rcases (show j < k ∨ j = k by omega) with h1 | h1
          · exact hall j hj h1
          · subst h1; omega⟩, by simp only [intOf]; omega⟩
    · have hkn : ¬ (k : Int) < (l.length : Int) := by omega
      have hn := Lib.hid (longB_no (l := l) (fun j hj => hall j hj (by omega)))
      go_wp2
      go_ret
      exact ⟨⟨-1, rfl, by rw [hn.out]; rfl⟩, rfl⟩
theorem contains_any (A : Option Addr) (l : List (List UInt8)) (c : Nat) (w : World) (hr : Rws w w.heap.size A l) (hcl : l.length ≤ 1000000) :
    Calls Try.prog 88 #[.slice A l.length c, .func (.func 86) #[] #[]] w fun e w' => e = .returned (.bool (longB l)) ∧ w = w' := by
  go_enter Try.func88, Try.ntmps88
  go_wp2_with (go_at_call 125; refine (index_any A l c _ hr hcl).mono ?_; rintro e w1 ⟨⟨k, rfl, hk⟩, rfl⟩)
  go_ret
  exact ⟨by first | rfl | exact ret_bool hk, rfl⟩
end Go.Proofs.Ytmpmibcdpkolkaa.Snap
