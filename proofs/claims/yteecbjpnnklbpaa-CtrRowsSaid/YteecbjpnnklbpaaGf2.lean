/- The walks of the reference's box, of the mixed columns on both sides, and of the chapter's examples. -/
import Derived.Test.YteecbjpnnklbpaaGf
import Derived.Test.YteecbjpnnklbpaaGfBox
namespace Go.Proofs.Yteecbjpnnklbpaa.Gf
open Go.RowKit
set_option linter.unusedVariables false

theorem left_cell (a : UInt8) (n : Nat) (h : 1 ≤ n ∧ n ≤ 4) : bits .or .u8 ((a.toNat : Int) * 2 ^ n % 256) ((a.toNat : Int) / 2 ^ (8 - n)) = ((left a (UInt8.ofNat n)).toNat : Int) := by
  obtain rfl | rfl | rfl | rfl : n = 1 ∨ n = 2 ∨ n = 3 ∨ n = 4 := by omega
  all_goals
    unfold left
    rw [← or8]
    congr 1
    · rw [UInt8.toNat_shiftLeft]; simp [Nat.shiftLeft_eq]
    · rw [UInt8.toNat_shiftRight]; simp [Nat.shiftRight_eq_div_pow]
set_option maxRecDepth 100000 in
set_option maxHeartbeats 400000 in
theorem left_any (a : UInt8) (m n : Int) (k : Nat) (hm : m = (a.toNat : Int)) (hn : n = (k : Int)) (hk : 1 ≤ k ∧ k ≤ 4) (w : World) : Calls Try.prog 46 #[.int .u8 m, .int .i64 n] w fun e w' => e = .returned (.int .u8 ((left a (UInt8.ofNat k)).toNat : Int)) ∧ Below w.heap.size w w' := by
  subst hm
  obtain ⟨b0, b1⟩ := bd8 a
  have hl := Lib.hid (left_cell a k hk)
  rcases (by omega : n = 1 ∨ n = 2 ∨ n = 3 ∨ n = 4) with rfl | rfl | rfl | rfl
  · obtain rfl : k = 1 := by omega
    clear hn hk
    go_enter Try.func46, Try.ntmps46
    go_wp2
    refine region_inb (by kernel_rfl) (by kernel_rfl) ?_
    have inbNe := InB.some
    have inbW := @wrap_small
    have inbU := IntKind.wrap_u8'
    repeat (refine wpQuiet_step (fun K hK => ?_); go_simp; first | (refine hK _ ?_; clear hK K) | (apply Exists.intro; refine ⟨?_, hK _ ?_⟩; (· (intro w' hw'; first | (have hcw := hw'.cell; go_simp; exact rfl))); clear hK K))
    refine wpQuiet_nil ?_
    intro wq hq
    clear inbNe inbW inbU
    go_wp2
    go_ret
    exact ⟨ret_int (by rw [← hl.out]; rfl), hq⟩
  · obtain rfl : k = 2 := by omega
    clear hn hk
    go_enter Try.func46, Try.ntmps46
    go_wp2
    refine region_inb (by kernel_rfl) (by kernel_rfl) ?_
    have inbNe := InB.some
    have inbW := @wrap_small
    have inbU := IntKind.wrap_u8'
    repeat (refine wpQuiet_step (fun K hK => ?_); go_simp; first | (refine hK _ ?_; clear hK K) | (apply Exists.intro; refine ⟨?_, hK _ ?_⟩; (· (intro w' hw'; first | (have hcw := hw'.cell; go_simp; exact rfl))); clear hK K))
    refine wpQuiet_nil ?_
    intro wq hq
    clear inbNe inbW inbU
    go_wp2
    go_ret
    exact ⟨ret_int (by rw [← hl.out]; rfl), hq⟩
  · obtain rfl : k = 3 := by omega
    clear hn hk
    go_enter Try.func46, Try.ntmps46
    go_wp2
    refine region_inb (by kernel_rfl) (by kernel_rfl) ?_
    have inbNe := InB.some
    have inbW := @wrap_small
    have inbU := IntKind.wrap_u8'
    repeat (refine wpQuiet_step (fun K hK => ?_); go_simp; first | (refine hK _ ?_; clear hK K) | (apply Exists.intro; refine ⟨?_, hK _ ?_⟩; (· (intro w' hw'; first | (have hcw := hw'.cell; go_simp; exact rfl))); clear hK K))
    refine wpQuiet_nil ?_
    intro wq hq
    clear inbNe inbW inbU
    go_wp2
    go_ret
    exact ⟨ret_int (by rw [← hl.out]; rfl), hq⟩
  · obtain rfl : k = 4 := by omega
    clear hn hk
    go_enter Try.func46, Try.ntmps46
    go_wp2
    refine region_inb (by kernel_rfl) (by kernel_rfl) ?_
    have inbNe := InB.some
    have inbW := @wrap_small
    have inbU := IntKind.wrap_u8'
    repeat (refine wpQuiet_step (fun K hK => ?_); go_simp; first | (refine hK _ ?_; clear hK K) | (apply Exists.intro; refine ⟨?_, hK _ ?_⟩; (· (intro w' hw'; first | (have hcw := hw'.cell; go_simp; exact rfl))); clear hK K))
    refine wpQuiet_nil ?_
    intro wq hq
    clear inbNe inbW inbU
    go_wp2
    go_ret
    exact ⟨ret_int (by rw [← hl.out]; rfl), hq⟩
set_option maxRecDepth 100000 in
set_option maxHeartbeats 400000 in
theorem rbox_any (a : UInt8) (m : Int) (hm : m = (a.toNat : Int)) (w : World) : Calls Try.prog 34 #[.int .u8 m] w fun e w' => e = .returned (.int .u8 ((box a).toNat : Int)) ∧ Below w.heap.size w w' := by
  subst hm
  have x1 := Lib.hid (xor8 (inv a) (left (inv a) 1))
  have x2 := Lib.hid (xor8 (inv a ^^^ left (inv a) 1) (left (inv a) 2))
  have x3 := Lib.hid (xor8 (inv a ^^^ left (inv a) 1 ^^^ left (inv a) 2) (left (inv a) 3))
  have x4 := Lib.hid (xor8 (inv a ^^^ left (inv a) 1 ^^^ left (inv a) 2 ^^^ left (inv a) 3) (left (inv a) 4))
  have x5 := Lib.hid (show bits .xor .u8 ((inv a ^^^ left (inv a) 1 ^^^ left (inv a) 2 ^^^ left (inv a) 3 ^^^ left (inv a) 4).toNat : Int) 99 = ((box a).toNat : Int) from xor8 (inv a ^^^ left (inv a) 1 ^^^ left (inv a) 2 ^^^ left (inv a) 3 ^^^ left (inv a) 4) 99)
  go_enter Try.func34, Try.ntmps34
  go_wp2_with fail
  refine (rinverse_any _ _ rfl _).mono ?_
  rintro e w1 ⟨rfl, rfl⟩
  go_wp2_with fail
  refine (left_any (inv a) _ _ 1 rfl (by rfl) (by omega) _).mono ?_
  rintro e w1 ⟨rfl, b1⟩
  have bb := b1
  go_wp2_with fail
  refine (left_any (inv a) _ _ 2 rfl (by rfl) (by omega) _).mono ?_
  rintro e w2 ⟨rfl, b2⟩
  have bb := bt bb b2
  go_wp2_with fail
  refine (left_any (inv a) _ _ 3 rfl (by rfl) (by omega) _).mono ?_
  rintro e w3 ⟨rfl, b3⟩
  have bb := bt bb b3
  go_wp2_with fail
  refine (left_any (inv a) _ _ 4 rfl (by rfl) (by omega) _).mono ?_
  rintro e w4 ⟨rfl, b4⟩
  have bb := bt bb b4
  go_wp2
  go_ret
  exact ⟨ret_int (by rw [← x5.out, ← x4.out, ← x3.out, ← x2.out, ← x1.out]), bb⟩

/-- a column as a value -/
def colV (x : Col) : Value := .agg #[e8 x.a, e8 x.b, e8 x.c, e8 x.d]
def Col.at (x : Col) (i : Nat) : UInt8 := if i % 4 = 0 then x.a else if i % 4 = 1 then x.b else if i % 4 = 2 then x.c else x.d

/-- the four cells of a block -/
def Cells4 (w : World) (b : Nat) (x : Col) : Prop := w.cell? ⟨b, 0, none⟩ = some (e8 x.a) ∧ w.cell? ⟨b, 1, none⟩ = some (e8 x.b) ∧ w.cell? ⟨b, 2, none⟩ = some (e8 x.c) ∧ w.cell? ⟨b, 3, none⟩ = some (e8 x.d)
theorem Cells4.at {w : World} {b : Nat} {x : Col} (h : Cells4 w b x) (i : Nat) : w.cell? ⟨b, i % 4, none⟩ = some (e8 (x.at i)) := by
  unfold Col.at
  have := Nat.mod_lt i (by omega : 0 < 4)
  rcases (by omega : i % 4 = 0 ∨ i % 4 = 1 ∨ i % 4 = 2 ∨ i % 4 = 3) with e | e | e | e <;> rw [e]
  · exact h.1
  · exact h.2.1
  · exact h.2.2.1
  · exact h.2.2.2
set_option maxRecDepth 100000 in
set_option maxHeartbeats 400000 in
theorem at_any (x : Col) (b i : Nat) (n : Int) (hn : n = (i : Int)) (hi : i ≤ 8) (w : World) (hc : Cells4 w b x) : Calls Try.prog 52 #[.int .i64 n, .pointer (some ⟨b, 0, none⟩)] w fun e w' => e = .returned (.int .u8 ((x.at i).toNat : Int)) ∧ w = w' := by
  subst hn
  have hcell := hc.at i
  have hb : (i : Int) % 4 < 4 := by omega
  go_enter Try.func52, Try.ntmps52
  go_wp2
  go_ret
  exact ⟨rfl, rfl⟩

/-- the column that is being made -/
def outs (x : Col) : Nat → Array Value
  | 0 => #[.int .u8 0, .int .u8 0, .int .u8 0, .int .u8 0]
  | 1 => #[e8 (mix x).a, .int .u8 0, .int .u8 0, .int .u8 0]
  | 2 => #[e8 (mix x).a, e8 (mix x).b, .int .u8 0, .int .u8 0]
  | 3 => #[e8 (mix x).a, e8 (mix x).b, e8 (mix x).c, .int .u8 0]
  | _ => #[e8 (mix x).a, e8 (mix x).b, e8 (mix x).c, e8 (mix x).d]
theorem outs_set (x : Col) (k : Nat) (hk : k < 4) (r : UInt8) (hr : r = colAt (x.at k) (x.at (k + 1)) (sum4 x.a x.b x.c x.d)) : (outs x k).setIfInBounds k (.int .u8 (r.toNat : Int)) = outs x (k + 1) := by
  obtain rfl | rfl | rfl | rfl : k = 0 ∨ k = 1 ∨ k = 2 ∨ k = 3 := by omega
  all_goals subst hr; rfl
theorem mix_at (x : Col) : colAt (x.at 0) (x.at 1) (sum4 x.a x.b x.c x.d) = (mix x).a ∧ colAt (x.at 1) (x.at 2) (sum4 x.a x.b x.c x.d) = (mix x).b ∧ colAt (x.at 2) (x.at 3) (sum4 x.a x.b x.c x.d) = (mix x).c ∧ colAt (x.at 3) (x.at 4) (sum4 x.a x.b x.c x.d) = (mix x).d := ⟨rfl, rfl, rfl, rfl⟩
set_option maxRecDepth 100000 in
set_option maxHeartbeats 3200000 in
theorem column_any (x : Col) (w : World) : Calls Try.prog 47 #[colV x] w fun e w' => e = .returned (colV (mix x)) ∧ Below w.heap.size w w' := by
  obtain ⟨p, hp⟩ : ∃ p, p = x.a ^^^ x.b := ⟨_, rfl⟩
  obtain ⟨q, hq⟩ : ∃ q, q = p ^^^ x.c := ⟨_, rfl⟩
  obtain ⟨s, hs⟩ : ∃ s, s = q ^^^ x.d := ⟨_, rfl⟩
  have x1 := xor8 x.a x.b
  have x2 := xor8 p x.c
  have x3 := xor8 q x.d
  rw [← hp] at x1
  rw [← hq] at x2
  rw [← hs] at x3
  have Hs := Lib.hid (show sum4 x.a x.b x.c x.d = s by rw [hs, hq, hp]; rfl)
  clear hp hq hs
  unfold colV
  go_enter Try.func47, Try.ntmps47
  go_wp2
  clear x1 x2 x3
  go_loopw [5, 18] (fun _ i wr => ∃ k : Nat, k ≤ 4 ∧ i = .int .i64 k ∧ wr = (w.alloc (.cells #[e8 x.a, e8 x.b, e8 x.c, e8 x.d] 51)).alloc (.cells (outs x k) 51)) (fun _ i _ => 4 - (intOf i).toNat)
  case atStart => exact ⟨0, by omega, rfl, rfl⟩
  case round =>
    obtain ⟨k, hk, rfl, rfl⟩ := hrel
    have c4 : Cells4 ((w.alloc (.cells #[e8 x.a, e8 x.b, e8 x.c, e8 x.d] 51)).alloc (.cells (outs x k) 51)) w.heap.size x := ⟨by simp, by simp, by simp, by simp⟩
    by_cases hlt : k < 4
    · obtain ⟨y, hy⟩ : ∃ y, y = x.at k := ⟨_, rfl⟩
      obtain ⟨z, hz⟩ : ∃ z, z = x.at (k + 1) := ⟨_, rfl⟩
      obtain ⟨p, hp⟩ : ∃ p, p = y ^^^ s := ⟨_, rfl⟩
      obtain ⟨q, hq⟩ : ∃ q, q = y ^^^ z := ⟨_, rfl⟩
      obtain ⟨r, hr⟩ : ∃ r, r = p ^^^ twice q := ⟨_, rfl⟩
      have x1 := xor8 y s
      have x2 := xor8 y z
      have x3 := xor8 p (twice q)
      rw [← hp] at x1
      rw [← hq] at x2
      rw [← hr] at x3
      have Hr := Lib.hid (show r = colAt (x.at k) (x.at (k + 1)) (sum4 x.a x.b x.c x.d) by rw [hr, hp, hq, hy, hz, Hs.out]; rfl)
      have Hm := Lib.hid (mix_at x)
      have Hy := Lib.hid hy
      have Hz := Lib.hid hz
      have C4 := Lib.hid c4
      clear hp hq hr hy hz c4
      obtain rfl | rfl | rfl | rfl : k = 0 ∨ k = 1 ∨ k = 2 ∨ k = 3 := by omega
      · go_wp2_with fail
        refine (at_any x _ 0 _ (by rfl) (by omega) _ C4.out).mono ?_
        rintro e w1 ⟨rfl, rfl⟩
        rw [← Hy.out]
        go_wp2_with fail
        refine (at_any x _ 0 _ (by rfl) (by omega) _ C4.out).mono ?_
        rintro e w1 ⟨rfl, rfl⟩
        rw [← Hy.out]
        go_wp2_with fail
        refine (at_any x _ 1 _ (by rfl) (by omega) _ C4.out).mono ?_
        rintro e w1 ⟨rfl, rfl⟩
        rw [show x.at 1 = z from Hz.out.symm]
        go_wp2_with fail
        refine (twice_any q _ rfl _).mono ?_
        rintro e w1 ⟨rfl, rfl⟩
        go_wp2
        exact ⟨⟨1, by omega, rfl, congrArg (fun c => (w.alloc (.cells #[e8 x.a, e8 x.b, e8 x.c, e8 x.d] 51)).alloc (.cells c 51)) (outs_set x 0 (by omega) r Hr.out)⟩, by simp [intOf]⟩
      · go_wp2_with fail
        refine (at_any x _ 1 _ (by rfl) (by omega) _ C4.out).mono ?_
        rintro e w1 ⟨rfl, rfl⟩
        rw [← Hy.out]
        go_wp2_with fail
        refine (at_any x _ 1 _ (by rfl) (by omega) _ C4.out).mono ?_
        rintro e w1 ⟨rfl, rfl⟩
        rw [← Hy.out]
        go_wp2_with fail
        refine (at_any x _ 2 _ (by rfl) (by omega) _ C4.out).mono ?_
        rintro e w1 ⟨rfl, rfl⟩
        rw [show x.at 2 = z from Hz.out.symm]
        go_wp2_with fail
        refine (twice_any q _ rfl _).mono ?_
        rintro e w1 ⟨rfl, rfl⟩
        go_wp2
        exact ⟨⟨2, by omega, rfl, congrArg (fun c => (w.alloc (.cells #[e8 x.a, e8 x.b, e8 x.c, e8 x.d] 51)).alloc (.cells c 51)) (outs_set x 1 (by omega) r Hr.out)⟩, by simp [intOf]⟩
      · go_wp2_with fail
        refine (at_any x _ 2 _ (by rfl) (by omega) _ C4.out).mono ?_
        rintro e w1 ⟨rfl, rfl⟩
        rw [← Hy.out]
        go_wp2_with fail
        refine (at_any x _ 2 _ (by rfl) (by omega) _ C4.out).mono ?_
        rintro e w1 ⟨rfl, rfl⟩
        rw [← Hy.out]
        go_wp2_with fail
        refine (at_any x _ 3 _ (by rfl) (by omega) _ C4.out).mono ?_
        rintro e w1 ⟨rfl, rfl⟩
        rw [show x.at 3 = z from Hz.out.symm]
        go_wp2_with fail
        refine (twice_any q _ rfl _).mono ?_
        rintro e w1 ⟨rfl, rfl⟩
        go_wp2
        exact ⟨⟨3, by omega, rfl, congrArg (fun c => (w.alloc (.cells #[e8 x.a, e8 x.b, e8 x.c, e8 x.d] 51)).alloc (.cells c 51)) (outs_set x 2 (by omega) r Hr.out)⟩, by simp [intOf]⟩
      · go_wp2_with fail
        refine (at_any x _ 3 _ (by rfl) (by omega) _ C4.out).mono ?_
        rintro e w1 ⟨rfl, rfl⟩
        rw [← Hy.out]
        go_wp2_with fail
        refine (at_any x _ 3 _ (by rfl) (by omega) _ C4.out).mono ?_
        rintro e w1 ⟨rfl, rfl⟩
        rw [← Hy.out]
        go_wp2_with fail
        refine (at_any x _ 4 _ (by rfl) (by omega) _ C4.out).mono ?_
        rintro e w1 ⟨rfl, rfl⟩
        rw [show x.at 4 = z from Hz.out.symm]
        go_wp2_with fail
        refine (twice_any q _ rfl _).mono ?_
        rintro e w1 ⟨rfl, rfl⟩
        go_wp2
        exact ⟨⟨4, by omega, rfl, congrArg (fun c => (w.alloc (.cells #[e8 x.a, e8 x.b, e8 x.c, e8 x.d] 51)).alloc (.cells c 51)) (outs_set x 3 (by omega) r Hr.out)⟩, by simp [intOf]⟩
    · obtain rfl : k = 4 := by omega
      simp only [outs]
      go_wp2
      refine bodyPost_ret (v := colV (mix x)) (by unfold colV; simp [results, Try.results47, go_sem]) rfl ⟨rfl, b2alloc _ _ _⟩

end Go.Proofs.Yteecbjpnnklbpaa.Gf
