/- The program's test of a header: it may be where its bytes may be written. -/
import Derived.Test.YtdkcdojcglmlbaaPol1
namespace Go.Proofs.Ytdkcdojcglmlbaa.Pol
open Go.RowKit
open Go.Proofs.Ytdkcdojcglmlbaa.Utf
open Go.Proofs.Ytdkcdojcglmlbaa.Wire
set_option linter.unusedVariables false
set_option maxRecDepth 100000
theorem cells4 {w w1 : World} {g : Nat} {v0 v1 v2 v3 : Value} {t : TypeId} (h : w1.heap[g]? = some (.cells #[v0, v1, v2, v3] t)) : w1.cell? ⟨g, 0, none⟩ = some v0 ∧ w1.cell? ⟨g, 1, none⟩ = some v1 ∧ w1.cell? ⟨g, 2, none⟩ = some v2 ∧ w1.cell? ⟨g, 3, none⟩ = some v3 := by
  refine ⟨?_, ?_, ?_, ?_⟩ <;> simp [World.cell?, h]
theorem begun_any (x : UInt8) (z : Int) (hz : z = (x.toNat : Int)) (w : World) : Calls Try.prog 139 #[.int .u8 z] w fun e w' => ∃ g fp, e = .returned (.pointer (some ⟨g, 0, none⟩)) ∧ WAt w' w.heap.size g [x] fp ∧ Below w.heap.size w w' := by
  subst hz
  have hW := Lib.hid (fun t => byte_any w.heap.size w.heap.size [] x (x.toNat : Int) rfl [w.heap.size] (w.alloc (.cells #[.slice none 0 0] t)) (WAt.new w t) (by simp) (by simp))
  go_enter Try.func139, Try.ntmps139
  go_wp2_with (go_at_call 39; refine (hW.out _).mono ?_; rintro e w1 ⟨rfl, fp1, hA1, k1, f1⟩)
  go_ret
  exact ⟨_, fp1, rfl, hA1, (b1 _ _).trans (k1.below (B := w.heap.size) (by simp) (by simp))⟩
/-- a writer of at most n bytes -/
def Wr (w : World) (base g n : Nat) (fp : List Nat) : Prop := ∃ l : List UInt8, l.length ≤ n ∧ WAt w base g l fp
def WroteN (w : World) (base g n : Nat) (fp : List Nat) (e : Ending) (w' : World) : Prop := e = .returned (.tuple #[]) ∧ ∃ fp', Wr w' base g n fp' ∧ Keep fp w w' ∧ Fresh w fp fp'
theorem Wr.ge {w : World} {base g n : Nat} {fp : List Nat} (h : Wr w base g n fp) : ∀ j ∈ fp, base ≤ j := by
  obtain ⟨l, _, h⟩ := h
  exact h.ge
theorem number_w (g base k : Nat) (n : Nat) (hn : n ≤ 1073741824) (fp : List Nat) (w : World) (hw : Wr w base g k fp) (hb : base ≤ w.heap.size) (hl : k ≤ 1000) :
    Calls Try.prog 76 #[.pointer (some ⟨g, 0, none⟩), .int .u64 (n : Int), .int .i64 4] w (WroteN w base g (k + 8) fp) := by
  obtain ⟨l, h1, h2⟩ := hw
  have hE : ((UInt64.ofNat n).toNat : Int) = (n : Int) := by rw [UInt64.toNat_ofNat']; omega
  refine (number_any g base l (UInt64.ofNat n) (n : Int) hE.symm 4 (by omega) (by omega) fp w h2 hb (by omega)).mono ?_
  rintro e w' ⟨he, fp', h3, h4, h5⟩
  exact ⟨he, fp', ⟨_, by rw [List.length_append]; have := Num.put_le (UInt64.ofNat n).toNat 4; omega, h3⟩, h4, h5⟩
theorem byte_w (g base k : Nat) (n : Nat) (hn : n ≤ 255) (fp : List Nat) (w : World) (hw : Wr w base g k fp) (hb : base ≤ w.heap.size) (hl : k ≤ 1000) :
    Calls Try.prog 39 #[.pointer (some ⟨g, 0, none⟩), .int .u8 (n : Int)] w (WroteN w base g (k + 8) fp) := by
  obtain ⟨l, h1, h2⟩ := hw
  have hE : ((UInt8.ofNat n).toNat : Int) = (n : Int) := by rw [UInt8.toNat_ofNat']; omega
  refine (byte_any g base l (UInt8.ofNat n) (n : Int) hE.symm fp w h2 hb (by omega)).mono ?_
  rintro e w' ⟨he, fp', h3, h4, h5⟩
  exact ⟨he, fp', ⟨_, by rw [List.length_append, List.length_singleton]; omega, h3⟩, h4, h5⟩
theorem text_w (g base k : Nat) (t : List UInt8) (ht : t.length ≤ 300) (fp : List Nat) (w : World) (hw : Wr w base g k fp) (hb : base ≤ w.heap.size) (hl : k ≤ 1000) :
    Calls Try.prog 40 #[.pointer (some ⟨g, 0, none⟩), .string ⟨t.toArray⟩] w (WroteN w base g (k + 1000) fp) := by
  obtain ⟨l, h1, h2⟩ := hw
  refine (text_any g base l t _ rfl fp w h2 hb (by omega) ht).mono ?_
  rintro e w' ⟨he, fp', h3, h4, h5⟩
  refine ⟨he, fp', ⟨_, ?_, h3⟩, h4, h5⟩
  have : (field t).length ≤ 2 + t.length := by
    unfold field
    rw [List.length_append, List.length_take, Num.putL_len]
    omega
  rw [List.length_append]
  omega
theorem out_w (g base k : Nat) (fp : List Nat) (w : World) (hw : Wr w base g k fp) (hl : k ≤ 10000) :
    Calls Try.prog 20 #[.pointer (some ⟨g, 0, none⟩)] w fun e w' => ∃ v, e = .returned v ∧ Below w.heap.size w w' := by
  obtain ⟨l, h1, h2⟩ := hw
  refine (out_any g base l fp w h2 (by omega)).mono ?_
  rintro e w' ⟨A, c, he, _, hb⟩
  exact ⟨_, he, hb⟩
/-- bytes, or why there are none -/
def PutsH (w : World) (R : Bool) (E : Ending) (w' : World) : Prop := ∃ v, E = .returned (.tuple #[v, .int .i64 (if R = true then 0 else 2)]) ∧ Below w.heap.size w w'
set_option maxHeartbeats 1000000 in
theorem putHeader_any (e o s : Int) (t : List UInt8) (w : World) (ht : t.length ≤ 300) : Calls Try.prog 123 #[hdr e o s t] w (PutsH w (rightH e o s t)) := by
  have hR := fun w => hright_any e o s t w (by omega)
  obtain ⟨R, hRR⟩ : ∃ R, R = rightH e o s t := ⟨_, rfl⟩
  rw [← hRR] at hR ⊢
  unfold hdr at hR ⊢
  cases R with
  | false =>
    have HR := Lib.hid hR
    clear hR hRR
    go_enter Try.func123, Try.ntmps123
    go_wp2_with (go_at_call 138; refine (HR.out _).mono ?_; rintro e1 w1 ⟨rfl, b2⟩)
    go_ret2
    exact ⟨_, rfl, bt (b1 _ _) b2⟩
  | true =>
    obtain ⟨r1, r2, r3, r4, r5, _⟩ := of_decide_eq_true hRR.symm
    obtain ⟨E, rfl⟩ : ∃ E : Nat, e = (E : Int) := ⟨e.toNat, by omega⟩
    obtain ⟨O, rfl⟩ : ∃ O : Nat, o = (O : Int) := ⟨o.toNat, by omega⟩
    obtain ⟨S, rfl⟩ : ∃ S : Nat, s = (S : Int) := ⟨s.toNat, by omega⟩
    have HR := Lib.hid hR
    have hb := Lib.hid (fun w => begun_any 1 1 rfl w)
    have hE : E ≤ 1073741824 := by omega
    have hO : O ≤ 1073741824 := by omega
    have hS : S ≤ 255 := by omega
    clear hR hRR
    go_enter Try.func123, Try.ntmps123
    go_wp2_with (first
      | (go_at_call 138; refine (HR.out _).mono ?_; rintro e1 w1 ⟨rfl, b2⟩)
      | (go_at_call 139; refine (hb.out _).mono ?_; rintro e2 w2 ⟨g, fp2, rfl, hA2, b3⟩; have hW2 := (show Wr w2 w1.heap.size g 1 fp2 from ⟨[1], by simp, hA2⟩); have c2 := bt b2 b3; have z2 := b3.size; obtain ⟨q0, q1, q2, q3⟩ := cells4 (w := w) ((c2.block _ (by simp)).trans (heap_alloc_new w _)))
      | (go_at_call 76; (with_reducible show Calls _ _ #[_, .int .u64 (E : Int), _] _ _); refine (number_w g w1.heap.size 1 E hE fp2 w2 hW2 z2 (by omega)).mono ?_; rintro e3 w3 ⟨rfl, fp3, hW3, k3, f3⟩; have c3 := c2.trans ((k3.below hW2.ge z2).mono b2.size); have z3 := Nat.le_trans z2 k3.size; clear q0 q1 q2 q3; obtain ⟨q0, q1, q2, q3⟩ := cells4 (w := w) ((c3.block _ (by simp)).trans (heap_alloc_new w _)))
      | (go_at_call 76; (with_reducible show Calls _ _ #[_, .int .u64 (O : Int), _] _ _); refine (number_w g w1.heap.size 9 O hO fp3 w3 hW3 z3 (by omega)).mono ?_; rintro e4 w4 ⟨rfl, fp4, hW4, k4, f4⟩; have c4 := c3.trans ((k4.below hW3.ge z3).mono b2.size); have z4 := Nat.le_trans z3 k4.size; clear q0 q1 q2 q3; obtain ⟨q0, q1, q2, q3⟩ := cells4 (w := w) ((c4.block _ (by simp)).trans (heap_alloc_new w _)))
      | (go_at_call 39; refine (byte_w g w1.heap.size 17 S hS fp4 w4 hW4 z4 (by omega)).mono ?_; rintro e5 w5 ⟨rfl, fp5, hW5, k5, f5⟩; have c5 := c4.trans ((k5.below hW4.ge z4).mono b2.size); have z5 := Nat.le_trans z4 k5.size; clear q0 q1 q2 q3; obtain ⟨q0, q1, q2, q3⟩ := cells4 (w := w) ((c5.block _ (by simp)).trans (heap_alloc_new w _)))
      | (go_at_call 40; refine (text_w g w1.heap.size 25 t ht fp5 w5 hW5 z5 (by omega)).mono ?_; rintro e6 w6 ⟨rfl, fp6, hW6, k6, f6⟩; have c6 := c5.trans ((k6.below hW5.ge z5).mono b2.size))
      | (go_at_call 20; refine (out_w g w1.heap.size 1025 fp6 w6 hW6 (by omega)).mono ?_; rintro e7 w7 ⟨v7, rfl, b7⟩; have c7 := bt c6 b7))
    go_ret2
    exact ⟨_, rfl, bt (b1 _ _) c7⟩
theorem polright_any (e o s : Int) (t : List UInt8) (w : World) (ht : t.length ≤ 300) : Calls Try.prog 82 #[hdr e o s t] w fun E w' => E = .returned (.bool (rightH e o s t)) ∧ Below w.heap.size w w' := by
  have hR := fun w => putHeader_any e o s t w ht
  obtain ⟨R, hRR⟩ : ∃ R, R = rightH e o s t := ⟨_, rfl⟩
  rw [← hRR] at hR ⊢
  clear hRR
  unfold hdr at hR ⊢
  have HR := Lib.hid hR
  clear hR
  cases R with
  | false =>
    go_enter Try.func82, Try.ntmps82
    go_wp2_with (go_at_call 123; refine (HR.out _).mono ?_; rintro e1 w1 ⟨v1, rfl, b2⟩)
    go_ret
    exact ⟨rfl, bt (b1 _ _) b2⟩
  | true =>
    go_enter Try.func82, Try.ntmps82
    go_wp2_with (go_at_call 123; refine (HR.out _).mono ?_; rintro e1 w1 ⟨v1, rfl, b2⟩)
    go_ret
    exact ⟨rfl, bt (b1 _ _) b2⟩
end Go.Proofs.Ytdkcdojcglmlbaa.Pol
