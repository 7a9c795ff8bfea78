/- The small walks of the package sector, and of its reference. -/
import Derived.Test.YtdkcdojcglmlbaaMac1
import Derived.Test.YtdkcdojcglmlbaaNum
import Derived.Test.YtdkcdojcglmlbaaSecPlain
import Derived.Test.YtdkcdojcglmlbaaSlices
import Derived.Test.YtdkcdojcglmlbaaCrcRef
namespace Go.Proofs.Ytdkcdojcglmlbaa.Sec
open Go.RowKit
set_option linter.unusedVariables false
set_option maxRecDepth 100000

theorem info8 : (Try.prog.info? 5).map (fun i => (i.zero, i.size, i.bytes)) = some (some (.int .u8 0), 1, 1) := by kernel_rfl
/-- the cells of a sector -/
def xcells (x : X) (A : Option Addr) (c : Nat) : List Value := [.int .i64 x.kind, .int .u64 (x.life.toNat : Int), .int .i64 x.seq, .int .u64 (x.gen.toNat : Int), .slice A x.body.length c]
def xv (x : X) (A : Option Addr) (c : Nat) : Value := .agg #[.int .i64 x.kind, .int .u64 (x.life.toNat : Int), .int .i64 x.seq, .int .u64 (x.gen.toNat : Int), .slice A x.body.length c]
theorem none_any (g : Nat) (w : World) : Calls Try.prog 99 #[.pointer (some ⟨g, 0, none⟩)] w fun e w' => e = .returned (.bool false) ∧ w = w' := by
  go_enter Try.func99, Try.ntmps99
  go_wp2
  go_ret
  exact ⟨rfl, rfl⟩
theorem none_nil (w : World) : Calls Try.prog 99 #[.pointer none] w fun e w' => e = .returned (.bool true) ∧ w = w' := by
  go_enter Try.func99, Try.ntmps99
  go_wp2
  go_ret
  exact ⟨rfl, rfl⟩
def withinB (n l m : Int) : Bool := decide (l ≤ n) && decide (n ≤ m)
theorem within_any (n l m : Int) (w : World) : Calls Try.prog 128 #[.int .i64 n, .int .i64 l, .int .i64 m] w fun e w' => e = .returned (.bool (withinB n l m)) ∧ w = w' := by
  by_cases h : l ≤ n
  · have hr := Lib.hid (show withinB n l m = decide (n ≤ m) by simp [withinB, h])
    go_enter Try.func128, Try.ntmps128
    go_wp2
    go_ret
    exact ⟨ret_bool hr.out.symm, rfl⟩
  · have hr := Lib.hid (show withinB n l m = false by simp [withinB, h])
    go_enter Try.func128, Try.ntmps128
    go_wp2
    go_ret
    exact ⟨ret_bool hr.out.symm, rfl⟩
set_option maxHeartbeats 1000000 in
theorem right_any (p : Int) (x : X) (A : Option Addr) (c : Nat) (w : World) :
    Calls Try.prog 101 #[.int .i64 p, .agg #[.int .i64 x.kind, .int .u64 (x.life.toNat : Int), .int .i64 x.seq, .int .u64 (x.gen.toNat : Int), .slice A x.body.length c]] w fun e w' => e = .returned (.int .i64 (rightF p x)) ∧ Below w.heap.size w w' := by
  have hmf : ∀ w : World, Sem.run Try.prog (callFunc 128 #[]) w = .ok (.enter 128 #[]) w := by intro w; simp [go_sem]
  by_cases h1 : x.kind < 1 ∨ 5 < x.kind
  · have hr := Lib.hid (show rightF p x = 2 from right_2 (by omega))
    have hb := Lib.hid (show withinB x.kind 1 5 = false by unfold withinB; simp; omega)
    clear h1
    go_enter Try.func101, Try.ntmps101
    go_wp2_with (go_at_call 128; refine (within_any _ _ _ _).mono ?_; rintro e w1 ⟨rfl, rfl⟩; try rw [hb.out])
    go_ret
    exact ⟨ret_int hr.out.symm, below_lit _ _⟩
  have hb := Lib.hid (show withinB x.kind 1 5 = true by unfold withinB; simp; omega)
  by_cases h2 : p < 0 ∨ 1023 < p
  · have hr := Lib.hid (show rightF p x = 2 from right_2 (by omega))
    have hb2 := Lib.hid (show withinB p 0 1023 = false by unfold withinB; simp; omega)
    clear h1 h2
    go_enter Try.func101, Try.ntmps101
    go_wp2_with (go_at_call 128; refine (within_any _ _ _ _).mono ?_; rintro e w1 ⟨rfl, rfl⟩; first | rw [hb.out] | rw [hb2.out])
    go_ret
    exact ⟨ret_int hr.out.symm, below_lit _ _⟩
  have hb2 := Lib.hid (show withinB p 0 1023 = true by unfold withinB; simp; omega)
  by_cases h3 : x.seq < 0 ∨ 1073741824 < x.seq
  · have hr := Lib.hid (show rightF p x = 2 from right_2 (by omega))
    have hb3 := Lib.hid (show withinB x.seq 0 1073741824 = false by unfold withinB; simp; omega)
    clear h1 h2 h3
    go_enter Try.func101, Try.ntmps101
    go_wp2_with (go_at_call 128; refine (within_any _ _ _ _).mono ?_; rintro e w1 ⟨rfl, rfl⟩; first | rw [hb.out] | rw [hb2.out] | rw [hb3.out])
    go_ret
    exact ⟨ret_int hr.out.symm, below_lit _ _⟩
  have hb3 := Lib.hid (show withinB x.seq 0 1073741824 = true by unfold withinB; simp; omega)
  by_cases h4 : 479 < x.body.length
  · have hr := Lib.hid (show rightF p x = 6 from right_6 (by omega) h4)
    clear h1 h2 h3
    go_enter Try.func101, Try.ntmps101
    go_wp2_with (go_at_call 128; refine (within_any _ _ _ _).mono ?_; rintro e w1 ⟨rfl, rfl⟩; first | rw [hb.out] | rw [hb2.out] | rw [hb3.out])
    go_ret
    exact ⟨ret_int hr.out.symm, below_lit _ _⟩
  have hr := Lib.hid (show rightF p x = 0 from right_0 (by omega) h4)
  clear h1 h2 h3
  go_enter Try.func101, Try.ntmps101
  go_wp2_with (go_at_call 128; refine (within_any _ _ _ _).mono ?_; rintro e w1 ⟨rfl, rfl⟩; first | rw [hb.out] | rw [hb2.out] | rw [hb3.out])
  go_ret
  exact ⟨ret_int hr.out.symm, below_lit _ _⟩
set_option maxHeartbeats 1000000 in
theorem rright_any (p : Int) (x : X) (A : Option Addr) (c : Nat) (w : World) :
    Calls Try.prog 60 #[.int .i64 p, .agg #[.int .i64 x.kind, .int .u64 (x.life.toNat : Int), .int .i64 x.seq, .int .u64 (x.gen.toNat : Int), .slice A x.body.length c]] w fun e w' => e = .returned (.int .i64 (rightF p x)) ∧ Below w.heap.size w w' := by
  have two := fun h => Lib.hid (right_2 (p := p) (x := x) h)
  by_cases h1 : x.kind < 1
  · have hr := two (by omega)
    clear two
    go_enter Try.func60, Try.ntmps60
    go_wp2
    go_ret
    exact ⟨ret_int hr.out.symm, below_lit _ _⟩
  by_cases h2 : 5 < x.kind
  · have hr := two (by omega)
    clear two
    go_enter Try.func60, Try.ntmps60
    go_wp2
    go_ret
    exact ⟨ret_int hr.out.symm, below_lit _ _⟩
  by_cases h3 : p < 0
  · have hr := two (by omega)
    clear two
    go_enter Try.func60, Try.ntmps60
    go_wp2
    go_ret
    exact ⟨ret_int hr.out.symm, below_lit _ _⟩
  by_cases h4 : 1023 < p
  · have hr := two (by omega)
    clear two
    go_enter Try.func60, Try.ntmps60
    go_wp2
    go_ret
    exact ⟨ret_int hr.out.symm, below_lit _ _⟩
  by_cases h5 : x.seq < 0
  · have hr := two (by omega)
    clear two
    go_enter Try.func60, Try.ntmps60
    go_wp2
    go_ret
    exact ⟨ret_int hr.out.symm, below_lit _ _⟩
  by_cases h6 : 1073741824 < x.seq
  · have hr := two (by omega)
    clear two
    go_enter Try.func60, Try.ntmps60
    go_wp2
    go_ret
    exact ⟨ret_int hr.out.symm, below_lit _ _⟩
  clear two
  by_cases h7 : 479 < x.body.length
  · have hr := Lib.hid (right_6 (p := p) (x := x) (by omega) h7)
    go_enter Try.func60, Try.ntmps60
    go_wp2
    go_ret
    exact ⟨ret_int hr.out.symm, below_lit _ _⟩
  · have hr := Lib.hid (right_0 (p := p) (x := x) (by omega) h7)
    go_enter Try.func60, Try.ntmps60
    go_wp2
    go_ret
    exact ⟨ret_int hr.out.symm, below_lit _ _⟩
theorem nsame_any (A B : Option Addr) (l m : List UInt8) (n o c d : Nat) (w : World) (hn : n = l.length) (ho : o = m.length) (hr : Rd w w.heap.size A (l.map e8)) (hs : Rd w w.heap.size B (m.map e8)) :
    Calls Try.prog 102 #[.slice A n c, .slice B o d] w fun e w' => e = .returned (.bool (R1.sameB l m)) ∧ w = w' := by
  subst hn ho
  go_enter Try.func102, Try.ntmps102
  go_wp2_with (go_at_call 106; refine (Mac.equal_any _ _ _ _ _ _ _ _ _ rfl rfl hr hs).mono ?_; rintro e w' ⟨rfl, rfl⟩)
  go_ret
  exact ⟨rfl, rfl⟩
theorem blank_any (w : World) : Calls Try.prog 98 #[] w (RetB 5 w zero512) := by
  obtain ⟨i0, hi0, hz0, hz1, hz2⟩ := info_parts info8
  go_enter Try.func98, Try.ntmps98
  go_wp2_with ((with_reducible show wpList _ _ _ (⟨some 1, _, _, _, _, _⟩ :: _) _ _); refine wpList_make_full _ rfl _ _ _ rfl w.heap.size 5 i0 _ 1 Try.underlying26 hi0 hz0 hz1 _ _ _ _ 512 rfl rfl rfl rfl (by rw [hz2]; omega) (by simp only [maxLen]; omega) (Nat.le_refl _) ?_; intro w1 own1 hg1)
  rw [made_int] at own1
  go_ret
  exact RetB.mk own1 (by rw [zero512, List.map_replicate]; rfl) ((Below.refl _ _).grown hg1 (Nat.le_refl _) (by simp))
theorem isBlank_any (A : Option Addr) (l : List UInt8) (n c : Nat) (w : World) (hn : n = l.length) (hr : Rd w w.heap.size A (l.map e8)) :
    Calls Try.prog 47 #[.slice A n c] w fun e w' => e = .returned (.bool (blankB l)) ∧ Below w.heap.size w w' := by
  subst hn
  go_enter Try.func47, Try.ntmps47
  go_wp2_with fail
  refine (blank_any _).mono ?_
  rintro e w1 ⟨A1, c1, rfl, own1, b1⟩
  go_wp2_with fail
  refine (Mac.equal_any _ _ l zero512 _ _ _ _ _ rfl rfl (hr.on b1) (Rd.own own1)).mono ?_
  rintro e w2 ⟨rfl, rfl⟩
  go_wp2
  go_ret
  exact ⟨rfl, b1⟩
end Go.Proofs.Ytdkcdojcglmlbaa.Sec
