/- The small walks of the package sector, and of its reference. -/
import Derived.Test.YtkapamolligmkaaMac1
import Derived.Test.YtkapamolligmkaaNum
import Derived.Test.YtkapamolligmkaaSecPlain
import Derived.Test.YtkapamolligmkaaSlices
import Derived.Test.YtkapamolligmkaaCrcRef
namespace Go.Proofs.Ytkapamolligmkaa.Sec
open Go.RowKit
set_option linter.unusedVariables false
set_option maxRecDepth 100000

theorem info8 : (Try.prog.info? 5).map (fun i => (i.zero, i.size, i.bytes)) = some (some (.int .u8 0), 1, 1) := by kernel_rfl
/-- the cells of a sector -/
def xcells (x : X) (A : Option Addr) (c : Nat) : List Value := [.int .i64 x.kind, .int .u64 (x.life.toNat : Int), .int .i64 x.seq, .int .u64 (x.gen.toNat : Int), .slice A x.body.length c]
def xv (x : X) (A : Option Addr) (c : Nat) : Value := .agg #[.int .i64 x.kind, .int .u64 (x.life.toNat : Int), .int .i64 x.seq, .int .u64 (x.gen.toNat : Int), .slice A x.body.length c]
theorem none_any (g : Nat) (w : World) : Calls Try.prog 32 #[.pointer (some ⟨g, 0, none⟩)] w fun e w' => e = .returned (.bool false) ∧ w = w' := by
  go_enter Try.func32, Try.ntmps32
  go_wp2
  go_ret
  exact ⟨rfl, rfl⟩
theorem none_nil (w : World) : Calls Try.prog 32 #[.pointer none] w fun e w' => e = .returned (.bool true) ∧ w = w' := by
  go_enter Try.func32, Try.ntmps32
  go_wp2
  go_ret
  exact ⟨rfl, rfl⟩
def withinB (n l m : Int) : Bool := decide (l ≤ n) && decide (n ≤ m)
theorem within_any (n l m : Int) (w : World) : Calls Try.prog 51 #[.int .i64 n, .int .i64 l, .int .i64 m] w fun e w' => e = .returned (.bool (withinB n l m)) ∧ w = w' := by
  by_cases h : l ≤ n
  · have hr := Lib.hid (show withinB n l m = decide (n ≤ m) by simp [withinB, h])
    go_enter Try.func51, Try.ntmps51
    go_wp2
    go_ret
    exact ⟨ret_bool hr.out.symm, rfl⟩
  · have hr := Lib.hid (show withinB n l m = false by simp [withinB, h])
    go_enter Try.func51, Try.ntmps51
    go_wp2
    go_ret
    exact ⟨ret_bool hr.out.symm, rfl⟩
set_option maxHeartbeats 1000000 in
theorem right_any (p : Int) (x : X) (A : Option Addr) (c : Nat) (w : World) :
    Calls Try.prog 34 #[.int .i64 p, .agg #[.int .i64 x.kind, .int .u64 (x.life.toNat : Int), .int .i64 x.seq, .int .u64 (x.gen.toNat : Int), .slice A x.body.length c]] w fun e w' => e = .returned (.int .i64 (rightF p x)) ∧ Below w.heap.size w w' := by
  have hmf : ∀ w : World, Sem.run Try.prog (callFunc 51 #[]) w = .ok (.enter 51 #[]) w := by intro w; simp [go_sem]
  by_cases h1 : x.kind < 1 ∨ 5 < x.kind
  · have hr := Lib.hid (show rightF p x = 2 from right_2 (by omega))
    have hb := Lib.hid (show withinB x.kind 1 5 = false by unfold withinB; simp; omega)
    clear h1
    go_enter Try.func34, Try.ntmps34
    go_wp2_with (go_at_call 51; refine (within_any _ _ _ _).mono ?_; rintro e w1 ⟨rfl, rfl⟩; try rw [hb.out])
    go_ret
    exact ⟨ret_int hr.out.symm, below_lit _ _⟩
  have hb := Lib.hid (show withinB x.kind 1 5 = true by unfold withinB; simp; omega)
  by_cases h2 : p < 0 ∨ 1023 < p
  · have hr := Lib.hid (show rightF p x = 2 from right_2 (by omega))
    have hb2 := Lib.hid (show withinB p 0 1023 = false by unfold withinB; simp; omega)
    clear h1 h2
    go_enter Try.func34, Try.ntmps34
    go_wp2_with (go_at_call 51; refine (within_any _ _ _ _).mono ?_; rintro e w1 ⟨rfl, rfl⟩; first | rw [hb.out] | rw [hb2.out])
    go_ret
    exact ⟨ret_int hr.out.symm, below_lit _ _⟩
  have hb2 := Lib.hid (show withinB p 0 1023 = true by unfold withinB; simp; omega)
  by_cases h3 : x.seq < 0 ∨ 1073741824 < x.seq
  · have hr := Lib.hid (show rightF p x = 2 from right_2 (by omega))
    have hb3 := Lib.hid (show withinB x.seq 0 1073741824 = false by unfold withinB; simp; omega)
    clear h1 h2 h3
    go_enter Try.func34, Try.ntmps34
    go_wp2_with (go_at_call 51; refine (within_any _ _ _ _).mono ?_; rintro e w1 ⟨rfl, rfl⟩; first | rw [hb.out] | rw [hb2.out] | rw [hb3.out])
    go_ret
    exact ⟨ret_int hr.out.symm, below_lit _ _⟩
  have hb3 := Lib.hid (show withinB x.seq 0 1073741824 = true by unfold withinB; simp; omega)
  by_cases h4 : 479 < x.body.length
  · have hr := Lib.hid (show rightF p x = 6 from right_6 (by omega) h4)
    clear h1 h2 h3
    go_enter Try.func34, Try.ntmps34
    go_wp2_with (go_at_call 51; refine (within_any _ _ _ _).mono ?_; rintro e w1 ⟨rfl, rfl⟩; first | rw [hb.out] | rw [hb2.out] | rw [hb3.out])
    go_ret
    exact ⟨ret_int hr.out.symm, below_lit _ _⟩
  have hr := Lib.hid (show rightF p x = 0 from right_0 (by omega) h4)
  clear h1 h2 h3
  go_enter Try.func34, Try.ntmps34
  go_wp2_with (go_at_call 51; refine (within_any _ _ _ _).mono ?_; rintro e w1 ⟨rfl, rfl⟩; first | rw [hb.out] | rw [hb2.out] | rw [hb3.out])
  go_ret
  exact ⟨ret_int hr.out.symm, below_lit _ _⟩
theorem nsame_any (A B : Option Addr) (l m : List UInt8) (n o c d : Nat) (w : World) (hn : n = l.length) (ho : o = m.length) (hr : Rd w w.heap.size A (l.map e8)) (hs : Rd w w.heap.size B (m.map e8)) :
    Calls Try.prog 35 #[.slice A n c, .slice B o d] w fun e w' => e = .returned (.bool (R1.sameB l m)) ∧ w = w' := by
  subst hn ho
  go_enter Try.func35, Try.ntmps35
  go_wp2_with (go_at_call 48; refine (Mac.equal_any _ _ _ _ _ _ _ _ _ rfl rfl hr hs).mono ?_; rintro e w' ⟨rfl, rfl⟩)
  go_ret
  exact ⟨rfl, rfl⟩
theorem blank_any (w : World) : Calls Try.prog 30 #[] w (RetB 5 w zero512) := by
  obtain ⟨i0, hi0, hz0, hz1, hz2⟩ := info_parts info8
  go_enter Try.func30, Try.ntmps30
  go_wp2_with ((with_reducible show wpList _ _ _ (⟨some 1, _, _, _, _, _⟩ :: _) _ _); refine wpList_make_full _ rfl _ _ _ rfl w.heap.size 5 i0 _ 1 Try.underlying23 hi0 hz0 hz1 _ _ _ _ 512 rfl rfl rfl rfl (by rw [hz2]; omega) (by simp only [maxLen]; omega) (Nat.le_refl _) ?_; intro w1 own1 hg1)
  rw [made_int] at own1
  go_ret
  exact RetB.mk own1 (by rw [zero512, List.map_replicate]; rfl) ((Below.refl _ _).grown hg1 (Nat.le_refl _) (by simp))
theorem isBlank_any (A : Option Addr) (l : List UInt8) (n c : Nat) (w : World) (hn : n = l.length) (hr : Rd w w.heap.size A (l.map e8)) :
    Calls Try.prog 31 #[.slice A n c] w fun e w' => e = .returned (.bool (blankB l)) ∧ Below w.heap.size w w' := by
  subst hn
  go_enter Try.func31, Try.ntmps31
  go_wp2_with fail
  refine (blank_any _).mono ?_
  rintro e w1 ⟨A1, c1, rfl, own1, b1⟩
  go_wp2_with fail
  refine (Mac.equal_any _ _ l zero512 _ _ _ _ _ rfl rfl (hr.on b1) (Rd.own own1)).mono ?_
  rintro e w2 ⟨rfl, rfl⟩
  go_wp2
  go_ret
  exact ⟨rfl, b1⟩
end Go.Proofs.Ytkapamolligmkaa.Sec
