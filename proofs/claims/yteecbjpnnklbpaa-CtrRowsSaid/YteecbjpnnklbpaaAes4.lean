/- The walks of aes.column and Mix. -/
import Derived.Test.YteecbjpnnklbpaaAes3
import Derived.Test.YteecbjpnnklbpaaAesKeyPlain
import Derived.Deep.MidRow
namespace Go.Proofs.Yteecbjpnnklbpaa.Aes
open Go.RowKit
open Go.Proofs.Yteecbjpnnklbpaa.Gf
set_option linter.unusedVariables false
set_option maxRecDepth 100000

theorem size4 : (Try.prog.info? 51).map (·.size) = some 4 := by kernel_rfl
theorem size8 : (Try.prog.info? 5).map (·.size) = some 1 := by kernel_rfl
theorem zeroV4 (w : World) : (zeroValue 51).run Try.prog w = .ok (arrV (vb [0, 0, 0, 0])) w := by kernel_rfl
theorem run_arrayAt4 (w : World) (a : Addr) (c : Nat) : (Instr.arrayAt 51 (.slice (some a) 4 c)).run Try.prog w = .ok (.pointer (some a)) w := by
  simp [Instr.arrayAt, run_underlying Try.underlying51, go_sem]
set_option maxHeartbeats 400000 in
theorem column_any (g o c : Nat) (x : Col) (w : World) (hr : w.rangeAt g o (vb (colL x))) :
    Calls Try.prog 35 #[.slice (some ⟨g, o, none⟩) 4 c] w fun e w' => ∃ A, e = .returned (.slice (some A) 4 4) ∧ Rd w' w'.heap.size (some A) (vb (colL (mix x))) ∧ Below w.heap.size w w' := by
  have hat := run_arrayAt4 w ⟨g, o, none⟩ c
  have hcol : ∀ w, Calls Try.prog 47 #[arrV (vb (colL x))] w fun e w' => e = .returned (arrV (vb (colL (mix x)))) ∧ Below w.heap.size w w' := Gf.column_any x
  have Hcol := Lib.hid hcol
  clear hcol
  go_enter Try.func35, Try.ntmps35
  go_wp2_with (first
    | ((with_reducible show wpList _ _ _ (⟨some 6, _, _, _, _, _⟩ :: _) _ _); refine wpList_load_mid rfl _ _ rfl g o rfl (vb (colL x)) _ hr Try.underlying51 rfl size4 ?_)
    | fail)
  refine (Hcol.out w).mono ?_
  rintro e w1 ⟨rfl, b1⟩
  go_wp2_with (first
    | (refine wpList_allocN rfl _ rfl (vb [0, 0, 0, 0]) zeroV4 ?_; intro w2 hb2 bw2 hs2; have bt2 := bt b1 bw2)
    | (refine wpList_storeN rfl _ _ _ rfl rfl (ys := vb (colL (mix x))) rfl hb2 rfl (vb_one _) size4 ?_; intro w3 hb3 hg3)
    | fail)
  go_ret
  exact ⟨_, rfl, hb3.rd, below_row bt2 hg3 b1.size bt2.size⟩
end Go.Proofs.Yteecbjpnnklbpaa.Aes
