/- The walk of gf.Box: the table is what the document says. -/
import Derived.Test.YteecbjpnnklbpaaGf
namespace Go.Proofs.Yteecbjpnnklbpaa.Gf
open Go.RowKit
set_option linter.unusedVariables false
def table : Array Nat := #[99, 124, 119, 123, 242, 107, 111, 197, 48, 1, 103, 43, 254, 215, 171, 118, 202, 130, 201, 125, 250, 89, 71, 240, 173, 212, 162, 175, 156, 164, 114, 192, 183, 253, 147, 38, 54, 63, 247, 204, 52, 165, 229, 241, 113, 216, 49, 21, 4, 199, 35, 195, 24, 150, 5, 154, 7, 18, 128, 226, 235, 39, 178, 117, 9, 131, 44, 26, 27, 110, 90, 160, 82, 59, 214, 179, 41, 227, 47, 132, 83, 209, 0, 237, 32, 252, 177, 91, 106, 203, 190, 57, 74, 76, 88, 207, 208, 239, 170, 251, 67, 77, 51, 133, 69, 249, 2, 127, 80, 60, 159, 168, 81, 163, 64, 143, 146, 157, 56, 245, 188, 182, 218, 33, 16, 255, 243, 210, 205, 12, 19, 236, 95, 151, 68, 23, 196, 167, 126, 61, 100, 93, 25, 115, 96, 129, 79, 220, 34, 42, 144, 136, 70, 238, 184, 20, 222, 94, 11, 219, 224, 50, 58, 10, 73, 6, 36, 92, 194, 211, 172, 98, 145, 149, 228, 121, 231, 200, 55, 109, 141, 213, 78, 169, 108, 86, 244, 234, 101, 122, 174, 8, 186, 120, 37, 46, 28, 166, 180, 198, 232, 221, 116, 31, 75, 189, 139, 138, 112, 62, 181, 102, 72, 3, 246, 14, 97, 53, 87, 185, 134, 193, 29, 158, 225, 248, 152, 17, 105, 217, 142, 148, 155, 30, 135, 233, 206, 85, 40, 223, 140, 161, 137, 13, 191, 230, 66, 104, 65, 153, 45, 15, 176, 84, 187, 22]
theorem table_box : ∀ n : Fin 256, table.getD n.val 0 = (box (UInt8.ofNat n)).toNat := by decide +kernel
theorem table_at (a : UInt8) : (table.map fun (n : Nat) => Value.int .u8 (n : Int))[a.toNat]? = some (.int .u8 ((box a).toNat : Int)) := by
  have h := table_box ⟨a.toNat, a.toNat_lt⟩
  have hs : table.size = 256 := by decide +kernel
  rw [show UInt8.ofNat (⟨a.toNat, a.toNat_lt⟩ : Fin 256) = a from UInt8.toNat_inj.1 (by simp)] at h
  have hlt : a.toNat < table.size := by rw [hs]; exact a.toNat_lt
  rw [Array.getElem?_map, Array.getElem?_eq_getElem hlt]
  simp only [Option.map_some]
  rw [← h]
  simp [Array.getD, hlt]
/-- the whole table as one value -/
def tabV : Value := .agg (table.map fun (n : Nat) => Value.int .u8 (n : Int))
theorem wpList_build {P : Program} {w : World} {ops : Array Oper} {rest : List Oper} {o : Oper} {a : Act} {Q : Exit → Act → World → Prop} (hg : o.guard = none) (t : TypeId) (parts : Array (Nat × Operand)) (ho : o.op = .build t parts) (v : Value)
    (hrun : ∀ (a : Act) (w : World), (execOp a.eval o).run P w = .ok (.value v) w) (h : wpList P ops Q rest (a.put o.dst v) w) : wpList P ops Q (o :: rest) a w := by
  refine wpList_plain hg fun K hK => ?_
  unfold Oper.wp
  rw [hrun a w]
  exact hK _ _ h
set_option maxRecDepth 100000 in
set_option maxHeartbeats 800000 in
theorem box_any (a : UInt8) (m : Int) (hm : m = (a.toNat : Int)) (w : World) : Calls Try.prog 33 #[.int .u8 m] w fun e w' => e = .returned (.int .u8 ((box a).toNat : Int)) ∧ w = w' := by
  subst hm
  have hix : ∀ w, (Instr.index 62 tabV (.int .u8 (a.toNat : Int))).run Try.prog w = .ok (.int .u8 ((box a).toNat : Int)) w := fun w => run_index_ints (P := Try.prog) (t := 62) (n := 256) (k := .u8) Try.underlying62 Try.underlying5 (by kernel_rfl) a.toNat_lt (table_at a) w
  go_enter Try.func33, Try.ntmps33
  go_wp2_with (refine wpList_build rfl _ _ rfl tabV (fun a w => ?_) ?_; kernel_rfl)
  go_ret
  exact ⟨rfl, rfl⟩
end Go.Proofs.Yteecbjpnnklbpaa.Gf
