/- The walks of the package sha, and of the reference's sums: the turns of a word. -/
import Derived.Test.YtggldbadefbdaaaDoorArr
import Derived.Test.YtggldbadefbdaaaDoorShaPlain
import Derived.Test.YtggldbadefbdaaaDoorNum
import Derived.Test.YtggldbadefbdaaaDoorRef01
import Derived.Outline
import Derived.Deep.QuietTactic
import Derived.BigQuiet
namespace Go.Proofs.YtggldbadefbdaaaDoor.Sha
open Go.RowKit
set_option linter.unusedVariables false
set_option maxRecDepth 100000

/-- a word as a cell's number, closed to simp -/
def c32 (x : UInt32) : Int := (x.toNat : Int)
abbrev e32 (x : UInt32) : Value := .int .u32 (c32 x)
theorem c32_lo (x : UInt32) : 0 ≤ c32 x := by unfold c32; omega
theorem c32_hi (x : UInt32) : c32 x ≤ 4294967295 := by unfold c32; have := x.toNat_lt; omega
theorem c32_xor (a b : UInt32) : bits .xor .u32 (c32 a) (c32 b) = c32 (a ^^^ b) := xor32 a b
theorem c32_and (a b : UInt32) : bits .and .u32 (c32 a) (c32 b) = c32 (a &&& b) := and32 a b
theorem c32_or (a b : UInt32) : bits .or .u32 (c32 a) (c32 b) = c32 (a ||| b) := or32 a b
theorem c32_add (a b : UInt32) : IntKind.u32.wrap (c32 a + c32 b) = c32 (a + b) := by
  unfold c32; rw [IntKind.wrap_u32, UInt32.toNat_add]; omega
theorem c32_add' (a b : UInt32) : (c32 a + c32 b) % 4294967296 = c32 (a + b) := by
  unfold c32; rw [UInt32.toNat_add]; omega
attribute [local go_sem] c32_xor c32_and c32_or c32_add c32_add'
theorem c32_shl (x : UInt32) (n : Nat) (h : n < 32) : (c32 x * (2 ^ n : Nat)) % 4294967296 = c32 (x <<< UInt32.ofNat n) := by
  unfold c32
  rw [UInt32.toNat_shiftLeft]
  simp [Nat.mod_eq_of_lt (show n < 4294967296 by omega), Nat.mod_eq_of_lt h, Nat.shiftLeft_eq]
theorem c32_shr (x : UInt32) (n : Nat) (h : n < 32) : c32 x / (2 ^ n : Nat) = c32 (x >>> UInt32.ofNat n) := by
  unfold c32
  rw [UInt32.toNat_shiftRight]
  simp [Nat.mod_eq_of_lt (show n < 4294967296 by omega), Nat.mod_eq_of_lt h, Nat.shiftRight_eq_div_pow]
theorem or_rot (x : UInt32) (n : Nat) (a b : Int) (h0 : 0 < n) (h : n < 32) (ha : a = (2 ^ (32 - n) : Nat)) (hb : b = (2 ^ n : Nat)) : bits .or .u32 (c32 x * a % 4294967296) (c32 x / b) = c32 (rot x n) := by
  subst ha hb; rw [c32_shl x (32 - n) (by omega), c32_shr x n h, c32_or]; rfl
theorem or_rot' (x : UInt32) (n : Nat) (a b : Int) (h0 : 0 < n) (h : n < 32) (ha : a = (2 ^ (32 - n) : Nat)) (hb : b = (2 ^ n : Nat)) : bits .or .u32 (c32 x / b) (c32 x * a % 4294967296) = c32 (rot x n) := by
  subst ha hb; rw [c32_shl x (32 - n) (by omega), c32_shr x n h, c32_or]; rw [UInt32.or_comm]; rfl
def turns : List Int := [2, 6, 7, 11, 13, 17, 18, 19, 22, 25]
set_option maxHeartbeats 400000 in
theorem right_2 (x : UInt32) (w : World) : Calls Tryd.prog 51 #[.int .u32 (c32 x), .int .i64 2] w fun e w' => e = .returned (.int .u32 (c32 (rot x 2))) ∧ w = w' := by
  have b0 := c32_lo x
  have b1 := c32_hi x
  have s1 : bits .and .u64 (IntKind.u64.wrap (-2)) 31 = 30 := by decide
  have hr := Lib.hid (or_rot x 2 1073741824 4 (by omega) (by omega) (by rfl) (by rfl))
  go_enter Tryd.func51, Tryd.ntmps51
  go_wp2
  go_ret
  exact ⟨ret_int hr.out, rfl⟩
set_option maxHeartbeats 400000 in
theorem right_6 (x : UInt32) (w : World) : Calls Tryd.prog 51 #[.int .u32 (c32 x), .int .i64 6] w fun e w' => e = .returned (.int .u32 (c32 (rot x 6))) ∧ w = w' := by
  have b0 := c32_lo x
  have b1 := c32_hi x
  have s1 : bits .and .u64 (IntKind.u64.wrap (-6)) 31 = 26 := by decide
  have hr := Lib.hid (or_rot x 6 67108864 64 (by omega) (by omega) (by rfl) (by rfl))
  go_enter Tryd.func51, Tryd.ntmps51
  go_wp2
  go_ret
  exact ⟨ret_int hr.out, rfl⟩
set_option maxHeartbeats 400000 in
theorem right_7 (x : UInt32) (w : World) : Calls Tryd.prog 51 #[.int .u32 (c32 x), .int .i64 7] w fun e w' => e = .returned (.int .u32 (c32 (rot x 7))) ∧ w = w' := by
  have b0 := c32_lo x
  have b1 := c32_hi x
  have s1 : bits .and .u64 (IntKind.u64.wrap (-7)) 31 = 25 := by decide
  have hr := Lib.hid (or_rot x 7 33554432 128 (by omega) (by omega) (by rfl) (by rfl))
  go_enter Tryd.func51, Tryd.ntmps51
  go_wp2
  go_ret
  exact ⟨ret_int hr.out, rfl⟩
set_option maxHeartbeats 400000 in
theorem right_11 (x : UInt32) (w : World) : Calls Tryd.prog 51 #[.int .u32 (c32 x), .int .i64 11] w fun e w' => e = .returned (.int .u32 (c32 (rot x 11))) ∧ w = w' := by
  have b0 := c32_lo x
  have b1 := c32_hi x
  have s1 : bits .and .u64 (IntKind.u64.wrap (-11)) 31 = 21 := by decide
  have hr := Lib.hid (or_rot x 11 2097152 2048 (by omega) (by omega) (by rfl) (by rfl))
  go_enter Tryd.func51, Tryd.ntmps51
  go_wp2
  go_ret
  exact ⟨ret_int hr.out, rfl⟩
set_option maxHeartbeats 400000 in
theorem right_13 (x : UInt32) (w : World) : Calls Tryd.prog 51 #[.int .u32 (c32 x), .int .i64 13] w fun e w' => e = .returned (.int .u32 (c32 (rot x 13))) ∧ w = w' := by
  have b0 := c32_lo x
  have b1 := c32_hi x
  have s1 : bits .and .u64 (IntKind.u64.wrap (-13)) 31 = 19 := by decide
  have hr := Lib.hid (or_rot x 13 524288 8192 (by omega) (by omega) (by rfl) (by rfl))
  go_enter Tryd.func51, Tryd.ntmps51
  go_wp2
  go_ret
  exact ⟨ret_int hr.out, rfl⟩
set_option maxHeartbeats 400000 in
theorem right_17 (x : UInt32) (w : World) : Calls Tryd.prog 51 #[.int .u32 (c32 x), .int .i64 17] w fun e w' => e = .returned (.int .u32 (c32 (rot x 17))) ∧ w = w' := by
  have b0 := c32_lo x
  have b1 := c32_hi x
  have s1 : bits .and .u64 (IntKind.u64.wrap (-17)) 31 = 15 := by decide
  have hr := Lib.hid (or_rot x 17 32768 131072 (by omega) (by omega) (by rfl) (by rfl))
  go_enter Tryd.func51, Tryd.ntmps51
  go_wp2
  go_ret
  exact ⟨ret_int hr.out, rfl⟩
set_option maxHeartbeats 400000 in
theorem right_18 (x : UInt32) (w : World) : Calls Tryd.prog 51 #[.int .u32 (c32 x), .int .i64 18] w fun e w' => e = .returned (.int .u32 (c32 (rot x 18))) ∧ w = w' := by
  have b0 := c32_lo x
  have b1 := c32_hi x
  have s1 : bits .and .u64 (IntKind.u64.wrap (-18)) 31 = 14 := by decide
  have hr := Lib.hid (or_rot x 18 16384 262144 (by omega) (by omega) (by rfl) (by rfl))
  go_enter Tryd.func51, Tryd.ntmps51
  go_wp2
  go_ret
  exact ⟨ret_int hr.out, rfl⟩
set_option maxHeartbeats 400000 in
theorem right_19 (x : UInt32) (w : World) : Calls Tryd.prog 51 #[.int .u32 (c32 x), .int .i64 19] w fun e w' => e = .returned (.int .u32 (c32 (rot x 19))) ∧ w = w' := by
  have b0 := c32_lo x
  have b1 := c32_hi x
  have s1 : bits .and .u64 (IntKind.u64.wrap (-19)) 31 = 13 := by decide
  have hr := Lib.hid (or_rot x 19 8192 524288 (by omega) (by omega) (by rfl) (by rfl))
  go_enter Tryd.func51, Tryd.ntmps51
  go_wp2
  go_ret
  exact ⟨ret_int hr.out, rfl⟩
set_option maxHeartbeats 400000 in
theorem right_22 (x : UInt32) (w : World) : Calls Tryd.prog 51 #[.int .u32 (c32 x), .int .i64 22] w fun e w' => e = .returned (.int .u32 (c32 (rot x 22))) ∧ w = w' := by
  have b0 := c32_lo x
  have b1 := c32_hi x
  have s1 : bits .and .u64 (IntKind.u64.wrap (-22)) 31 = 10 := by decide
  have hr := Lib.hid (or_rot x 22 1024 4194304 (by omega) (by omega) (by rfl) (by rfl))
  go_enter Tryd.func51, Tryd.ntmps51
  go_wp2
  go_ret
  exact ⟨ret_int hr.out, rfl⟩
set_option maxHeartbeats 400000 in
theorem right_25 (x : UInt32) (w : World) : Calls Tryd.prog 51 #[.int .u32 (c32 x), .int .i64 25] w fun e w' => e = .returned (.int .u32 (c32 (rot x 25))) ∧ w = w' := by
  have b0 := c32_lo x
  have b1 := c32_hi x
  have s1 : bits .and .u64 (IntKind.u64.wrap (-25)) 31 = 7 := by decide
  have hr := Lib.hid (or_rot x 25 128 33554432 (by omega) (by omega) (by rfl) (by rfl))
  go_enter Tryd.func51, Tryd.ntmps51
  go_wp2
  go_ret
  exact ⟨ret_int hr.out, rfl⟩
theorem right_any (x : UInt32) (m : Int) (hm : m ∈ turns) (w : World) : Calls Tryd.prog 51 #[.int .u32 (c32 x), .int .i64 m] w fun e w' => e = .returned (.int .u32 (c32 (rot x m.toNat))) ∧ w = w' := by
  simp only [turns, List.mem_cons, List.not_mem_nil, or_false] at hm
  rcases hm with rfl | rfl | rfl | rfl | rfl | rfl | rfl | rfl | rfl | rfl
  · exact right_2 x w
  · exact right_6 x w
  · exact right_7 x w
  · exact right_11 x w
  · exact right_13 x w
  · exact right_17 x w
  · exact right_18 x w
  · exact right_19 x w
  · exact right_22 x w
  · exact right_25 x w
set_option maxHeartbeats 400000 in
theorem low_any (x : UInt32) (w : World) : Calls Tryd.prog 50 #[.int .u32 (c32 x)] w fun e w' => e = .returned (.int .u32 (c32 (low x))) ∧ w = w' := by
  have b0 := c32_lo x
  have b1 := c32_hi x
  have h3 := Lib.hid (show c32 x / (8 : Int) = c32 (x >>> 3) by exact c32_shr x 3 (by omega))
  go_enter Tryd.func50, Tryd.ntmps50
  go_wp2_with (go_at_call 51; refine (right_any _ _ (by decide) _).mono ?_; rintro e w' ⟨rfl, rfl⟩)
  go_ret
  exact ⟨ret_int (by rw [h3.out, c32_xor]; rfl), rfl⟩
set_option maxHeartbeats 400000 in
theorem high_any (x : UInt32) (w : World) : Calls Tryd.prog 52 #[.int .u32 (c32 x)] w fun e w' => e = .returned (.int .u32 (c32 (high x))) ∧ w = w' := by
  have b0 := c32_lo x
  have b1 := c32_hi x
  have h3 := Lib.hid (show c32 x / (1024 : Int) = c32 (x >>> 10) by exact c32_shr x 10 (by omega))
  go_enter Tryd.func52, Tryd.ntmps52
  go_wp2_with (go_at_call 51; refine (right_any _ _ (by decide) _).mono ?_; rintro e w' ⟨rfl, rfl⟩)
  go_ret
  exact ⟨ret_int (by rw [h3.out, c32_xor]; rfl), rfl⟩
set_option maxHeartbeats 400000 in
theorem rright_2 (x : UInt32) (w : World) : Calls Tryd.prog 55 #[.int .u32 (c32 x), .int .i64 2] w fun e w' => e = .returned (.int .u32 (c32 (rot x 2))) ∧ Below w.heap.size w w' := by
  have b0 := c32_lo x
  have b1 := c32_hi x
  have hr := Lib.hid (or_rot' x 2 1073741824 4 (by omega) (by omega) (by rfl) (by rfl))
  go_enter Tryd.func55, Tryd.ntmps55
  go_wp2
  go_quiet (fail)
  go_wp2
  go_ret
  exact ⟨ret_int hr.out, bdrew (Below.refl _ _) _⟩
set_option maxHeartbeats 400000 in
theorem rright_6 (x : UInt32) (w : World) : Calls Tryd.prog 55 #[.int .u32 (c32 x), .int .i64 6] w fun e w' => e = .returned (.int .u32 (c32 (rot x 6))) ∧ Below w.heap.size w w' := by
  have b0 := c32_lo x
  have b1 := c32_hi x
  have hr := Lib.hid (or_rot' x 6 67108864 64 (by omega) (by omega) (by rfl) (by rfl))
  go_enter Tryd.func55, Tryd.ntmps55
  go_wp2
  go_quiet (fail)
  go_wp2
  go_ret
  exact ⟨ret_int hr.out, bdrew (Below.refl _ _) _⟩
set_option maxHeartbeats 400000 in
theorem rright_7 (x : UInt32) (w : World) : Calls Tryd.prog 55 #[.int .u32 (c32 x), .int .i64 7] w fun e w' => e = .returned (.int .u32 (c32 (rot x 7))) ∧ Below w.heap.size w w' := by
  have b0 := c32_lo x
  have b1 := c32_hi x
  have hr := Lib.hid (or_rot' x 7 33554432 128 (by omega) (by omega) (by rfl) (by rfl))
  go_enter Tryd.func55, Tryd.ntmps55
  go_wp2
  go_quiet (fail)
  go_wp2
  go_ret
  exact ⟨ret_int hr.out, bdrew (Below.refl _ _) _⟩
set_option maxHeartbeats 400000 in
theorem rright_11 (x : UInt32) (w : World) : Calls Tryd.prog 55 #[.int .u32 (c32 x), .int .i64 11] w fun e w' => e = .returned (.int .u32 (c32 (rot x 11))) ∧ Below w.heap.size w w' := by
  have b0 := c32_lo x
  have b1 := c32_hi x
  have hr := Lib.hid (or_rot' x 11 2097152 2048 (by omega) (by omega) (by rfl) (by rfl))
  go_enter Tryd.func55, Tryd.ntmps55
  go_wp2
  go_quiet (fail)
  go_wp2
  go_ret
  exact ⟨ret_int hr.out, bdrew (Below.refl _ _) _⟩
set_option maxHeartbeats 400000 in
theorem rright_13 (x : UInt32) (w : World) : Calls Tryd.prog 55 #[.int .u32 (c32 x), .int .i64 13] w fun e w' => e = .returned (.int .u32 (c32 (rot x 13))) ∧ Below w.heap.size w w' := by
  have b0 := c32_lo x
  have b1 := c32_hi x
  have hr := Lib.hid (or_rot' x 13 524288 8192 (by omega) (by omega) (by rfl) (by rfl))
  go_enter Tryd.func55, Tryd.ntmps55
  go_wp2
  go_quiet (fail)
  go_wp2
  go_ret
  exact ⟨ret_int hr.out, bdrew (Below.refl _ _) _⟩
set_option maxHeartbeats 400000 in
theorem rright_17 (x : UInt32) (w : World) : Calls Tryd.prog 55 #[.int .u32 (c32 x), .int .i64 17] w fun e w' => e = .returned (.int .u32 (c32 (rot x 17))) ∧ Below w.heap.size w w' := by
  have b0 := c32_lo x
  have b1 := c32_hi x
  have hr := Lib.hid (or_rot' x 17 32768 131072 (by omega) (by omega) (by rfl) (by rfl))
  go_enter Tryd.func55, Tryd.ntmps55
  go_wp2
  go_quiet (fail)
  go_wp2
  go_ret
  exact ⟨ret_int hr.out, bdrew (Below.refl _ _) _⟩
set_option maxHeartbeats 400000 in
theorem rright_18 (x : UInt32) (w : World) : Calls Tryd.prog 55 #[.int .u32 (c32 x), .int .i64 18] w fun e w' => e = .returned (.int .u32 (c32 (rot x 18))) ∧ Below w.heap.size w w' := by
  have b0 := c32_lo x
  have b1 := c32_hi x
  have hr := Lib.hid (or_rot' x 18 16384 262144 (by omega) (by omega) (by rfl) (by rfl))
  go_enter Tryd.func55, Tryd.ntmps55
  go_wp2
  go_quiet (fail)
  go_wp2
  go_ret
  exact ⟨ret_int hr.out, bdrew (Below.refl _ _) _⟩
set_option maxHeartbeats 400000 in
theorem rright_19 (x : UInt32) (w : World) : Calls Tryd.prog 55 #[.int .u32 (c32 x), .int .i64 19] w fun e w' => e = .returned (.int .u32 (c32 (rot x 19))) ∧ Below w.heap.size w w' := by
  have b0 := c32_lo x
  have b1 := c32_hi x
  have hr := Lib.hid (or_rot' x 19 8192 524288 (by omega) (by omega) (by rfl) (by rfl))
  go_enter Tryd.func55, Tryd.ntmps55
  go_wp2
  go_quiet (fail)
  go_wp2
  go_ret
  exact ⟨ret_int hr.out, bdrew (Below.refl _ _) _⟩
set_option maxHeartbeats 400000 in
theorem rright_22 (x : UInt32) (w : World) : Calls Tryd.prog 55 #[.int .u32 (c32 x), .int .i64 22] w fun e w' => e = .returned (.int .u32 (c32 (rot x 22))) ∧ Below w.heap.size w w' := by
  have b0 := c32_lo x
  have b1 := c32_hi x
  have hr := Lib.hid (or_rot' x 22 1024 4194304 (by omega) (by omega) (by rfl) (by rfl))
  go_enter Tryd.func55, Tryd.ntmps55
  go_wp2
  go_quiet (fail)
  go_wp2
  go_ret
  exact ⟨ret_int hr.out, bdrew (Below.refl _ _) _⟩
set_option maxHeartbeats 400000 in
theorem rright_25 (x : UInt32) (w : World) : Calls Tryd.prog 55 #[.int .u32 (c32 x), .int .i64 25] w fun e w' => e = .returned (.int .u32 (c32 (rot x 25))) ∧ Below w.heap.size w w' := by
  have b0 := c32_lo x
  have b1 := c32_hi x
  have hr := Lib.hid (or_rot' x 25 128 33554432 (by omega) (by omega) (by rfl) (by rfl))
  go_enter Tryd.func55, Tryd.ntmps55
  go_wp2
  go_quiet (fail)
  go_wp2
  go_ret
  exact ⟨ret_int hr.out, bdrew (Below.refl _ _) _⟩
theorem rright_any (x : UInt32) (m : Int) (hm : m ∈ turns) (w : World) : Calls Tryd.prog 55 #[.int .u32 (c32 x), .int .i64 m] w fun e w' => e = .returned (.int .u32 (c32 (rot x m.toNat))) ∧ Below w.heap.size w w' := by
  simp only [turns, List.mem_cons, List.not_mem_nil, or_false] at hm
  rcases hm with rfl | rfl | rfl | rfl | rfl | rfl | rfl | rfl | rfl | rfl
  · exact rright_2 x w
  · exact rright_6 x w
  · exact rright_7 x w
  · exact rright_11 x w
  · exact rright_13 x w
  · exact rright_17 x w
  · exact rright_18 x w
  · exact rright_19 x w
  · exact rright_22 x w
  · exact rright_25 x w
end Go.Proofs.YtggldbadefbdaaaDoor.Sha
