/- The library's contracts, laid at this program: the decoder of a text's first rune; may a rune be. -/
import Derived.Test.YtcagglcmikgdfaaDoorRows
import Derived.Test.YtcagglcmikgdfaaDoorUtfPlain
import Derived.Test.YtcagglcmikgdfaaDoorUtf3
import Derived.Shelf.Unicode.DecodeAny
import Derived.Shelf.Small.Utf8
namespace Go.Proofs.YtcagglcmikgdfaaDoor.Utf
open Go.RowKit Go.Shelf
set_option linter.unusedVariables false
def laysDec_ren : Go.Shelf.Ren := ⟨fun | 197 => 22 | 260 => 31 | n => n, fun | 9 => 9 | 21 => 21 | 3 => 3 | 4 => 4 | 5 => 5 | 105 => 37 | 119 => 54 | 0 => 0 | 46 => 58 | 139 => 57 | 138 => 56 | n => n, fun | 3 => 0 | 4 => 1 | n => n⟩
theorem laysDec : Go.Proofs.Lays.n197 Tryd.prog laysDec_ren := {
  mixed := by kernel_rfl,
  f197 := Tryd.func22.trans (congrArg some (by kernel_rfl)),
  f260 := Tryd.func31.trans (congrArg some (by kernel_rfl)),
  t0 := Tryd.underlying0,
  a0 := Tryd.isAgg0,
  z0 := Tryd.sizeOf0,
  v0 := Tryd.zeroValue0,
  t3 := Tryd.underlying3,
  a3 := Tryd.isAgg3,
  z3 := Tryd.sizeOf3,
  v3 := Tryd.zeroValue3,
  t4 := Tryd.underlying4,
  a4 := Tryd.isAgg4,
  z4 := Tryd.sizeOf4,
  v4 := Tryd.zeroValue4,
  t5 := Tryd.underlying5,
  a5 := Tryd.isAgg5,
  z5 := Tryd.sizeOf5,
  v5 := Tryd.zeroValue5,
  t9 := Tryd.underlying9,
  a9 := Tryd.isAgg9,
  z9 := Tryd.sizeOf9,
  v9 := Tryd.zeroValue9,
  t21 := Tryd.underlying21,
  a21 := Tryd.isAgg21,
  z21 := Tryd.sizeOf21,
  v21 := Tryd.zeroValue21,
  t46 := Tryd.underlying58,
  a46 := Tryd.isAgg58,
  z46 := Tryd.sizeOf58,
  v46 := Tryd.zeroValue58,
  t105 := Tryd.underlying37,
  a105 := Tryd.isAgg37,
  z105 := Tryd.sizeOf37,
  v105 := Tryd.zeroValue37,
  t119 := Tryd.underlying54,
  a119 := Tryd.isAgg54,
  z119 := Tryd.sizeOf54,
  t138 := Tryd.underlying56,
  a138 := Tryd.isAgg56,
  z138 := Tryd.sizeOf56,
  v138 := Tryd.zeroValue56,
  t139 := Tryd.underlying57,
  a139 := Tryd.isAgg57,
  z139 := Tryd.sizeOf57,
  v139 := Tryd.zeroValue57,
  g3 := by kernel_rfl,
  g4 := by kernel_rfl }
def laysVR_ren : Go.Shelf.Ren := ⟨fun | 119 => 24 | n => n, fun | 21 => 21 | 4 => 4 | n => n, fun | n => n⟩
theorem laysVR : Go.Proofs.Lays.n119 Tryd.prog laysVR_ren := {
  mixed := by kernel_rfl,
  f119 := Tryd.func24.trans (congrArg some (by kernel_rfl)),
  t4 := Tryd.underlying4,
  a4 := Tryd.isAgg4,
  z4 := Tryd.sizeOf4,
  v4 := Tryd.zeroValue4,
  t21 := Tryd.underlying21,
  a21 := Tryd.isAgg21,
  z21 := Tryd.sizeOf21,
  v21 := Tryd.zeroValue21 }
/-- the library's tables of first bytes lie in memory -/
def Tabs (w : World) : Prop := Lib.Utf8Tabs 0 1 w
theorem Tabs.on {w w' : World} (h : Tabs w) (b : Below w.heap.size w w') : Tabs w' := by
  have l1 := block_lt_of_cell (h.1 0 (by omega))
  have l2 := block_lt_of_cell (h.2 0 (by omega)).1
  exact ⟨fun c hc => (b.cell (p := ⟨_, c, none⟩) l1).trans (h.1 c hc), fun i hi => ⟨(b.cell (p := ⟨_, 2 * i, none⟩) l2).trans (h.2 i hi).1, (b.cell (p := ⟨_, 2 * i + 1, none⟩) l2).trans (h.2 i hi).2⟩⟩
theorem decode_any (l : List UInt8) (w : World) (hne : l ≠ []) (hT : Tabs w) : Calls Tryd.prog 22 #[.string ⟨l.toArray⟩] w fun e w' => e = .returned (.tuple #[.int .i32 ((dec l).1 : Int), .int .i64 ((dec l).2 : Int)]) ∧ Below w.heap.size w w' := by
  have h := Any.utf8_DecodeRuneInString laysDec ⟨l.toArray⟩ w hT
  have hd : Lib.decodeGo ⟨l.toArray⟩ = dec l := by
    unfold Lib.decodeGo
    rw [if_neg (by rw [ba_size]; exact fun e => hne (List.eq_nil_of_length_eq_zero e)), decode_eq]
    rfl
  rw [hd] at h
  exact h
end Go.Proofs.YtcagglcmikgdfaaDoor.Utf
