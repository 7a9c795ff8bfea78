/- Encode and Decode by real sums; the example of the layer sector's laws. -/
import Derived.Test.YtkapamolligmkaaSec7
import Derived.Test.YtkapamolligmkaaSec8
import Derived.Test.YtkapamolligmkaaSec3
namespace Go.Proofs.Ytkapamolligmkaa.Sec
open Go.RowKit
open Go.Proofs.Ytkapamolligmkaa.Num (putL getN)
set_option linter.unusedVariables false
set_option maxRecDepth 100000
theorem sumB_len (l : List UInt8) : (Crc.sumB l).length = 8 := Num.putL_len _ _
/-- is the sum of 512 bytes right? -/
def ckR (b : List UInt8) : Bool := R1.sameB (Crc.sumB (b.take 504)) (b.drop 504)
theorem decode_real (p : Int) (g : Nat) (A : Option Addr) (b : List UInt8) (n c : Nat) (w : World) (hg : RealAt w g) (hp0 : -9223372036854775808 ≤ p) (hp1 : p ≤ 9223372036854775807) (hn : n = b.length) (hr : Rd w w.heap.size A (b.map e8)) (hl : b.length ≤ 100000) (hc : n ≤ c) (hcm : c ≤ maxLen) :
    Calls Try.prog 13 #[.pointer (some ⟨g, 0, none⟩), .int .i64 p, .slice A n c] w fun e w' => RetX (decode (ckR b) p b).1 (.int .i64 (decode (ckR b) p b).2) w e w' ∧ Below w.heap.size w w' :=
  decode_gen p g (ckR b) A b n c w hp0 hp1 hn hr hl hc hcm fun h5 W bW A1 A2 c1 c2 r1 r2 =>
    check_real W g (hg.on bW) A1 A2 (b.take 504) (b.drop 504) 504 c1 8 c2 (by rw [List.length_take]; omega) (by rw [List.length_drop]; omega) r1 r2 (by rw [List.length_take]; omega)
theorem encode_real (p : Int) (g : Nat) (x : X) (A : Option Addr) (c : Nat) (w : World) (hg : RealAt w g) (hr : Rd w w.heap.size A (x.body.map e8)) (h : rightF p x = 0) :
    Calls Try.prog 19 #[.pointer (some ⟨g, 0, none⟩), .int .i64 p, .agg #[.int .i64 x.kind, .int .u64 (x.life.toNat : Int), .int .i64 x.seq, .int .u64 (x.gen.toNat : Int), .slice A x.body.length c]] w fun e w' =>
      ∃ A' c', e = .returned (.tuple #[.slice A' 512 c', .int .i64 0]) ∧ w'.ownsRow w.heap.size 5 1 (.slice A' 512 c') 512 ((text p x ++ Crc.sumB (text p x)).map e8) ∧ Below w.heap.size w w' := by
  refine (encode_gen p g x A c w hr h (Crc.sumB (text p x)) (sumB_len _) [] (fun j hj => by cases hj) (fun _ => True) (fun _ _ _ _ _ _ => trivial) ?_).mono ?_
  · intro W bW A1 c1 r1 _
    refine (sum_real W g (hg.on bW) A1 (text p x) 504 c1 (text_len _ _).symm r1 (by rw [text_len]; omega)).mono ?_
    rintro e W' ⟨A2, c2, he, own2, b2⟩
    rw [sumB_len] at he
    exact ⟨A2, c2, he, Rd.own own2, Keep.of_below b2 [], trivial⟩
  · rintro e w' ⟨A', c', he, o, k, _⟩
    exact ⟨A', c', he, o, k.below (fun j hj => by cases hj) (Nat.le_refl _)⟩
theorem blank_yes : blankB zero512 = true := by simp [blankB]
end Go.Proofs.Ytkapamolligmkaa.Sec
