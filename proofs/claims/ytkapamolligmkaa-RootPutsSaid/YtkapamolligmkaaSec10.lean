/- Encode and Decode by terms. -/
import Derived.Test.YtkapamolligmkaaSec9
import Derived.Test.YtkapamolligmkaaSecBackPlain
namespace Go.Proofs.Ytkapamolligmkaa.Sec
open Go.RowKit
open Go.Proofs.Ytkapamolligmkaa.Num (putL getN)
set_option linter.unusedVariables false
set_option maxRecDepth 100000
/-- is the sum of 512 bytes right, by terms? -/
def ckS (l : List (List UInt8)) (b : List UInt8) : Bool := checkOf l (b.take 504) (b.drop 504)
theorem decode_sym (p : Int) (g bS : Nat) (l : List (List UInt8)) (A : Option Addr) (b : List UInt8) (n c : Nat) (w : World) (hg : SymAt w g bS l) (hl1 : l.length ≤ 1000000) (hp0 : -9223372036854775808 ≤ p) (hp1 : p ≤ 9223372036854775807) (hn : n = b.length) (hr : Rd w w.heap.size A (b.map e8)) (hl : b.length ≤ 100000) (hc : n ≤ c) (hcm : c ≤ maxLen) :
    Calls Try.prog 13 #[.pointer (some ⟨g, 0, none⟩), .int .i64 p, .slice A n c] w fun e w' => RetX (decode (ckS l b) p b).1 (.int .i64 (decode (ckS l b) p b).2) w e w' ∧ Below w.heap.size w w' :=
  decode_gen p g (ckS l b) A b n c w hp0 hp1 hn hr hl hc hcm fun h5 W bW A1 A2 c1 c2 r1 r2 =>
    check_sym W g bS l (hg.on bW) A1 A2 (b.take 504) (b.drop 504) 504 c1 8 c2 (by rw [List.length_take]; omega) (by rw [List.length_drop]; omega) r1 r2 (by rw [List.length_take]; omega) hl1
theorem sumOf_len (l : List (List UInt8)) (T : List UInt8) : (sumOf l T).length = 8 := mark_len _
theorem encode_sym (p : Int) (g bS : Nat) (l : List (List UInt8)) (x : X) (A : Option Addr) (c : Nat) (w : World) (hg : SymAt w g bS l) (hl1 : l.length ≤ 1000000) (hr : Rd w w.heap.size A (x.body.map e8)) (h : rightF p x = 0) :
    Calls Try.prog 19 #[.pointer (some ⟨g, 0, none⟩), .int .i64 p, .agg #[.int .i64 x.kind, .int .u64 (x.life.toNat : Int), .int .i64 x.seq, .int .u64 (x.gen.toNat : Int), .slice A x.body.length c]] w fun e w' =>
      ∃ A' c', e = .returned (.tuple #[.slice A' 512 c', .int .i64 0]) ∧ w'.ownsRow w.heap.size 5 1 (.slice A' 512 c') 512 ((text p x ++ sumOf l (text p x)).map e8) ∧ Keep [bS] w w' ∧ SymAt w' g bS (sumAfter l (text p x)) := by
  have hlt := hg.lt
  refine encode_gen p g x A c w hr h (sumOf l (text p x)) (sumOf_len _ _) [bS] (fun j hj => by rw [List.mem_singleton] at hj; subst hj; exact hlt.2) (fun W => SymAt W g bS (sumAfter l (text p x))) (fun W W' r hW hgr hrr => hW.grown hgr (fun e => by have := hrr _ e.symm; omega) (fun e => by have := hrr _ e.symm; omega)) ?_
  intro W bW A1 c1 r1 ha
  refine (sum_sym W g bS l (hg.on bW) A1 (text p x) 504 c1 (text_len _ _).symm r1 (fun a he e => by have := ha a he; injection e with e; omega) (by rw [text_len]; omega) hl1).mono ?_
  rintro e W' ⟨A2, c2, he, own2, k2, s2⟩
  exact ⟨A2, c2, he, Rd.own own2, k2, s2⟩
theorem ckR_own (T : List UInt8) (h : T.length = 504) : ckR (T ++ Crc.sumB T) = true := by
  unfold ckR
  rw [List.take_left' h, List.drop_left' h, R1.sameB_self]
theorem ckS_own (T : List UInt8) (h : T.length = 504) : ckS [T] (T ++ mark 0) = true := by
  unfold ckS
  rw [List.take_left' h, List.drop_left' h, check_own]
theorem dec_other {p q : Int} {x : X} (h : rightF p x = 0) (s : List UInt8) (hs : s.length = 8) : ∃ y F, decode true q (text p x ++ s) = (y, F) ∧ ((q = p ∧ F = 0) ∨ (q ≠ p ∧ F = 11)) := by
  by_cases e : q = p
  · subst e; exact ⟨_, _, dec_back h s hs, .inl ⟨rfl, rfl⟩⟩
  · exact ⟨_, _, dec_else h e true s hs, .inr ⟨e, rfl⟩⟩
end Go.Proofs.Ytkapamolligmkaa.Sec
