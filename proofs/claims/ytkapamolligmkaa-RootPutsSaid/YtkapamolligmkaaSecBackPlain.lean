/- What is written of a sector is read as it was, at its place alone: plain. -/
import Derived.Test.YtkapamolligmkaaSec7
import Derived.Test.YtkapamolligmkaaSecSym3
namespace Go.Proofs.Ytkapamolligmkaa.Sec
open Go.RowKit
open Go.Proofs.Ytkapamolligmkaa.Num (putL getN putL_len getN_putL)
open Go.Proofs.Ytkapamolligmkaa.Mac (padTo)
set_option linter.unusedVariables false
theorem padTo_eq {l : List UInt8} {n : Nat} (h : l.length ≤ n) : padTo l n = l ++ List.replicate (n - l.length) 0 := by unfold padTo; rw [List.take_of_length_le h]
theorem text_form {p : Int} {x : X} (h : rightF p x = 0) : text p x = head p x ++ (x.body ++ List.replicate (479 - x.body.length) 0) := by
  have hb := (right_of h).2.2.2.2.2.2
  unfold text
  rw [padTo_eq (by rw [List.length_append, head_len]; omega), List.append_assoc, List.length_append, head_len, show 504 - (25 + x.body.length) = 479 - x.body.length by omega]
theorem cut_app (a b : List UInt8) (i n : Nat) (h : i + n ≤ a.length) : cut (a ++ b) i n = cut a i n := by
  unfold cut
  rw [List.drop_append_of_le_length (by omega), List.take_append_of_le_length (by rw [List.length_drop]; omega)]
theorem cut_mid (a b c : List UInt8) (i n : Nat) (hi : i = a.length) (hn : n = b.length) : cut (a ++ (b ++ c)) i n = b := by
  subst hi hn
  unfold cut
  rw [List.drop_left, List.take_left]
theorem of_text {p : Int} {x : X} (h : rightF p x = 0) : lenB (text p x) = x.body.length ∧ ofB (text p x) = x := by
  obtain ⟨h1, h2, h3, h4, h5, h6, h7⟩ := right_of h
  have hl : lenB (text p x) = x.body.length := by
    unfold lenB
    rw [text_form h, cut_app _ _ _ _ (by rw [head_len]; decide)]
    unfold head
    rw [show putL x.kind.toNat 1 ++ putL p.toNat 2 ++ putL x.life.toNat 8 ++ putL x.seq.toNat 4 ++ putL x.gen.toNat 8 ++ putL x.body.length 2 = (putL x.kind.toNat 1 ++ putL p.toNat 2 ++ putL x.life.toNat 8 ++ putL x.seq.toNat 4 ++ putL x.gen.toNat 8) ++ (putL x.body.length 2 ++ []) by simp]
    rw [cut_mid _ _ _ _ _ (by simp [putL_len]) (by simp [putL_len]), getN_putL]
    exact Nat.mod_eq_of_lt (by simp only [Nat.reducePow]; omega)
  refine ⟨hl, ?_⟩
  have f0 : cut (text p x) 0 1 = putL x.kind.toNat 1 := by
    rw [text_form h, cut_app _ _ _ _ (by rw [head_len]; omega)]
    unfold head
    rw [show putL x.kind.toNat 1 ++ putL p.toNat 2 ++ putL x.life.toNat 8 ++ putL x.seq.toNat 4 ++ putL x.gen.toNat 8 ++ putL x.body.length 2 = [] ++ (putL x.kind.toNat 1 ++ (putL p.toNat 2 ++ putL x.life.toNat 8 ++ putL x.seq.toNat 4 ++ putL x.gen.toNat 8 ++ putL x.body.length 2)) by simp]
    rw [cut_mid [] _ _ 0 1 rfl (by simp [putL_len])]
  have f3 : cut (text p x) 3 8 = putL x.life.toNat 8 := by
    rw [text_form h, cut_app _ _ _ _ (by rw [head_len]; omega)]
    unfold head
    rw [show putL x.kind.toNat 1 ++ putL p.toNat 2 ++ putL x.life.toNat 8 ++ putL x.seq.toNat 4 ++ putL x.gen.toNat 8 ++ putL x.body.length 2 = (putL x.kind.toNat 1 ++ putL p.toNat 2) ++ (putL x.life.toNat 8 ++ (putL x.seq.toNat 4 ++ putL x.gen.toNat 8 ++ putL x.body.length 2)) by simp]
    rw [cut_mid _ _ _ _ _ (by simp [putL_len]) (by simp [putL_len])]
  have f11 : cut (text p x) 11 4 = putL x.seq.toNat 4 := by
    rw [text_form h, cut_app _ _ _ _ (by rw [head_len]; omega)]
    unfold head
    rw [show putL x.kind.toNat 1 ++ putL p.toNat 2 ++ putL x.life.toNat 8 ++ putL x.seq.toNat 4 ++ putL x.gen.toNat 8 ++ putL x.body.length 2 = (putL x.kind.toNat 1 ++ putL p.toNat 2 ++ putL x.life.toNat 8) ++ (putL x.seq.toNat 4 ++ (putL x.gen.toNat 8 ++ putL x.body.length 2)) by simp]
    rw [cut_mid _ _ _ _ _ (by simp [putL_len]) (by simp [putL_len])]
  have f15 : cut (text p x) 15 8 = putL x.gen.toNat 8 := by
    rw [text_form h, cut_app _ _ _ _ (by rw [head_len]; omega)]
    unfold head
    rw [show putL x.kind.toNat 1 ++ putL p.toNat 2 ++ putL x.life.toNat 8 ++ putL x.seq.toNat 4 ++ putL x.gen.toNat 8 ++ putL x.body.length 2 = (putL x.kind.toNat 1 ++ putL p.toNat 2 ++ putL x.life.toNat 8 ++ putL x.seq.toNat 4) ++ (putL x.gen.toNat 8 ++ putL x.body.length 2) by simp]
    rw [cut_mid _ _ _ _ _ (by simp [putL_len]) (by simp [putL_len])]
  have fb : cut (text p x) 25 x.body.length = x.body := by
    rw [text_form h, cut_mid _ _ _ _ _ (by rw [head_len]) rfl]
  have e8 : (256 : Nat) ^ 8 = 18446744073709551616 := rfl
  unfold ofB
  rw [hl, f0, f3, f11, f15, fb, getN_putL, getN_putL, getN_putL, getN_putL]
  have hk : ((x.kind.toNat % 256 ^ 1 : Nat) : Int) = x.kind := by simp only [Nat.pow_one]; omega
  have hs : ((x.seq.toNat % 256 ^ 4 : Nat) : Int) = x.seq := by simp only [Nat.reducePow]; omega
  have hl8 : UInt64.ofNat (x.life.toNat % 256 ^ 8) = x.life := by rw [e8, Nat.mod_eq_of_lt x.life.toNat_lt]; simp
  have hg8 : UInt64.ofNat (x.gen.toNat % 256 ^ 8) = x.gen := by rw [e8, Nat.mod_eq_of_lt x.gen.toNat_lt]; simp
  rw [hk, hs, hl8, hg8]
theorem reads_text {p : Int} {x : X} (h : rightF p x = 0) : reads p (text p x) = some x := by
  obtain ⟨h1, h2⟩ := of_text h
  have hb := (right_of h).2.2.2.2.2.2
  have := reads_yes (p := p) (b := text p x) (by omega) (by rw [h2]; exact h) (by rw [h2])
  rw [h2] at this; exact this
theorem place_of {p q : Int} {x : X} (h : rightF p x = 0) (h' : rightF q x = 0) (he : text q x = text p x) : q = p := by
  have key : ∀ r, rightF r x = 0 → cut (text r x) 1 2 = putL r.toNat 2 := fun r hr => by
    rw [text_form hr, cut_app _ _ _ _ (by rw [head_len]; omega)]
    unfold head
    rw [show putL x.kind.toNat 1 ++ putL r.toNat 2 ++ putL x.life.toNat 8 ++ putL x.seq.toNat 4 ++ putL x.gen.toNat 8 ++ putL x.body.length 2 = (putL x.kind.toNat 1) ++ (putL r.toNat 2 ++ (putL x.life.toNat 8 ++ putL x.seq.toNat 4 ++ putL x.gen.toNat 8 ++ putL x.body.length 2)) by simp]
    rw [cut_mid _ _ _ _ _ (by simp [putL_len]) (by simp [putL_len])]
  have h3 := key p h
  have h4 := key q h'
  rw [he, h3] at h4
  have h5 := congrArg getN h4
  rw [getN_putL, getN_putL] at h5
  have := right_of h
  have := right_of h'
  simp only [Nat.reducePow] at h5
  omega
theorem reads_else {p q : Int} {x : X} (h : rightF p x = 0) (hq : q ≠ p) : reads q (text p x) = none := by
  obtain ⟨h1, h2⟩ := of_text h
  by_cases hr : rightF q x = 0
  · exact reads_un (by rw [h2]; intro e; exact hq (place_of h hr e))
  · exact reads_bad (by rw [h2]; exact hr)
theorem text_blank {p : Int} {x : X} (h : rightF p x = 0) (s : List UInt8) : ¬ blankB (text p x ++ s) = true := by
  intro hb
  have hb : text p x ++ s = zero512 := of_decide_eq_true hb
  have h1 := right_of h
  have e1 : cut (text p x ++ s) 0 1 = putL x.kind.toNat 1 := by
    rw [cut_app _ _ _ _ (by rw [text_len]; omega), text_form h, cut_app _ _ _ _ (by rw [head_len]; omega)]
    unfold head
    rw [show putL x.kind.toNat 1 ++ putL p.toNat 2 ++ putL x.life.toNat 8 ++ putL x.seq.toNat 4 ++ putL x.gen.toNat 8 ++ putL x.body.length 2 = [] ++ (putL x.kind.toNat 1 ++ (putL p.toNat 2 ++ putL x.life.toNat 8 ++ putL x.seq.toNat 4 ++ putL x.gen.toNat 8 ++ putL x.body.length 2)) by simp]
    rw [cut_mid [] _ _ 0 1 rfl (by simp [putL_len])]
  rw [hb] at e1
  have h5 := congrArg getN e1
  rw [getN_putL] at h5
  have h6 : getN (cut zero512 0 1) = 0 := by decide +kernel
  rw [h6] at h5
  simp only [Nat.pow_one] at h5
  omega
/-- read as it was written -/
theorem dec_back {p : Int} {x : X} (h : rightF p x = 0) (s : List UInt8) (hs : s.length = 8) : decode true p (text p x ++ s) = (x, 0) :=
  dec_yes (by rw [List.length_append, text_len, hs]) (text_blank h s) (by rw [List.take_left' (text_len p x)]; exact reads_text h)
theorem dec_else {p q : Int} {x : X} (h : rightF p x = 0) (hq : q ≠ p) (ck : Bool) (s : List UInt8) (hs : s.length = 8) : decode ck q (text p x ++ s) = (X0, 11) :=
  dec_none (by rw [List.length_append, text_len, hs]) (text_blank h s) (by rw [List.take_left' (text_len p x)]; exact reads_else h hq)
theorem dec_fault {ck : Bool} {p : Int} {b : List UInt8} (h : ck = false) : (decode ck p b).2 ≠ 0 := by
  subst h
  unfold decode
  split
  · decide
  · split
    · decide
    · split <;> simp
/-- what was not written is not right by terms -/
theorem check_else {b T : List UInt8} (hb : b.length = 512) (hT : T.length = 504) (hne : b ≠ T ++ mark 0) : checkOf [T] (b.take 504) (b.drop 504) = false := by
  unfold checkOf
  by_cases h : b.take 504 = T
  · have h2 : b.drop 504 ≠ mark 0 := fun e => hne (by rw [← h, ← e, List.take_append_drop])
    rw [h]
    simp [R1.sameB]
    exact fun e => h2 e.symm
  · simp [h]
theorem check_own (T : List UInt8) : checkOf [T] T (mark 0) = true := by simp [checkOf, R1.sameB]
theorem sumOf_nil (T : List UInt8) : sumOf [] T = mark 0 := by simp [sumOf]
theorem sumAfter_nil (T : List UInt8) : sumAfter [] T = [T] := by simp [sumAfter]
end Go.Proofs.Ytkapamolligmkaa.Sec
