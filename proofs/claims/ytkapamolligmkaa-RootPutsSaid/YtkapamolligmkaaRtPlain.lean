/- The key above all, in plain Lean: what stands behind a put, an erase, a settle, and a power that goes. -/
import Derived.Test.YtkapamolligmkaaRt3
namespace Go.Proofs.Ytkapamolligmkaa.Rt
open Go.RowKit
open Go.Proofs.Ytkapamolligmkaa.Disk (St write flush read kept burn restart fates fate keptAt new zero512)
open Go.Proofs.Ytkapamolligmkaa.Sec (X text text_len sumOf sumOf_len sumAfter ckS checkOf blankB rightF dec_back dec_blank X0 mark)
set_option linter.unusedVariables false
theorem ckS_own' (l : List (List UInt8)) (T : List UInt8) (hT : T.length = 504) : ckS (sumAfter l T) (T ++ sumOf l T) = true := by
  unfold ckS checkOf sumAfter sumOf
  rw [List.take_left' hT, List.drop_left' hT]
  by_cases h : T ∈ l
  · simp [h, R1.sameB_self]
  · simp [h, List.idxOf_append, R1.sameB_self]
theorem ckS_more {l : List (List UInt8)} {b : List UInt8} (T : List UInt8) (h : ckS l b = true) : ckS (sumAfter l T) b = true := by
  unfold ckS checkOf at *
  unfold sumAfter
  split
  · exact h
  · rw [Bool.and_eq_true] at h ⊢
    have h1 : b.take 504 ∈ l := of_decide_eq_true h.1
    refine ⟨by simp [h1], ?_⟩
    rw [List.idxOf_append, if_pos h1]; exact h.2
/-- bytes that are a sector's at a place, by these sums -/
def Good (l : List (List UInt8)) (p : Int) (x : X) (b : List UInt8) : Prop := rightF p x = 0 ∧ ckS l b = true ∧ ∃ s, s.length = 8 ∧ b = text p x ++ s
theorem Good.dec {l : List (List UInt8)} {p : Int} {x : X} {b : List UInt8} (h : Good l p x b) : Sec.decode (ckS l b) p b = (x, 0) := by
  obtain ⟨h1, h2, s, hs, rfl⟩ := h
  rw [h2]; exact dec_back h1 s hs
theorem Good.len {l : List (List UInt8)} {p : Int} {x : X} {b : List UInt8} (h : Good l p x b) : b.length = 512 := by
  obtain ⟨h1, h2, s, hs, rfl⟩ := h
  rw [List.length_append, text_len, hs]
theorem Good.more {l : List (List UInt8)} {p : Int} {x : X} {b : List UInt8} (h : Good l p x b) (T : List UInt8) : Good (sumAfter l T) p x b := ⟨h.1, ckS_more T h.2.1, h.2.2⟩
theorem Good.made (l : List (List UInt8)) {p : Int} {x : X} (h : rightF p x = 0) : Good (sumAfter l (text p x)) p x (text p x ++ sumOf l (text p x)) := ⟨h, ckS_own' l _ (text_len _ _), _, sumOf_len _ _, rfl⟩
theorem bOf_good (l : List (List UInt8)) {gen : UInt64} {key : List UInt8} (h : key.length = 32) : Good (lOf l gen key) (place gen) (xOf gen key) (bOf l gen key) := Good.made l (xOf_right h)
theorem dec_zero (ck : Bool) (p : Int) : Sec.decode ck p zero512 = (X0, 7) := dec_blank Disk.zero512_len (decide_eq_true rfl)
/-! a disk of two sectors whose power is there, and nothing is pending -/
structure Up (s : St) : Prop where
  size : s.size = 2
  pend : s.pend = []
  down : s.down = false
  fuse : s.fuse < 0
theorem up_new : Up (new 2) := ⟨rfl, rfl, rfl, by simp [new]⟩
theorem placeN (gen : UInt64) : (place gen).toNat = gen.toNat % 2 := by unfold place; omega
theorem wr_cases {s : St} (h2 : s.size = 2) (hp : s.pend = []) (hd : s.down = false) (gen : UInt64) {b : List UInt8} (hb : b.length = 512) :
    ((wr s gen b).2 = 12 ∧ (wr s gen b).1.down = true ∧ (wr s gen b).1.pend = [((place gen).toNat, b)] ∧ (wr s gen b).1.all = s.all ∧ (wr s gen b).1.size = 2 ∧ ¬ s.fuse < 0) ∨
    ((wr s gen b).2 = 0 ∧ (wr s gen b).1.down = false ∧ (wr s gen b).1.pend = [] ∧ (wr s gen b).1.all = s.all ++ [((place gen).toNat, b)] ∧ (wr s gen b).1.size = 2 ∧ (s.fuse < 0 → (wr s gen b).1.fuse < 0)) := by
  obtain ⟨hp0, hp1⟩ := place_ok gen
  obtain ⟨size, pend, all, fuse, calls, down⟩ := s
  simp only at h2 hp hd
  subst h2 hp hd
  have hw : write ⟨2, [], all, fuse, calls, false⟩ (place gen) b = burn ⟨2, [((place gen).toNat, b)], all, fuse, calls, false⟩ := by
    unfold write; rw [if_neg (by simp), if_neg (by simp; omega), if_neg (by simpa using hb)]; rfl
  unfold wr
  rw [hw]
  by_cases h0 : fuse = 0
  · subst h0
    simp [burn]
  · by_cases h1 : 0 < fuse
    · have hb1 : burn ⟨2, [((place gen).toNat, b)], all, fuse, calls, false⟩ = (⟨2, [((place gen).toNat, b)], all, fuse - 1, calls + 1, false⟩, 0) := by unfold burn; simp [h0, h1]
      rw [hb1]
      simp only [if_true]
      by_cases h3 : fuse - 1 = 0
      · have : flush ⟨2, [((place gen).toNat, b)], all, fuse - 1, calls + 1, false⟩ = (⟨2, [((place gen).toNat, b)], all, fuse - 1, calls + 1 + 1, true⟩, 12) := by unfold flush burn; simp [h3]
        rw [this]; simp; omega
      · have : flush ⟨2, [((place gen).toNat, b)], all, fuse - 1, calls + 1, false⟩ = (⟨2, [], all ++ [((place gen).toNat, b)], fuse - 1 - 1, calls + 1 + 1, false⟩, 0) := by
          have h4 : 0 < fuse - 1 := by omega
          have h5 : burn ⟨2, [((place gen).toNat, b)], all, fuse - 1, calls + 1, false⟩ = (⟨2, [((place gen).toNat, b)], all, fuse - 1 - 1, calls + 1 + 1, false⟩, 0) := by unfold burn; rw [if_neg h3, if_pos h4]
          unfold flush; rw [if_neg (by simp), h5]; rfl
        rw [this]; simp; omega
    · have hb1 : burn ⟨2, [((place gen).toNat, b)], all, fuse, calls, false⟩ = (⟨2, [((place gen).toNat, b)], all, fuse, calls + 1, false⟩, 0) := by unfold burn; simp [h0, h1]
      rw [hb1]
      simp only [if_true]
      have : flush ⟨2, [((place gen).toNat, b)], all, fuse, calls + 1, false⟩ = (⟨2, [], all ++ [((place gen).toNat, b)], fuse, calls + 1 + 1, false⟩, 0) := by unfold flush burn; simp [h0, h1]
      rw [this]; simp
theorem Up.wr {s : St} (h : Up s) (gen : UInt64) {b : List UInt8} (hb : b.length = 512) : (wr s gen b).2 = 0 ∧ Up (wr s gen b).1 ∧ (wr s gen b).1.all = s.all ++ [((place gen).toNat, b)] := by
  rcases wr_cases h.size h.pend h.down gen hb with ⟨_, _, _, _, _, h6⟩ | ⟨h1, h2, h3, h4, h5, h6⟩
  · exact absurd h.fuse h6
  · exact ⟨h1, ⟨h5, h3, h2, h6 h.fuse⟩, h4⟩
theorem Up.read {s : St} (h : Up s) (gen : UInt64) : read s (place gen) = (kept s.all (place gen).toNat, 0) := by
  obtain ⟨hp0, hp1⟩ := place_ok gen
  unfold Disk.read
  rw [if_neg (by rw [h.down]; simp), if_neg (by rw [h.size]; omega), h.pend, List.append_nil]
theorem Up.keptAt {s : St} (h : Up s) (gen : UInt64) : keptAt s (place gen) = kept s.all (place gen).toNat := by
  obtain ⟨hp0, hp1⟩ := place_ok gen
  unfold Disk.keptAt
  rw [if_neg (by rw [h.size]; omega)]
theorem isRoot_own {gen : UInt64} {key : List UInt8} (h : key.length = 32) : isRoot gen (xOf gen key, 0) = true := by simp [isRoot, xOf, h]
theorem isRoot_other {gen other : UInt64} {key : List UInt8} (h : other ≠ gen) : isRoot other (xOf gen key, 0) = false := by
  have : ¬ gen = other := fun e => h e.symm
  simp [isRoot, xOf, this]
theorem isRoot_fault {gen : UInt64} {d : X × Int} (h : d.2 ≠ 0) : isRoot gen d = false := by simp [isRoot, h]
theorem Up.got_good {l : List (List UInt8)} {s : St} (h : Up s) {gen : UInt64} {x : X} (hg : Good l (place gen) x (kept s.all (place gen).toNat)) : got l s gen = if isRoot gen (x, 0) = true then (x.body, 0) else ([], 11) := by
  unfold got dec
  rw [h.read gen]
  simp only [ne_eq, not_true, if_false]
  rw [hg.dec]
theorem Up.got_zero {l : List (List UInt8)} {s : St} (h : Up s) {gen : UInt64} (hg : kept s.all (place gen).toNat = zero512) : got l s gen = ([], 11) := by
  unfold got dec
  rw [h.read gen, hg]
  simp only [ne_eq, not_true, if_false]
  rw [dec_zero, isRoot_fault (by simp)]; simp
theorem Up.blank {s : St} (h : Up s) (gen : UInt64) : blank s gen = (blankB (kept s.all (place gen).toNat), 0) := by
  unfold Rt.blank
  rw [h.read gen]; simp
theorem place_xor (gen : UInt64) : place (gen ^^^ 1) = 1 - place gen := by
  unfold place
  have h1 : (gen ^^^ 1).toNat = gen.toNat ^^^ 1 := by simp
  have h2 : (gen.toNat ^^^ 1) % 2 = (gen.toNat % 2) ^^^ 1 := by
    have := Nat.xor_mod_two_pow (a := gen.toNat) (b := 1) (n := 1)
    simpa using this
  rw [h1]
  have h3 : ((gen.toNat ^^^ 1 : Nat) : Int) % 2 = (((gen.toNat ^^^ 1) % 2 : Nat) : Int) := by omega
  rw [h3, h2]
  rcases (show gen.toNat % 2 = 0 ∨ gen.toNat % 2 = 1 by omega) with h | h <;> rw [h] <;> simp <;> omega
theorem place_next (gen : UInt64) : place (gen + 1) = 1 - place gen := by
  unfold place
  have h1 : (gen + 1).toNat = (gen.toNat + 1) % 18446744073709551616 := by simp [UInt64.toNat_add]
  rw [h1]; omega
theorem kept_after (l : List Disk.Wr) (p : Nat) (b : List UInt8) : kept (l ++ [(p, b)]) p = b := by rw [Disk.kept_snoc]; simp
theorem kept_beside (l : List Disk.Wr) {p q : Nat} (b : List UInt8) (h : q ≠ p) : kept (l ++ [(q, b)]) p = kept l p := by rw [Disk.kept_snoc]; simp [h]
/-- behind Settle -/
theorem Up.settle {l : List (List UInt8)} {s : St} (h : Up s) {gen : UInt64} {x : X} (hg : Good l (place gen) x (kept s.all (place gen).toNat)) (hx : isRoot gen (x, 0) = true) :
    (settle l s gen).2 = (x.body, 0) ∧ Up (settle l s gen).1 ∧ kept (settle l s gen).1.all (place (gen ^^^ 1)).toNat = zero512 := by
  have hk : got l s gen = (x.body, 0) := by rw [h.got_good hg, if_pos hx]
  have hz : zero512.length = 512 := Disk.zero512_len
  unfold Rt.settle
  rw [hk]
  simp only [ne_eq, not_true, if_false]
  rw [h.blank]
  simp only [not_true, if_false]
  obtain ⟨h1, h2, h3⟩ := h.wr (gen ^^^ 1) hz
  split
  · rename_i hb
    exact ⟨rfl, h, of_decide_eq_true hb⟩
  · exact ⟨rfl, h2, by rw [h3, kept_after]⟩
theorem settle_fault {l : List (List UInt8)} {s : St} {gen : UInt64} (h : got l s gen = ([], 11)) : settle l s gen = (s, [], 11) := by
  unfold Rt.settle
  rw [h]; simp
/-- behind a power that went while one write was pending, or none -/
theorem restart_one {s : St} {q : Nat} {b : List UInt8} (h2 : s.size = 2) (hp : s.pend = [(q, b)] ∨ s.pend = []) (keep : List Int) (t a : Int) :
    Up (restart s keep t a) ∧ ((restart s keep t a).all = s.all ∨ ∃ z, (restart s keep t a).all = s.all ++ [(q, z)]) := by
  refine ⟨⟨h2, rfl, rfl, by simp [restart]⟩, ?_⟩
  unfold restart
  rcases hp with hp | hp
  · rw [hp]
    simp only [fates]
    unfold fate
    split
    · exact .inr ⟨_, rfl⟩
    · split
      · exact .inr ⟨_, rfl⟩
      · exact .inl rfl
  · rw [hp]; exact .inl rfl
end Go.Proofs.Ytkapamolligmkaa.Rt
