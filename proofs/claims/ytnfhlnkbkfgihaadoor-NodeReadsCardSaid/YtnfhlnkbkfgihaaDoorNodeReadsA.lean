/- Texts of this claim, joined: NumPlain, NodPlain, Region, Base, Open, OpenRows, Nod1, Num, Str, Slices, Ref01, Wire, Phase, UtfPlain. -/
import Derived.StillTail
import Derived.Deep.Quiet
import Derived.Deep.QuietTactic
import Derived.BigQuiet
import Derived.Below
import Derived.WalkKit
import Derived.OneCell
import Derived.Laws.OwnMore
import Derived.Laws.BitsAllLaws
import Derived.Lib.Hide
import Derived.Deep.Draws
import Derived.Maps.AppendAt
import Derived.Test.YtnfhlnkbkfgihaaDoorRows
import Derived.ProofKit
import Derived.OpenShut
import Derived.ShutString
import Derived.ChangeOld
import Derived.Lib.SmallJoins
import Derived.Deep.Slices
import Derived.Deep.Fields
import Derived.ChangeSame
import Derived.Lib.MinMax
import Derived.Outline
import Derived.WalkMore
import Derived.Deep.DeepMust
import Derived.Laws.IdiomStrings
import Derived.Lib.ConvBytes
import Derived.WalkSpells
import GoSem.Core.Utf8
/- Numbers as bytes, most significant first: plain functions; nothing of the program. -/
namespace Go.Proofs.YtnfhlnkbkfgihaaDoor.Num

def putL (n size : Nat) : List UInt8 := (List.range size).map fun j => UInt8.ofNat (n / 2 ^ (8 * (size - 1 - j)))
theorem putL_len (n size : Nat) : (putL n size).length = size := by simp [putL]
theorem putL_get (n size j : Nat) (h : j < (putL n size).length) : (putL n size)[j] = UInt8.ofNat (n / 2 ^ (8 * (size - 1 - j))) := by simp [putL]
theorem putL_take (n size j : Nat) (h : j < size) : (putL n size).take (j + 1) = (putL n size).take j ++ [UInt8.ofNat (n / 2 ^ (8 * (size - 1 - j)))] := by
  rw [List.take_succ_eq_append_getElem (by rw [putL_len]; exact h), putL_get]
theorem cell_of (n e : Nat) : ((UInt8.ofNat (n / 2 ^ e)).toNat : Int) = (n : Int) / 2 ^ e % 256 := by
  rw [UInt8.toNat_ofNat', Int.natCast_emod, Int.natCast_ediv, Int.natCast_pow]; rfl
/-- the reference's: the last ones are put first -/
def backL (n size k : Nat) : List UInt8 := (List.range size).map fun i => if i < size - k then 0 else UInt8.ofNat (n / 2 ^ (8 * (size - 1 - i)))
theorem backL_len (n size k : Nat) : (backL n size k).length = size := by simp [backL]
theorem backL_zero (n size : Nat) : backL n size 0 = List.replicate size 0 := by
  apply List.ext_getElem
  · simp [backL]
  · intro i h1 h2
    rw [backL_len] at h1
    simp only [backL, List.getElem_map, List.getElem_range, List.getElem_replicate]
    rw [if_pos (by omega)]
theorem backL_all (n size : Nat) : backL n size size = putL n size := by
  unfold backL putL
  apply List.map_congr_left
  intro i _
  rw [if_neg (by omega)]
theorem backL_set (n size k : Nat) (h : k < size) : (backL n size k).set (size - 1 - k) (UInt8.ofNat (n / 2 ^ (8 * k))) = backL n size (k + 1) := by
  apply List.ext_getElem
  · simp [backL]
  · intro i h1 h2
    rw [List.length_set, backL_len] at h1
    rw [List.getElem_set]
    simp only [backL, List.getElem_map, List.getElem_range]
    by_cases e : size - 1 - k = i
    · subst e
      rw [if_pos rfl, if_neg (by omega), show size - 1 - (size - 1 - k) = k by omega]
    · rw [if_neg e]
      by_cases e2 : i < size - k
      · rw [if_pos e2, if_pos (by omega)]
      · rw [if_neg e2, if_neg (by omega)]
/-- the number that bytes are -/
def getN (l : List UInt8) : Nat := l.foldl (fun n c => n * 256 + c.toNat) 0
theorem getN_snoc (l : List UInt8) (c : UInt8) : getN (l ++ [c]) = getN l * 256 + c.toNat := by simp [getN]
theorem getN_take {l : List UInt8} {k : Nat} (h : k < l.length) : getN (l.take (k + 1)) = getN (l.take k) * 256 + l[k].toNat := by
  rw [List.take_succ_eq_append_getElem h, getN_snoc]
theorem getN_lt (l : List UInt8) : ∀ k, k ≤ l.length → getN (l.take k) < 256 ^ k
  | 0, _ => by simp [getN]
  | k + 1, h => by
    rw [getN_take (by omega), Nat.pow_succ]
    have := getN_lt l k (by omega)
    have := l[k].toNat_lt
    omega
theorem getN_8 (l : List UInt8) (h : l.length ≤ 8) : getN l < 18446744073709551616 := by
  have := getN_lt l l.length (Nat.le_refl _)
  rw [List.take_length] at this
  exact Nat.lt_of_lt_of_le this (Nat.pow_le_pow_right (by omega) h)
theorem getN_7 (l : List UInt8) (k : Nat) (hk : k ≤ l.length) (h : k ≤ 7) : getN (l.take k) < 72057594037927936 := 
  Nat.lt_of_lt_of_le (getN_lt l k hk) (Nat.pow_le_pow_right (by omega) h)
theorem putL_succ (n s : Nat) : putL n (s + 1) = putL (n / 256) s ++ [UInt8.ofNat n] := by
  unfold putL
  rw [List.range_succ, List.map_append]
  congr 1
  · apply List.map_congr_left
    intro j hj
    have hj' := List.mem_range.1 hj
    rw [Nat.div_div_eq_div_mul, show (256 : Nat) = 2 ^ 8 from rfl, ← Nat.pow_add]
    congr 3
    omega
  · simp
theorem getN_putL (n s : Nat) : getN (putL n s) = n % 256 ^ s := by
  induction s generalizing n with
  | zero => simp [putL, getN, Nat.mod_one]
  | succ s ih =>
    have h := Nat.mod_mul (x := n) (a := 256) (b := 256 ^ s)
    rw [putL_succ, getN_snoc, ih, UInt8.toNat_ofNat', show 256 ^ (s + 1) = 256 * 256 ^ s by rw [Nat.pow_succ, Nat.mul_comm], h, show (2 : Nat) ^ 8 = 256 from rfl]
    omega
end Go.Proofs.YtnfhlnkbkfgihaaDoor.Num

/- The nodes' bytes: plain. No statement is proved here. -/
namespace Go.Proofs.YtnfhlnkbkfgihaaDoor.Nod
open Go.Proofs.YtnfhlnkbkfgihaaDoor.Num (putL putL_len getN getN_putL)
set_option linter.unusedVariables false
/-- a field of bytes -/
def fld (l : List UInt8) : List UInt8 := putL l.length 2 ++ l
theorem fld_len (l : List UInt8) : (fld l).length = l.length + 2 := by simp [fld, putL_len]; omega
/-- what is read of bytes, of at most so many -/
def rdF (z : Nat) (l : List UInt8) : Option (List UInt8 × List UInt8) :=
  if l.length < 2 ∨ z < getN (l.take 2) ∨ l.length < 2 + getN (l.take 2) then none else some ((l.drop 2).take (getN (l.take 2)), l.drop (2 + getN (l.take 2)))
theorem getN_two (a b : UInt8) : getN [a, b] = a.toNat * 256 + b.toNat := by simp [getN]
theorem putL_two (a b : UInt8) : putL (a.toNat * 256 + b.toNat) 2 = [a, b] := by
  have ha := a.toNat_lt
  have hb := b.toNat_lt
  have h0 : UInt8.ofNat ((a.toNat * 256 + b.toNat) / 2 ^ 8) = a := by
    rw [show (a.toNat * 256 + b.toNat) / 2 ^ 8 = a.toNat by omega]; exact UInt8.ofNat_toNat
  have h1 : UInt8.ofNat ((a.toNat * 256 + b.toNat) / 2 ^ 0) = b := by
    apply UInt8.toNat_inj.1
    rw [UInt8.toNat_ofNat']
    omega
  show [UInt8.ofNat ((a.toNat * 256 + b.toNat) / 2 ^ 8), UInt8.ofNat ((a.toNat * 256 + b.toNat) / 2 ^ 0)] = [a, b]
  rw [h0, h1]
theorem getN_lt2 (l : List UInt8) (h : 2 ≤ l.length) : getN (l.take 2) < 65536 := Num.getN_lt l 2 h
/-- what was read is a field -/
theorem rdF_some {z : Nat} {l m r : List UInt8} (h : rdF z l = some (m, r)) : fld m ++ r = l ∧ m.length ≤ z ∧ m.length < 65536 := by
  unfold rdF at h
  split at h
  · cases h
  · rename_i hn
    injection h with h
    injection h with h1 h2
    obtain ⟨a, b, t, rfl⟩ : ∃ a b t, l = a :: b :: t := by
      match l, hn with
      | [], hn => exact absurd (.inl (by simp)) hn
      | [a], hn => exact absurd (.inl (by simp)) hn
      | a :: b :: t, _ => exact ⟨a, b, t, rfl⟩
    have e : getN ((a :: b :: t).take 2) = a.toNat * 256 + b.toNat := getN_two a b
    have hlt := getN_lt2 (a :: b :: t) (by simp)
    rw [e] at h1 h2 hn hlt
    simp only [List.drop_succ_cons, List.drop_zero] at h1
    have hl : m.length = a.toNat * 256 + b.toNat := by
      rw [← h1, List.length_take]
      simp only [List.length_cons] at hn
      omega
    refine ⟨?_, by omega, by omega⟩
    unfold fld
    rw [hl, putL_two, ← h1, ← h2, show 2 + (a.toNat * 256 + b.toNat) = (a.toNat * 256 + b.toNat) + 1 + 1 by omega]
    simp
/-- a field is read -/
theorem rdF_fld {z : Nat} {m : List UInt8} (h : m.length ≤ z) (h6 : m.length < 65536) (r : List UInt8) : rdF z (fld m ++ r) = some (m, r) := by
  have hp := putL_len m.length 2
  have ht : (fld m ++ r).take 2 = putL m.length 2 := by
    unfold fld
    rw [List.append_assoc, List.take_append_of_le_length (by omega), List.take_of_length_le (by omega)]
  have hg : getN ((fld m ++ r).take 2) = m.length := by
    rw [ht, getN_putL]
    exact Nat.mod_eq_of_lt (by rw [show 256 ^ 2 = 65536 from rfl]; exact h6)
  unfold rdF
  rw [hg, if_neg (by rw [List.length_append, fld_len]; omega)]
  have hd : (fld m ++ r).drop 2 = m ++ r := by
    unfold fld
    rw [List.append_assoc, List.drop_append, List.drop_of_length_le (by omega), List.nil_append, hp]; rfl
  rw [← List.drop_drop, hd]
  simp
theorem rdF_lim {l : List UInt8} {z : Nat} (h : 65535 ≤ z) : rdF z l = rdF 65535 l := by
  unfold rdF
  by_cases h2 : l.length < 2
  · rw [if_pos (.inl h2), if_pos (.inl h2)]
  · have := getN_lt2 l (by omega)
    by_cases h3 : l.length < 2 + getN (l.take 2)
    · rw [if_pos (.inr (.inr h3)), if_pos (.inr (.inr h3))]
    · rw [if_neg (by omega), if_neg (by omega)]
/-- one step of a reader: what is read, what is left, its fault -/
def step (z : Nat) (l : List UInt8) (f : Int) : List UInt8 × List UInt8 × Int :=
  if f = 0 then match rdF z l with
    | some (m, r) => (m, r, 0)
    | none => ([], [], 4)
  else ([], l, f)
theorem step_yes {z : Nat} {l m r : List UInt8} (h : rdF z l = some (m, r)) : step z l 0 = (m, r, 0) := by unfold step; rw [if_pos rfl, h]
theorem step_no {z : Nat} {l : List UInt8} (h : rdF z l = none) : step z l 0 = ([], [], 4) := by unfold step; rw [if_pos rfl, h]
theorem step_idle {z : Nat} {l : List UInt8} {f : Int} (h : f ≠ 0) : step z l f = ([], l, f) := by unfold step; rw [if_neg h]
/-- may it be one of a node? -/
def rowB (b : List UInt8) : Bool := decide (b.length = 0) || decide (b.length = 80)
/-- the rows of a node, by the reader; none: one may not be -/
def decL : Nat → List UInt8 → Int → Option (List (List UInt8) × List UInt8 × Int)
  | 0, l, f => some ([], l, f)
  | n + 1, l, f => if rowB (step 80 l f).1 = true then (decL n (step 80 l f).2.1 (step 80 l f).2.2).map (fun t => ((step 80 l f).1 :: t.1, t.2)) else none
def someB (rs : List (List UInt8)) : Bool := rs.any fun b => decide (0 < b.length)
def endF (l : List UInt8) (f : Int) : Int := if f = 0 ∧ 0 < l.length then 4 else f
def dec (n : Nat) (b : List UInt8) : Option (List (List UInt8)) :=
  match decL n b 0 with
  | none => none
  | some (rs, l, f) => if endF l f = 0 ∧ someB rs = true then some rs else none
/-- by the document -/
def takes : Nat → List UInt8 → List (List UInt8)
  | 0, _ => []
  | n + 1, l => match rdF 80 l with
    | some (m, r) => m :: takes n r
    | none => [] :: takes n l
def encB (rs : List (List UInt8)) : List UInt8 := if someB rs = true then rs.flatMap fld else []
def refOf (n : Nat) (b : List UInt8) : Option (List (List UInt8)) := if (takes n b).all rowB = true ∧ encB (takes n b) = b then some (takes n b) else none
theorem takes_len : ∀ (n : Nat) (l : List UInt8), (takes n l).length = n
  | 0, _ => rfl
  | n + 1, l => by
    unfold takes
    cases h : rdF 80 l with
    | none => simp [takes_len n l]
    | some t => obtain ⟨m, r⟩ := t; simp [takes_len n r]
/-- the reads that go well -/
def run : Nat → List UInt8 → Option (List (List UInt8) × List UInt8)
  | 0, l => some ([], l)
  | n + 1, l => match rdF 80 l with
    | none => none
    | some (m, r) => (run n r).map (fun t => (m :: t.1, t.2))
theorem run_some : ∀ (n : Nat) (l : List UInt8) (rs : List (List UInt8)) (r : List UInt8), run n l = some (rs, r) → takes n l = rs ∧ rs.flatMap fld ++ r = l ∧ decL n l 0 = if rs.all rowB = true then some (rs, r, 0) else none
  | 0, l, rs, r, h => by
    injection h with h; injection h with h1 h2; subst h1 h2
    exact ⟨rfl, rfl, rfl⟩
  | n + 1, l, rs, r, h => by
    unfold run at h
    cases hr : rdF 80 l with
    | none => rw [hr] at h; cases h
    | some t =>
      obtain ⟨m, l'⟩ := t
      rw [hr] at h
      simp only at h
      cases hn : run n l' with
      | none => rw [hn] at h; cases h
      | some u =>
        obtain ⟨rs', r'⟩ := u
        rw [hn] at h
        injection h with h; injection h with h1 h2; subst h1 h2
        obtain ⟨e1, e2, e3⟩ := run_some n l' rs' r' hn
        obtain ⟨f1, _, _⟩ := rdF_some hr
        refine ⟨by unfold takes; rw [hr]; simp only; rw [e1], by rw [List.flatMap_cons, List.append_assoc, e2, f1], ?_⟩
        unfold decL
        rw [step_yes hr]
        simp only
        rw [e3]
        by_cases hb : rowB m = true
        · rw [if_pos hb]
          by_cases ha : rs'.all rowB = true
          · rw [if_pos ha, if_pos (by rw [List.all_cons, hb, ha]; rfl)]; rfl
          · rw [if_neg ha, if_neg (by rw [List.all_cons, hb]; simpa using ha)]; rfl
        · rw [if_neg hb, if_neg (by rw [List.all_cons]; simp [hb])]
theorem decL_idle : ∀ (n : Nat) (l : List UInt8) (f : Int) (t : List (List UInt8) × List UInt8 × Int), f ≠ 0 → decL n l f = some t → t.2.2 ≠ 0
  | 0, l, f, t, hf, h => by injection h with h; subst h; exact hf
  | n + 1, l, f, t, hf, h => by
    unfold decL at h
    rw [step_idle hf] at h
    split at h
    · cases hd : decL n l f with
      | none => rw [hd] at h; cases h
      | some u => rw [hd] at h; injection h with h; subst h; exact decL_idle n l f u hf hd
    · cases h
theorem takes_none : ∀ (n : Nat) (l : List UInt8), rdF 80 l = none → takes n l = List.replicate n []
  | 0, l, h => rfl
  | n + 1, l, h => by unfold takes; rw [h]; simp only; rw [takes_none n l h]; rfl
theorem run_none : ∀ (n : Nat) (l : List UInt8), run n l = none → (∀ t, decL n l 0 = some t → t.2.2 ≠ 0) ∧ ∃ (pre : List (List UInt8)) (r : List UInt8) (j : Nat), takes n l = pre ++ List.replicate (j + 1) [] ∧ pre.flatMap fld ++ r = l ∧ rdF 80 r = none
  | 0, l, h => by cases h
  | n + 1, l, h => by
    unfold run at h
    cases hr : rdF 80 l with
    | none =>
      refine ⟨fun t ht => ?_, [], l, n, takes_none _ _ hr, rfl, hr⟩
      unfold decL at ht
      rw [step_no hr] at ht
      split at ht
      · cases hd : decL n [] 4 with
        | none => simp only at ht; rw [hd] at ht; cases ht
        | some u => simp only at ht; rw [hd] at ht; injection ht with ht; subst ht; exact decL_idle n [] 4 u (by decide) hd
      · cases ht
    | some t =>
      obtain ⟨m, l'⟩ := t
      rw [hr] at h
      simp only at h
      cases hn : run n l' with
      | some u => rw [hn] at h; cases h
      | none =>
        obtain ⟨h1, pre, r, j, h2, h3, h4⟩ := run_none n l' hn
        obtain ⟨f1, _, _⟩ := rdF_some hr
        refine ⟨fun t ht => ?_, m :: pre, r, j, by unfold takes; rw [hr]; simp only; rw [h2]; rfl, by rw [List.flatMap_cons, List.append_assoc, h3, f1], h4⟩
        unfold decL at ht
        rw [step_yes hr] at ht
        simp only at ht
        split at ht
        · cases hd : decL n l' 0 with
          | none => rw [hd] at ht; cases ht
          | some u => rw [hd] at ht; injection ht with ht; subst ht; exact h1 u hd
        · cases ht
/-- the program's answer is the document's, of bytes that are some -/
theorem dec_ref {n : Nat} {b : List UInt8} (hb : b ≠ []) : dec n b = refOf n b := by
  unfold dec refOf
  cases hr : run n b with
  | some t =>
    obtain ⟨rs, r⟩ := t
    obtain ⟨e1, e2, e3⟩ := run_some n b rs r hr
    rw [e1, e3]
    by_cases ha : rs.all rowB = true
    · rw [if_pos ha]
      simp only
      by_cases hs : someB rs = true
      · by_cases hl : r = []
        · subst hl
          rw [List.append_nil] at e2
          rw [if_pos ⟨rfl, hs⟩, if_pos ⟨ha, by unfold encB; rw [if_pos hs]; exact e2⟩]
        · rw [if_neg (fun h => by
            have h1 := h.1
            unfold endF at h1
            rw [if_pos ⟨rfl, List.length_pos_iff.2 hl⟩] at h1; cases h1), if_neg (fun h => by
            have h1 := h.2
            unfold encB at h1
            rw [if_pos hs] at h1
            rw [← e2] at h1
            have := congrArg List.length h1
            rw [List.length_append] at this
            exact hl (List.eq_nil_of_length_eq_zero (by omega)))]
      · rw [if_neg (fun h => hs h.2), if_neg (fun h => by
          have h1 := h.2
          unfold encB at h1
          rw [if_neg hs] at h1
          exact hb h1.symm)]
    · rw [if_neg ha, if_neg (fun h => ha h.1)]
  | none =>
    obtain ⟨h1, pre, r, j, h2, h3, h4⟩ := run_none n b hr
    have hno : ¬ ((takes n b).all rowB = true ∧ encB (takes n b) = b) := fun h => by
      have h5 := h.2
      rw [h2] at h5
      unfold encB at h5
      split at h5
      · rw [List.flatMap_append, ← h3] at h5
        have h6 := List.append_cancel_left h5
        rw [List.replicate_succ, List.flatMap_cons] at h6
        have h7 := rdF_fld (z := 80) (m := []) (by simp) (by simp) ((List.replicate j []).flatMap fld)
        rw [h6, h4] at h7
        cases h7
      · exact hb h5.symm
    rw [if_neg hno]
    cases hd : decL n b 0 with
    | none => rfl
    | some t =>
      obtain ⟨rs, l, f⟩ := t
      have hf := h1 _ hd
      simp only
      rw [if_neg (fun h => by
        have h5 := h.1
        unfold endF at h5
        split at h5
        · cases h5
        · exact hf h5)]
/-- a node is read as it was -/
theorem run_enc : ∀ (rs : List (List UInt8)) (r : List UInt8), (∀ b ∈ rs, b.length ≤ 80) → run rs.length (rs.flatMap fld ++ r) = some (rs, r)
  | [], r, _ => rfl
  | m :: rs, r, h => by
    have hm := h m (by simp)
    rw [List.length_cons, List.flatMap_cons, List.append_assoc]
    unfold run
    rw [rdF_fld hm (by omega)]
    simp only
    rw [run_enc rs r (fun b hb => h b (by simp [hb]))]; rfl
theorem row_len {b : List UInt8} (h : rowB b = true) : b.length ≤ 80 := by
  unfold rowB at h
  simp only [Bool.or_eq_true, decide_eq_true_eq] at h
  omega
theorem dec_enc {rs : List (List UInt8)} (ha : rs.all rowB = true) (hs : someB rs = true) : dec rs.length (encB rs) = some rs := by
  have hb : ∀ b ∈ rs, b.length ≤ 80 := fun b hb => row_len (List.all_eq_true.1 ha b hb)
  have h1 := run_enc rs [] hb
  rw [List.append_nil] at h1
  obtain ⟨_, _, e3⟩ := run_some _ _ _ _ h1
  unfold dec encB
  rw [if_pos hs, e3, if_pos ha]
  simp only
  rw [if_pos ⟨rfl, hs⟩]
theorem enc_len : ∀ (rs : List (List UInt8)), rs.all rowB = true → (rs.flatMap fld).length ≤ 82 * rs.length
  | [], _ => by simp
  | m :: rs, h => by
    rw [List.all_cons, Bool.and_eq_true] at h
    have h1 := row_len h.1
    have h2 := enc_len rs h.2
    rw [List.flatMap_cons, List.length_append, fld_len, List.length_cons]; omega
theorem encB_len {rs : List (List UInt8)} (h : rs.all rowB = true) : (encB rs).length ≤ 82 * rs.length := by
  unfold encB
  split
  · exact enc_len rs h
  · simp
theorem empty_rows {rs : List (List UInt8)} (h : someB rs = false) : rs = List.replicate rs.length [] := by
  apply List.eq_replicate_iff.2
  refine ⟨rfl, fun b hb => ?_⟩
  unfold someB at h
  rw [List.any_eq_false] at h
  have := h b hb
  simp only [decide_eq_true_eq] at this
  exact List.eq_nil_of_length_eq_zero (by omega)
/-! leaves -/
def leafB (nm : List UInt8 → Bool) (s x : List UInt8) : Bool := if s = [] then decide (x.length = 0) else nm s && (decide (48 ≤ x.length) && decide (x.length ≤ 398))
def leafE (s x : List UInt8) : List UInt8 := if s = [] then [] else fld s ++ fld x
def decLeaf (nm : List UInt8 → Bool) (b : List UInt8) : Option (List UInt8 × List UInt8) :=
  if endF (step 65536 (step 65536 b 0).2.1 (step 65536 b 0).2.2).2.1 (step 65536 (step 65536 b 0).2.1 (step 65536 b 0).2.2).2.2 = 0 ∧ (step 65536 b 0).1 ≠ [] ∧ leafB nm (step 65536 b 0).1 (step 65536 (step 65536 b 0).2.1 (step 65536 b 0).2.2).1 = true then some ((step 65536 b 0).1, (step 65536 (step 65536 b 0).2.1 (step 65536 b 0).2.2).1) else none
/-- a field at the beginning, and what is left, by the document -/
def takeR (l : List UInt8) : List UInt8 × List UInt8 := match rdF 65535 l with
  | some (m, r) => (m, r)
  | none => ([], l)
def refLeaf (nm : List UInt8 → Bool) (b : List UInt8) : Option (List UInt8 × List UInt8) :=
  if leafB nm (takeR b).1 (takeR (takeR b).2).1 = true ∧ leafE (takeR b).1 (takeR (takeR b).2).1 = b then some ((takeR b).1, (takeR (takeR b).2).1) else none
theorem leaf_ref {nm : List UInt8 → Bool} {b : List UInt8} (hb : b ≠ []) : decLeaf nm b = refLeaf nm b := by
  have hl := fun l => rdF_lim (l := l) (z := 65536) (by omega)
  cases h1 : rdF 65535 b with
  | none =>
    have s1 : step 65536 b 0 = ([], [], 4) := step_no (by rw [hl]; exact h1)
    have t1 : takeR b = ([], b) := by unfold takeR; rw [h1]
    unfold decLeaf refLeaf
    rw [s1, t1, if_neg (fun h => h.2.1 rfl), if_neg (fun h => hb (by have := h.2; simpa [leafE] using this.symm))]
  | some t =>
    obtain ⟨s, r⟩ := t
    have s1 : step 65536 b 0 = (s, r, 0) := step_yes (by rw [hl]; exact h1)
    have t1 : takeR b = (s, r) := by unfold takeR; rw [h1]
    have e1 := (rdF_some h1).1
    unfold decLeaf refLeaf
    rw [s1, t1]
    simp only
    by_cases hs : s = []
    · rw [if_neg (fun h => h.2.1 hs), if_neg (fun h => hb (by have := h.2; rw [leafE, if_pos hs] at this; exact this.symm))]
    · cases h2 : rdF 65535 r with
      | none =>
        have s2 : step 65536 r 0 = ([], [], 4) := step_no (by rw [hl]; exact h2)
        have t2 : takeR r = ([], r) := by unfold takeR; rw [h2]
        rw [s2, t2, if_neg (fun h => by have := h.1; simp [endF] at this), if_neg (fun h => by
          have := h.1
          rw [leafB, if_neg hs] at this
          simp at this)]
      | some u =>
        obtain ⟨x, r2⟩ := u
        have s2 : step 65536 r 0 = (x, r2, 0) := step_yes (by rw [hl]; exact h2)
        have t2 : takeR r = (x, r2) := by unfold takeR; rw [h2]
        have e2 := (rdF_some h2).1
        rw [s2, t2]
        simp only
        by_cases hr : r2 = []
        · subst hr
          rw [List.append_nil] at e2
          by_cases hf : leafB nm s x = true
          · rw [if_pos ⟨rfl, hs, hf⟩, if_pos ⟨hf, by rw [leafE, if_neg hs, e2]; exact e1⟩]
          · rw [if_neg (fun h => hf h.2.2), if_neg (fun h => hf h.1)]
        · rw [if_neg (fun h => by
            have h3 := h.1
            unfold endF at h3
            rw [if_pos ⟨rfl, List.length_pos_iff.2 hr⟩] at h3; cases h3), if_neg (fun h => by
            have h3 := h.2
            rw [leafE, if_neg hs] at h3
            rw [← e1, ← e2] at h3
            have := congrArg List.length h3
            simp only [List.length_append] at this
            exact hr (List.eq_nil_of_length_eq_zero (by omega)))]
theorem leaf_back {nm : List UInt8 → Bool} {s x : List UInt8} (hs : s ≠ []) (hl : s.length < 65536) (hf : leafB nm s x = true) : decLeaf nm (leafE s x) = some (s, x) := by
  have hx : x.length ≤ 398 := by
    rw [leafB, if_neg hs] at hf
    simp only [Bool.and_eq_true, decide_eq_true_eq] at hf
    exact hf.2.2
  have e : leafE s x = fld s ++ (fld x ++ []) := by rw [leafE, if_neg hs, List.append_nil]
  have s1 : step 65536 (leafE s x) 0 = (s, fld x ++ [], 0) := by rw [e]; exact step_yes (rdF_fld (by omega) hl _)
  have s2 : step 65536 (fld x ++ []) 0 = (x, [], 0) := step_yes (rdF_fld (by omega) (by omega) _)
  unfold decLeaf
  rw [s1]
  simp only
  rw [s2]
  simp only
  rw [if_pos ⟨rfl, hs, hf⟩]
end Go.Proofs.YtnfhlnkbkfgihaaDoor.Nod

/- A region that draws its order: reads and calls that only make memory come first, in whatever order; one operation that writes waits for all of them. One walk in the order of the text serves every order. -/
namespace Go.Proofs.YtnfhlnkbkfgihaaDoor
open Go.RowKit
set_option linter.unusedVariables false

section
variable {P : Program} {ops : Array Oper} {md : Region.Mode} {C : World → Prop}

def headQ (P : Program) (md : Region.Mode) (ops : Array Oper) (C : World → Prop) (n : Nat) (L : Array Bool → Act → Prop) : Nat → Array Bool → Act → Prop
  | 0, listed, a => L listed a
  | f + 1, listed, a => Region.ready md ops listed ≠ [] ∧ ∀ i ∈ Region.ready md ops listed, i < n ∧ qOp P ops C i (headQ P md ops C n L f (listed.setIfInBounds i true)) a

theorem any_of_headQ {n g : Nat} {L : Array Bool → Act → Prop} {Q' : Exit → Act → World → Prop} (hL : ∀ listed a w, C w → L listed a → wpAny P md ops Q' g listed a w) :
    ∀ (f : Nat) (listed : Array Bool) (a : Act) (w : World), C w → headQ P md ops C n L f listed a → wpAny P md ops Q' (f + g) listed a w
  | 0, listed, a, w, hw, h => by rw [Nat.zero_add]; exact hL _ _ _ hw h
  | f + 1, listed, a, w, hw, h => by
    rw [show f + 1 + g = (f + g) + 1 by omega]
    exact ⟨fun h0 => absurd h0 h.1, fun i hi => wpOp_of_qOp hw (fun a' w' hw' h' => any_of_headQ hL f _ a' w' hw' h') (h.2 i hi).2⟩

theorem headQ_first {n i : Nat} {oi : Oper} {v : Value} {L : Array Bool → Act → Prop} (hi : ops[i]? = some oi) (hsel : ∀ (j : Nat) (o : Oper) cs b, ops[j]? = some o → o.op ≠ .select cs b)
    (hs : Region.sinkB md ops n = true) (hc : Region.chainB md ops n = true) (hn : n < ops.size) (hin : i < n)
    (hdone : ∀ listed a, L listed a → ∀ j ∈ Region.ready md ops listed, n ≤ j) :
    ∀ (f : Nat) (listed : Array Bool) (a : Act), HeadInv md ops n listed →
      (∀ j oj, ops[j]? = some oj → j ≠ i → listed.getD j true = false → (∀ e ∈ oj.after, Region.binds md e = true → e.on ≠ i) → oi.apart ops oj = true) →
      i ∈ Region.ready md ops listed → YieldsIn P ops C oi v a →
      headQ P md ops C n L f (listed.setIfInBounds i true) (a.put oi.dst v) → headQ P md ops C n L (f + 1) listed a := by
  intro f
  induction f with
  | zero =>
    intro listed a inv _ hr hy H
    refine ⟨fun h => (by rw [h] at hr; cases hr), fun j hj => ?_⟩
    have hjn : j < n := by
      rcases Nat.lt_or_ge j n with h | h
      · exact h
      · exact absurd hj (tail_waits hs hc hn inv _ i rfl hin (mem_ready.1 hr).1 j h)
    refine ⟨hjn, ?_⟩
    by_cases hji : j = i
    · subst hji; exact hy.qOp hi H
    · have := hdone _ _ H j (ready_mono hj hji)
      omega
  | succ f ih =>
    intro listed a inv hfree hr hy H
    have hun := (mem_ready.1 hr).1
    refine ⟨fun h => (by rw [h] at hr; cases hr), fun j hj => ?_⟩
    have hjn : j < n := by
      rcases Nat.lt_or_ge j n with h | h
      · exact h
      · exact absurd hj (tail_waits hs hc hn inv _ i rfl hin hun j h)
    refine ⟨hjn, ?_⟩
    by_cases hji : j = i
    · subst hji; exact hy.qOp hi H
    · have h1 := (H.2 j (ready_mono hj hji)).2
      obtain ⟨hjun, oj, hoj, hall⟩ := mem_ready.1 hj
      have hnot : ∀ e ∈ oj.after, Region.binds md e = true → e.on ≠ i := fun e he hb heq => by
        have h1 := hall e he hb
        rw [heq, getD_both hun] at h1
        cases h1
      have h2 := qOp_put hoj (hfree j oj hoj hji hjun hnot) (fun cs b => hsel i oi cs b hi) (fun cs b => hsel j oj cs b hoj) hy h1
      have hfree' : ∀ k ok, ops[k]? = some ok → k ≠ i → (listed.setIfInBounds j true).getD k true = false →
          (∀ e ∈ ok.after, Region.binds md e = true → e.on ≠ i) → oi.apart ops ok = true := fun k ok hk hki hun hno => by
        refine hfree k ok hk hki ?_ hno
        by_cases hjk : j = k
        · subst hjk; exact hjun
        · rw [getD_set_ne true hjk] at hun; exact hun
      refine qOp_mono (fun a' h3 => ih (listed.setIfInBounds j true) a' (inv.set hj hjn) hfree' (ready_mono hr (Ne.symm hji)) h3.1 ?_) h2
      rw [Array.setIfInBounds_comm _ _ hji]
      exact h3.2

theorem headQ_lex {n g : Nat} {Lq : Act → Prop} (hsel : Region.noSelect ops = true) (hs : Region.sinkB md ops n = true) (hc : Region.chainB md ops n = true) (hn : n < ops.size) :
    ∀ (l : List Oper) (k : Nat) (listed : Array Bool) (a : Act), (∀ j, j < l.length → l[j]? = ops[k + j]?) → k + l.length = n → HeadInv md ops n listed →
    Region.lexHead md ops g l.length k listed = true → wpQuiet P ops C Lq l a →
    headQ P md ops C n (fun listed' a' => Region.seqB md ops g n listed' = true ∧ Lq a') l.length listed a
  | [], k, listed, a, _, hk, _, hB, h => by
    have : k = n := by simpa using hk
    subst this
    exact ⟨by simpa [Region.lexHead] using hB, h⟩
  | o :: l, k, listed, a, hl, hk, inv, hB, h => by
    have h0 : ops[k]? = some o := by simpa using (hl 0 (by simp)).symm
    simp only [List.length_cons, Region.lexHead, Bool.and_eq_true] at hB
    obtain ⟨⟨hr, hf⟩, hB'⟩ := hB
    have hkn : k < n := by simp only [List.length_cons] at hk; omega
    have hr' : k ∈ Region.ready md ops listed := by simpa using hr
    have hst : qOp P ops C k (wpQuiet P ops C Lq l) a := by unfold qOp; simp only [h0]; exact h
    obtain ⟨v, hy, hK⟩ := yieldsIn_of_qOp h0 hst
    exact headQ_first h0 (Region.noSelect_spec hsel) hs hc hn hkn (fun listed' a' hL => seqB_ready hL.1) l.length listed a inv (Region.free_spec h0 hf) hr' hy
      (headQ_lex hsel hs hc hn l (k + 1) _ _ (fun j hj => by have := hl (j + 1) (by simp; omega); simpa [Nat.add_assoc, Nat.add_comm 1 j] using this) (by simp only [List.length_cons] at hk; omega) (inv.set hr' hkn) hB' hK)

theorem wp_region_quiet_tail {id : Nat} {Q : Exit → Act → World → Prop} {a : Act} {w : World} {l : List Oper} (n : Nat) (hm : P.follows .mixedOrders = true) (hB : Region.lexTailB .any l.toArray n = true) (hC : C { w with drawn := w.drawn + 1 })
    (h : wpQuiet P l.toArray C (fun a' => ∀ w', C w' → wpList P l.toArray Q (l.drop n) a' w') (l.take n) a) : (Code.region id l.toArray true).wp P Q a w := by
  simp only [Region.lexTailB, Bool.and_eq_true, decide_eq_true_eq] at hB
  obtain ⟨⟨⟨⟨hsel, hn⟩, hs⟩, hc⟩, hlex⟩ := hB
  have hn' : n < l.length := by simpa using hn
  have htl : (l.take n).length = n := by simp; omega
  have hdl : (l.drop n).length = l.toArray.size - n := by simp
  have inv0 : HeadInv .any l.toArray n (Array.replicate l.toArray.size false) :=
    ⟨by simp, fun j oj _ hl => (by rw [getD_replicate_false] at hl; cases hl), fun t _ ht => getD_in (by simpa using ht) (getD_replicate_false _ _)⟩
  have H := headQ_lex (md := .any) (g := l.toArray.size - n) hsel hs hc hn (l.take n) 0 _ a (fun j hj => by
    have hj' : j < n := by rw [htl] at hj; exact hj
    simp [hj']) (by simpa using htl) inv0 (by rw [htl]; exact hlex) h
  refine wp_region_any hm ?_
  have := any_of_headQ (Q' := Q) (g := l.toArray.size - n) (fun listed a' w' hw' hL => by
    have := wpAny_of_seq (md := .any) (Q' := Q) (l.drop n) n listed a' w' (fun j => by simp [List.getElem?_drop]) (by rw [hdl]; exact hL.1) (hL.2 w' hw')
    rwa [hdl] at this) _ _ _ _ hC H
  rw [htl, show n + (l.toArray.size - n) = l.toArray.size by omega] at this
  exact this
end

section
variable {P : Program} {ops : Array Oper} {md : Region.Mode} {C : World → Prop}
/-! moves that only the tail waits for are taken first; then the head, in any order; then the tail -/
def preOne (o : Oper) (a : Act) : Act := match o.op with
  | .move x => a.put o.dst (a.eval x)
  | _ => a
def preAct (l : List Oper) (pre : List Nat) (a : Act) : Act := pre.foldl (fun a i => match l[i]? with | some o => preOne o a | none => a) a
def mark (listed : Array Bool) (is : List Nat) : Array Bool := is.foldl (fun x i => x.setIfInBounds i true) listed
def movesB (md : Region.Mode) (ops : Array Oper) : List Nat → Array Bool → Bool
  | [], _ => true
  | i :: is, listed => (match ops[i]? with | some o => o.guard.isNone && (match o.op with | .move _ => true | _ => false) | none => false) &&
      Region.free md ops listed i && (Region.ready md ops listed).contains i && movesB md ops is (listed.setIfInBounds i true)
theorem take_moves {l : List Oper} {Q : Exit → Act → World → Prop} {w : World} (hs : Region.noSelect l.toArray = true) (hQ : ∀ c d v a w, Q (.panic c) (Act.put a d v) w → Q (.panic c) a w) :
    ∀ (pre : List Nat) (fuel : Nat) (listed : Array Bool) (a : Act), movesB md l.toArray pre listed = true → wpAny P md l.toArray Q fuel (mark listed pre) (preAct l pre a) w → wpAny P md l.toArray Q (fuel + pre.length) listed a w
  | [], fuel, listed, a, _, h => by simpa [mark, preAct] using h
  | i :: is, fuel, listed, a, hB, h => by
    simp only [movesB, Bool.and_eq_true] at hB
    obtain ⟨⟨⟨hm, hf⟩, hr⟩, hB'⟩ := hB
    cases ho : l.toArray[i]? with
    | none => rw [ho] at hm; cases hm
    | some o =>
      rw [ho] at hm
      simp only [Bool.and_eq_true] at hm
      obtain ⟨hg, hm⟩ := hm
      cases hop : o.op with
      | move x =>
        have ho' : l[i]? = some o := by simpa using ho
        have hpre : preAct l (i :: is) a = preAct l is (a.put o.dst (a.eval x)) := by
          simp [preAct, ho', preOne, hop]
        rw [hpre] at h
        have hw : Region.wanted o (yielded l.toArray a.tmps) = true := by
          have : o.guard = none := by simpa using hg
          simp [Region.wanted, this]
        have hy : Yields P l.toArray o (a.eval x) a := .inl ⟨hw, fun w => BigFrame.run_move x hop w⟩
        exact wpAny_take ho hs hf hr (fun c a w => hQ c _ _ a w) hy (take_moves hs hQ is fuel _ _ hB' h)
      | _ => rw [hop] at hm; cases hm

structure InvI (md : Region.Mode) (ops : Array Oper) (n : Nat) (l0 listed : Array Bool) : Prop where
  inv : HeadInv md ops n listed
  more : ∀ i, l0.getD i true = true → listed.getD i true = true
def sinkI (md : Region.Mode) (ops : Array Oper) (n : Nat) (l0 : Array Bool) : Bool :=
  (List.range n).all fun i => l0.getD i true || (List.range (n + 1)).any fun j => decide (i < j) && Region.waitsFor md ops j i
theorem tail_waitsI {n : Nat} {l0 listed : Array Bool} (hs : sinkI md ops n l0 = true) (hc : Region.chainB md ops n = true) (hn : n < ops.size) (inv : InvI md ops n l0 listed) :
    ∀ (d i : Nat), n - i = d → i < n → listed.getD i true = false → ∀ t, n ≤ t → t ∉ Region.ready md ops listed := by
  intro d
  induction d using Nat.strongRecOn with
  | _ d ih =>
    intro i hd hi hun t ht hr
    obtain ⟨_, ot, hot, hall⟩ := mem_ready.1 hr
    have htlt : t < ops.size := (Array.getElem?_eq_some_iff.1 hot).1
    by_cases htn : t = n
    · subst htn
      have h1 := List.all_eq_true.1 hs i (List.mem_range.2 hi)
      have h0 : l0.getD i true = false := by
        cases h : l0.getD i true with
        | false => rfl
        | true => rw [inv.more i h] at hun; cases hun
      rw [h0, Bool.false_or] at h1
      obtain ⟨j, hj, hj2⟩ := List.any_eq_true.1 h1
      simp only [Bool.and_eq_true, decide_eq_true_eq] at hj2
      obtain ⟨oj, hoj, e, he, hb, hon⟩ := Region.waitsFor_spec hj2.2
      have hjle : j ≤ t := by have := List.mem_range.1 hj; omega
      by_cases hjt : j = t
      · subst hjt
        have : oj = ot := Option.some.inj (hoj.symm.trans hot)
        subst this
        have h2 := hall e he hb
        rw [hon, getD_both hun] at h2
        cases h2
      · cases hl : listed.getD j false with
        | true =>
          have h2 := inv.inv.closed j oj hoj hl e he hb
          rw [hon, getD_both hun] at h2
          cases h2
        | false =>
          have hjs : j < listed.size := by rw [inv.inv.size]; omega
          exact ih (t - j) (by omega) j rfl (by omega) (getD_in hjs hl) t (Nat.le_refl _) hr
    · have h1 := List.all_eq_true.1 hc t (List.mem_range.2 htlt)
      simp only [Bool.or_eq_true, decide_eq_true_eq] at h1
      rcases h1 with h1 | h1
      · omega
      · obtain ⟨o', ho', e, he, hb, hon⟩ := Region.waitsFor_spec h1
        have : o' = ot := Option.some.inj (ho'.symm.trans hot)
        subst this
        have h2 := hall e he hb
        rw [hon, getD_both (inv.inv.tail (t - 1) (by omega) (by omega))] at h2
        cases h2
theorem InvI.set {n i : Nat} {l0 listed : Array Bool} (inv : InvI md ops n l0 listed) (hi : i ∈ Region.ready md ops listed) (hin : i < n) : InvI md ops n l0 (listed.setIfInBounds i true) :=
  ⟨inv.inv.set hi hin, fun j hj => by
    by_cases h : i = j
    · subst h
      rcases Nat.lt_or_ge i listed.size with h' | h'
      · simp [h']
      · simp [h']
    · rw [getD_set_ne true h]; exact inv.more j hj⟩

theorem headI_first {n i : Nat} {oi : Oper} {v : Value} {l0 : Array Bool} {L : Array Bool → Act → Prop} (hi : ops[i]? = some oi) (hsel : ∀ (j : Nat) (o : Oper) cs b, ops[j]? = some o → o.op ≠ .select cs b)
    (hs : sinkI md ops n l0 = true) (hc : Region.chainB md ops n = true) (hn : n < ops.size) (hin : i < n)
    (hdone : ∀ listed a, L listed a → ∀ j ∈ Region.ready md ops listed, n ≤ j) :
    ∀ (f : Nat) (listed : Array Bool) (a : Act), InvI md ops n l0 listed →
      (∀ j oj, ops[j]? = some oj → j ≠ i → listed.getD j true = false → (∀ e ∈ oj.after, Region.binds md e = true → e.on ≠ i) → oi.apart ops oj = true) →
      i ∈ Region.ready md ops listed → YieldsIn P ops C oi v a →
      headQ P md ops C n L f (listed.setIfInBounds i true) (a.put oi.dst v) → headQ P md ops C n L (f + 1) listed a := by
  intro f
  induction f with
  | zero =>
    intro listed a inv _ hr hy H
    refine ⟨fun h => (by rw [h] at hr; cases hr), fun j hj => ?_⟩
    have hjn : j < n := by
      rcases Nat.lt_or_ge j n with h | h
      · exact h
      · exact absurd hj (tail_waitsI hs hc hn inv _ i rfl hin (mem_ready.1 hr).1 j h)
    refine ⟨hjn, ?_⟩
    by_cases hji : j = i
    · subst hji; exact hy.qOp hi H
    · have := hdone _ _ H j (ready_mono hj hji)
      omega
  | succ f ih =>
    intro listed a inv hfree hr hy H
    have hun := (mem_ready.1 hr).1
    refine ⟨fun h => (by rw [h] at hr; cases hr), fun j hj => ?_⟩
    have hjn : j < n := by
      rcases Nat.lt_or_ge j n with h | h
      · exact h
      · exact absurd hj (tail_waitsI hs hc hn inv _ i rfl hin hun j h)
    refine ⟨hjn, ?_⟩
    by_cases hji : j = i
    · subst hji; exact hy.qOp hi H
    · have h1 := (H.2 j (ready_mono hj hji)).2
      obtain ⟨hjun, oj, hoj, hall⟩ := mem_ready.1 hj
      have hnot : ∀ e ∈ oj.after, Region.binds md e = true → e.on ≠ i := fun e he hb heq => by
        have h1 := hall e he hb
        rw [heq, getD_both hun] at h1
        cases h1
      have h2 := qOp_put hoj (hfree j oj hoj hji hjun hnot) (fun cs b => hsel i oi cs b hi) (fun cs b => hsel j oj cs b hoj) hy h1
      have hfree' : ∀ k ok, ops[k]? = some ok → k ≠ i → (listed.setIfInBounds j true).getD k true = false →
          (∀ e ∈ ok.after, Region.binds md e = true → e.on ≠ i) → oi.apart ops ok = true := fun k ok hk hki hun hno => by
        refine hfree k ok hk hki ?_ hno
        by_cases hjk : j = k
        · subst hjk; exact hjun
        · rw [getD_set_ne true hjk] at hun; exact hun
      refine qOp_mono (fun a' h3 => ih (listed.setIfInBounds j true) a' (inv.set hj hjn) hfree' (ready_mono hr (Ne.symm hji)) h3.1 ?_) h2
      rw [Array.setIfInBounds_comm _ _ hji]
      exact h3.2

def headIB (md : Region.Mode) (ops : Array Oper) (g n : Nat) : List Nat → Array Bool → Bool
  | [], listed => Region.seqB md ops g n listed
  | i :: is, listed => decide (i < n) && (Region.ready md ops listed).contains i && Region.free md ops listed i && headIB md ops g n is (listed.setIfInBounds i true)
def opsAt (l : List Oper) : List Nat → List Oper
  | [] => []
  | i :: is => l.getD i default :: opsAt l is
theorem headI_lex {n g : Nat} {l0 : Array Bool} {Lq : Act → Prop} {l : List Oper} (hsel : Region.noSelect l.toArray = true) (hs : sinkI md l.toArray n l0 = true) (hc : Region.chainB md l.toArray n = true) (hn : n < l.toArray.size) :
    ∀ (hd : List Nat) (listed : Array Bool) (a : Act), InvI md l.toArray n l0 listed → headIB md l.toArray g n hd listed = true → wpQuiet P l.toArray C Lq (opsAt l hd) a →
    headQ P md l.toArray C n (fun listed' a' => Region.seqB md l.toArray g n listed' = true ∧ Lq a') hd.length listed a
  | [], listed, a, _, hB, h => ⟨by simpa [headIB] using hB, h⟩
  | i :: is, listed, a, inv, hB, h => by
    simp only [headIB, Bool.and_eq_true, decide_eq_true_eq] at hB
    obtain ⟨⟨⟨hin, hr⟩, hf⟩, hB'⟩ := hB
    have hr' : i ∈ Region.ready md l.toArray listed := by simpa using hr
    obtain ⟨_, oi, hoi, _⟩ := mem_ready.1 hr'
    have hget : l.getD i default = oi := by
      have : l[i]? = some oi := by simpa using hoi
      simp [List.getD, this]
    have hst : qOp P l.toArray C i (wpQuiet P l.toArray C Lq (opsAt l is)) a := by
      unfold qOp; simp only [hoi]
      have h' : wpQuiet P l.toArray C Lq (oi :: opsAt l is) a := by rw [← hget]; exact h
      exact h'
    obtain ⟨v, hy, hK⟩ := yieldsIn_of_qOp hoi hst
    exact headI_first hoi (Region.noSelect_spec hsel) hs hc hn hin (fun listed' a' hL => seqB_ready hL.1) is.length listed a inv (Region.free_spec hoi hf) hr' hy
      (headI_lex hsel hs hc hn is _ _ (inv.set hr' hin) hB' hK)

def closedB (md : Region.Mode) (ops : Array Oper) (listed : Array Bool) : Bool :=
  (List.range ops.size).all fun j => !listed.getD j false || match ops[j]? with | some o => o.after.all (fun e => !Region.binds md e || listed.getD e.on false) | none => true
def threeB (md : Region.Mode) (ops : Array Oper) (pre hd : List Nat) (n : Nat) : Bool :=
  Region.noSelect ops && decide (n < ops.size) && decide (ops.size = (hd.length + (ops.size - n)) + pre.length) && movesB md ops pre (Array.replicate ops.size false) &&
    decide ((mark (Array.replicate ops.size false) pre).size = ops.size) && closedB md ops (mark (Array.replicate ops.size false) pre) && (List.range ops.size).all (fun t => decide (t < n) || (mark (Array.replicate ops.size false) pre).getD t true == false) &&
    sinkI md ops n (mark (Array.replicate ops.size false) pre) && Region.chainB md ops n && headIB md ops (ops.size - n) n hd (mark (Array.replicate ops.size false) pre)

theorem wp_region_three {id : Nat} {Q : Exit → Act → World → Prop} {a : Act} {w : World} {l : List Oper} (pre hd : List Nat) (n : Nat) (hm : P.follows .mixedOrders = true) (hB : threeB .any l.toArray pre hd n = true) (hC : C { w with drawn := w.drawn + 1 })
    (hQ : ∀ c d v a w, Q (.panic c) (Act.put a d v) w → Q (.panic c) a w)
    (h : wpQuiet P l.toArray C (fun a' => ∀ w', C w' → wpList P l.toArray Q (l.drop n) a' w') (opsAt l hd) (preAct l pre a)) : (Code.region id l.toArray true).wp P Q a w := by
  simp only [threeB, Bool.and_eq_true, decide_eq_true_eq] at hB
  obtain ⟨⟨⟨⟨⟨⟨⟨⟨⟨hsel, hn⟩, hlen⟩, hmv⟩, hsz⟩, hcl⟩, htl⟩, hs⟩, hc⟩, hlex⟩ := hB
  refine wp_region_any hm ?_
  rw [hlen]
  rw [← hlen]
  have inv0 : InvI .any l.toArray n (mark (Array.replicate l.toArray.size false) pre) (mark (Array.replicate l.toArray.size false) pre) := by
    refine ⟨⟨hsz, fun j oj hj hl e he hb => ?_, fun t ht htt => ?_⟩, fun i hi => hi⟩
    · have hjs : j < l.toArray.size := (Array.getElem?_eq_some_iff.1 hj).1
      have h1 := List.all_eq_true.1 hcl j (List.mem_range.2 hjs)
      rw [hl, hj] at h1
      simp only [Bool.not_true, Bool.false_or] at h1
      have h2 := Array.all_eq_true_iff_forall_mem.1 h1 e he
      rw [hb] at h2
      simpa using h2
    · have h1 := List.all_eq_true.1 htl t (List.mem_range.2 htt)
      simp only [Bool.or_eq_true, decide_eq_true_eq] at h1
      rcases h1 with h1 | h1
      · omega
      · simpa using h1
  have H := headI_lex (md := .any) (g := l.toArray.size - n) hsel hs hc hn hd _ _ inv0 hlex h
  have hT := any_of_headQ (Q' := Q) (g := l.toArray.size - n) (fun listed a' w' hw' hL => by
    have hdl : (l.drop n).length = l.toArray.size - n := by simp
    have := wpAny_of_seq (md := .any) (Q' := Q) (l.drop n) n listed a' w' (fun j => by simp [List.getElem?_drop]) (by rw [hdl]; exact hL.1) (hL.2 w' hw')
    rwa [hdl] at this) _ _ _ _ hC H
  have := take_moves (md := .any) hsel hQ pre _ _ _ hmv hT
  rw [← hlen] at this
  exact this
end

/-- the world is as it was, below its end, but for new memory -/
def InB (w0 w' : World) : Prop := Below w0.heap.size w0 w'
theorem InB.start (w0 : World) : InB w0 { w0 with drawn := w0.drawn + 1 } := (Below.refl w0.heap.size w0).drew
theorem InB.below {w0 w' : World} (h : InB w0 w') : Below w0.heap.size w0 w' := h
theorem InB.on {w0 w' w1 : World} (h : InB w0 w') (b : Below w'.heap.size w' w1) : InB w0 w1 := Below.trans (B := w0.heap.size) h (b.mono (Below.size h))
theorem InB.cell {w0 w' : World} (h : InB w0 w') (b o : Nat) (hb : b < w0.heap.size) : w'.cell? ⟨b, o, none⟩ = w0.cell? ⟨b, o, none⟩ := Below.cell h (p := ⟨b, o, none⟩) hb
theorem InB.some (w0 : World) : ∃ w', InB w0 w' := ⟨_, InB.start w0⟩
theorem region_inb {P : Program} {id : Nat} {Q : Exit → Act → World → Prop} {a : Act} {w : World} {l : List Oper} (hm : P.follows .mixedOrders = true) (hB : Region.lexB .any l.toArray = true)
    (h : wpQuiet P l.toArray (InB w) (fun a' => ∀ w', InB w w' → Q .normal a' w') l a) : (Code.region id l.toArray true).wp P Q a w :=
  wp_region_quiet (C := InB w) hm hB (InB.start w) (by simpa using h)
theorem region_inb_tail {P : Program} {id : Nat} {Q : Exit → Act → World → Prop} {a : Act} {w : World} {l : List Oper} (n : Nat) (hm : P.follows .mixedOrders = true) (hB : Region.lexTailB .any l.toArray n = true)
    (h : wpQuiet P l.toArray (InB w) (fun a' => ∀ w', InB w w' → wpList P l.toArray Q (l.drop n) a' w') (l.take n) a) : (Code.region id l.toArray true).wp P Q a w :=
  wp_region_quiet_tail (C := InB w) n hm hB (InB.start w) h
theorem region_three {P : Program} {id : Nat} {Q : Exit → Act → World → Prop} {a : Act} {w : World} {l : List Oper} (pre hd : List Nat) (n : Nat) (hm : P.follows .mixedOrders = true) (hB : threeB .any l.toArray pre hd n = true)
    (hQ : ∀ c d v a w, Q (.panic c) (Act.put a d v) w → Q (.panic c) a w)
    (h : wpQuiet P l.toArray (InB w) (fun a' => ∀ w', InB w w' → wpList P l.toArray Q (l.drop n) a' w') (opsAt l hd) (preAct l pre a)) : (Code.region id l.toArray true).wp P Q a w :=
  wp_region_three (C := InB w) pre hd n hm hB (InB.start w) hQ h
end Go.Proofs.YtnfhlnkbkfgihaaDoor

/- Words for memory that all walks of this seat share: a slice that reads as a list of cells, a block of one cell, bits of unsigned numbers. No statement is proved here. -/
namespace Go.Proofs.YtnfhlnkbkfgihaaDoor
open Go.RowKit

/-! numbers as cells -/
abbrev e8 (x : UInt8) : Value := .int .u8 (x.toNat : Int)

theorem xor8 (a b : UInt8) : bits .xor .u8 (a.toNat : Int) (b.toNat : Int) = ((a ^^^ b).toNat : Int) := by
  rw [u8_xor_nat _ _ a.toNat_lt b.toNat_lt]; simp
theorem and8 (a b : UInt8) : bits .and .u8 (a.toNat : Int) (b.toNat : Int) = ((a &&& b).toNat : Int) := by
  rw [u8_and_nat _ _ a.toNat_lt b.toNat_lt]; simp
theorem or8 (a b : UInt8) : bits .or .u8 (a.toNat : Int) (b.toNat : Int) = ((a ||| b).toNat : Int) := by
  rw [u8_or_nat _ _ a.toNat_lt b.toNat_lt]; simp
theorem xor32 (a b : UInt32) : bits .xor .u32 (a.toNat : Int) (b.toNat : Int) = ((a ^^^ b).toNat : Int) := by
  rw [u32_xor_nat _ _ a.toNat_lt b.toNat_lt]; simp
theorem and32 (a b : UInt32) : bits .and .u32 (a.toNat : Int) (b.toNat : Int) = ((a &&& b).toNat : Int) := by
  rw [u32_and_nat _ _ a.toNat_lt b.toNat_lt]; simp
theorem or32 (a b : UInt32) : bits .or .u32 (a.toNat : Int) (b.toNat : Int) = ((a ||| b).toNat : Int) := by
  rw [u32_or_nat _ _ a.toNat_lt b.toNat_lt]; simp
theorem xor64 (a b : UInt64) : bits .xor .u64 (a.toNat : Int) (b.toNat : Int) = ((a ^^^ b).toNat : Int) := by
  rw [u64_xor_nat _ _ a.toNat_lt b.toNat_lt]; simp
theorem and64 (a b : UInt64) : bits .and .u64 (a.toNat : Int) (b.toNat : Int) = ((a &&& b).toNat : Int) := by
  rw [u64_and_nat _ _ a.toNat_lt b.toNat_lt]; simp
theorem or64 (a b : UInt64) : bits .or .u64 (a.toNat : Int) (b.toNat : Int) = ((a ||| b).toNat : Int) := by
  rw [u64_or_nat _ _ a.toNat_lt b.toNat_lt]; simp

/-! a number that came in, as an unsigned word -/
theorem to8 (n : Int) (h0 : 0 ≤ n) (h1 : n ≤ 255) : ∃ x : UInt8, n = (x.toNat : Int) :=
  ⟨UInt8.ofNat n.toNat, by rw [UInt8.toNat_ofNat']; have : n.toNat < 256 := by omega
                           simp [Nat.mod_eq_of_lt this]; omega⟩
theorem to32 (n : Int) (h0 : 0 ≤ n) (h1 : n ≤ 4294967295) : ∃ x : UInt32, n = (x.toNat : Int) :=
  ⟨UInt32.ofNat n.toNat, by rw [UInt32.toNat_ofNat']; have : n.toNat < 4294967296 := by omega
                            simp [Nat.mod_eq_of_lt this]; omega⟩
theorem to64 (n : Int) (h0 : 0 ≤ n) (h1 : n ≤ 18446744073709551615) : ∃ x : UInt64, n = (x.toNat : Int) :=
  ⟨UInt64.ofNat n.toNat, by rw [UInt64.toNat_ofNat']; have : n.toNat < 18446744073709551616 := by omega
                            simp [Nat.mod_eq_of_lt this]; omega⟩
theorem list8 (zs : List Int) (h : ∀ n ∈ zs, (Lit.int .u8 n).wf = true) : ∃ l : List UInt8, zs = l.map (fun x => (x.toNat : Int)) := by
  induction zs with
  | nil => exact ⟨[], rfl⟩
  | cons z zs ih =>
    obtain ⟨l, rfl⟩ := ih fun n hn => h n (by simp [hn])
    have hz := h z (by simp)
    simp [Lit.wf, IntKind.min, IntKind.max, IntKind.signed, IntKind.bits] at hz
    obtain ⟨x, rfl⟩ := to8 z (by omega) (by omega)
    exact ⟨x :: l, rfl⟩

/-! a slice that reads as a list of cells -/
def Rd (w : World) (B : Nat) (A : Option Addr) (xs : List Value) : Prop :=
  xs ≠ [] → ∃ b off, A = some ⟨b, off, none⟩ ∧ b < B ∧ ∀ i (h : i < xs.length), w.cell? ⟨b, off + i, none⟩ = some xs[i]

theorem Rd.nil (w : World) (B : Nat) (A : Option Addr) : Rd w B A [] := fun h => absurd rfl h
theorem Rd.get {w : World} {B : Nat} {A : Option Addr} {xs : List Value} (h : Rd w B A xs) {k : Nat} (hk : k < xs.length) :
    ∃ b off, A = some ⟨b, off, none⟩ ∧ b < B ∧ w.cell? ⟨b, off + k, none⟩ = some xs[k] := by
  obtain ⟨b, off, rfl, hb, hc⟩ := h (by intro e; rw [e] at hk; exact absurd hk (by simp))
  exact ⟨b, off, rfl, hb, hc k hk⟩
theorem Rd.keep {w w' : World} {B : Nat} {A : Option Addr} {xs : List Value} (h : Rd w B A xs) (hk : ∀ p : Addr, p.block < B → w'.cell? p = w.cell? p) : Rd w' B A xs := by
  intro hne
  obtain ⟨b, off, rfl, hb, hc⟩ := h hne
  exact ⟨b, off, rfl, hb, fun i hi => (hk ⟨b, off + i, none⟩ hb).trans (hc i hi)⟩
theorem Rd.below {w w' : World} {B : Nat} {A : Option Addr} {xs : List Value} (h : Rd w B A xs) (hb : Below B w w') : Rd w' B A xs := h.keep fun _ hp => hb.cell hp
theorem Rd.more {w : World} {B B' : Nat} {A : Option Addr} {xs : List Value} (h : Rd w B A xs) (hB : B ≤ B') : Rd w B' A xs := by
  intro hne
  obtain ⟨b, off, rfl, hb, hc⟩ := h hne
  exact ⟨b, off, rfl, by omega, hc⟩
/-- it reads so in any later world, below that world's end -/
theorem Rd.on {w w' : World} {A : Option Addr} {xs : List Value} (h : Rd w w.heap.size A xs) (hb : Below w.heap.size w w') : Rd w' w'.heap.size A xs := (h.below hb).more hb.size
theorem Rd.own {w : World} {base : Nat} {e : TypeId} {A : Option Addr} {n c : Nat} {xs : List Value} (h : w.ownsRow base e 1 (.slice A n c) n xs) : Rd w w.heap.size A xs := by
  intro hne
  rcases h.2 with ⟨hv, hn⟩ | ⟨g, cap, cur, hv, hg, hh, hnc, hcm, hcs, ht⟩
  · exact absurd (List.eq_nil_of_length_eq_zero (by have := h.1; omega)) hne
  · injection hv with hA _ _
    subst hA
    refine ⟨g, 0, rfl, lt_of_block hh, fun i hi => ?_⟩
    have hl := h.1
    have := World.ownsRow.cellAt (j := i) h (by omega)
    rw [Nat.zero_add, this]; exact List.getElem?_eq_getElem hi

theorem Rd.lit (w : World) (cs : Array Value) (t : TypeId) (xs : List Value) (B : Nat) (hx : cs.toList = xs) (hB : w.heap.size < B) : Rd (w.alloc (.cells cs t)) B (some ⟨w.heap.size, 0, none⟩) xs := by
  subst hx
  intro _
  refine ⟨_, _, rfl, hB, fun i hi => ?_⟩
  rw [World.cell?_alloc_new, Nat.zero_add]
  simp
theorem below_lit (w : World) (o : Obj) : Below w.heap.size w (w.alloc o) := (Below.refl _ _).alloc (Nat.le_refl _) _

/-! a block of one cell -/
def Box (w : World) (g : Nat) (v : Value) : Prop := ∃ t, w.heap[g]? = some (.cells #[v] t (0, 0))
theorem Box.cell {w : World} {g : Nat} {v : Value} (h : Box w g v) : w.cell? ⟨g, 0, none⟩ = some v := h.elim fun _ h => cell_of_one h
theorem Box.free {w : World} {g : Nat} {v : Value} (h : Box w g v) : w.frozen? ⟨g, 0, none⟩ = false := h.elim fun _ h => free_of_one h
theorem Box.lt {w : World} {g : Nat} {v : Value} (h : Box w g v) : g < w.heap.size := h.elim fun _ h => lt_of_block h
theorem Box.new (w : World) (t : TypeId) (v : Value) : Box (w.alloc (.cells #[v] t)) w.heap.size v := ⟨t, heap_alloc_new w _⟩
theorem Box.set {w : World} {g : Nat} {v : Value} (h : Box w g v) (u : Value) : Box (w.setCell ⟨g, 0, none⟩ u) g u := h.elim fun t h => ⟨t, one_setCell h⟩
theorem Box.kept {w w' : World} {g : Nat} {v : Value} {row : Option Nat} (h : Box w g v) (hg : w.grownBy w' row) (hne : some g ≠ row) : Box w' g v :=
  h.elim fun t hh => ⟨t, (hg.block g (lt_of_block hh) hne).trans hh⟩
theorem Box.below {w w' : World} {g B : Nat} {v : Value} (h : Box w g v) (hb : Below B w w') (hg : g < B) : Box w' g v := h.elim fun t hh => ⟨t, (hb.block g hg).trans hh⟩
theorem Box.alloc {w : World} {g : Nat} {v : Value} (h : Box w g v) (o : Obj) : Box (w.alloc o) g v := h.elim fun t hh => ⟨t, (Below.heap_alloc w o g (lt_of_block hh)).trans hh⟩

theorem grown_set (w : World) (a : Addr) (u : Value) : w.grownBy (w.setCell a u) (some a.block) :=
  ⟨rfl, rfl, rfl, by simp, fun k _ hk => heap_setCell_other w a k u (fun e => hk (by rw [e]))⟩
theorem grown_trans {a b c : World} {r : Option Nat} (h : a.grownBy b r) (k : b.grownBy c r) : a.grownBy c r :=
  ⟨k.os.trans h.os, k.tape.trans h.tape, k.output.trans h.output, Nat.le_trans h.size k.size, fun i hi hn => (k.block i (Nat.lt_of_lt_of_le hi h.size) hn).trans (h.block i hi hn)⟩
theorem below_grown {w w' : World} (h : Below w.heap.size w w') (r : Option Nat) : w.grownBy w' r := ⟨h.os, h.tape, h.output, h.size, fun k hk _ => h.block k hk⟩

/-! append onto a row of the call's own, the source nil, empty or not -/
section
variable {P : Program} (w : World)
theorem run_append_rd (base : Nat) (t ty e : TypeId) (i : TypeInfo) (z : Value) (size bytes : Nat) (ht : P.underlying t = some (.slice e)) (hi : P.info? e = some i) (hz : i.zero = some z)
    (hsize : i.size = size) (hby : i.bytes = bytes) (hzs : z.cells.size = size) (hsz : 0 < size) (v : Value) (n : Nat) (xs : List Value) (hown : w.ownsRow base e size v n xs)
    (B : Nat) (A : Option Addr) (m c : Nat) (news : List Value) (hl : news.length = m * size) (hr : Rd w B A news) (h1 : ∀ u ∈ news, u.oneCell' = true)
    (h63 : n + m ≤ maxLen) (hbytes : (n + m) * bytes ≤ 140737488355328) (hbase : base ≤ w.heap.size) :
    ∃ v' w', (Builtin.append_ #[t, t] ty #[v, .slice A m c]).run P w = .ok v' w' ∧ w'.ownsRow base e size v' (n + m) (xs ++ news) ∧ w.grownBy w' v.ownBlock ∧
      (v'.ownBlock = v.ownBlock ∨ v'.ownBlock = some w.heap.size) := by
  cases A with
  | none =>
    have hn : news = [] := by
      cases news with
      | nil => rfl
      | cons a l => obtain ⟨b, off, h, _⟩ := hr (by simp); cases h
    subst hn
    have hm : m = 0 := by
      rcases Nat.eq_zero_or_pos m with h | h
      · exact h
      · have h2 := Nat.mul_pos h hsz
        have h3 : (0 : Nat) = m * size := hl
        omega
    subst hm
    refine ⟨v, w, ?_, by simpa using hown, ⟨rfl, rfl, rfl, Nat.le_refl _, fun _ _ _ => rfl⟩, .inl rfl⟩
    rcases hown.2 with ⟨rfl, rfl⟩ | ⟨g, cap, cur, rfl, _, _, hnc, _⟩
    · simp [Builtin.append_, run_underlying ht, sizeOf, typeInfo, hi, Builtin.lenOf, Builtin.firstCells]
    · simp [Builtin.append_, run_underlying ht, sizeOf, typeInfo, hi, Builtin.lenOf, Builtin.firstCells, hnc, storeCells]
  | some ad =>
    have hcells : ∀ j u, news[j]? = some u → w.cell? (ad.add j) = some u := by
      intro j u hu
      obtain ⟨hj, rfl⟩ := List.getElem?_eq_some_iff.1 hu
      obtain ⟨b, off, h, _, hc⟩ := hr (by intro e; rw [e] at hj; exact absurd hj (by simp))
      injection h with h
      subst h
      rw [Addr.add_lit]
      exact hc j hj
    obtain ⟨v', w', h, h2, h3, _, h5⟩ := run_append_own_at (P := P) w base t ty e i z size bytes ht hi hz hsize hby hzs hsz v n xs hown ad m c news hl hcells h1 h63 hbytes hbase
    exact ⟨v', w', h, h2, h3, h5⟩

theorem wp_append_rd {o : Oper} {a : Act} {K : Act → World → Prop} {Q : Exit → Act → World → Prop} (s x : Operand) (t : TypeId)
    (ho : o.op = .call { callee := .builtin .append, args := #[s, x], argTypes := #[t, t] })
    (base : Nat) (e : TypeId) (i : TypeInfo) (z : Value) (size bytes : Nat) (ht : P.underlying t = some (.slice e)) (hi : P.info? e = some i) (hz : i.zero = some z)
    (hsize : i.size = size) (hby : i.bytes = bytes) (hzs : z.cells.size = size) (hsz : 0 < size)
    (v : Value) (n : Nat) (xs : List Value) (hs : a.eval s = v) (hown : w.ownsRow base e size v n xs)
    (B : Nat) (A : Option Addr) (m c : Nat) (news : List Value) (hx : a.eval x = .slice A m c) (hl : news.length = m * size) (hr : Rd w B A news) (h1 : ∀ u ∈ news, u.oneCell' = true)
    (h63 : n + m ≤ maxLen) (hbytes : (n + m) * bytes ≤ 140737488355328) (hbase : base ≤ w.heap.size)
    (h : ∀ v' w', w'.ownsRow base e size v' (n + m) (xs ++ news) → w.grownBy w' v.ownBlock → (v'.ownBlock = v.ownBlock ∨ v'.ownBlock = some w.heap.size) → K (a.put o.dst v') w') : o.wp P a w K Q := by
  obtain ⟨v', w', hrun, h2, h3, h4⟩ := run_append_rd (P := P) w base t o.type e i z size bytes ht hi hz hsize hby hzs hsz v n xs hown B A m c news hl hr h1 h63 hbytes hbase
  unfold Oper.wp execOp
  simp only [ho, resolve, invoke, builtin, Sem.run_bind, Sem.run_pure, Result.andThen_ok, List.map_toArray, List.map_cons, List.map_nil, hs, hx, hrun]
  exact h v' w' h2 h3 h4

theorem wpList_append_rd {ops : Array Oper} {rest : List Oper} {o : Oper} {a : Act} {Q : Exit → Act → World → Prop} (hgd : o.guard = none) (s x : Operand) (t : TypeId)
    (ho : o.op = .call { callee := .builtin .append, args := #[s, x], argTypes := #[t, t] })
    (base : Nat) (e : TypeId) (i : TypeInfo) (z : Value) (size bytes : Nat) (ht : P.underlying t = some (.slice e)) (hi : P.info? e = some i) (hz : i.zero = some z)
    (hsize : i.size = size) (hby : i.bytes = bytes) (hzs : z.cells.size = size) (hsz : 0 < size)
    (v : Value) (n : Nat) (xs : List Value) (hs : a.eval s = v) (hown : w.ownsRow base e size v n xs)
    (B : Nat) (A : Option Addr) (m c : Nat) (news : List Value) (hx : a.eval x = .slice A m c) (hl : news.length = m * size) (hr : Rd w B A news) (h1 : ∀ u ∈ news, u.oneCell' = true)
    (h63 : n + m ≤ maxLen) (hbytes : (n + m) * bytes ≤ 140737488355328) (hbase : base ≤ w.heap.size)
    (h : ∀ v' w', w'.ownsRow base e size v' (n + m) (xs ++ news) → w.grownBy w' v.ownBlock → (v'.ownBlock = v.ownBlock ∨ v'.ownBlock = some w.heap.size) → wpList P ops Q rest (a.put o.dst v') w') : wpList P ops Q (o :: rest) a w :=
  wpList_plain hgd fun _ hK => wp_append_rd w s x t ho base e i z size bytes ht hi hz hsize hby hzs hsz v n xs hs hown B A m c news hx hl hr h1 h63 hbytes hbase fun v' w' h2 h3 h4 => hK _ _ (h v' w' h2 h3 h4)
end

theorem e8_one (l : List UInt8) : ∀ u ∈ l.map e8, u.oneCell' = true := by
  intro u hu
  obtain ⟨x, _, rfl⟩ := List.mem_map.1 hu
  rfl
theorem one_int (k : IntKind) (n : Int) : ∀ u ∈ [Value.int k n], u.oneCell' = true := by
  intro u hu
  rw [List.mem_singleton] at hu
  subst hu
  rfl
theorem le_alloc {b : Nat} {w : World} (h : b ≤ w.heap.size) (o : Obj) : b ≤ (w.alloc o).heap.size := by
  rw [show (w.alloc o).heap.size = w.heap.size + 1 by simp]; omega
theorem made_int (k : IntKind) (s : Nat) : (madeCells (Value.int k 0).cells (s * 1)).toList = List.replicate s (Value.int k 0) := by
  apply List.ext_getElem
  · simp [madeCells]
  · intro i h1 h2
    simp [madeCells, Value.cells, Nat.mod_one]
theorem own_nil (w : World) (base : Nat) (e : TypeId) (size : Nat) : w.ownsRow base e size (.slice none 0 0) 0 [] := ⟨by simp, .inl ⟨rfl, rfl⟩⟩
theorem own_form {w : World} {base : Nat} {e : TypeId} {size : Nat} {v : Value} {n : Nat} {xs : List Value} (h : w.ownsRow base e size v n xs) : ∃ A c, v = .slice A n c := by
  rcases h.2 with ⟨rfl, rfl⟩ | ⟨g, cap, cur, rfl, _⟩
  · exact ⟨_, _, rfl⟩
  · exact ⟨_, _, rfl⟩
theorem own_some {w : World} {base : Nat} {e : TypeId} {size : Nat} {v : Value} {n : Nat} {xs : List Value} (h : w.ownsRow base e size v n xs) (hn : 0 < n) : ∃ g c, v = .slice (some ⟨g, 0, none⟩) n c ∧ base ≤ g := by
  rcases h.2 with ⟨rfl, rfl⟩ | ⟨g, cap, cur, rfl, hg, _⟩
  · exact absurd hn (by omega)
  · exact ⟨_, _, rfl, hg⟩
theorem own_block {w : World} {base : Nat} {e : TypeId} {size : Nat} {v : Value} {n : Nat} {xs : List Value} (h : w.ownsRow base e size v n xs) {k : Nat} (hk : v.ownBlock = some k) : base ≤ k := (h.lt k hk).1

/-- a new slice of bytes comes back, of the call's own; nothing else has turned -/
def RetB (E : TypeId) (w : World) (l : List UInt8) (e : Ending) (w' : World) : Prop :=
  ∃ A c, e = .returned (.slice A l.length c) ∧ w'.ownsRow w.heap.size E 1 (.slice A l.length c) l.length (l.map e8) ∧ Below w.heap.size w w'
theorem RetB.mk {E : TypeId} {w w' : World} {l : List UInt8} {v : Value} {n : Nat} {xs : List Value} (h : w'.ownsRow w.heap.size E 1 v n xs) (hx : xs = l.map e8) (hb : Below w.heap.size w w') : RetB E w l (.returned v) w' := by
  subst hx
  obtain ⟨A, c, rfl⟩ := own_form h
  have hn : l.length = n := by simpa using h.1
  subst hn
  exact ⟨A, c, rfl, h, hb⟩

theorem own_base {w : World} {base base' : Nat} {e : TypeId} {size : Nat} {v : Value} {n : Nat} {xs : List Value} (h : w.ownsRow base e size v n xs) (hb : base' ≤ base) : w.ownsRow base' e size v n xs := by
  refine ⟨h.1, ?_⟩
  rcases h.2 with h | ⟨g, cap, cur, hv, hg, r⟩
  · exact .inl h
  · exact .inr ⟨g, cap, cur, hv, by omega, r⟩
theorem RetB.after {E : TypeId} {w w1 w2 : World} {l : List UInt8} {A : Option Addr} {c : Nat} (h1 : Below w.heap.size w w1) (h : w2.ownsRow w1.heap.size E 1 (.slice A l.length c) l.length (l.map e8)) (h2 : Below w1.heap.size w1 w2) :
    RetB E w l (.returned (.slice A l.length c)) w2 := ⟨A, c, rfl, own_base h h1.size, h1.trans (h2.mono h1.size)⟩
theorem own_on {w w' : World} {base : Nat} {e : TypeId} {size : Nat} {v : Value} {n : Nat} {xs : List Value} (h : w.ownsRow base e size v n xs) (b : Below w.heap.size w w') : w'.ownsRow base e size v n xs := by
  refine ⟨h.1, ?_⟩
  rcases h.2 with h | ⟨g, cap, cur, hv, hg, hh, r⟩
  · exact .inl h
  · exact .inr ⟨g, cap, cur, hv, hg, (b.block g (lt_of_block hh)).trans hh, r⟩
/-- one call behind the other -/
theorem bt {w wX w1 : World} (h : Below w.heap.size w wX) (b : Below wX.heap.size wX w1) : Below w.heap.size w w1 := h.trans (b.mono h.size)
theorem b1alloc (w : World) (o : Obj) : Below w.heap.size w (w.alloc o) := (Below.refl _ _).alloc (Nat.le_refl _) _
theorem b2alloc (w : World) (o o' : Obj) : Below w.heap.size w ((w.alloc o).alloc o') := bt (b1alloc w o) (b1alloc _ _)
theorem b3alloc (w : World) (o o' o'' : Obj) : Below w.heap.size w (((w.alloc o).alloc o').alloc o'') := bt (b2alloc w o o') (b1alloc _ _)
/-- behind a call that only made memory: all old cells and marks, for the walk -/
theorem bcell {W w1 : World} (hb : Below W.heap.size W w1) : (∀ b o, b < W.heap.size → w1.cell? ⟨b, o, none⟩ = W.cell? ⟨b, o, none⟩) ∧ (∀ b o, b < W.heap.size → w1.frozen? ⟨b, o, none⟩ = W.frozen? ⟨b, o, none⟩) ∧ W.heap.size ≤ w1.heap.size :=
  ⟨fun b o h => hb.cell (p := ⟨b, o, none⟩) h, fun b o h => hb.frozen (p := ⟨b, o, none⟩) h, hb.size⟩
theorem bdrew {B : Nat} {a w : World} (h : Below B a w) (n : Nat) : Below B a (w.drewN n) := ⟨h.os, h.tape, h.output, h.size, h.block⟩
/-- an array by value, of numbers, at an index in its bounds -/
theorem run_index_ints {P : Program} {t e : TypeId} {n : Nat} {ek : IntKind} {cs : Array Value} {k : IntKind} {i : Nat} {v : Value} (h : P.underlying t = some (.array n e)) (he : P.underlying e = some (.int ek)) (hs : (P.info? e).map (·.size) = some 1) (hi : i < n) (hv : cs[i]? = some v) (w : World) :
    (Instr.index t (.agg cs) (.int k (i : Int))).run P w = .ok v w := by
  have hb : (0 : Int) ≤ (i : Int) ∧ (i : Int) < (n : Int) := by omega
  obtain ⟨inf, hinf, hsz⟩ := Option.map_eq_some_iff.1 hs
  simp [Instr.index, run_underlying h, asIntOf, hb, go_sem, part, isAgg, run_underlying he, sizeOf, typeInfo, hinf, hsz, hv]
  intro hle; omega
theorem wrap_small {x : Int} (h0 : -1000000000000 ≤ x) (h1 : x ≤ 1000000000000) : IntKind.i64.wrap x = x := IntWalk.i64_in _ (by omega)
theorem bne_no {a b : Int} (h : a = b) : (a != b) = false := by simp [h]
theorem bne_yes {a b : Int} (h : a ≠ b) : (a != b) = true := by simp [h]
theorem beq_yes {a b : Int} (h : a = b) : (a == b) = true := by simp [h]
theorem beq_no {a b : Int} (h : a ≠ b) : (a == b) = false := by simp [h]
theorem bne8 {a b : UInt8} (h : a ≠ b) : ((a.toNat : Int) != (b.toNat : Int)) = true := bne_yes (fun e => h (UInt8.toNat_inj.1 (Int.natCast_inj.1 e)))
theorem beq8 {a b : UInt8} (h : a ≠ b) : ((a.toNat : Int) == (b.toNat : Int)) = false := beq_no (fun e => h (UInt8.toNat_inj.1 (Int.natCast_inj.1 e)))
theorem bne8_no {a b : UInt8} (h : a = b) : ((a.toNat : Int) != (b.toNat : Int)) = false := by simp [h]
/-! what lay is as it lay, but for the blocks that are named -/
def Keep (fp : List Nat) (w w' : World) : Prop := w'.os = w.os ∧ w'.tape = w.tape ∧ w'.output = w.output ∧ w.heap.size ≤ w'.heap.size ∧ ∀ j, j < w.heap.size → j ∉ fp → w'.heap[j]? = w.heap[j]?
/-- a footprint has grown by new blocks alone -/
def Fresh (w : World) (fp fp' : List Nat) : Prop := ∀ j ∈ fp', j ∈ fp ∨ w.heap.size ≤ j
theorem Keep.refl (fp : List Nat) (w : World) : Keep fp w w := ⟨rfl, rfl, rfl, Nat.le_refl _, fun _ _ _ => rfl⟩
theorem Keep.size {fp : List Nat} {w w' : World} (h : Keep fp w w') : w.heap.size ≤ w'.heap.size := h.2.2.2.1
theorem Keep.block {fp : List Nat} {w w' : World} (h : Keep fp w w') {j : Nat} (hj : j < w.heap.size) (hn : j ∉ fp) : w'.heap[j]? = w.heap[j]? := h.2.2.2.2 j hj hn
theorem Keep.of_below {w w' : World} (h : Below w.heap.size w w') (fp : List Nat) : Keep fp w w' := ⟨h.os, h.tape, h.output, h.size, fun j hj _ => h.block j hj⟩
theorem Keep.of_grown {fp : List Nat} {w w' : World} {row : Option Nat} (h : w.grownBy w' row) (hr : ∀ g, row = some g → g ∈ fp) : Keep fp w w' :=
  ⟨h.os, h.tape, h.output, h.size, fun j hj hn => h.block j hj (fun e => hn (hr j e.symm))⟩
theorem Keep.trans {fp fp1 : List Nat} {w w1 w2 : World} (h : Keep fp w w1) (k : Keep fp1 w1 w2) (hf : Fresh w fp fp1) : Keep fp w w2 :=
  ⟨k.1.trans h.1, k.2.1.trans h.2.1, k.2.2.1.trans h.2.2.1, Nat.le_trans h.size k.size, fun j hj hn => (k.block (Nat.lt_of_lt_of_le hj h.size) (fun e => (hf j e).elim hn (fun h1 => absurd hj (by omega)))).trans (h.block hj hn)⟩
theorem Keep.below {fp : List Nat} {w w' : World} {B : Nat} (h : Keep fp w w') (hf : ∀ j ∈ fp, B ≤ j) (hB : B ≤ w.heap.size) : Below B w w' :=
  ⟨h.1, h.2.1, h.2.2.1, h.size, fun j hj => h.block (by omega) (fun e => by have := hf j e; omega)⟩
theorem Keep.more {fp fp' : List Nat} {w w' : World} (h : Keep fp w w') (hf : ∀ j ∈ fp, j ∈ fp') : Keep fp' w w' := ⟨h.1, h.2.1, h.2.2.1, h.size, fun j hj hn => h.block hj (fun e => hn (hf j e))⟩
theorem Keep.set {fp : List Nat} {w w' : World} (h : Keep fp w w') {p : Addr} (hp : p.block ∈ fp ∨ w.heap.size ≤ p.block) (u : Value) : Keep fp w (w'.setCell p u) :=
  ⟨h.1, h.2.1, h.2.2.1, by simpa [World.setCell] using h.size, fun j hj hn => (Below.heap_setCell w' p u j (by
    rintro rfl
    rcases hp with hp | hp
    · exact hn hp
    · omega)).trans (h.block hj hn)⟩
theorem Keep.alloc {fp : List Nat} {w w' : World} (h : Keep fp w w') (o : Obj) : Keep fp w (w'.alloc o) :=
  ⟨h.1, h.2.1, h.2.2.1, Nat.le_trans h.size (by simp), fun j hj hn => (Below.heap_alloc w' o j (Nat.lt_of_lt_of_le hj h.size)).trans (h.block hj hn)⟩
theorem Keep.drewN {fp : List Nat} {w w' : World} (h : Keep fp w w') (n : Nat) : Keep fp w (w'.drewN n) := h
theorem Fresh.refl (w : World) (fp : List Nat) : Fresh w fp fp := fun _ h => .inl h
theorem Fresh.trans {w w1 : World} {fp fp1 fp2 : List Nat} (h : Fresh w fp fp1) (hs : w.heap.size ≤ w1.heap.size) (k : Fresh w1 fp1 fp2) : Fresh w fp fp2 := fun j hj => by
  rcases k j hj with h1 | h1
  · exact h j h1
  · exact .inr (by omega)
theorem Fresh.ge {w : World} {fp fp1 : List Nat} {B : Nat} (h : Fresh w fp fp1) (hf : ∀ j ∈ fp, B ≤ j) (hB : B ≤ w.heap.size) : ∀ j ∈ fp1, B ≤ j := fun j hj => by
  rcases h j hj with h1 | h1
  · exact hf j h1
  · omega
theorem Fresh.out {w : World} {fp fp1 : List Nat} {g : Nat} (h : Fresh w fp fp1) (hg : g < w.heap.size) (hn : g ∉ fp) : g ∉ fp1 := fun e => by
  rcases h g e with h1 | h1
  · exact hn h1
  · omega
theorem Rd.keepK {w w' : World} {B : Nat} {A : Option Addr} {xs : List Value} {fp : List Nat} (h : Rd w B A xs) (k : Keep fp w w') (hf : ∀ j ∈ fp, B ≤ j) (hB : B ≤ w.heap.size) : Rd w' B A xs := h.below (k.below hf hB)
theorem own_keep {w w' : World} {base : Nat} {e : TypeId} {size : Nat} {v : Value} {n : Nat} {xs : List Value} {fp : List Nat} (h : w.ownsRow base e size v n xs) (k : Keep fp w w') (hne : ∀ g, v.ownBlock = some g → g ∉ fp) : w'.ownsRow base e size v n xs := by
  refine ⟨h.1, ?_⟩
  rcases h.2 with h | ⟨g, cap, cur, rfl, hg, hh, r⟩
  · exact .inl h
  · exact .inr ⟨g, cap, cur, rfl, hg, (k.block (lt_of_block hh) (hne g rfl)).trans hh, r⟩
theorem Box.keep {w w' : World} {g : Nat} {v : Value} {fp : List Nat} (h : Box w g v) (k : Keep fp w w') (hg : g ∉ fp) : Box w' g v := h.elim fun t hh => ⟨t, (k.block (lt_of_block hh) hg).trans hh⟩
/-- a slice that reads as a list of cells, in none of the blocks that are named -/
def RdN (w : World) (fp : List Nat) (A : Option Addr) (xs : List Value) : Prop :=
  xs ≠ [] → ∃ b off, A = some ⟨b, off, none⟩ ∧ b < w.heap.size ∧ b ∉ fp ∧ ∀ i (h : i < xs.length), w.cell? ⟨b, off + i, none⟩ = some xs[i]
theorem RdN.nil (w : World) (fp : List Nat) (A : Option Addr) : RdN w fp A [] := fun h => absurd rfl h
theorem RdN.rd {w : World} {fp : List Nat} {A : Option Addr} {xs : List Value} (h : RdN w fp A xs) : Rd w w.heap.size A xs := fun hne => by
  obtain ⟨b, off, rfl, hb, _, hc⟩ := h hne
  exact ⟨b, off, rfl, hb, hc⟩
theorem RdN.of {w : World} {fp : List Nat} {A : Option Addr} {xs : List Value} {B : Nat} (h : Rd w B A xs) (hf : ∀ j ∈ fp, B ≤ j) (hB : B ≤ w.heap.size) : RdN w fp A xs := fun hne => by
  obtain ⟨b, off, rfl, hb, hc⟩ := h hne
  exact ⟨b, off, rfl, by omega, fun e => by have := hf b e; omega, hc⟩
theorem RdN.keep {w w' : World} {fp fp' : List Nat} {A : Option Addr} {xs : List Value} (h : RdN w fp A xs) (k : Keep fp w w') (f : Fresh w fp fp') : RdN w' fp' A xs := fun hne => by
  obtain ⟨b, off, rfl, hb, hn, hc⟩ := h hne
  exact ⟨b, off, rfl, Nat.lt_of_lt_of_le hb k.size, f.out hb hn, fun i hi => (World.cell?_of_block (k.block hb hn)).trans (hc i hi)⟩
theorem RdN.on {w w' : World} {fp : List Nat} {A : Option Addr} {xs : List Value} (h : RdN w fp A xs) (b : Below w.heap.size w w') : RdN w' fp A xs := h.keep (Keep.of_below b fp) (Fresh.refl _ _)
theorem RdN.take {w : World} {fp : List Nat} {A : Option Addr} {xs : List Value} (h : RdN w fp A xs) (k : Nat) : RdN w fp A (xs.take k) := by
  intro hne
  obtain ⟨b, off, rfl, hb, hn, hc⟩ := h (by rintro rfl; exact hne (by simp))
  exact ⟨b, off, rfl, hb, hn, fun i hi => by rw [hc i (by rw [List.length_take] at hi; omega), List.getElem_take]⟩
theorem Rd.take {w : World} {B : Nat} {A : Option Addr} {xs : List Value} (h : Rd w B A xs) (k : Nat) : Rd w B A (xs.take k) := by
  intro hne
  obtain ⟨b, off, rfl, hb, hc⟩ := h (by rintro rfl; exact hne (by simp))
  exact ⟨b, off, rfl, hb, fun i hi => by rw [hc i (by rw [List.length_take] at hi; omega), List.getElem_take]⟩
theorem RdN.own {w w' : World} {e : TypeId} {A : Option Addr} {n c : Nat} {xs : List Value} {fp : List Nat} (h : w'.ownsRow w.heap.size e 1 (.slice A n c) n xs) (hf : ∀ j ∈ fp, j < w.heap.size) : RdN w' fp A xs := by
  intro hne
  rcases h.2 with ⟨hv, hn⟩ | ⟨g, cap, cur, hv, hg, hh, hnc, hcm, hcs, ht⟩
  · exact absurd (List.eq_nil_of_length_eq_zero (by have := h.1; omega)) hne
  · injection hv with hA _ _
    subst hA
    refine ⟨g, 0, rfl, lt_of_block hh, fun e => by have := hf g e; omega, fun i hi => ?_⟩
    have hl := h.1
    have := World.ownsRow.cellAt (j := i) h (by omega)
    rw [Nat.zero_add, this]; exact List.getElem?_eq_getElem hi
/-- a slice literal -/
theorem own_lit (w : World) (e : TypeId) (cs : Array Value) (base n : Nat) (hb : base ≤ w.heap.size) (hn : cs.size = n) (hm : n ≤ maxLen) : (w.alloc (.cells cs e)).ownsRow base e 1 (.slice (some ⟨w.heap.size, 0, none⟩) n n) n cs.toList := by
  subst hn
  refine ⟨by simp, .inr ⟨w.heap.size, cs.size, cs, rfl, hb, heap_alloc_new w _, Nat.le_refl _, hm, by simp, ?_⟩⟩
  rw [Nat.mul_one]; exact List.take_of_length_le (by simp)
theorem retB_lit1 {E : TypeId} {w : World} {o : Obj} {cs : Array Value} {l : List UInt8} {v : Value} (h : cs.toList = l.map e8) (hm : l.length ≤ 1000000) (hv : v = .slice (some ⟨w.heap.size + 1, 0, none⟩) l.length l.length) :
    RetB E w l (.returned v) ((w.alloc o).alloc (.cells cs E)) := by
  subst hv
  have hs : cs.size = l.length := by have := congrArg List.length h; simpa using this
  have := own_lit (w.alloc o) E cs w.heap.size l.length (b1alloc _ _).size hs (by unfold maxLen; omega)
  rw [h, show (w.alloc o).heap.size = w.heap.size + 1 by simp] at this
  exact ⟨_, _, rfl, this, b2alloc _ _ _⟩
theorem Rd.drop {w : World} {B : Nat} {A : Option Addr} {xs : List Value} (h : Rd w B A xs) (k : Nat) : Rd w B (A.map (fun x => x.add k)) (xs.drop k) := by
  intro hne
  obtain ⟨b, off, rfl, hb, hc⟩ := h (by rintro rfl; exact hne (by simp))
  refine ⟨b, off + k, by simp [Addr.add_lit], hb, fun i hi => ?_⟩
  rw [List.length_drop] at hi
  rw [Nat.add_assoc, hc (k + i) (by omega), List.getElem_drop]
theorem Rd.empty {w : World} {B : Nat} {A : Option Addr} {xs : List Value} (h : xs = []) : Rd w B A xs := fun hne => absurd h hne
theorem own_cap {w : World} {base : Nat} {e : TypeId} {size n c : Nat} {A : Option Addr} {xs : List Value} (h : w.ownsRow base e size (.slice A n c) n xs) : n ≤ c ∧ c ≤ maxLen := by
  rcases h.2 with ⟨hv, hn⟩ | ⟨g, cap, cur, hv, _, _, h1, h2, _⟩
  · injection hv with _ _ hc
    subst hc hn
    exact ⟨by omega, by unfold maxLen; omega⟩
  · injection hv with _ _ hc
    subst hc
    exact ⟨h1, h2⟩
theorem bset {B : Nat} {a w : World} (h : Below B a w) {b o : Nat} (hb : B ≤ b) (v : Value) : Below B a (w.setCell ⟨b, o, none⟩ v) := h.setCell (p := ⟨b, o, none⟩) hb v
theorem bset_new {w w' : World} (h : Below w.heap.size w w') (o : Nat) (v : Value) : Below w.heap.size w (w'.setCell ⟨w.heap.size, o, none⟩ v) := bset h (Nat.le_refl _) v
/-! ends -/
theorem ret_int {k : IntKind} {a b : Int} (h : a = b) : Ending.returned (.int k a) = .returned (.int k b) := by rw [h]
theorem ret_bool {a b : Bool} (h : a = b) : Ending.returned (.bool a) = .returned (.bool b) := by rw [h]
end Go.Proofs.YtnfhlnkbkfgihaaDoor

/- The arguments of a law, opened: slices of bytes and of numbers as lists; numbers as words. -/
namespace Go.Proofs.YtnfhlnkbkfgihaaDoor
open Go.ChangeShapes Go.WideShapes Go.ChangeAt Go.RowKit Go.Joins
open Go.ChangeMaps (open_string shut_string)
set_option linter.unusedVariables false

theorem own : ownKnob Tryd.prog.godebug = none := by kernel_rfl
theorem laidOut : laidOutB Tryd.prog = true := by kernel_rfl
abbrev ei (n : Int) : Value := .int .i64 n

theorem rd_row {w : World} {k : IntKind} {x : Addr} {len cap : Nat} {zs : List Int} (hl : len ≤ cap) (hz : zs.length = cap) (hc : ∀ i, i < zs.length → w.cell? (x.add i) = some (.int k (zs.getD i 0))) :
    Rd w w.heap.size (some x) ((zs.take len).map (Value.int k)) := by
  intro hne
  have hlen : 0 < len := by
    rcases Nat.eq_zero_or_pos len with h | h
    · subst h; simp at hne
    · exact h
  obtain ⟨b, off, spot⟩ := x
  have h0 := hc 0 (by omega)
  have hspot : spot = none := by simpa [Addr.add] using World.cell?_spot h0
  subst hspot
  refine ⟨b, off, rfl, ?_, fun i hi => ?_⟩
  · have h0' : w.cell? ⟨b, off, none⟩ ≠ none := by
      have : (⟨b, off, none⟩ : Addr).add 0 = ⟨b, off, none⟩ := by simp [Addr.add]
      rw [this] at h0; rw [h0]; simp
    rcases Nat.lt_or_ge b w.heap.size with h | h
    · exact h
    · exact absurd (by simp [World.cell?, Array.getElem?_eq_none h]) h0'
  · have hi' : i < len := by simpa [hz, Nat.min_eq_left hl] using hi
    have := hc i (by omega)
    rw [Addr.add_lit] at this
    rw [this]
    simp [List.getD, List.getElem?_eq_getElem (show i < zs.length by omega)]

theorem bytes_of {w : World} {A : Option Addr} {len cap : Nat} {E : Type} {P : Program} {enc : TypeId × Value → E} {t e : TypeId} {spare : Nat → Bool} {held : Bool} {fuel : Nat} {x : DataW E × List MemPlace}
    (hs : spare = fun _ => true) (ht : P.underlying t = some (.slice e)) (he : P.underlying e = some (.int .u8)) (hc : P.cellsOf e = 1) (h : DataW.trod enc P w 0 spare held fuel t (Value.slice A len cap).cells.toList = some x) :
    ∃ l : List UInt8, l.length = len ∧ Rd w w.heap.size A (l.map e8) ∧ len ≤ cap ∧ cap ≤ maxLen := by
  subst hs
  rcases open_ints ht he hc h with ⟨hcs, _⟩ | ⟨x, l, c, zs, hcs, _, hl, hm, hz, _, hcell, hwz⟩
  · simp [Value.cells] at hcs
    obtain ⟨rfl, rfl, rfl⟩ := hcs
    exact ⟨[], rfl, Rd.nil _ _ _, by omega, by unfold maxLen; omega⟩
  · simp [Value.cells] at hcs
    obtain ⟨rfl, rfl, rfl⟩ := hcs
    obtain ⟨l, rfl⟩ := list8 zs hwz
    have hz' : l.length = cap := by simpa using hz
    refine ⟨l.take len, by simp; omega, ?_, hl, hm⟩
    have := rd_row (len := len) hl (by simpa using hz') hcell
    simpa [List.map_take, Function.comp_def] using this

theorem ints_of {w : World} {A : Option Addr} {len cap : Nat} {E : Type} {P : Program} {enc : TypeId × Value → E} {t e : TypeId} {spare : Nat → Bool} {held : Bool} {fuel : Nat} {x : DataW E × List MemPlace}
    (hs : spare = fun _ => true) (ht : P.underlying t = some (.slice e)) (he : P.underlying e = some (.int .i64)) (hc : P.cellsOf e = 1) (h : DataW.trod enc P w 0 spare held fuel t (Value.slice A len cap).cells.toList = some x) :
    ∃ l : List Int, l.length = len ∧ Rd w w.heap.size A (l.map ei) ∧ len ≤ cap ∧ cap ≤ maxLen ∧ (∀ n ∈ l, -9223372036854775808 ≤ n ∧ n ≤ 9223372036854775807) := by
  subst hs
  rcases open_ints ht he hc h with ⟨hcs, _⟩ | ⟨x, l, c, zs, hcs, _, hl, hm, hz, _, hcell, hwz⟩
  · simp [Value.cells] at hcs
    obtain ⟨rfl, rfl, rfl⟩ := hcs
    exact ⟨[], rfl, Rd.nil _ _ _, by omega, by unfold maxLen; omega, by simp⟩
  · simp [Value.cells] at hcs
    obtain ⟨rfl, rfl, rfl⟩ := hcs
    have hz' : zs.length = cap := by simpa using hz
    refine ⟨zs.take len, by simp; omega, ?_, hl, hm, fun n hn => ?_⟩
    · have := rd_row (len := len) hl hz' hcell
      simpa [List.map_take, Function.comp_def] using this
    · have := hwz n (List.mem_of_mem_take hn)
      simp [Lit.wf, IntKind.min, IntKind.max, IntKind.signed, IntKind.bits] at this
      omega

section
theorem okWide_arr' {P : Program} {w : World} {r : Reach} {base : Nat} {t e : TypeId} {n : Nat} {v : Value} (ht : P.underlying t = some (.array n e)) (h : Value.okWide P w r base t v) : ∃ cs, v = .agg cs ∧ cs.size = P.cellsOf t := by
  simp only [Value.okWide, ht] at h
  obtain ⟨cs, h1, h2, _⟩ := h
  exact ⟨cs, h1, h2⟩
/-- an argument that is an array of numbers -/
theorem arr_ints {H : Type} {enc : TypeId × Value → H} {P : Program} {w : World} {r : Reach} {base : Nat} {v : Value} {d : DataW H} {p : List MemPlace} {t e : TypeId} {n : Nat} {k : IntKind} (ht : P.underlying t = some (.array n e)) (he : P.underlying e = some (.int k))
    (hc : P.cellsOf t = n) (hc1 : P.cellsOf e = 1) (hv : Value.okWide P w r base t v) (h : DataW.Trod enc P w 0 (fun _ => true) true t v d p) :
    ∃ zs : List Int, zs.length = n ∧ v = .agg (zs.map (Value.int k)).toArray ∧ ∀ z ∈ zs, (Lit.int k z).wf = true := by
  obtain ⟨cs, rfl, hsz⟩ := okWide_arr' ht hv
  rw [hc] at hsz
  obtain ⟨fuel, hf⟩ := h
  obtain ⟨xs, m, _, _, _, hl, hi⟩ := DataW.trod_array ht hf
  have key : ∀ i (hi' : i < n), ∃ z : Int, cs[i]'(by omega) = Value.int k z ∧ (Lit.int k z).wf = true := fun i hi' => by
    have g1 := hi i hi'
    rw [hc1] at g1
    have h2 : (Value.agg cs).cells.toList = cs.toList := rfl
    rw [h2] at g1
    have h3 : (cs.toList.drop (i * 1)).take 1 = [cs[i]'(by omega)] := by
      rw [Nat.mul_one, List.drop_eq_getElem_cons (by simp; omega)]; simp
    rw [h3, List.getElem?_eq_getElem (by omega)] at g1
    obtain ⟨z, e1, _, wn⟩ := DataW.trod_int he g1
    simp only [List.cons.injEq, and_true] at e1
    exact ⟨z, e1, wn⟩
  refine ⟨(List.range n).map (fun i : Nat => ((cs[i]?).map intOf).getD 0), by simp, ?_, ?_⟩
  · congr 1
    apply Array.ext
    · simp [hsz]
    · intro i g1 g2
      obtain ⟨z, e, _⟩ := key i (by omega)
      simp [Array.getElem?_eq_getElem g1, e, intOf]
  · intro z hz
    simp only [List.mem_map, List.mem_range] at hz
    obtain ⟨i, hin, rfl⟩ := hz
    obtain ⟨z', e, wf⟩ := key i hin
    rw [Array.getElem?_eq_getElem (by omega), e]
    simpa [intOf] using wf
end
theorem wf8 {n : Int} (h : (Lit.int .u8 n).wf = true) : ∃ x : UInt8, n = (x.toNat : Int) := by
  simp [Lit.wf, IntKind.min, IntKind.max, IntKind.signed, IntKind.bits] at h; exact to8 n (by omega) (by omega)
theorem wf32 {n : Int} (h : (Lit.int .u32 n).wf = true) : ∃ x : UInt32, n = (x.toNat : Int) := by
  simp [Lit.wf, IntKind.min, IntKind.max, IntKind.signed, IntKind.bits] at h; exact to32 n (by omega) (by omega)
theorem wf64 {n : Int} (h : (Lit.int .u64 n).wf = true) : ∃ x : UInt64, n = (x.toNat : Int) := by
  simp [Lit.wf, IntKind.min, IntKind.max, IntKind.signed, IntKind.bits] at h; exact to64 n (by omega) (by omega)
theorem wfi {n : Int} (h : (Lit.int .i64 n).wf = true) : -9223372036854775808 ≤ n ∧ n ≤ 9223372036854775807 := by
  simp [Lit.wf, IntKind.min, IntKind.max, IntKind.signed, IntKind.bits] at h; omega
theorem places_lt {H : Type} {enc : TypeId × Value → H} {P : Program} {W : World} {t : TypeId} {v : Value} {d : DataW H} {p : List MemPlace} (k : DataW.Trod enc P W 0 (fun _ => true) true t v d p) : ∀ x ∈ p, x.block < W.heap.size := by
  obtain ⟨m, hm⟩ := k; exact DataW.trod_lt m _ _ _ hm
section
open Go.Deep
variable {H : Type} {enc : TypeId × Value → H} {P : Program} {w : World} {base : Nat} {spare : Nat → Bool} {held : Bool}
/-- a slice of structs of one-cell fields -/
theorem open_slice_fields {t e : TypeId} {fs : Array Field} {fuel : Nat} {cs : List Value} {x : DataW H × List MemPlace} (ht : P.underlying t = some (.slice e)) (he : P.underlying e = some (.struct fs))
    (hone : oneCellFields P fs = true) (hC : P.cellsOf e = fs.size) (h : DataW.trod enc P w base spare held fuel t cs = some x) :
    cs = [.slice none 0 0] ∨ ∃ (a : Addr) (len cap m : Nat), cs = [.slice (some a) len cap] ∧ base ≤ a.block ∧ len ≤ cap ∧ cap ≤ maxLen ∧ m = (if spare a.block then cap else len) ∧
      ∀ i, i < m → ∃ (ys : List (DataW H × List MemPlace)) (n : Nat), 
        ∀ (j : Nat) (f : Field), fs[j]? = some f → ∃ (v : Value) (y : DataW H × List MemPlace), w.cell? (a.add (i * fs.size + j)) = some v ∧ ys[j]? = some y ∧ DataW.trod enc P w base spare held n f.type [v] = some y := by
  rcases open_slice ht h with h0 | ⟨a, len, cap, m, n, D, Pl, hcs, hb, hl, hm, hmm, hx, hi⟩
  · exact .inl h0.1
  · refine .inr ⟨a, len, cap, m, hcs, hb, hl, hm, hmm, fun i him => ?_⟩
    obtain ⟨cs', hc, ht'⟩ := hi i him
    rw [hC] at hc
    obtain ⟨ys, n', hn', hy, hlen, hyl, hf⟩ := DataW.trod_struct he ht'
    obtain ⟨_, hcl, hat⟩ := World.cells?_some hc
    refine ⟨ys, n', fun j f hj => ?_⟩
    obtain ⟨ho, hk⟩ := hone_of hone j f hj
    have hjl : j < fs.size := (Array.getElem?_eq_some_iff.1 hj).1
    have hcell := hat j hjl
    have hv : cs'[j]? = some (cs'[j]'(by omega)) := List.getElem?_eq_getElem (by omega)
    have h1 := hf j f hj
    rw [ho, hk] at h1
    have hone' : (cs'.drop j).take 1 = [cs'[j]'(by omega)] := by
      rw [List.drop_eq_getElem_cons (by omega)]
      rfl
    rw [hone'] at h1
    have hys : ys[j]? = some (ys[j]'(by omega)) := List.getElem?_eq_getElem (by omega)
    refine ⟨_, _, ?_, hys, h1.trans hys⟩
    rw [← Go.Deep.add_add, hcell, hv]
theorem bytes_of1 {E : Type} {enc : TypeId × Value → E} {t e : TypeId} {fuel : Nat} {v : Value} {yy : DataW E × List MemPlace}
    (ht : P.underlying t = some (.slice e)) (he : P.underlying e = some (.int .u8)) (hc : P.cellsOf e = 1) (h : DataW.trod enc P w 0 (fun _ => true) held fuel t [v] = some yy) :
    ∃ (A : Option Addr) (l : List UInt8) (c : Nat), v = .slice A l.length c ∧ Rd w w.heap.size A (l.map e8) ∧ l.length ≤ c ∧ c ≤ maxLen := by
  have h0 := h
  rcases open_ints ht he hc h with ⟨hcs, _⟩ | ⟨x, l, c, zs, hcs, _, hl, hm, hz, _, hcell, hwz⟩
  · simp only [List.cons.injEq, and_true] at hcs
    exact ⟨none, [], 0, hcs, Rd.nil _ _ _, by simp, by unfold maxLen; omega⟩
  · simp only [List.cons.injEq, and_true] at hcs
    subst hcs
    obtain ⟨A, hA⟩ : ∃ A, A = some x := ⟨_, rfl⟩
    have h' : DataW.trod enc P w 0 (fun _ => true) held fuel t (Value.slice A l c).cells.toList = some yy := by rw [hA]; exact h0
    obtain ⟨ll, h1, h2, h3, h4⟩ := bytes_of rfl ht he hc h'
    subst h1
    exact ⟨A, ll, c, by rw [hA], h2, h3, h4⟩
theorem choose_list {α : Type} {n : Nat} {p : Nat → α → Prop} (h : ∀ i, i < n → ∃ a, p i a) : ∃ l : List α, l.length = n ∧ ∀ i (hi : i < l.length), p i l[i] := by
  induction n with
  | zero => exact ⟨[], rfl, fun i hi => absurd hi (by simp)⟩
  | succ n ih =>
    obtain ⟨l, hl, hp⟩ := ih fun i hi => h i (by omega)
    obtain ⟨a, ha⟩ := h n (by omega)
    refine ⟨l ++ [a], by simp [hl], fun i hi => ?_⟩
    rw [List.getElem_append]
    by_cases e : i < l.length
    · rw [dif_pos e]; exact hp i e
    · rw [dif_neg e]
      have : i = n := by simp at hi; omega
      subst this
      simpa using ha
end
end Go.Proofs.YtnfhlnkbkfgihaaDoor

/- Rows of bytes ([][]byte): how they read, and how they come in as an argument. -/
namespace Go.Proofs.YtnfhlnkbkfgihaaDoor
open Go.RowKit
set_option linter.unusedVariables false
/-- a slice of slices of bytes that reads as a list of rows -/
def Rws (w : World) (B : Nat) (A : Option Addr) (l : List (List UInt8)) : Prop :=
  l ≠ [] → ∃ b off, A = some ⟨b, off, none⟩ ∧ b < B ∧ ∀ i (h : i < l.length), ∃ Ai ci, w.cell? ⟨b, off + i, none⟩ = some (.slice Ai l[i].length ci) ∧ Rd w B Ai (l[i].map e8) ∧ l[i].length ≤ ci ∧ ci ≤ maxLen
theorem Rws.nil (w : World) (B : Nat) (A : Option Addr) : Rws w B A [] := fun h => absurd rfl h
theorem Rws.get {w : World} {B : Nat} {A : Option Addr} {l : List (List UInt8)} (h : Rws w B A l) {i : Nat} (hi : i < l.length) :
    ∃ b off Ai ci, A = some ⟨b, off, none⟩ ∧ b < B ∧ w.cell? ⟨b, off + i, none⟩ = some (.slice Ai l[i].length ci) ∧ Rd w B Ai (l[i].map e8) ∧ l[i].length ≤ ci ∧ ci ≤ maxLen := by
  obtain ⟨b, off, rfl, hb, hc⟩ := h (by intro e; rw [e] at hi; exact absurd hi (by simp))
  obtain ⟨Ai, ci, h1⟩ := hc i hi
  exact ⟨b, off, Ai, ci, rfl, hb, h1⟩
theorem Rws.below {w w' : World} {B : Nat} {A : Option Addr} {l : List (List UInt8)} (h : Rws w B A l) (hb : Below B w w') : Rws w' B A l := by
  intro hne
  obtain ⟨b, off, rfl, hlt, hc⟩ := h hne
  refine ⟨b, off, rfl, hlt, fun i hi => ?_⟩
  obtain ⟨Ai, ci, h1, h2, h3⟩ := hc i hi
  exact ⟨Ai, ci, (hb.cell (p := ⟨b, off + i, none⟩) hlt).trans h1, h2.below hb, h3⟩
theorem Rws.more {w : World} {B B' : Nat} {A : Option Addr} {l : List (List UInt8)} (h : Rws w B A l) (hB : B ≤ B') : Rws w B' A l := by
  intro hne
  obtain ⟨b, off, rfl, hlt, hc⟩ := h hne
  refine ⟨b, off, rfl, by omega, fun i hi => ?_⟩
  obtain ⟨Ai, ci, h1, h2, h3⟩ := hc i hi
  exact ⟨Ai, ci, h1, h2.more hB, h3⟩
theorem Rws.on {w w' : World} {A : Option Addr} {l : List (List UInt8)} (h : Rws w w.heap.size A l) (hb : Below w.heap.size w w') : Rws w' w'.heap.size A l := (h.below hb).more hb.size
open Go.ChangeShapes Go.WideShapes Go.ChangeAt Go.Joins Go.Deep
set_option maxRecDepth 100000
theorem rows_of {A : Option Addr} {len cap : Nat} {H : Type} {enc : TypeId × Value → H} {w : World} {held : Bool} {fuel : Nat} {x : DataW H × List MemPlace}
    (h : DataW.trod enc Tryd.prog w 0 (fun _ => true) held fuel 24 (Value.slice A len cap).cells.toList = some x) :
    ∃ l : List (List UInt8), l.length = len ∧ Rws w w.heap.size A l ∧ len ≤ cap ∧ cap ≤ maxLen := by
  rcases open_slice1 Tryd.underlying24 (by kernel_rfl) h with ⟨hcs, _⟩ | ⟨a, l', c', m, n, V, D, Pl, hcs, _, hl, hm, hmm, _, hi⟩
  · simp [Value.cells] at hcs
    obtain ⟨rfl, rfl, rfl⟩ := hcs
    exact ⟨[], rfl, Rws.nil _ _ _, by omega, by unfold maxLen; omega⟩
  · simp [Value.cells] at hcs
    obtain ⟨rfl, rfl, rfl⟩ := hcs
    simp only [if_true] at hmm
    subst hmm
    have key : ∀ i, i < len → ∃ r : List UInt8, ∃ b off, a = ⟨b, off, none⟩ ∧ b < w.heap.size ∧ ∃ Ai ci, w.cell? ⟨b, off + i, none⟩ = some (.slice Ai r.length ci) ∧ Rd w w.heap.size Ai (r.map e8) ∧ r.length ≤ ci ∧ ci ≤ maxLen := by
      intro i hil
      obtain ⟨c0, t0⟩ := hi i (by omega)
      obtain ⟨A3, l3, c3', e3, r3, q3, m3⟩ := bytes_of1 Tryd.underlying25 Tryd.underlying5 (by kernel_rfl) t0
      obtain ⟨b, off, spot⟩ := a
      have hspot : spot = none := World.cell?_spot (hi 0 (by omega)).1
      subst hspot
      rw [Addr.add_lit, e3] at c0
      have hb : b < w.heap.size := by
        rcases Nat.lt_or_ge b w.heap.size with h | h
        · exact h
        · simp [World.cell?, Array.getElem?_eq_none h] at c0
      exact ⟨l3, b, off, rfl, hb, A3, c3', c0, r3, q3, m3⟩
    obtain ⟨l, hll, hp⟩ := choose_list key
    refine ⟨l, hll, fun hne => ?_, hl, hm⟩
    have hpos : 0 < l.length := by cases l; exact absurd rfl hne; simp
    obtain ⟨b, off, rfl, hb, _⟩ := hp 0 hpos
    refine ⟨b, off, rfl, hb, fun i hi => ?_⟩
    obtain ⟨b', off', e, _, h2⟩ := hp i hi
    injection e with e1 e2 _
    subst e1 e2
    exact h2
end Go.Proofs.YtnfhlnkbkfgihaaDoor

/- Nodes: rows that may be, the closures of Encode, and slices.IndexFunc and ContainsFunc with them. No statement is proved here. -/
namespace Go.Proofs.YtnfhlnkbkfgihaaDoor.Nod
open Go.RowKit
set_option linter.unusedVariables false
set_option maxRecDepth 100000
theorem size_any (n : Int) (w : World) (h0 : 0 ≤ n) (h1 : n ≤ 100000) : Calls Tryd.prog 36 #[.int .i64 n] w fun e w' => e = .returned (.int .i64 (n + 48)) ∧ w = w' := by
  have hm : max n 0 = n := by omega
  have hw : IntKind.i64.wrap (n + 48) = n + 48 := wrap_small (by omega) (by omega)
  go_enter Tryd.func36, Tryd.ntmps36
  go_wp2
  go_ret
  first | exact ⟨rfl, rfl⟩ | (rw [hm, hw]; exact ⟨rfl, rfl⟩)
theorem row_any (A : Option Addr) (b : List UInt8) (c : Nat) (w : World) (hl : b.length ≤ 1000000) : Calls Tryd.prog 23 #[.slice A b.length c] w fun e w' => e = .returned (.bool (rowB b)) ∧ w = w' := by
  obtain ⟨n, hn⟩ : ∃ n, n = b.length := ⟨_, rfl⟩
  obtain ⟨R, hR⟩ : ∃ R, R = rowB b := ⟨_, rfl⟩
  have HR := Lib.hid (show R = (decide (n = 0) || decide (n = 80)) by rw [hR, hn]; rfl)
  rw [← hn, ← hR]
  clear hR
  by_cases h0 : n = 0
  · have t0 := beq_yes (show (n : Int) = 0 by omega)
    have Hf := Lib.hid (show R = true by rw [HR.out, decide_eq_true h0]; rfl)
    clear hn h0
    go_enter Tryd.func23, Tryd.ntmps23
    go_wp2
    go_ret
    exact ⟨ret_bool Hf.out.symm, rfl⟩
  · have t0 := beq_no (show ¬ (n : Int) = 0 by omega)
    have Hf := Lib.hid (show decide (n = 80) = R by rw [HR.out, decide_eq_false h0]; rfl)
    by_cases h8 : n = 80
    · have t1 := beq_yes (show (n : Int) = 80 by omega)
      have Hg := Lib.hid (show true = R by rw [← Hf.out, decide_eq_true h8])
      clear hn h0 h8 Hf
      go_enter Tryd.func23, Tryd.ntmps23
      go_wp2_with (go_at_call 36; refine (size_any 32 _ (by decide) (by decide)).mono ?_; rintro e w1 ⟨rfl, rfl⟩)
      go_ret
      exact ⟨ret_bool Hg.out, rfl⟩
    · have t1 := beq_no (show ¬ (n : Int) = 80 by omega)
      have Hg := Lib.hid (show false = R by rw [← Hf.out, decide_eq_false h8])
      clear hn h0 h8 Hf
      go_enter Tryd.func23, Tryd.ntmps23
      go_wp2_with (go_at_call 36; refine (size_any 32 _ (by decide) (by decide)).mono ?_; rintro e w1 ⟨rfl, rfl⟩)
      go_ret
      exact ⟨ret_bool Hg.out, rfl⟩
/-- is there a row that may not be? -/
def oddB (l : List (List UInt8)) : Bool := l.any fun b => !rowB b
theorem someB_def (l : List (List UInt8)) : someB l = l.any fun b => decide (0 < b.length) := rfl
theorem enc1_any (A : Option Addr) (b : List UInt8) (c : Nat) (w : World) (hl : b.length ≤ 1000000) : Calls Tryd.prog 22 #[.slice A b.length c] w fun e w' => e = .returned (.bool (!rowB b)) ∧ w = w' := by
  have hr := row_any A b c w hl
  obtain ⟨R, hR⟩ : ∃ R, R = rowB b := ⟨_, rfl⟩
  rw [← hR] at hr ⊢
  clear hR
  go_enter Tryd.func22, Tryd.ntmps22
  go_wp2_with (go_at_call 23; refine hr.mono ?_; rintro e w1 ⟨rfl, rfl⟩)
  go_ret
  exact ⟨rfl, rfl⟩
theorem enc2_any (A : Option Addr) (b : List UInt8) (c : Nat) (w : World) (hl : b.length ≤ 1000000) : Calls Tryd.prog 26 #[.slice A b.length c] w fun e w' => e = .returned (.bool (decide (0 < b.length))) ∧ w = w' := by
  obtain ⟨n, hn⟩ : ∃ n, n = b.length := ⟨_, rfl⟩
  rw [← hn]
  have Hd := Lib.hid (show decide ((0 : Int) < (n : Int)) = decide (0 < n) from decide_eq_decide.2 (by omega))
  clear hn
  go_enter Tryd.func26, Tryd.ntmps26
  go_wp2
  go_ret
  first | exact ⟨ret_bool Hd.out, rfl⟩ | exact ⟨rfl, rfl⟩
theorem any_no1 {l : List (List UInt8)} (h : ∀ j (hj : j < l.length), (!rowB l[j]) = false) : l.any (fun b => (!rowB b)) = false := by
  rw [List.any_eq_false]
  intro b hb
  obtain ⟨j, hj, rfl⟩ := List.mem_iff_getElem.1 hb
  rw [h j hj]; simp
set_option maxHeartbeats 1000000 in
theorem index1_any (A : Option Addr) (l : List (List UInt8)) (c : Nat) (w : World) (hr : Rws w w.heap.size A l) (hcl : l.length ≤ 1000) (hb : ∀ b ∈ l, b.length ≤ 1000000) :
    Calls Tryd.prog 43 #[.slice A l.length c, .func (.func 22) #[] #[]] w fun e w' => (∃ k : Int, e = .returned (.int .i64 k) ∧ decide (0 ≤ k) = l.any (fun b => (!rowB b))) ∧ w = w' := by
  have hm1 : ∀ (x : Array Value) (w : World), Sem.run Tryd.prog (callFunc 22 x) w = .ok (.enter 22 x) w := by intro x w; simp [go_sem]
  go_enter Tryd.func43, Tryd.ntmps43
  go_wp2_with fail
  go_loopw [8] (fun i wr => ∃ k : Nat, k ≤ l.length ∧ i = .int .i64 k ∧ wr = w ∧ Hid (∀ j (hj : j < l.length), j < k → (!rowB l[j]) = false)) (fun i _ => l.length - (intOf i).toNat)
  case atStart => exact ⟨0, by omega, rfl, rfl, Lib.hid fun j hj h => by omega⟩
  case round =>
    obtain ⟨k, hk, rfl, rfl, hall⟩ := hrel
    by_cases hlt : k < l.length
    · obtain ⟨b, off, Ai, ci, rfl, hbl, hc, _, _, _⟩ := hr.get hlt
      have hkn : (k : Int) < (l.length : Int) := by omega
      have hwk : wrap64 ((k : Int) + 1) = (k : Int) + 1 := by unfold wrap64; omega
      have hE := Lib.hid (fun W => enc1_any Ai l[k] ci W (hb _ (List.getElem_mem hlt)))
      cases hd : (!rowB l[k]) with
      | true =>
        have hy := Lib.hid (show l.any (fun b => (!rowB b)) = true from List.any_eq_true.2 ⟨l[k], List.getElem_mem hlt, hd⟩)
        go_wp2_with (go_at_call 22; refine (hE.out _).mono ?_; rintro e w1 ⟨rfl, rfl⟩; rw [hd])
        go_ret
        exact ⟨⟨(k : Int), rfl, by rw [hy.out]; exact decide_eq_true (by omega)⟩, rfl⟩
      | false =>
        go_wp2_with (go_at_call 22; refine (hE.out _).mono ?_; rintro e w1 ⟨rfl, rfl⟩; rw [hd])
        case roundEnd => exact ⟨⟨k + 1, by omega, by first | rfl | simp | (rw [hwk]; rfl), by first | trivial | rfl, Lib.hid fun j hj h => by
          rcases (show j < k ∨ j = k by omega) with h1 | h1
          · exact hall.out j hj h1
          · subst h1; exact hd⟩, by simp only [intOf]; omega⟩
    · have hkn : ¬ (k : Int) < (l.length : Int) := by omega
      have hn := Lib.hid (any_no1 (l := l) (fun j hj => hall.out j hj (by omega)))
      go_wp2
      go_ret
      exact ⟨⟨-1, rfl, by rw [hn.out]; rfl⟩, rfl⟩
theorem contains1_any (A : Option Addr) (l : List (List UInt8)) (c : Nat) (w : World) (hr : Rws w w.heap.size A l) (hcl : l.length ≤ 1000) (hb : ∀ b ∈ l, b.length ≤ 1000000) :
    Calls Tryd.prog 25 #[.slice A l.length c, .func (.func 22) #[] #[]] w fun e w' => e = .returned (.bool (l.any (fun b => (!rowB b)))) ∧ w = w' := by
  go_enter Tryd.func25, Tryd.ntmps25
  go_wp2_with (go_at_call 43; refine (index1_any A l c _ hr hcl hb).mono ?_; rintro e w1 ⟨⟨k, rfl, hk⟩, rfl⟩)
  go_ret
  exact ⟨by first | rfl | exact ret_bool hk, rfl⟩
theorem any_no2 {l : List (List UInt8)} (h : ∀ j (hj : j < l.length), (decide (0 < l[j].length)) = false) : l.any (fun b => (decide (0 < b.length))) = false := by
  rw [List.any_eq_false]
  intro b hb
  obtain ⟨j, hj, rfl⟩ := List.mem_iff_getElem.1 hb
  rw [h j hj]; simp
set_option maxHeartbeats 1000000 in
theorem index2_any (A : Option Addr) (l : List (List UInt8)) (c : Nat) (w : World) (hr : Rws w w.heap.size A l) (hcl : l.length ≤ 1000) (hb : ∀ b ∈ l, b.length ≤ 1000000) :
    Calls Tryd.prog 43 #[.slice A l.length c, .func (.func 26) #[] #[]] w fun e w' => (∃ k : Int, e = .returned (.int .i64 k) ∧ decide (0 ≤ k) = l.any (fun b => (decide (0 < b.length)))) ∧ w = w' := by
  have hm1 : ∀ (x : Array Value) (w : World), Sem.run Tryd.prog (callFunc 26 x) w = .ok (.enter 26 x) w := by intro x w; simp [go_sem]
  go_enter Tryd.func43, Tryd.ntmps43
  go_wp2_with fail
  go_loopw [8] (fun i wr => ∃ k : Nat, k ≤ l.length ∧ i = .int .i64 k ∧ wr = w ∧ Hid (∀ j (hj : j < l.length), j < k → (decide (0 < l[j].length)) = false)) (fun i _ => l.length - (intOf i).toNat)
  case atStart => exact ⟨0, by omega, rfl, rfl, Lib.hid fun j hj h => by omega⟩
  case round =>
    obtain ⟨k, hk, rfl, rfl, hall⟩ := hrel
    by_cases hlt : k < l.length
    · obtain ⟨b, off, Ai, ci, rfl, hbl, hc, _, _, _⟩ := hr.get hlt
      have hkn : (k : Int) < (l.length : Int) := by omega
      have hwk : wrap64 ((k : Int) + 1) = (k : Int) + 1 := by unfold wrap64; omega
      have hE := Lib.hid (fun W => enc2_any Ai l[k] ci W (hb _ (List.getElem_mem hlt)))
      cases hd : (decide (0 < l[k].length)) with
      | true =>
        have hy := Lib.hid (show l.any (fun b => (decide (0 < b.length))) = true from List.any_eq_true.2 ⟨l[k], List.getElem_mem hlt, hd⟩)
        go_wp2_with (go_at_call 26; refine (hE.out _).mono ?_; rintro e w1 ⟨rfl, rfl⟩; rw [hd])
        go_ret
        exact ⟨⟨(k : Int), rfl, by rw [hy.out]; exact decide_eq_true (by omega)⟩, rfl⟩
      | false =>
        go_wp2_with (go_at_call 26; refine (hE.out _).mono ?_; rintro e w1 ⟨rfl, rfl⟩; rw [hd])
        case roundEnd => exact ⟨⟨k + 1, by omega, by first | rfl | simp | (rw [hwk]; rfl), by first | trivial | rfl, Lib.hid fun j hj h => by
          rcases (show j < k ∨ j = k by omega) with h1 | h1
          · exact hall.out j hj h1
          · subst h1; exact hd⟩, by simp only [intOf]; omega⟩
    · have hkn : ¬ (k : Int) < (l.length : Int) := by omega
      have hn := Lib.hid (any_no2 (l := l) (fun j hj => hall.out j hj (by omega)))
      go_wp2
      go_ret
      exact ⟨⟨-1, rfl, by rw [hn.out]; rfl⟩, rfl⟩
theorem contains2_any (A : Option Addr) (l : List (List UInt8)) (c : Nat) (w : World) (hr : Rws w w.heap.size A l) (hcl : l.length ≤ 1000) (hb : ∀ b ∈ l, b.length ≤ 1000000) :
    Calls Tryd.prog 25 #[.slice A l.length c, .func (.func 26) #[] #[]] w fun e w' => e = .returned (.bool (l.any (fun b => (decide (0 < b.length))))) ∧ w = w' := by
  go_enter Tryd.func25, Tryd.ntmps25
  go_wp2_with (go_at_call 43; refine (index2_any A l c _ hr hcl hb).mono ?_; rintro e w1 ⟨⟨k, rfl, hk⟩, rfl⟩)
  go_ret
  exact ⟨by first | rfl | exact ret_bool hk, rfl⟩
end Go.Proofs.YtnfhlnkbkfgihaaDoor.Nod

/- The walks of the package num and of the reference's numbers as bytes. -/
namespace Go.Proofs.YtnfhlnkbkfgihaaDoor.Num
open Go.RowKit
set_option linter.unusedVariables false
set_option maxRecDepth 100000

theorem info8 : (Tryd.prog.info? 5).map (fun i => (i.zero, i.size, i.bytes)) = some (some (.int .u8 0), 1, 1) := by kernel_rfl
/-- bytes of a size outside 1 to 8: none -/
def put (n : Nat) (size : Int) : List UInt8 := if 1 ≤ size ∧ size ≤ 8 then putL n size.toNat else []

set_option maxHeartbeats 400000 in
theorem put_any (n : UInt64) (m : Int) (hm : m = (n.toNat : Int)) (s : Nat) (z : Int) (hz : z = (s : Int)) (hs : 1 ≤ s) (hs8 : s ≤ 8) (w : World) :
    Calls Tryd.prog 58 #[.int .u64 m, .int .i64 z] w fun e w' => RetB 5 w (putL n.toNat s) e w' := by
  subst hm hz
  obtain ⟨i0, hi0, hz0, hz1, hz2⟩ := info_parts info8
  have hn0 : (0 : Int) ≤ (n.toNat : Int) := by omega
  have hn1 : (n.toNat : Int) ≤ 18446744073709551615 := by have := n.toNat_lt; omega
  go_enter Tryd.func58, Tryd.ntmps58
  go_wp2
  go_step3
  go_wp2
  go_step3
  go_wp2
  go_loopw [4, 5] (fun v i wr => ∃ k : Nat, k ≤ s ∧ i = .int .i64 ((s : Int) - 1 - (k : Int)) ∧ wr.ownsRow w.heap.size 5 1 v k (((putL n.toNat s).take k).map e8) ∧ Below w.heap.size w wr) (fun _ i _ => (intOf i + 1).toNat)
  case atStart => exact ⟨0, by omega, by go_num, by simpa using own_nil _ _ _ _, Below.refl _ _⟩
  case round =>
    obtain ⟨k, hk, rfl, hown, hbel⟩ := hrel
    by_cases hlt : k < s
    · have hcell := Lib.hid (cell_of n.toNat (8 * (s - 1 - k)))
      go_wp2_with (at_builtin; refine wpList_append_rd _ rfl _ _ _ rfl w.heap.size 5 i0 _ 1 1 Tryd.underlying25 hi0 hz0 hz1 hz2 rfl (by omega) _ k _ rfl (hown.alloc _) _ _ 1 1 [.int .u8 ((n.toNat : Int) / 2 ^ (8 * (s - 1 - k)) % 256)] rfl rfl (Rd.lit wr _ _ _ (wr.heap.size + 1) rfl (by omega)) (one_int _ _) (by simp only [maxLen]; omega) (by omega) (le_alloc hbel.size _) ?_; intro v1 w1 hown1 hg1 hat1)
      go_roundw
      case rel => exact ⟨k + 1, by omega, by go_num, by rw [putL_take _ _ _ hlt, List.map_append, List.map_singleton]; unfold e8; rw [hcell.out]; exact hown1, (hbel.alloc hbel.size _).grown hg1 (by have := hbel.size; simp; omega) (fun g hg => own_block hown hg)⟩
      case measure => simp [intOf]; omega
    · obtain rfl : k = s := by omega
      rw [List.take_of_length_le (by rw [putL_len]; omega)] at hown
      go_wp2
      rw [Exit.noGoto_ret]
      go_ret
      exact RetB.mk hown rfl hbel
set_option maxHeartbeats 400000 in
theorem rput_any (n : UInt64) (m : Int) (hm : m = (n.toNat : Int)) (s : Nat) (z : Int) (hz : z = (s : Int)) (hs : 1 ≤ s) (hs8 : s ≤ 8) (w : World) :
    Calls Tryd.prog 62 #[.int .u64 m, .int .i64 z] w fun e w' => RetB 5 w (putL n.toNat s) e w' := by
  subst hm hz
  obtain ⟨i0, hi0, hz0, hz1, hz2⟩ := info_parts info8
  have hn0 : (0 : Int) ≤ (n.toNat : Int) := by omega
  have hn1 : (n.toNat : Int) ≤ 18446744073709551615 := by have := n.toNat_lt; omega
  go_enter Tryd.func62, Tryd.ntmps62
  go_wp2_with (at_make; refine wpList_make_full _ rfl _ _ _ rfl w.heap.size 5 i0 _ 1 Tryd.underlying25 hi0 hz0 hz1 _ _ _ _ s rfl rfl rfl rfl (by rw [hz2]; omega) (by simp only [maxLen]; omega) (Nat.le_refl _) ?_; intro w1 hown1 hg1)
  rw [made_int] at hown1
  have hbw : Below w.heap.size w w1 := (Below.refl _ _).grown hg1 (Nat.le_refl _) (by simp)
  go_loopw [0, 6] (fun m i wr => ∃ k : Nat, k ≤ s ∧ m = .int .u64 ((n.toNat / 2 ^ (8 * k) : Nat) : Int) ∧ i = .int .i64 ((s : Int) - 1 - (k : Int)) ∧ wr.ownsRow w.heap.size 5 1 (.slice (some ⟨w.heap.size, 0, none⟩) s s) s ((backL n.toNat s k).map e8) ∧ Below w.heap.size w wr) (fun _ i _ => (intOf i + 1).toNat)
  case atStart => exact ⟨0, by omega, by simp, by go_num, by rw [backL_zero, List.map_replicate]; exact hown1, hbw⟩
  case round =>
    obtain ⟨k, hk, rfl, rfl, hown, hbel⟩ := hrel
    by_cases hlt : k < s
    · have hcell := Lib.hid (cell_of n.toNat (8 * k))
      have hlen := backL_len n.toNat s k
      have hc := World.ownsRow.cellAt hown (s - 1 - k) (by omega)
      have hi : s - 1 - k < ((backL n.toNat s k).map e8).length := by rw [List.length_map, hlen]; omega
      rw [List.getElem?_eq_getElem hi, List.getElem_map] at hc
      have hf := World.ownsRow.frozenAt hown (s - 1 - k)
      have hst := (World.ownsRow.stored hown (s - 1 - k) (e8 (UInt8.ofNat (n.toNat / 2 ^ (8 * k))))).1
      rw [← List.map_set, backL_set _ _ _ hlt] at hst
      unfold e8 at hst
      rw [hcell.out] at hst
      have Hst := Lib.hid hst
      obtain ⟨q, hq⟩ : ∃ q, q = n.toNat / 2 ^ (8 * k) := ⟨_, rfl⟩
      have hq1 : (q : Int) ≤ 18446744073709551615 := by have : q ≤ n.toNat := by rw [hq]; exact Nat.div_le_self _ _
                                                        omega
      have hq2 := Lib.hid (show ((q : Int) / 256) = ((n.toNat / 2 ^ (8 * (k + 1)) : Nat) : Int) by rw [show n.toNat / 2 ^ (8 * (k + 1)) = q / 256 by rw [hq, Nat.div_div_eq_div_mul, Nat.mul_add, Nat.pow_add]]; omega)
      rw [← hq]
      have Hq := Lib.hid hq
      clear hlen hq hst hcell
      go_wp2
      go_roundw
      case rel => exact ⟨k + 1, by omega, by rw [hq2.out], by go_num, by have h := Hst.out
                                                                         rw [show (n.toNat : Int) / 2 ^ (8 * k) = (q : Int) by rw [Hq.out, Int.natCast_ediv, Int.natCast_pow]; rfl] at h
                                                                         exact h, hbel.setCell (Nat.le_refl _) _⟩
      case measure => simp [intOf]; omega
    · obtain rfl : k = s := by omega
      rw [backL_all] at hown
      go_wp2
      go_ret
      exact RetB.mk hown rfl hbel
theorem put_le (n : Nat) (s : Int) : (put n s).length ≤ 8 := by
  unfold put
  split
  · rw [putL_len]; omega
  · simp
theorem put_yes {n : Nat} {s : Int} (h0 : 1 ≤ s) (h1 : s ≤ 8) : put n s = putL n s.toNat := if_pos ⟨h0, h1⟩
theorem put_no {n : Nat} {s : Int} (h : s < 1 ∨ 8 < s) : put n s = [] := if_neg (by omega)
theorem retB_nil (E : TypeId) (w : World) : RetB E w [] (.returned (.slice none 0 0)) w := ⟨none, 0, rfl, own_nil _ _ _ _, Below.refl _ _⟩
set_option maxHeartbeats 400000 in
theorem putz_any (n : UInt64) (m : Int) (hm : m = (n.toNat : Int)) (s : Int) (hs0 : -9223372036854775808 ≤ s) (hs1 : s ≤ 9223372036854775807) (w : World) :
    Calls Tryd.prog 58 #[.int .u64 m, .int .i64 s] w fun e w' => RetB 5 w (put n.toNat s) e w' := by
  by_cases h : 1 ≤ s ∧ s ≤ 8
  · rw [put_yes h.1 h.2]
    exact put_any n m hm s.toNat s (by omega) (by omega) (by omega) w
  · have hp := Lib.hid (put_no (n := n.toNat) (show s < 1 ∨ 8 < s by omega))
    have hr := retB_nil 5 w
    rcases (show s < 1 ∨ 8 < s by omega) with h1 | h1
    all_goals
      clear h
      go_enter Tryd.func58, Tryd.ntmps58
      go_wp2
      go_step3
      go_wp2
      go_ret
      rw [hp.out]
      exact hr
set_option maxHeartbeats 400000 in
theorem rputz_any (n : UInt64) (m : Int) (hm : m = (n.toNat : Int)) (s : Int) (hs0 : -9223372036854775808 ≤ s) (hs1 : s ≤ 9223372036854775807) (w : World) :
    Calls Tryd.prog 62 #[.int .u64 m, .int .i64 s] w fun e w' => RetB 5 w (put n.toNat s) e w' := by
  by_cases h : 1 ≤ s ∧ s ≤ 8
  · rw [put_yes h.1 h.2]
    exact rput_any n m hm s.toNat s (by omega) (by omega) (by omega) w
  · have hp := Lib.hid (put_no (n := n.toNat) (show s < 1 ∨ 8 < s by omega))
    have hr := retB_nil 5 w
    rcases (show s < 1 ∨ 8 < s by omega) with h1 | h1
    all_goals
      clear h
      go_enter Tryd.func62, Tryd.ntmps62
      go_wp2
      go_ret
      rw [hp.out]
      exact hr
theorem or_byte {n c : Nat} (hn : n < 72057594037927936) (hc : c < 256) : bits .or .u64 ((n : Int) * 256) (c : Int) = ((n * 256 + c : Nat) : Int) := by
  have h := u64_or_nat (n * 256) c (by omega) (by omega)
  have h2 : n * 256 ||| c = n * 256 + c := by
    have := Nat.shiftLeft_add_eq_or_of_lt (i := 8) (a := n) (b := c) (by omega)
    rw [Nat.shiftLeft_eq, show (2 : Nat) ^ 8 = 256 from rfl] at this
    omega
  rw [h2] at h
  rw [show ((n : Int) * 256) = ((n * 256 : Nat) : Int) by omega]
  exact h
set_option maxHeartbeats 400000 in
theorem get_any (A : Option Addr) (l : List UInt8) (n cap : Nat) (B : Nat) (w : World) (hn : n = l.length) (hr : Rd w B A (l.map e8)) (h1 : 1 ≤ l.length) (h8 : l.length ≤ 8) :
    Calls Tryd.prog 66 #[.slice A n cap] w fun e w' => e = .returned (.tuple #[.int .u64 (getN l : Int), .int .i64 0]) ∧ w = w' := by
  subst hn
  have hne := beq_no (show (l.length : Int) ≠ 0 by omega)
  go_enter Tryd.func66, Tryd.ntmps66
  go_wp2
  go_loop [2, 5, 16] (fun n _ i => ∃ k : Nat, k ≤ l.length ∧ i = .int .i64 k ∧ n = .int .u64 (getN (l.take k) : Int)) (fun _ _ i => l.length - (intOf i).toNat)
  case atStart => exact ⟨0, by omega, rfl, rfl⟩
  case round =>
    obtain ⟨k, hk, rfl, rfl⟩ := hrel
    by_cases hlt : k < l.length
    · obtain ⟨b, off, rfl, hbb, hc⟩ := hr.get (k := k) (by simpa using hlt)
      rw [List.getElem_map] at hc
      have hb := getN_7 l k hk (by omega)
      have hc0 : (0 : Int) ≤ (l[k].toNat : Int) := by omega
      have hc1 : (l[k].toNat : Int) ≤ 255 := by have := l[k].toNat_lt; omega
      have hv := Lib.hid (show bits .or .u64 ((getN (l.take k) : Int) * 256) (l[k].toNat : Int) = (getN (l.take (k + 1)) : Int) by rw [or_byte hb (by omega), getN_take hlt])
      go_wp2
      go_round
      case rel => exact ⟨k + 1, by omega, by go_num, by rw [hv.out]⟩
      case measure => simp [intOf]; omega
    · obtain rfl : k = l.length := by omega
      have ht := Lib.hid (show getN (l.take l.length) = getN l by rw [List.take_length])
      go_wp2
      go_ret2
      exact ⟨by rw [← ht.out]; rfl, rfl⟩
set_option maxHeartbeats 400000 in
theorem get_no (A : Option Addr) (n cap : Nat) (w : World) (h : n = 0 ∨ 8 < n) (hm : n ≤ maxLen) :
    Calls Tryd.prog 66 #[.slice A n cap] w fun e w' => e = .returned (.tuple #[.int .u64 0, .int .i64 4]) ∧ w = w' := by
  unfold maxLen at hm
  rcases h with rfl | h
  · go_enter Tryd.func66, Tryd.ntmps66
    go_wp2
    go_ret2
    exact ⟨rfl, rfl⟩
  · have hne := beq_no (show (n : Int) ≠ 0 by omega)
    go_enter Tryd.func66, Tryd.ntmps66
    go_wp2
    go_ret2
    exact ⟨rfl, rfl⟩
set_option maxHeartbeats 400000 in
theorem rget_any (A : Option Addr) (l : List UInt8) (n cap : Nat) (B : Nat) (w : World) (hn : n = l.length) (hr : Rd w B A (l.map e8)) (h1 : 1 ≤ l.length) (h8 : l.length ≤ 8) :
    Calls Tryd.prog 57 #[.slice A n cap] w fun e w' => e = .returned (.tuple #[.int .u64 (getN l : Int), .int .i64 0]) ∧ w = w' := by
  subst hn
  go_enter Tryd.func57, Tryd.ntmps57
  go_wp2
  go_loop [4, 5] (fun n i => ∃ k : Nat, k ≤ l.length ∧ i = .int .i64 k ∧ n = .int .u64 (getN (l.take k) : Int)) (fun _ i => l.length - (intOf i).toNat)
  case atStart => exact ⟨0, by omega, rfl, rfl⟩
  case round =>
    obtain ⟨k, hk, rfl, rfl⟩ := hrel
    by_cases hlt : k < l.length
    · obtain ⟨b, off, rfl, hbb, hc⟩ := hr.get (k := k) (by simpa using hlt)
      rw [List.getElem_map] at hc
      have hb := getN_7 l k hk (by omega)
      have hc0 : (0 : Int) ≤ (l[k].toNat : Int) := by omega
      have hc1 : (l[k].toNat : Int) ≤ 255 := by have := l[k].toNat_lt; omega
      have hv := Lib.hid (show (getN (l.take k) : Int) * 256 + (l[k].toNat : Int) = (getN (l.take (k + 1)) : Int) by rw [getN_take hlt]; omega)
      go_wp2
      go_round
      case rel => exact ⟨k + 1, by omega, by go_num, by rw [hv.out]⟩
      case measure => simp [intOf]; omega
    · obtain rfl : k = l.length := by omega
      have ht := Lib.hid (show getN (l.take l.length) = getN l by rw [List.take_length])
      go_wp2
      go_ret2
      exact ⟨by rw [← ht.out]; rfl, rfl⟩
set_option maxHeartbeats 400000 in
theorem rget_no (A : Option Addr) (n cap : Nat) (w : World) (h : n = 0 ∨ 8 < n) (hm : n ≤ maxLen) :
    Calls Tryd.prog 57 #[.slice A n cap] w fun e w' => e = .returned (.tuple #[.int .u64 0, .int .i64 4]) ∧ w = w' := by
  unfold maxLen at hm
  rcases h with rfl | h
  · go_enter Tryd.func57, Tryd.ntmps57
    go_wp2
    go_ret2
    exact ⟨rfl, rfl⟩
  · go_enter Tryd.func57, Tryd.ntmps57
    go_wp2
    go_ret2
    exact ⟨rfl, rfl⟩
end Go.Proofs.YtnfhlnkbkfgihaaDoor.Num

/- A slice of bytes turned into a string, nil and empty ones too; a string turned into a new slice of bytes. -/
namespace Go.Proofs.YtnfhlnkbkfgihaaDoor
open Go.RowKit

theorem run_conv_rd {P : Program} {w : World} {B : Nat} {A : Option Addr} {l : List UInt8} (src dst e : TypeId) (n c : Nat) (hn : n = l.length) (hs : P.underlying src = some (.slice e)) (he : P.underlying e = some (.int .u8)) (hd : P.underlying dst = some .string)
    (hr : Rd w B A (l.map e8)) : (convert src dst (.slice A n c)).run P w = .ok (.string ⟨l.toArray⟩) w := by
  subst hn
  cases A with
  | none =>
    have hl : l = [] := by
      cases l with
      | nil => rfl
      | cons a l => obtain ⟨b, off, h, _⟩ := hr (by simp); cases h
    subst hl
    simp [convert, run_underlying hs, run_underlying he, run_underlying hd, go_sem]
    rfl
  | some a =>
    refine run_convert_bytes_back w src dst e a c l hs he hd fun j hj => ?_
    obtain ⟨b, off, h, _, hc⟩ := hr (by intro h; simp at h; subst h; exact absurd hj (by simp))
    injection h with h
    subst h
    rw [Addr.add_lit, hc j (by simpa using hj), List.getElem_map]
theorem ba_append (a b : List UInt8) : (⟨a.toArray⟩ ++ ⟨b.toArray⟩ : ByteArray) = ⟨(a ++ b).toArray⟩ := by
  apply ByteArray.ext
  simp
/-- the bytes of a string, in new memory -/
theorem run_conv_new {P : Program} (w : World) (src dst e : TypeId) (l : List UInt8) (hs : P.underlying src = some .string) (hd : P.underlying dst = some (.slice e)) (he : P.underlying e = some (.int .u8)) :
    ∃ c w', (convert src dst (.string ⟨l.toArray⟩)).run P w = .ok (.slice (some ⟨w.heap.size, 0, none⟩) l.length c) w' ∧ Below w.heap.size w w' ∧ w.heap.size < w'.heap.size ∧ l.length ≤ c ∧
      ∀ i (h : i < (l.map e8).length), w'.cell? ⟨w.heap.size, 0 + i, none⟩ = some (l.map e8)[i] := by
  refine ⟨_, _, Lib.run_convert_string_bytes w src dst e ⟨l.toArray⟩ hs hd he, ⟨rfl, rfl, rfl, ?_, fun j hj => Lib.bytesWorld_at_old w e _ j hj⟩, ?_, ?_, fun i hi => ?_⟩
  · rw [Lib.bytesWorld_size]; omega
  · rw [Lib.bytesWorld_size]; omega
  · have := grownCap_ge w l.length 0 e
    simpa [ByteArray.size] using this
  · have hi' : i < l.length := by simpa using hi
    rw [Nat.zero_add, Lib.bytesWorld_cell w e _ i (by simpa [ByteArray.size] using hi')]
    simp [List.getD, hi']
end Go.Proofs.YtnfhlnkbkfgihaaDoor

/- The walks of the library's slices at bytes. -/
namespace Go.Proofs.YtnfhlnkbkfgihaaDoor.Sl
open Go.RowKit
set_option linter.unusedVariables false
set_option maxRecDepth 100000

theorem info8 : (Tryd.prog.info? 5).map (fun i => (i.zero, i.size, i.bytes)) = some (some (.int .u8 0), 1, 1) := by kernel_rfl
theorem own_empty (w : World) (e : TypeId) (base : Nat) (hb : base ≤ w.heap.size) : (w.alloc (.cells #[] e)).ownsRow base e 1 (.slice (some ⟨w.heap.size, 0, none⟩) 0 0) 0 [] :=
  ⟨by simp, .inr ⟨w.heap.size, 0, #[], rfl, hb, heap_alloc_new w _, by simp, by simp [maxLen], by simp, by simp⟩⟩

set_option maxHeartbeats 400000 in
theorem clone_any (A : Option Addr) (l : List UInt8) (n c : Nat) (w : World) (hn : n = l.length) (hr : Rd w w.heap.size A (l.map e8)) (hl : l.length ≤ 1000000000000) :
    Calls Tryd.prog 46 #[.slice A n c] w fun e w' => RetB 5 w l e w' := by
  subst hn
  obtain ⟨i0, hi0, hz0, hz1, hz2⟩ := info_parts info8
  cases A with
  | none =>
    obtain rfl : l = [] := by
      cases l with
      | nil => rfl
      | cons a l => obtain ⟨b, off, h, _⟩ := hr (by simp); cases h
    have heq := Lib.run_eql_slice_nil (P := Tryd.prog) w 25 5 none 0 c 0 0 Tryd.underlying25
    go_enter Tryd.func46, Tryd.ntmps46
    go_wp2
    go_ret
    exact ⟨none, 0, rfl, own_nil _ _ _ _, Below.refl _ _⟩
  | some a =>
    have heq := Lib.run_eql_slice_nil (P := Tryd.prog) w 25 5 (some a) l.length c 0 0 Tryd.underlying25
    go_enter Tryd.func46, Tryd.ntmps46
    go_wp2_with (at_builtin; refine wpList_append_rd _ rfl _ _ _ rfl w.heap.size 5 i0 _ 1 1 Tryd.underlying25 hi0 hz0 hz1 hz2 rfl (by omega) (.slice (some ⟨w.heap.size, 0, none⟩) 0 0) 0 [] rfl (own_empty w _ _ (Nat.le_refl _)) w.heap.size (some a) l.length c (l.map e8) rfl (by simp) (hr.below (b1alloc _ _)) (e8_one _) (by simp only [maxLen]; omega) (by omega) (by simp) ?_; intro v1 w1 hown1 hg1 hat1)
    go_ret
    exact RetB.mk hown1 (by simp) ((b1alloc _ _).grown hg1 (by simp) (fun k hk => by simp [Value.ownBlock] at hk; omega))
end Go.Proofs.YtnfhlnkbkfgihaaDoor.Sl

/- The walks of the reference's small helpers (oublietteref01). -/
namespace Go.Proofs.YtnfhlnkbkfgihaaDoor.R1
open Go.RowKit
set_option linter.unusedVariables false
set_option maxRecDepth 100000

theorem info8 : (Tryd.prog.info? 5).map (fun i => (i.zero, i.size, i.bytes)) = some (some (.int .u8 0), 1, 1) := by kernel_rfl

set_option maxHeartbeats 400000 in
theorem join_any (A B : Option Addr) (l m : List UInt8) (n o c d : Nat) (w : World) (hn : n = l.length) (ho : o = m.length) (ha : Rd w w.heap.size A (l.map e8)) (hb : Rd w w.heap.size B (m.map e8)) (hl : l.length + m.length ≤ 1000000000000) :
    Calls Tryd.prog 33 #[.slice A n c, .slice B o d] w fun e w' => RetB 5 w (l ++ m) e w' := by
  subst hn ho
  obtain ⟨i0, hi0, hz0, hz1, hz2⟩ := info_parts info8
  go_enter Tryd.func33, Tryd.ntmps33
  go_wp2_with (first
    | (at_builtin; refine wpList_append_rd _ rfl (.tmp 6) (.tmp 7) _ rfl w.heap.size 5 i0 _ 1 1 Tryd.underlying25 hi0 hz0 hz1 hz2 rfl (by omega) (.slice none 0 0) 0 [] rfl (own_nil _ _ _ _) w.heap.size A l.length c (l.map e8) rfl (by simp) ha (e8_one _) (by simp only [maxLen]; omega) (by omega) (Nat.le_refl _) ?_; intro v1 w1 hown1 hg1 hat1; have hbw1 : Below w.heap.size w w1 := (Below.refl _ _).grown hg1 (Nat.le_refl _) (by simp [Value.ownBlock]))
    | (at_builtin; refine wpList_append_rd _ rfl (.tmp 9) (.tmp 10) _ rfl w.heap.size 5 i0 _ 1 1 Tryd.underlying25 hi0 hz0 hz1 hz2 rfl (by omega) v1 (0 + l.length) ([] ++ l.map e8) rfl hown1 w.heap.size B m.length d (m.map e8) rfl (by simp) (hb.below hbw1) (e8_one _) (by simp only [maxLen]; omega) (by omega) hbw1.size ?_; intro v2 w2 hown2 hg2 hat2))
  go_ret
  exact RetB.mk hown2 (by simp) (hbw1.grown hg2 hbw1.size (fun k hk => own_block hown1 hk))


/-- are bytes the same? -/
def sameB (a b : List UInt8) : Bool := decide (a = b)
theorem sameB_self (a : List UInt8) : sameB a a = true := by simp [sameB]
theorem sameB_of {a b : List UInt8} (h : a = b) : sameB a b = true := by simp [sameB, h]
theorem sameB_len {a b : List UInt8} (h : a.length ≠ b.length) : sameB a b = false := by
  simp only [sameB, decide_eq_false_iff_not]; intro e; exact h (by rw [e])
theorem sameB_at {a b : List UInt8} {k : Nat} (ha : k < a.length) (hb : k < b.length) (h : a[k] ≠ b[k]) : sameB a b = false := by
  simp only [sameB, decide_eq_false_iff_not]; intro e; subst e; exact h rfl
theorem sameB_all {a b : List UInt8} (hl : a.length = b.length) (h : ∀ j (ha : j < a.length) (hb : j < b.length), a[j] = b[j]) : sameB a b = true :=
  sameB_of (List.ext_getElem hl h)
theorem agree_succ {l m : List UInt8} {k : Nat} (h : ∀ j (ha : j < l.length) (hb : j < m.length), j < k → l[j] = m[j]) {h1 : k < l.length} {h2 : k < m.length} (he : l[k] = m[k]) :
    ∀ j (ha : j < l.length) (hb : j < m.length), j < k + 1 → l[j] = m[j] := fun j ha hb hj => by
  rcases Nat.lt_or_ge j k with e | e
  · exact h j ha hb e
  · obtain rfl : j = k := by omega
    exact he
set_option maxHeartbeats 400000 in
theorem same_any (A B : Option Addr) (l m : List UInt8) (n o c d : Nat) (w : World) (hn : n = l.length) (ho : o = m.length) (ha : Rd w w.heap.size A (l.map e8)) (hb : Rd w w.heap.size B (m.map e8)) (hl : l.length ≤ 1000000000000) (hm : m.length ≤ 1000000000000) :
    Calls Tryd.prog 11 #[.slice A n c, .slice B o d] w fun e w' => e = .returned (.bool (sameB l m)) ∧ Below w.heap.size w w' := by
  subst hn ho
  by_cases hlen : l.length = m.length
  · have hne := bne_no (congrArg (Nat.cast : Nat → Int) hlen)
    have Hlen := Lib.hid hlen
    have hle : l.length ≤ m.length := by omega
    clear hlen
    go_enter Tryd.func11, Tryd.ntmps11
    go_wp2
    go_loopw [5] (fun i wr => ∃ k : Nat, k ≤ l.length ∧ i = .int .i64 k ∧ Hid (∀ j (ha : j < l.length) (hb : j < m.length), j < k → l[j] = m[j]) ∧ Below w.heap.size w wr) (fun i _ => l.length - (intOf i).toNat)
    case atStart => exact ⟨0, by omega, rfl, fun j _ _ h => absurd h (by omega), Below.refl _ _⟩
    case round =>
      obtain ⟨k, hk, rfl, heq, hbel⟩ := hrel
      by_cases hlt : k < l.length
      · obtain ⟨b, off, rfl, hbb, hc⟩ := (ha.below hbel).get (k := k) (by simpa using hlt)
        obtain ⟨b', off', rfl, hbb', hc'⟩ := (hb.below hbel).get (k := k) (by simp; omega)
        rw [List.getElem_map] at hc hc'
        have hlt' : k < m.length := by omega
        by_cases hx : l[k] = m[k]
        · have hx' := bne8_no hx
          have Hx := Lib.hid hx
          clear hx
          go_wp2
          go_quiet (fail)
          go_wp2
          go_roundw
          case rel => exact ⟨k + 1, by omega, by go_num, agree_succ heq.out Hx.out, by simpa using bdrew hbel _⟩
          case measure => simp [intOf]; omega
        · have hx' := bne8 hx
          have Hx := Lib.hid (sameB_at hlt hlt' hx)
          clear hx
          go_wp2
          go_quiet (fail)
          go_wp2
          go_ret
          exact ⟨ret_bool Hx.out.symm, bdrew hbel _⟩
      · have Hx := Lib.hid (sameB_all Hlen.out fun j h1 h2 => heq.out j h1 h2 (by omega))
        go_wp2
        go_ret
        exact ⟨ret_bool Hx.out.symm, hbel⟩
  · have hne := bne_yes (fun e => hlen (Int.natCast_inj.1 e))
    have Hx := Lib.hid (sameB_len hlen)
    clear hlen
    go_enter Tryd.func11, Tryd.ntmps11
    go_wp2
    go_ret
    exact ⟨ret_bool Hx.out.symm, Below.refl _ _⟩
end Go.Proofs.YtnfhlnkbkfgihaaDoor.R1

/- The walks of wire.Writer. -/
namespace Go.Proofs.YtnfhlnkbkfgihaaDoor.Wire
open Go.RowKit
set_option linter.unusedVariables false
set_option maxRecDepth 100000

theorem info8 : (Tryd.prog.info? 5).map (fun i => (i.zero, i.size, i.bytes)) = some (some (.int .u8 0), 1, 1) := by kernel_rfl

/-- a writer stands at block g: its bytes are l, in a row of their own; it lies in the blocks fp -/
def WAt (w : World) (base g : Nat) (l : List UInt8) (fp : List Nat) : Prop :=
  ∃ v, Box w g v ∧ w.ownsRow base 5 1 v l.length (l.map e8) ∧ fp = g :: v.ownBlock.toList ∧ v.ownBlock ≠ some g ∧ base ≤ g
theorem WAt.ge {w : World} {base g : Nat} {l : List UInt8} {fp : List Nat} (h : WAt w base g l fp) : ∀ j ∈ fp, base ≤ j := by
  obtain ⟨v, hbox, hown, rfl, hkg, hbg⟩ := h
  intro j hj
  simp only [List.mem_cons, Option.mem_toList] at hj
  rcases hj with rfl | hj
  · exact hbg
  · exact own_block hown hj
theorem WAt.keep {w w' : World} {base g : Nat} {l : List UInt8} {fp fp' : List Nat} (h : WAt w base g l fp) (k : Keep fp' w w') (hd : ∀ j ∈ fp, j ∉ fp') : WAt w' base g l fp := by
  obtain ⟨v, hbox, hown, rfl, hkg, hbg⟩ := h
  exact ⟨v, hbox.keep k (hd g (by simp)), own_keep hown k (fun j hj => hd j (by simp [hj])), rfl, hkg, hbg⟩
theorem WAt.on {w w' : World} {base g : Nat} {l : List UInt8} {fp : List Nat} (h : WAt w base g l fp) (b : Below w.heap.size w w') : WAt w' base g l fp := h.keep (Keep.of_below b []) (fun _ _ => by simp)
/-- what a call of a writer's method does: so many bytes more -/
def Wrote (w : World) (base g : Nat) (l : List UInt8) (fp : List Nat) (e : Ending) (w' : World) : Prop := e = .returned (.tuple #[]) ∧ ∃ fp', WAt w' base g l fp' ∧ Keep fp w w' ∧ Fresh w fp fp'

theorem wrote_put {w w1 : World} {base g : Nat} {l l' : List UInt8} {A0 A1 : Option Addr} {c0 c1 n : Nat} (hbox : Box w g (.slice A0 l.length c0)) (hown : w.ownsRow base 5 1 (.slice A0 l.length c0) l.length (l.map e8)) (hkg : (Value.slice A0 l.length c0).ownBlock ≠ some g) (hbg : base ≤ g)
    (hbox1 : Box w1 g (.slice A0 l.length c0)) (hown1 : w1.ownsRow base 5 1 (.slice A1 n c1) n (l'.map e8)) (hg1 : w.grownBy w1 (Value.slice A0 l.length c0).ownBlock)
    (hat1 : (Value.slice A1 n c1).ownBlock = (Value.slice A0 l.length c0).ownBlock ∨ (Value.slice A1 n c1).ownBlock = some w.heap.size) :
    Wrote w base g l' (g :: (Value.slice A0 l.length c0).ownBlock.toList) (.returned (.tuple #[])) (w1.setCell ⟨g, 0, none⟩ (.slice A1 n c1)) := by
  have hlt := hbox.lt
  obtain rfl : n = l'.length := by have := hown1.1; simp at this; omega
  have hng : (Value.slice A1 l'.length c1).ownBlock ≠ some g := by
    rcases hat1 with e | e <;> rw [e]
    · exact hkg
    · intro h; injection h with h; omega
  have hk1 : Keep (g :: (Value.slice A0 l.length c0).ownBlock.toList) w w1 := Keep.of_grown hg1 (fun j hj => by simp [hj])
  have hk2 : Keep [g] w1 (w1.setCell ⟨g, 0, none⟩ (.slice A1 l'.length c1)) := (Keep.refl _ _).set (.inl (by simp)) _
  refine ⟨rfl, _, ⟨_, hbox1.set _, own_keep hown1 hk2 ?_, rfl, hng, hbg⟩, hk1.set (.inl (by simp)) _, ?_⟩
  · intro j hj e
    simp only [List.mem_singleton] at e
    subst e
    exact hng hj
  · intro j hj
    simp only [List.mem_cons, Option.mem_toList] at hj
    rcases hj with rfl | hj
    · exact .inl (by simp)
    · rcases hat1 with e | e <;> rw [e] at hj
      · exact .inl (by simp [hj])
      · injection hj with hj; exact .inr (by omega)

set_option maxHeartbeats 400000 in
theorem put_any (g base : Nat) (l m : List UInt8) (fp : List Nat) (A : Option Addr) (n c : Nat) (w : World) (hn : n = m.length) (hw : WAt w base g l fp) (hr : Rd w w.heap.size A (m.map e8)) (hb : base ≤ w.heap.size) (hl : l.length + m.length ≤ 1000000000000) :
    Calls Tryd.prog 45 #[.pointer (some ⟨g, 0, none⟩), .slice A n c] w (Wrote w base g (l ++ m) fp) := by
  subst hn
  obtain ⟨i0, hi0, hz0, hz1, hz2⟩ := info_parts info8
  obtain ⟨v, hbox, hown, rfl, hkg, hbg⟩ := hw
  obtain ⟨A0, c0, rfl⟩ := own_form hown
  have hne : some g ≠ (Value.slice A0 l.length c0).ownBlock := fun e => hkg e.symm
  have hlt := hbox.lt
  have hc := hbox.cell
  have hf := hbox.free
  go_enter Tryd.func45, Tryd.ntmps45
  go_wp2_with (at_builtin; refine wpList_append_rd _ rfl _ _ _ rfl base 5 i0 _ 1 1 Tryd.underlying25 hi0 hz0 hz1 hz2 rfl (by omega) (.slice A0 l.length c0) l.length (l.map e8) rfl hown w.heap.size A m.length c (m.map e8) rfl (by simp) hr (e8_one _) (by simp only [maxLen]; omega) (by omega) hb ?_; intro v1 w1 hown1 hg1 hat1; obtain ⟨A1, c1, rfl⟩ := own_form hown1; have hbox1 := hbox.kept hg1 hne; have hc1 := hbox1.cell; have hf1 := hbox1.free)
  go_end0
  exact wrote_put hbox hown hkg hbg hbox1 (by simpa using hown1) hg1 hat1

theorem wrote_alloc {w : World} {o : Obj} {base g : Nat} {l : List UInt8} {fp : List Nat} {e : Ending} {w' : World} (h : Wrote (w.alloc o) base g l fp e w') : Wrote w base g l fp e w' := by
  obtain ⟨rfl, fp', h1, h2, h3⟩ := h
  exact ⟨rfl, fp', h1, ((Keep.refl fp w).alloc o).trans h2 (Fresh.refl _ _), fun j hj => (h3 j hj).imp id (fun h => by simp at h; omega)⟩
theorem wrote_below {w w1 : World} {base g : Nat} {l : List UInt8} {fp : List Nat} {e : Ending} {w' : World} (b : Below w.heap.size w w1) (h : Wrote w1 base g l fp e w') : Wrote w base g l fp e w' := by
  obtain ⟨rfl, fp', h1, h2, h3⟩ := h
  exact ⟨rfl, fp', h1, (Keep.of_below b fp).trans h2 (Fresh.refl _ _), fun j hj => (h3 j hj).imp id (fun h => Nat.le_trans b.size h)⟩
theorem wrote_trans {w w1 w2 : World} {base g : Nat} {l l' : List UInt8} {fp fp1 : List Nat} {e : Ending} (h2 : Keep fp w w1) (h3 : Fresh w fp fp1) (h : Wrote w1 base g l' fp1 e w2) : Wrote w base g l' fp e w2 := by
  obtain ⟨rfl, fp', k1, k2, k3⟩ := h
  exact ⟨rfl, fp', k1, h2.trans k2 h3, h3.trans h2.size k3⟩

set_option maxHeartbeats 400000 in
theorem number_any (g base : Nat) (l : List UInt8) (n : UInt64) (z : Int) (hz : z = (n.toNat : Int)) (s : Int) (hs0 : -9223372036854775808 ≤ s) (hs1 : s ≤ 9223372036854775807) (fp : List Nat) (w : World) (hw : WAt w base g l fp) (hb : base ≤ w.heap.size) (hl : l.length + 8 ≤ 1000000000000) :
    Calls Tryd.prog 44 #[.pointer (some ⟨g, 0, none⟩), .int .u64 z, .int .i64 s] w (Wrote w base g (l ++ Num.put n.toNat s) fp) := by
  subst hz
  go_enter Tryd.func44, Tryd.ntmps44
  go_wp2_with fail
  refine (Num.putz_any n _ (by rfl) s hs0 hs1 _).mono ?_
  rintro e w1 ⟨A, c, rfl, ho, b1⟩
  go_wp2_with fail
  have hlen := Num.put_le n.toNat s
  refine (put_any g base l (Num.put n.toNat s) fp A _ c _ rfl (hw.on b1) (Rd.own ho) (Nat.le_trans hb b1.size) (by omega)).mono ?_
  intro e w2 h1
  obtain ⟨rfl, h2⟩ := h1
  go_wp2
  go_end0
  exact wrote_below b1 ⟨rfl, h2⟩

/-- what Bytes writes: of at most 65535 bytes -/
def field (l : List UInt8) : List UInt8 := Num.putL (l.take 65535).length 2 ++ l.take 65535
theorem field_few {l : List UInt8} (h : l.length ≤ 65535) : field l = Num.putL l.length 2 ++ l := by
  unfold field; rw [List.take_of_length_le h]
theorem u64_of (n : Nat) (h : n ≤ 1000000) : ∃ u : UInt64, u.toNat = n := ⟨UInt64.ofNat n, by rw [UInt64.toNat_ofNat']; exact Nat.mod_eq_of_lt (by omega)⟩

set_option maxHeartbeats 400000 in
theorem bytes_any (g base : Nat) (l m : List UInt8) (fp : List Nat) (A : Option Addr) (n c : Nat) (w : World) (hn : n = m.length) (hw : WAt w base g l fp) (hr : RdN w fp A (m.map e8)) (hb : base ≤ w.heap.size) (hl : l.length ≤ 1000000000) (hm : m.length ≤ 65535) (hc : m.length ≤ c) :
    Calls Tryd.prog 27 #[.pointer (some ⟨g, 0, none⟩), .slice A n c] w (Wrote w base g (l ++ field m) fp) := by
  subst hn
  have hfew := Lib.hid (field_few (l := m) (by omega))
  obtain ⟨u, hu⟩ := u64_of m.length (by omega)
  have hu' := Lib.hid (show (m.length : Int) = (u.toNat : Int) by omega)
  have hp := Lib.hid (show Num.put u.toNat 2 ++ m = field m by rw [hfew.out, hu]; rfl)
  have hp2 := Num.put_le u.toNat 2
  have hmn : min (m.length : Int) 65535 = (m.length : Int) := by omega
  have hwu : IntKind.u64.wrap (m.length : Int) = (m.length : Int) := IntWalk.u64_in _ (by omega)
  clear hu
  go_enter Tryd.func27, Tryd.ntmps27
  go_wp2_with fail
  refine (number_any g base l u _ hu'.out 2 (by omega) (by omega) fp _ hw hb (by omega)).mono ?_
  intro e w1 h1
  obtain ⟨rfl, fp1, hw1, k1, f1⟩ := h1
  go_wp2_with fail
  refine (put_any g base _ m fp1 A _ c _ rfl hw1 (hr.keep k1 f1).rd (Nat.le_trans hb k1.size) (by rw [List.length_append]; omega)).mono ?_
  intro e w2 h1
  rw [List.append_assoc, hp.out] at h1
  have h2 := wrote_trans (l := l) k1 f1 h1
  obtain ⟨rfl, h3⟩ := h2
  go_wp2
  go_end0
  exact ⟨rfl, h3⟩

theorem WAt.lt {w : World} {base g : Nat} {l : List UInt8} {fp : List Nat} (h : WAt w base g l fp) : ∀ j ∈ fp, j < w.heap.size := by
  obtain ⟨v, hbox, hown, rfl, hkg, hbg⟩ := h
  intro j hj
  simp only [List.mem_cons, Option.mem_toList] at hj
  rcases hj with rfl | hj
  · exact hbox.lt
  · exact (hown.lt j hj).2

set_option maxHeartbeats 400000 in
theorem text_any (g base : Nat) (l m : List UInt8) (s : ByteArray) (hs : s = ⟨m.toArray⟩) (fp : List Nat) (w : World) (hw : WAt w base g l fp) (hb : base ≤ w.heap.size) (hl : l.length ≤ 1000000000) (hm : m.length ≤ 65535) :
    Calls Tryd.prog 30 #[.pointer (some ⟨g, 0, none⟩), .string s] w (Wrote w base g (l ++ field m) fp) := by
  subst hs
  obtain ⟨c, w1, hrun, b1, hsz, hc, hcell⟩ := run_conv_new (P := Tryd.prog) w 9 25 5 m Tryd.underlying9 Tryd.underlying25 Tryd.underlying5
  have hlt := hw.lt
  have hr : RdN w1 fp (some ⟨w.heap.size, 0, none⟩) (m.map e8) := fun _ => ⟨_, _, rfl, hsz, fun e => by have := hlt _ e; omega, hcell⟩
  clear hcell hlt
  go_enter Tryd.func30, Tryd.ntmps30
  go_wp2_with fail
  refine (bytes_any g base l m fp _ _ c _ rfl (hw.on b1) hr (Nat.le_trans hb b1.size) hl hm hc).mono ?_
  intro e w2 h1
  obtain ⟨rfl, h2⟩ := h1
  go_wp2
  go_end0
  exact wrote_below b1 ⟨rfl, h2⟩

set_option maxHeartbeats 400000 in
theorem out_any (g base : Nat) (l : List UInt8) (fp : List Nat) (w : World) (hw : WAt w base g l fp) (hl : l.length ≤ 1000000000) :
    Calls Tryd.prog 28 #[.pointer (some ⟨g, 0, none⟩)] w fun e w' => RetB 5 w l e w' := by
  obtain ⟨v, hbox, hown, rfl, hkg, hbg⟩ := hw
  obtain ⟨A0, c0, rfl⟩ := own_form hown
  have hc := hbox.cell
  go_enter Tryd.func28, Tryd.ntmps28
  go_wp2_with fail
  refine (Sl.clone_any A0 l _ c0 _ rfl (Rd.own hown) (by omega)).mono ?_
  intro e w1 h1
  obtain ⟨A1, c1, rfl, h2, h3⟩ := h1
  go_wp2
  go_ret
  exact ⟨A1, c1, rfl, h2, h3⟩

theorem WAt.new (w : World) (t : TypeId) : WAt (w.alloc (.cells #[.slice none 0 0] t)) w.heap.size w.heap.size [] [w.heap.size] :=
  ⟨_, Box.new w t _, own_nil _ _ _ _, rfl, by simp [Value.ownBlock], Nat.le_refl _⟩





















end Go.Proofs.YtnfhlnkbkfgihaaDoor.Wire
/- A region that draws its order, of reads and of a chain of calls that write, one waiting for the other: one walk in the order of the text serves every order. The class of worlds hangs on how many of the chain's calls are over. -/
namespace Go.Proofs.YtnfhlnkbkfgihaaDoor
open Go.RowKit
set_option linter.unusedVariables false

section
variable {P : Program} {ops : Array Oper} {md : Region.Mode} {C : Array Bool → World → Prop}

structure OkL (md : Region.Mode) (ops : Array Oper) (listed : Array Bool) : Prop where
  size : listed.size = ops.size
  closed : ∀ j oj, ops[j]? = some oj → listed.getD j false = true → ∀ e ∈ oj.after, Region.binds md e = true → listed.getD e.on false = true
theorem OkL.set {i : Nat} {listed : Array Bool} (inv : OkL md ops listed) (hi : i ∈ Region.ready md ops listed) : OkL md ops (listed.setIfInBounds i true) := by
  obtain ⟨_, oi, hoi, hall⟩ := mem_ready.1 hi
  refine ⟨by simp [inv.size], fun j oj hj hl e he hb => ?_⟩
  by_cases hij : i = j
  · subst hij
    have : oj = oi := Option.some.inj (hj.symm.trans hoi)
    subst this
    exact getD_set_true (hall e he hb)
  · rw [getD_set_ne false hij] at hl
    exact getD_set_true (inv.closed j oj hj hl e he hb)

/-- one value, whenever it comes up -/
def quietI (P : Program) (md : Region.Mode) (ops : Array Oper) (C : Array Bool → World → Prop) (i : Nat) (o : Oper) (a : Act) (v : Value) : Prop :=
  ∀ listed w, OkL md ops listed → i ∈ Region.ready md ops listed → C listed w → o.quietAt P a (C (listed.setIfInBounds i true)) w v
/-- as quietAt, the world that it got being of the class behind it too -/
def quietW (P : Program) (md : Region.Mode) (ops : Array Oper) (C : Array Bool → World → Prop) (i : Nat) (o : Oper) (a : Act) (v : Value) : Prop :=
  ∀ listed w, OkL md ops listed → i ∈ Region.ready md ops listed → C listed w → o.wp P a w (fun a' w' => a' = a.put o.dst v ∧ C (listed.setIfInBounds i true) w') (fun _ _ _ => False)
def idleI (md : Region.Mode) (ops : Array Oper) (C : Array Bool → World → Prop) (i : Nat) : Prop :=
  ∀ listed w, OkL md ops listed → i ∈ Region.ready md ops listed → C listed w → C (listed.setIfInBounds i true) w

def YieldsI (P : Program) (md : Region.Mode) (ops : Array Oper) (C : Array Bool → World → Prop) (i : Nat) (o : Oper) (v : Value) (a : Act) : Prop :=
  (Region.wanted o (yielded ops a.tmps) = true ∧ ∀ listed w, OkL md ops listed → i ∈ Region.ready md ops listed → C listed w → 
      match (execOp a.eval o).run P w with
      | .ok (.value u) w' => u = v ∧ C (listed.setIfInBounds i true) w'
      | .ok .skip w' => v = undef ∧ C (listed.setIfInBounds i true) w'
      | .ok (.enter f args) w' => Calls P f args w' (fun e w'' => e = .returned v ∧ C (listed.setIfInBounds i true) w'')
      | _ => False) ∨
  (Region.wanted o (yielded ops a.tmps) = false ∧ v = undef ∧ idleI md ops C i)

theorem YieldsI.of_same {i : Nat} {o : Oper} {v : Value} {a a' : Act} (hy : YieldsI P md ops C i o v a) (he : execOp a'.eval o = execOp a.eval o)
    (hw : Region.wanted o (yielded ops a'.tmps) = Region.wanted o (yielded ops a.tmps)) : YieldsI P md ops C i o v a' := by
  unfold YieldsI at *
  rw [he, hw]
  exact hy

def qOpI (P : Program) (md : Region.Mode) (ops : Array Oper) (C : Array Bool → World → Prop) (i : Nat) (K : Act → Prop) (a : Act) : Prop :=
  ∃ o v, ops[i]? = some o ∧ YieldsI P md ops C i o v a ∧ K (a.put o.dst v)

theorem qOpI_mono {i : Nat} {a : Act} {K K' : Act → Prop} (h : ∀ a, K a → K' a) (hh : qOpI P md ops C i K a) : qOpI P md ops C i K' a :=
  let ⟨o, v, h1, h2, h3⟩ := hh
  ⟨o, v, h1, h2, h _ h3⟩

theorem wpOp_of_qOpI {i : Nat} {a : Act} {listed : Array Bool} {K : Act → Prop} {K' : Act → World → Prop} {Q' : Exit → Act → World → Prop} {w : World} (hL : OkL md ops listed) (hi : i ∈ Region.ready md ops listed) (hC : C listed w)
    (h : ∀ a w', C (listed.setIfInBounds i true) w' → K a → K' a w') (hh : qOpI P md ops C i K a) : wpOp P ops Q' i K' a w := by
  obtain ⟨o, v, ho, hy, hk⟩ := hh
  unfold wpOp
  simp only [ho]
  rcases hy with ⟨hw, hv⟩ | ⟨hw, rfl, hid⟩
  · rw [if_pos hw]
    refine .inl ?_
    have h3 := hv listed w hL hi hC
    unfold Oper.wp
    generalize (execOp a.eval o).run P w = r at *
    cases r with
    | ok n w' =>
      cases n <;> simp only [Oper.upon] at h3 ⊢
      case value u => obtain ⟨rfl, h4⟩ := h3; exact h _ _ h4 hk
      case skip => obtain ⟨rfl, h4⟩ := h3; exact h _ _ h4 hk
      case enter f args => exact h3.mono fun e w'' ⟨he, hw''⟩ => by subst he; exact h _ _ hw'' hk
    | halt x w' => simp only at h3
  · rw [if_neg (by rw [hw]; simp)]
    exact h _ _ (hid listed w hL hi hC) hk

theorem qOpI_put {i j : Nat} {oi oj : Oper} {v : Value} (hj : ops[j]? = some oj) (hap : oi.apart ops oj = true)
    (hsi : ∀ cs b, oi.op ≠ .select cs b) (hsj : ∀ cs b, oj.op ≠ .select cs b) {K : Act → Prop} {a : Act}
    (hy : YieldsI P md ops C i oi v a) (h : qOpI P md ops C j K (a.put oi.dst v)) :
    qOpI P md ops C j (fun a' => YieldsI P md ops C i oi v a' ∧ K (a'.put oi.dst v)) a := by
  obtain ⟨h1, h2, h3⟩ := Oper.apart_spec hap
  have keep : ∀ (a : Act), YieldsI P md ops C i oi v a → ∀ u, YieldsI P md ops C i oi v (a.put oj.dst u) := fun a hy u =>
    hy.of_same (execOp_put oi hsi a oj.dst u h3) (wanted_put oi a oj.dst u h3)
  obtain ⟨o, u, ho, hyj, hk⟩ := h
  obtain rfl : o = oj := Option.some.inj (ho.symm.trans hj)
  exact ⟨o, u, hj, hyj.of_same (execOp_put o hsj a oi.dst v h1).symm (wanted_put o a oi.dst v h1).symm, keep a hy u, by rw [← Act.put_comm a v u h2]; exact hk⟩

def wpAnyI (P : Program) (md : Region.Mode) (ops : Array Oper) (C : Array Bool → World → Prop) (F : Array Bool → Prop) (Q : Act → Prop) : Nat → Array Bool → Act → Prop
  | 0, listed, a => Region.ready md ops listed = [] ∧ F listed ∧ Q a
  | fuel + 1, listed, a =>
    (Region.ready md ops listed = [] → F listed ∧ Q a) ∧
    ∀ i ∈ Region.ready md ops listed, qOpI P md ops C i (wpAnyI P md ops C F Q fuel (listed.setIfInBounds i true)) a

theorem wpAny_of_I {F : Array Bool → Prop} {Q : Act → Prop} {Q' : Exit → Act → World → Prop} (hQ : ∀ listed a w, F listed → C listed w → Q a → Q' .normal a w) : ∀ (fuel : Nat) (listed : Array Bool) (a : Act) (w : World), OkL md ops listed → C listed w →
    wpAnyI P md ops C F Q fuel listed a → wpAny P md ops Q' fuel listed a w
  | 0, _, _, _, _, hw, h => ⟨h.1, hQ _ _ _ h.2.1 hw h.2.2⟩
  | fuel + 1, _, _, _, hL, hw, h => ⟨fun h0 => hQ _ _ _ (h.1 h0).1 hw (h.1 h0).2, fun i hi => wpOp_of_qOpI hL hi hw (fun a' w' hw' => wpAny_of_I hQ fuel _ a' w' (hL.set hi) hw') (h.2 i hi)⟩

theorem wpAnyI_first {F : Array Bool → Prop} {Q : Act → Prop} {i : Nat} {oi : Oper} {v : Value} (hi : ops[i]? = some oi) (hsel : ∀ (j : Nat) (o : Oper) cs b, ops[j]? = some o → o.op ≠ .select cs b) :
    ∀ (fuel : Nat) (listed : Array Bool) (a : Act),
      (∀ j oj, ops[j]? = some oj → j ≠ i → listed.getD j true = false → (∀ e ∈ oj.after, Region.binds md e = true → e.on ≠ i) → oi.apart ops oj = true) →
      i ∈ Region.ready md ops listed → YieldsI P md ops C i oi v a →
      wpAnyI P md ops C F Q fuel (listed.setIfInBounds i true) (a.put oi.dst v) → wpAnyI P md ops C F Q (fuel + 1) listed a := by
  intro fuel
  induction fuel with
  | zero =>
    intro listed a _ hr hy H
    refine ⟨fun h => (by rw [h] at hr; cases hr), fun j hj => ?_⟩
    by_cases hji : j = i
    · subst hji; exact ⟨oi, v, hi, hy, H⟩
    · have := ready_mono hj hji
      rw [H.1] at this
      cases this
  | succ fuel ih =>
    intro listed a hfree hr hy H
    refine ⟨fun h => (by rw [h] at hr; cases hr), fun j hj => ?_⟩
    by_cases hji : j = i
    · subst hji; exact ⟨oi, v, hi, hy, H⟩
    · have h1 := H.2 j (ready_mono hj hji)
      obtain ⟨hjun, oj, hoj, hall⟩ := mem_ready.1 hj
      have hnot : ∀ e ∈ oj.after, Region.binds md e = true → e.on ≠ i := fun e he hb heq => by
        have h1 := hall e he hb
        have h0 := (mem_ready.1 hr).1
        rw [heq] at h1
        rcases Nat.lt_or_ge i listed.size with h' | h'
        · simp [h'] at h0 h1; rw [h0] at h1; cases h1
        · simp [Array.getElem?_eq_none h'] at h1
      have h2 := qOpI_put hoj (hfree j oj hoj hji hjun hnot) (fun cs b => hsel i oi cs b hi) (fun cs b => hsel j oj cs b hoj) hy h1
      have hfree' : ∀ k ok, ops[k]? = some ok → k ≠ i → (listed.setIfInBounds j true).getD k true = false →
          (∀ e ∈ ok.after, Region.binds md e = true → e.on ≠ i) → oi.apart ops ok = true := fun k ok hk hki hun hno => by
        refine hfree k ok hk hki ?_ hno
        by_cases hjk : j = k
        · subst hjk; exact hjun
        · rw [getD_set_ne true hjk] at hun; exact hun
      refine qOpI_mono (fun a' h3 => ih (listed.setIfInBounds j true) a' hfree' (ready_mono hr (Ne.symm hji)) h3.1 ?_) h2
      rw [Array.setIfInBounds_comm _ _ hji]
      exact h3.2

def wpLexI (P : Program) (md : Region.Mode) (ops : Array Oper) (C : Array Bool → World → Prop) (Q : Act → Prop) : Nat → List Oper → Act → Prop
  | _, [], a => Q a
  | k, o :: rest, a => ∃ v, YieldsI P md ops C k o v a ∧ wpLexI P md ops C Q (k + 1) rest (a.put o.dst v)

def lexLast : List Nat → Array Bool → Array Bool
  | [], listed => listed
  | i :: is, listed => lexLast is (listed.setIfInBounds i true)

theorem wpAnyI_lex {F : Array Bool → Prop} {Q : Act → Prop} (hs : Region.noSelect ops = true) : ∀ (l : List Oper) (k : Nat) (listed : Array Bool) (a : Act), (∀ j, l[j]? = ops[k + j]?) →
    Region.lexFrom md ops l.length k listed = true → F (lexLast (List.range' k l.length) listed) → wpLexI P md ops C Q k l a → wpAnyI P md ops C F Q l.length listed a
  | [], _, _, _, _, hB, hF, h => ⟨by simpa [Region.lexFrom] using hB, hF, h⟩
  | o :: l, k, listed, a, hl, hB, hF, h => by
    have h0 : ops[k]? = some o := by simpa using (hl 0).symm
    simp only [List.length_cons, Region.lexFrom, Bool.and_eq_true] at hB
    obtain ⟨⟨hr, hf⟩, hB'⟩ := hB
    obtain ⟨v, hy, hK⟩ := h
    exact wpAnyI_first h0 (Region.noSelect_spec hs) l.length listed a (Region.free_spec h0 hf) (by simpa using hr) hy
      (wpAnyI_lex hs l (k + 1) _ _ (fun j => by have := hl (j + 1); simpa [Nat.add_assoc, Nat.add_comm 1 j] using this) hB' hF hK)

theorem wp_region_I {id : Nat} {F : Array Bool → Prop} {Q : Exit → Act → World → Prop} {a : Act} {w : World} (hm : P.follows .mixedOrders = true) (hB : Region.lexB .any ops = true) (hC : C (Array.replicate ops.size false) { w with drawn := w.drawn + 1 })
    (hF : F (lexLast (List.range' 0 ops.toList.length) (Array.replicate ops.size false)))
    (h : wpLexI P .any ops C (fun a' => ∀ listed w', F listed → C listed w' → Q .normal a' w') 0 ops.toList a) : (Code.region id ops true).wp P Q a w := by
  simp only [Region.lexB, Bool.and_eq_true] at hB
  have inv0 : OkL .any ops (Array.replicate ops.size false) :=
    ⟨by simp, fun j oj _ hl => (by rw [getD_replicate_false] at hl; cases hl)⟩
  refine wp_region_any hm (wpAny_of_I (C := C) (F := F) (Q := fun a' => ∀ listed w', F listed → C listed w' → Q .normal a' w') (fun _ _ w' hF hw' h => h _ w' hF hw') _ _ _ _ inv0 hC ?_)
  have := wpAnyI_lex (C := C) (F := F) (md := .any) hB.1 ops.toList 0 (Array.replicate ops.size false) a (by simp) (by simpa using hB.2) hF h
  simpa using this
end

/-! ### how many of a chain are over -/
def phase (chain : List Nat) (listed : Array Bool) : Nat := (chain.filter fun i => listed.getD i false).length
def descF (md : Region.Mode) (i : Nat) : List Oper → Array Bool → Array Bool
  | [], acc => acc
  | o :: rest, acc => descF md i rest (acc.push (o.after.any fun e => Region.binds md e && (e.on == i || acc.getD e.on false)))
/-- does k wait for i, through others or not? -/
def reach (md : Region.Mode) (ops : Array Oper) (_ : Nat) (k i : Nat) : Bool := (descF md i ops.toList #[]).getD k false
section
variable {ops : Array Oper} {md : Region.Mode}
theorem desc_listed {listed : Array Bool} (hL : OkL md ops listed) (i : Nat) : ∀ (l : List Oper) (acc : Array Bool), (∀ j, l[j]? = ops[acc.size + j]?) →
    (∀ k, acc.getD k false = true → (k ∈ Region.ready md ops listed ∨ listed.getD k false = true) → listed.getD i false = true) →
    ∀ k, (descF md i l acc).getD k false = true → (k ∈ Region.ready md ops listed ∨ listed.getD k false = true) → listed.getD i false = true
  | [], acc, _, h, k, hk, hr => h k hk hr
  | o :: rest, acc, hl, h, k, hk, hr => by
    refine desc_listed hL i rest _ (fun j => by have := hl (j + 1); simpa [Nat.add_assoc, Nat.add_comm 1 j] using this) (fun k' hk' hr' => ?_) k hk hr
    by_cases e : k' < acc.size
    · refine h k' ?_ hr'
      simpa [Array.getD, Array.getElem?_push, e, Nat.ne_of_lt e, show k' < acc.size + 1 by omega, Array.getElem_push] using hk'
    · by_cases e2 : k' = acc.size
      · subst e2
        have ho : ops[acc.size]? = some o := by simpa using (hl 0).symm
        have hv : (o.after.any fun e => Region.binds md e && (e.on == i || acc.getD e.on false)) = true := by
          simpa [Array.getD] using hk'
        obtain ⟨e, he, hb⟩ := Array.any_eq_true'.1 hv
        simp only [Bool.and_eq_true, Bool.or_eq_true, beq_iff_eq] at hb
        have hle : listed.getD e.on false = true := by
          rcases hr' with hr' | hr'
          · obtain ⟨_, o', ho', hall⟩ := mem_ready.1 hr'
            obtain rfl : o = o' := Option.some.inj (ho.symm.trans ho')
            exact hall e he hb.1
          · exact hL.closed _ o ho hr' e he hb.1
        rcases hb.2 with h1 | h1
        · rw [← h1]; exact hle
        · exact h e.on h1 (.inr hle)
      · exfalso
        have : ¬ k' < acc.size + 1 := by omega
        simp [Array.getD, this] at hk'
theorem reach_listed {listed : Array Bool} (hL : OkL md ops listed) (f k i : Nat) (hk : k ∈ Region.ready md ops listed ∨ listed.getD k false = true) (h : reach md ops f k i = true) : listed.getD i false = true :=
  desc_listed hL i ops.toList #[] (by simp) (fun k hk _ => by simp at hk) k h hk
theorem filter_le {p q : Nat → Bool} (h : ∀ i, p i = true → q i = true) : ∀ l : List Nat, (l.filter p).length ≤ (l.filter q).length
  | [] => by simp
  | i :: l => by
    have ih := filter_le h l
    rw [List.filter_cons, List.filter_cons]
    by_cases hp : p i = true
    · rw [if_pos hp, if_pos (h i hp), List.length_cons, List.length_cons]; omega
    · rw [if_neg hp]
      split
      · rw [List.length_cons]; omega
      · exact ih
theorem phase_ge {chain : List Nat} {listed : Array Bool} (hL : OkL md ops listed) {k f : Nat} (hk : k ∈ Region.ready md ops listed) : (chain.filter fun i => reach md ops f k i).length ≤ phase chain listed := by
  unfold phase
  exact filter_le (fun i h => reach_listed hL f k i (.inl hk) h) chain
theorem phase_set {chain : List Nat} {listed : Array Bool} {k : Nat} (h : chain.contains k = false) : phase chain (listed.setIfInBounds k true) = phase chain listed := by
  unfold phase
  congr 1
  refine List.filter_congr fun i hi => ?_
  have : k ≠ i := by rintro rfl; simp [hi] at h
  rw [getD_set_ne false this]
theorem ready_false {listed : Array Bool} {k : Nat} (hk : k ∈ Region.ready md ops listed) : listed.getD k false = false := getD_both (mem_ready.1 hk).1
theorem phase_eq {chain : List Nat} {listed : Array Bool} (hL : OkL md ops listed) {k f : Nat} (hk : k ∈ Region.ready md ops listed) (ht : ∀ c ∈ chain, c = k ∨ reach md ops f k c = true ∨ reach md ops f c k = true) :
    phase chain listed = (chain.filter fun i => reach md ops f k i).length := by
  unfold phase
  congr 1
  refine List.filter_congr fun c hc => ?_
  cases hr : reach md ops f k c with
  | true => exact reach_listed hL f k c (.inl hk) hr
  | false =>
    rcases ht c hc with rfl | h | h
    · exact ready_false hk
    · rw [hr] at h; cases h
    · cases hl : listed.getD c false with
      | false => rfl
      | true =>
        have := reach_listed hL f c k (.inr hl) h
        rw [ready_false hk] at this
        cases this
theorem phase_one {listed : Array Bool} {k : Nat} (hin : k < listed.size) (hun : listed.getD k false = false) : ∀ {chain : List Nat}, chain.Nodup → k ∈ chain → phase chain (listed.setIfInBounds k true) = phase chain listed + 1
  | [], _, h => by cases h
  | c :: l, hn, h => by
    have hn' := List.nodup_cons.1 hn
    unfold phase
    rw [List.filter_cons, List.filter_cons]
    by_cases e : c = k
    · subst e
      have h1 : (listed.setIfInBounds c true).getD c false = true := by simp [hin]
      have h2 : (l.filter fun i => (listed.setIfInBounds c true).getD i false) = l.filter fun i => listed.getD i false :=
        List.filter_congr fun i hi => getD_set_ne false (fun e => hn'.1 (by rw [e]; exact hi))
      rw [if_pos h1, if_neg (by rw [hun]; simp), h2]
      rfl
    · have hk : k ∈ l := by
        rcases List.mem_cons.1 h with h | h
        · exact absurd h.symm e
        · exact h
      have ih := phase_one hin hun hn'.2 hk
      unfold phase at ih
      rw [getD_set_ne false (Ne.symm e)]
      split
      · rw [List.length_cons, List.length_cons, ih]
      · exact ih

def ix : List Nat → Nat → Nat
  | [], _ => 0
  | i :: l, k => if i = k then 0 else ix l k + 1
def lkp : List (Nat × Nat) → Nat → Nat
  | [], _ => 0
  | (i, b) :: l, k => if i = k then b else lkp l k
def phB (md : Region.Mode) (ops : Array Oper) (f : Nat) (chain : List Nat) (lo : List (Nat × Nat)) : Bool :=
  decide chain.Nodup && chain.all (fun c => decide (c < ops.size) && chain.all (fun d => d == c || reach md ops f c d || reach md ops f d c) && (chain.filter fun i => reach md ops f c i).length == ix chain c) &&
    lo.all (fun kb => decide (kb.2 ≤ (chain.filter fun i => reach md ops f kb.1 i).length)) && phase chain (lexLast (List.range' 0 ops.toList.length) (Array.replicate ops.size false)) == chain.length
theorem lkp_le {md : Region.Mode} {ops : Array Oper} {f : Nat} {chain : List Nat} {k : Nat} : ∀ {lo : List (Nat × Nat)}, lo.all (fun kb => decide (kb.2 ≤ (chain.filter fun i => reach md ops f kb.1 i).length)) = true → lkp lo k ≤ (chain.filter fun i => reach md ops f k i).length
  | [], _ => Nat.zero_le _
  | (i, b) :: l, h => by
    simp only [List.all_cons, Bool.and_eq_true, decide_eq_true_eq] at h
    unfold lkp
    split
    · rename_i e; subst e; exact h.1
    · exact lkp_le h.2
end

section
variable {P : Program} {ops : Array Oper} {Ph : Nat → World → Prop} {chain : List Nat} {lo : List (Nat × Nat)}
def Cl (Ph : Nat → World → Prop) (b : Nat) (w : World) : Prop := ∃ p, b ≤ p ∧ Ph p w
def phUpon (P : Program) (C' : World → Prop) (v : Value) : Result Next → Prop
  | .ok (.value u) w' => u = v ∧ C' w'
  | .ok .skip w' => v = undef ∧ C' w'
  | .ok (.enter f args) w' => Calls P f args w' fun e w'' => e = .returned v ∧ C' w''
  | _ => False
/-- the walk in the order of the text -/
def wpPh (P : Program) (ops : Array Oper) (Ph : Nat → World → Prop) (chain : List Nat) (lo : List (Nat × Nat)) (Q : Act → Prop) : Nat → List Oper → Act → Prop
  | _, [], a => Q a
  | k, o :: rest, a =>
    if Region.wanted o (yielded ops a.tmps) then
      if chain.contains k then ∃ v, (∀ w, Ph (ix chain k) w → phUpon P (Ph (ix chain k + 1)) v ((execOp a.eval o).run P w)) ∧ wpPh P ops Ph chain lo Q (k + 1) rest (a.put o.dst v)
      else ∃ v, (∀ w, Cl Ph (lkp lo k) w → o.quietAt P a (fun w'' => ∀ p, Ph p w → Ph p w'') w v) ∧ wpPh P ops Ph chain lo Q (k + 1) rest (a.put o.dst v)
    else chain.contains k = false ∧ wpPh P ops Ph chain lo Q (k + 1) rest (a.put o.dst undef)
@[go_sem] theorem phUpon_value (P : Program) (C' : World → Prop) (v u : Value) (w' : World) : phUpon P C' v (.ok (.value u) w') = (u = v ∧ C' w') := rfl
@[go_sem] theorem phUpon_skip (P : Program) (C' : World → Prop) (v : Value) (w' : World) : phUpon P C' v (.ok .skip w') = (v = undef ∧ C' w') := rfl
@[go_sem] theorem phUpon_enter (P : Program) (C' : World → Prop) (v : Value) (f : FuncId) (args : Array Value) (w' : World) : phUpon P C' v (.ok (.enter f args) w') = Calls P f args w' fun e w'' => e = .returned v ∧ C' w'' := rfl
theorem wpPh_nil {Q : Act → Prop} {a : Act} {k : Nat} (h : Q a) : wpPh P ops Ph chain lo Q k [] a := h
theorem wpPh_read {Q : Act → Prop} {a : Act} {o : Oper} {rest : List Oper} {k b : Nat} (hc : chain.contains k = false) (hb : lkp lo k = b)
    (h : ∀ K : Act → Prop, (∀ a, wpPh P ops Ph chain lo Q (k + 1) rest a → K a) → if Region.wanted o (yielded ops a.tmps) then ∃ v, (∀ w, Cl Ph b w → o.quietAt P a (fun w'' => ∀ p, Ph p w → Ph p w'') w v) ∧ K (a.put o.dst v) else K (a.put o.dst undef)) :
    wpPh P ops Ph chain lo Q k (o :: rest) a := by
  have h := h _ (fun _ h => h)
  unfold wpPh
  split
  · rename_i hw
    rw [if_pos hw, ← hb] at h
    rw [if_neg (by rw [hc]; simp)]
    exact h
  · rename_i hw
    rw [if_neg hw] at h
    exact ⟨hc, h⟩
theorem wpPh_call {Q : Act → Prop} {a : Act} {o : Oper} {rest : List Oper} {k i : Nat} (hc : chain.contains k = true) (hi : ix chain k = i)
    (h : ∀ K : Act → Prop, (∀ a, wpPh P ops Ph chain lo Q (k + 1) rest a → K a) → if Region.wanted o (yielded ops a.tmps) then ∃ v, (∀ w, Ph i w → phUpon P (Ph (i + 1)) v ((execOp a.eval o).run P w)) ∧ K (a.put o.dst v) else False) :
    wpPh P ops Ph chain lo Q k (o :: rest) a := by
  have h := h _ (fun _ h => h)
  unfold wpPh
  split at h
  · rename_i hw
    rw [if_pos hw, if_pos hc, hi]
    exact h
  · exact h.elim

theorem lex_of_ph {f : Nat} {Q : Act → Prop} (hB : phB .any ops f chain lo = true) : ∀ (l : List Oper) (k : Nat) (a : Act), wpPh P ops Ph chain lo Q k l a →
    wpLexI P .any ops (fun listed w => Ph (phase chain listed) w) Q k l a
  | [], _, _, h => h
  | o :: rest, k, a, h => by
    simp only [phB, Bool.and_eq_true, decide_eq_true_eq, beq_iff_eq, List.all_eq_true, Bool.or_eq_true] at hB
    obtain ⟨⟨⟨hnd, hch⟩, hlo⟩, hF⟩ := hB
    have hB' : phB .any ops f chain lo = true := by
      simp only [phB, Bool.and_eq_true, decide_eq_true_eq, beq_iff_eq, List.all_eq_true, Bool.or_eq_true]
      exact ⟨⟨⟨hnd, hch⟩, hlo⟩, hF⟩
    unfold wpPh at h
    unfold wpLexI
    split at h
    · rename_i hw
      split at h
      · rename_i hc
        obtain ⟨v, h1, h2⟩ := h
        refine ⟨v, .inl ⟨hw, fun listed w hL hr hC => ?_⟩, lex_of_ph hB' rest (k + 1) _ h2⟩
        have hmem : k ∈ chain := by simpa using hc
        obtain ⟨⟨hlt, htot⟩, hix⟩ := hch k hmem
        have hp : phase chain listed = ix chain k := by
          rw [phase_eq hL hr (f := f) (fun c hcm => by
            rcases htot c hcm with (h | h) | h
            · exact .inl h
            · exact .inr (.inl h)
            · exact .inr (.inr h)), hix]
        have hp' := phase_one (by rw [hL.size]; exact hlt) (ready_false hr) hnd hmem
        have h3 := h1 w (by rw [← hp]; exact hC)
        rw [← hp, ← hp'] at h3
        generalize (execOp a.eval o).run P w = r at *
        unfold phUpon at h3
        exact h3
      · rename_i hc
        obtain ⟨v, h1, h2⟩ := h
        refine ⟨v, .inl ⟨hw, fun listed w hL hr hC => ?_⟩, lex_of_ph hB' rest (k + 1) _ h2⟩
        have hps : phase chain (listed.setIfInBounds k true) = phase chain listed := phase_set (by simpa using hc)
        have hge : lkp lo k ≤ phase chain listed := Nat.le_trans (lkp_le (f := f) (by simpa using hlo)) (phase_ge hL hr)
        have h3 := h1 w ⟨_, hge, hC⟩
        dsimp only at hC ⊢
        rw [hps]
        unfold Oper.quietAt at h3
        generalize (execOp a.eval o).run P w = r at *
        cases r with
        | ok n w' =>
          cases n <;> simp only [Oper.quietUpon] at h3 ⊢
          case value u => obtain ⟨rfl, rfl⟩ := h3; exact ⟨rfl, hC⟩
          case skip => obtain ⟨rfl, rfl⟩ := h3; exact ⟨rfl, hC⟩
          case enter g args => obtain ⟨rfl, h4⟩ := h3; exact h4.mono fun e w'' ⟨he, hw''⟩ => ⟨he, hw'' _ hC⟩
        | halt x w' => exact h3
    · rename_i hw
      obtain ⟨hc, h2⟩ := h
      refine ⟨undef, .inr ⟨by simpa using hw, rfl, fun listed w hL hr hC => ?_⟩, lex_of_ph hB' rest (k + 1) _ h2⟩
      show Ph (phase chain (listed.setIfInBounds k true)) w
      rw [phase_set hc]; exact hC

theorem region_phase {id : Nat} {Q : Exit → Act → World → Prop} {a : Act} {w : World} {l : List Oper} (f : Nat) (chain : List Nat) (lo : List (Nat × Nat)) (Ph : Nat → World → Prop) (hm : P.follows .mixedOrders = true) (hB : Region.lexB .any l.toArray = true) (hP : phB .any l.toArray f chain lo = true)
    (hC : Ph 0 { w with drawn := w.drawn + 1 })
    (h : wpPh P l.toArray Ph chain lo (fun a' => ∀ w', Ph chain.length w' → Q .normal a' w') 0 l a) : (Code.region id l.toArray true).wp P Q a w := by
  have hF : phase chain (lexLast (List.range' 0 l.toArray.toList.length) (Array.replicate l.toArray.size false)) = chain.length := by
    simp only [phB, Bool.and_eq_true, beq_iff_eq] at hP
    exact hP.2
  have h0 : phase chain (Array.replicate l.toArray.size false) = 0 := by
    unfold phase
    rw [List.length_eq_zero_iff, List.filter_eq_nil_iff]
    intro c _
    rw [getD_replicate_false]; simp
  refine wp_region_I (C := fun listed w => Ph (phase chain listed) w) (F := fun listed => phase chain listed = chain.length) hm hB (by rw [h0]; exact hC) hF ?_
  have h1 := lex_of_ph (P := P) (Q := fun a' => ∀ w', Ph chain.length w' → Q .normal a' w') hP l 0 a h
  have mono : ∀ (l' : List Oper) (k : Nat) (a : Act), wpLexI P .any l.toArray (fun listed w => Ph (phase chain listed) w) (fun a' => ∀ w', Ph chain.length w' → Q .normal a' w') k l' a →
      wpLexI P .any l.toArray (fun listed w => Ph (phase chain listed) w) (fun a' => ∀ (listed : Array Bool) w', phase chain listed = chain.length → Ph (phase chain listed) w' → Q .normal a' w') k l' a := by
    intro l'
    induction l' with
    | nil => intro k a h listed w' hF hC; rw [hF] at hC; exact h w' hC
    | cons o rest ih => intro k a h; obtain ⟨v, hy, h2⟩ := h; exact ⟨v, hy, ih _ _ h2⟩
  exact mono _ _ _ (by simpa using h1)
def Two (A B : World → Prop) : Nat → World → Prop
  | 0 => A
  | _ + 1 => B
end
end Go.Proofs.YtnfhlnkbkfgihaaDoor

/- Texts as runes, the plain law: the reference's First, byte by byte, is what a range over a string decodes. No program is in sight here. -/
namespace Go.Proofs.YtnfhlnkbkfgihaaDoor.Utf
set_option linter.unusedVariables false
set_option linter.unusedSimpArgs false
/-- the byte at a place, as a number; 0 behind the end -/
def g (l : List UInt8) (k : Nat) : Nat := (l.getD k 0).toNat
theorem g_lt (l : List UInt8) (k : Nat) : g l k < 256 := UInt8.toNat_lt _
def right (r : Nat) : Bool := decide (r ≤ 1114111 ∧ (r < 55296 ∨ 57343 < r))
/-- the bytes of a rune that may be -/
def enc (r : Nat) : List UInt8 :=
  if r < 128 then [UInt8.ofNat r] else if r < 2048 then [UInt8.ofNat (192 + r / 64), UInt8.ofNat (128 + r % 64)]
  else if r < 65536 then [UInt8.ofNat (224 + r / 4096), UInt8.ofNat (128 + r / 64 % 64), UInt8.ofNat (128 + r % 64)]
  else [UInt8.ofNat (240 + r / 262144), UInt8.ofNat (128 + r / 4096 % 64), UInt8.ofNat (128 + r / 64 % 64), UInt8.ofNat (128 + r % 64)]
def sizeOf1 (c : Nat) : Nat := if 240 ≤ c then 4 else if 224 ≤ c then 3 else if 192 ≤ c then 2 else 1
def headOf (c : Nat) : Nat := if 240 ≤ c then c - 240 else if 224 ≤ c then c - 224 else if 192 ≤ c then c - 192 else c
/-- what stands behind k further bytes -/
def va (l : List UInt8) (r0 : Nat) : Nat → Nat
  | 0 => r0
  | k + 1 => va l r0 k * 64 + (g l (k + 1) - 128)
def cont (l : List UInt8) (k : Nat) : Prop := 128 ≤ g l k ∧ g l k ≤ 191
def conts (l : List UInt8) (n : Nat) : Prop := ∀ j, 1 ≤ j → j < n → cont l j
instance (l : List UInt8) (k : Nat) : Decidable (cont l k) := by unfold cont; infer_instance
instance (l : List UInt8) (n : Nat) : Decidable (conts l n) := decidable_of_iff (∀ j, j < n → 1 ≤ j → cont l j) ⟨fun h j h1 h2 => h j h2 h1, fun h j h1 h2 => h j h2 h1⟩
/-- the reference's First -/
def first (l : List UInt8) : Nat × Nat :=
  if l.length = 0 then (0, 0)
  else if l.length < sizeOf1 (g l 0) then (0, 0)
  else if ¬ conts l (sizeOf1 (g l 0)) then (0, 0)
  else if right (va l (headOf (g l 0)) (sizeOf1 (g l 0) - 1)) = true ∧ enc (va l (headOf (g l 0)) (sizeOf1 (g l 0) - 1)) = l.take (sizeOf1 (g l 0)) then (va l (headOf (g l 0)) (sizeOf1 (g l 0) - 1), sizeOf1 (g l 0))
  else (0, 0)
/-- what a range over a string decodes at its beginning -/
def dec (l : List UInt8) : Nat × Nat :=
  if g l 0 < 128 then (g l 0, 1)
  else if g l 0 / 32 = 6 ∧ 1 < l.length ∧ g l 1 / 64 = 2 then
    (if 128 ≤ g l 0 % 32 * 64 + g l 1 % 64 then (g l 0 % 32 * 64 + g l 1 % 64, 2) else (65533, 1))
  else if g l 0 / 16 = 14 ∧ 1 < l.length ∧ g l 1 / 64 = 2 ∧ 2 < l.length ∧ g l 2 / 64 = 2 then
    (if 2048 ≤ g l 0 % 16 * 4096 + g l 1 % 64 * 64 + g l 2 % 64 ∧ right (g l 0 % 16 * 4096 + g l 1 % 64 * 64 + g l 2 % 64) = true then (g l 0 % 16 * 4096 + g l 1 % 64 * 64 + g l 2 % 64, 3) else (65533, 1))
  else if g l 0 / 8 = 30 ∧ 1 < l.length ∧ g l 1 / 64 = 2 ∧ 2 < l.length ∧ g l 2 / 64 = 2 ∧ 3 < l.length ∧ g l 3 / 64 = 2 then
    (if 65536 ≤ g l 0 % 8 * 262144 + g l 1 % 64 * 4096 + g l 2 % 64 * 64 + g l 3 % 64 ∧ right (g l 0 % 8 * 262144 + g l 1 % 64 * 4096 + g l 2 % 64 * 64 + g l 3 % 64) = true then (g l 0 % 8 * 262144 + g l 1 % 64 * 4096 + g l 2 % 64 * 64 + g l 3 % 64, 4) else (65533, 1))
  else (65533, 1)
theorem valid_eq (c : Nat) : Utf8.valid (c : Int) = right c := by
  unfold Utf8.valid right
  rw [Bool.eq_iff_iff]
  simp
  omega
theorem getb (l : List UInt8) (k : Nat) : ((⟨l.toArray⟩ : ByteArray).get! k).toNat = g l k := by
  unfold g
  show ((l.toArray)[k]!).toNat = _
  rw [List.getD_eq_getElem?_getD]
  simp [getElem!_def]
  cases l[k]? <;> rfl
theorem g_drop (l : List UInt8) (i k : Nat) : g (l.drop i) k = g l (i + k) := by
  unfold g
  simp [List.getD_eq_getElem?_getD, List.getElem?_drop]
theorem decode_eq (l : List UInt8) (i : Nat) : Utf8.decode ⟨l.toArray⟩ i = dec (l.drop i) := by
  have hs : (⟨l.toArray⟩ : ByteArray).size = l.length := by simp [ByteArray.size]
  have hl : ∀ k, (i + k < l.length) ↔ (k < (l.drop i).length) := fun k => by rw [List.length_drop]; omega
  unfold Utf8.decode dec
  simp only [getb, hs, g_drop, valid_eq, Nat.add_zero, Bool.and_eq_true, decide_eq_true_eq, beq_iff_eq, List.length_drop, Utf8.runeError, ge_iff_le, and_assoc]
  have e : ∀ k, (i + k < l.length) = (k < l.length - i) := fun k => propext (by omega)
  simp only [e, valid_eq]
theorem u8_eq (a b : Nat) : UInt8.ofNat a = UInt8.ofNat b ↔ a % 256 = b % 256 := by
  rw [← UInt8.toNat_inj, UInt8.toNat_ofNat', UInt8.toNat_ofNat']
theorem u8_g (l : List UInt8) (k : Nat) (h : k < l.length) : l[k] = UInt8.ofNat (g l k) := by
  unfold g
  rw [List.getD_eq_getElem?_getD, List.getElem?_eq_getElem h]
  simp
theorem take1 (l : List UInt8) (h : 1 ≤ l.length) : l.take 1 = [UInt8.ofNat (g l 0)] := by
  match l, h with
  | a :: t, _ => simp [g]
theorem take2 (l : List UInt8) (h : 2 ≤ l.length) : l.take 2 = [UInt8.ofNat (g l 0), UInt8.ofNat (g l 1)] := by
  match l, h with
  | a :: b :: t, _ => simp [g]
theorem take3 (l : List UInt8) (h : 3 ≤ l.length) : l.take 3 = [UInt8.ofNat (g l 0), UInt8.ofNat (g l 1), UInt8.ofNat (g l 2)] := by
  match l, h with
  | a :: b :: c :: t, _ => simp [g]
theorem take4 (l : List UInt8) (h : 4 ≤ l.length) : l.take 4 = [UInt8.ofNat (g l 0), UInt8.ofNat (g l 1), UInt8.ofNat (g l 2), UInt8.ofNat (g l 3)] := by
  match l, h with
  | a :: b :: c :: d :: t, _ => simp [g]
/-- of what length a rune's bytes are -/
def width (r : Nat) : Nat := if r < 128 then 1 else if r < 2048 then 2 else if r < 65536 then 3 else 4
theorem enc_len (r : Nat) : (enc r).length = width r := by
  unfold enc width
  split
  · rfl
  · split
    · rfl
    · split <;> rfl
theorem conts_2 (l : List UInt8) : conts l 2 ↔ cont l 1 := ⟨fun h => h 1 (by omega) (by omega), fun h j h1 h2 => by obtain rfl : j = 1 := (by omega); exact h⟩
theorem conts_3 (l : List UInt8) : conts l 3 ↔ cont l 1 ∧ cont l 2 := ⟨fun h => ⟨h 1 (by omega) (by omega), h 2 (by omega) (by omega)⟩, fun h j h1 h2 => by
  rcases (show j = 1 ∨ j = 2 by omega) with rfl | rfl
  · exact h.1
  · exact h.2⟩
theorem conts_4 (l : List UInt8) : conts l 4 ↔ cont l 1 ∧ cont l 2 ∧ cont l 3 := ⟨fun h => ⟨h 1 (by omega) (by omega), h 2 (by omega) (by omega), h 3 (by omega) (by omega)⟩, fun h j h1 h2 => by
  rcases (show j = 1 ∨ j = 2 ∨ j = 3 by omega) with rfl | rfl | rfl
  · exact h.1
  · exact h.2.1
  · exact h.2.2⟩
theorem ne_of_width {r n : Nat} {l : List UInt8} (h : width r ≠ n) (hn : n ≤ l.length) : enc r ≠ l.take n := fun e => by
  have := congrArg List.length e
  rw [enc_len, List.length_take] at this
  omega
theorem not_err (c w : Nat) (h : w ≠ 1) : ¬ ((c, w) = ((65533, 1) : Nat × Nat)) := fun e => h (congrArg Prod.snd e)
set_option maxHeartbeats 1000000 in
/-- the reference's First is what a range over a string decodes, but where that is an error -/
theorem first_eq (l : List UInt8) (hne : l ≠ []) : first l = if dec l = (65533, 1) then (0, 0) else dec l := by
  have hpos : 1 ≤ l.length := by cases l with | nil => exact absurd rfl hne | cons a t => simp
  have h0 := g_lt l 0
  have h1 := g_lt l 1
  have h2 := g_lt l 2
  have h3 := g_lt l 3
  have hr : ∀ r, right r = true ↔ (r ≤ 1114111 ∧ (r < 55296 ∨ 57343 < r)) := fun r => by unfold right; simp
  unfold first
  rw [if_neg (by omega)]
  by_cases c1 : g l 0 < 128
  · have hz : sizeOf1 (g l 0) = 1 := by unfold sizeOf1; rw [if_neg (by omega), if_neg (by omega), if_neg (by omega)]
    have hh : headOf (g l 0) = g l 0 := by unfold headOf; rw [if_neg (by omega), if_neg (by omega), if_neg (by omega)]
    have hd : dec l = (g l 0, 1) := by unfold dec; rw [if_pos c1]
    rw [hz, hh, hd, if_neg (by omega), if_neg (fun h => h (fun j h1 h2 => by omega))]
    have hv : va l (g l 0) (1 - 1) = g l 0 := rfl
    rw [hv, if_pos ⟨(hr _).2 (by omega), by rw [take1 l hpos]; unfold enc; rw [if_pos c1]⟩, if_neg (fun e => by have := congrArg Prod.fst e; simp at this; omega)]
  by_cases c2 : g l 0 < 192
  · have hz : sizeOf1 (g l 0) = 1 := by unfold sizeOf1; rw [if_neg (by omega), if_neg (by omega), if_neg (by omega)]
    have hh : headOf (g l 0) = g l 0 := by unfold headOf; rw [if_neg (by omega), if_neg (by omega), if_neg (by omega)]
    have hd : dec l = (65533, 1) := by unfold dec; rw [if_neg c1, if_neg (by omega), if_neg (by omega), if_neg (by omega)]
    rw [hz, hh, hd, if_pos rfl, if_neg (by omega), if_neg (fun h => h (fun j h1 h2 => by omega))]
    have hv : va l (g l 0) (1 - 1) = g l 0 := rfl
    rw [hv, if_neg (fun h => ne_of_width (n := 1) (by unfold width; rw [if_neg c1, if_pos (by omega)]; omega) hpos h.2)]
  by_cases c3 : g l 0 < 224
  · have hz : sizeOf1 (g l 0) = 2 := by unfold sizeOf1; rw [if_neg (by omega), if_neg (by omega), if_pos (by omega)]
    have hh : headOf (g l 0) = g l 0 - 192 := by unfold headOf; rw [if_neg (by omega), if_neg (by omega), if_pos (by omega)]
    rw [hz, hh]
    have hv : va l (g l 0 - 192) (2 - 1) = (g l 0 - 192) * 64 + (g l 1 - 128) := rfl
    rw [hv]
    have d2 : dec l = (if g l 0 / 32 = 6 ∧ 1 < l.length ∧ g l 1 / 64 = 2 then (if 128 ≤ g l 0 % 32 * 64 + g l 1 % 64 then (g l 0 % 32 * 64 + g l 1 % 64, 2) else (65533, 1)) else (65533, 1)) := by
      unfold dec
      rw [if_neg c1, if_neg (show ¬ (g l 0 / 16 = 14 ∧ 1 < l.length ∧ g l 1 / 64 = 2 ∧ 2 < l.length ∧ g l 2 / 64 = 2) by omega), if_neg (show ¬ (g l 0 / 8 = 30 ∧ 1 < l.length ∧ g l 1 / 64 = 2 ∧ 2 < l.length ∧ g l 2 / 64 = 2 ∧ 3 < l.length ∧ g l 3 / 64 = 2) by omega)]
    by_cases hl : 2 ≤ l.length
    · rw [if_neg (by omega)]
      by_cases k1 : cont l 1
      · have k1' := k1
        unfold cont at k1'
        rw [if_neg (fun h => h ((conts_2 l).2 k1))]
        rw [if_pos (by omega)] at d2
        have e : (g l 0 - 192) * 64 + (g l 1 - 128) = g l 0 % 32 * 64 + g l 1 % 64 := by omega
        rw [e]
        by_cases z : 128 ≤ g l 0 % 32 * 64 + g l 1 % 64
        · rw [if_pos z] at d2
          rw [d2, if_neg (not_err _ _ (by omega)), if_pos ⟨(hr _).2 (by omega), by
            rw [take2 l hl]; unfold enc; rw [if_neg (by omega), if_pos (by omega)]
            simp only [List.cons.injEq, u8_eq, and_true]
            constructor <;> omega⟩]
        · rw [if_neg z] at d2
          rw [d2, if_pos rfl, if_neg (fun h => ne_of_width (n := 2) (by unfold width; rw [if_pos (by omega)]; omega) hl h.2)]
      · have k1' := k1
        unfold cont at k1'
        rw [if_neg (by omega)] at d2
        rw [d2, if_pos (fun h => k1 ((conts_2 l).1 h)), if_pos rfl]
    · rw [if_neg (by omega)] at d2
      rw [d2, if_pos (by omega), if_pos rfl]
  by_cases c4 : g l 0 < 240
  · have hz : sizeOf1 (g l 0) = 3 := by unfold sizeOf1; rw [if_neg (by omega), if_pos (by omega)]
    have hh : headOf (g l 0) = g l 0 - 224 := by unfold headOf; rw [if_neg (by omega), if_pos (by omega)]
    rw [hz, hh]
    have hv : va l (g l 0 - 224) (3 - 1) = ((g l 0 - 224) * 64 + (g l 1 - 128)) * 64 + (g l 2 - 128) := rfl
    rw [hv]
    have d2 : dec l = (if g l 0 / 16 = 14 ∧ 1 < l.length ∧ g l 1 / 64 = 2 ∧ 2 < l.length ∧ g l 2 / 64 = 2 then
        (if 2048 ≤ g l 0 % 16 * 4096 + g l 1 % 64 * 64 + g l 2 % 64 ∧ right (g l 0 % 16 * 4096 + g l 1 % 64 * 64 + g l 2 % 64) = true then (g l 0 % 16 * 4096 + g l 1 % 64 * 64 + g l 2 % 64, 3) else (65533, 1)) else (65533, 1)) := by
      unfold dec
      rw [if_neg c1, if_neg (show ¬ (g l 0 / 32 = 6 ∧ 1 < l.length ∧ g l 1 / 64 = 2) by omega), if_neg (show ¬ (g l 0 / 8 = 30 ∧ 1 < l.length ∧ g l 1 / 64 = 2 ∧ 2 < l.length ∧ g l 2 / 64 = 2 ∧ 3 < l.length ∧ g l 3 / 64 = 2) by omega)]
    by_cases hl : 3 ≤ l.length
    · rw [if_neg (by omega)]
      by_cases k : conts l 3
      · obtain ⟨k1, k2⟩ := (conts_3 l).1 k
        unfold cont at k1 k2
        rw [if_neg (fun h => h k)]
        rw [if_pos (by omega)] at d2
        have e : ((g l 0 - 224) * 64 + (g l 1 - 128)) * 64 + (g l 2 - 128) = g l 0 % 16 * 4096 + g l 1 % 64 * 64 + g l 2 % 64 := by omega
        rw [e]
        by_cases z : 2048 ≤ g l 0 % 16 * 4096 + g l 1 % 64 * 64 + g l 2 % 64 ∧ right (g l 0 % 16 * 4096 + g l 1 % 64 * 64 + g l 2 % 64) = true
        · rw [if_pos z] at d2
          rw [d2, if_neg (not_err _ _ (by omega)), if_pos ⟨z.2, by
            rw [take3 l hl]; unfold enc; rw [if_neg (by omega), if_neg (by omega), if_pos (by omega)]
            simp only [List.cons.injEq, u8_eq, and_true]
            refine ⟨?_, ?_, ?_⟩ <;> omega⟩]
        · rw [if_neg z] at d2
          rw [d2, if_pos rfl, if_neg (fun h => by
            by_cases y : 2048 ≤ g l 0 % 16 * 4096 + g l 1 % 64 * 64 + g l 2 % 64
            · exact z ⟨y, h.1⟩
            · exact ne_of_width (n := 3) (by unfold width; split <;> (try split) <;> omega) hl h.2)]
      · have k' : ¬ (cont l 1 ∧ cont l 2) := fun h => k ((conts_3 l).2 h)
        unfold cont at k'
        rw [if_neg (by omega)] at d2
        rw [d2, if_pos k, if_pos rfl]
    · rw [if_neg (by omega)] at d2
      rw [d2, if_pos (by omega), if_pos rfl]
  · have hz : sizeOf1 (g l 0) = 4 := by unfold sizeOf1; rw [if_pos (by omega)]
    have hh : headOf (g l 0) = g l 0 - 240 := by unfold headOf; rw [if_pos (by omega)]
    rw [hz, hh]
    have hv : va l (g l 0 - 240) (4 - 1) = (((g l 0 - 240) * 64 + (g l 1 - 128)) * 64 + (g l 2 - 128)) * 64 + (g l 3 - 128) := rfl
    rw [hv]
    have d2 : dec l = (if g l 0 / 8 = 30 ∧ 1 < l.length ∧ g l 1 / 64 = 2 ∧ 2 < l.length ∧ g l 2 / 64 = 2 ∧ 3 < l.length ∧ g l 3 / 64 = 2 then
        (if 65536 ≤ g l 0 % 8 * 262144 + g l 1 % 64 * 4096 + g l 2 % 64 * 64 + g l 3 % 64 ∧ right (g l 0 % 8 * 262144 + g l 1 % 64 * 4096 + g l 2 % 64 * 64 + g l 3 % 64) = true then (g l 0 % 8 * 262144 + g l 1 % 64 * 4096 + g l 2 % 64 * 64 + g l 3 % 64, 4) else (65533, 1))
        else (65533, 1)) := by
      unfold dec
      rw [if_neg c1, if_neg (show ¬ (g l 0 / 32 = 6 ∧ 1 < l.length ∧ g l 1 / 64 = 2) by omega), if_neg (show ¬ (g l 0 / 16 = 14 ∧ 1 < l.length ∧ g l 1 / 64 = 2 ∧ 2 < l.length ∧ g l 2 / 64 = 2) by omega)]
    by_cases hl : 4 ≤ l.length
    · rw [if_neg (by omega)]
      by_cases k : conts l 4
      · obtain ⟨k1, k2, k3⟩ := (conts_4 l).1 k
        unfold cont at k1 k2 k3
        rw [if_neg (fun h => h k)]
        by_cases c5 : g l 0 < 248
        · rw [if_pos (by omega)] at d2
          have e : (((g l 0 - 240) * 64 + (g l 1 - 128)) * 64 + (g l 2 - 128)) * 64 + (g l 3 - 128) = g l 0 % 8 * 262144 + g l 1 % 64 * 4096 + g l 2 % 64 * 64 + g l 3 % 64 := by omega
          rw [e]
          by_cases z : 65536 ≤ g l 0 % 8 * 262144 + g l 1 % 64 * 4096 + g l 2 % 64 * 64 + g l 3 % 64 ∧ right (g l 0 % 8 * 262144 + g l 1 % 64 * 4096 + g l 2 % 64 * 64 + g l 3 % 64) = true
          · have z2 := (hr _).1 z.2
            rw [if_pos z] at d2
            rw [d2, if_neg (not_err _ _ (by omega)), if_pos ⟨z.2, by
              rw [take4 l hl]; unfold enc; rw [if_neg (by omega), if_neg (by omega), if_neg (by omega)]
              simp only [List.cons.injEq, u8_eq, and_true]
              refine ⟨?_, ?_, ?_, ?_⟩ <;> omega⟩]
          · rw [if_neg z] at d2
            rw [d2, if_pos rfl, if_neg (fun h => by
              by_cases y : 65536 ≤ g l 0 % 8 * 262144 + g l 1 % 64 * 4096 + g l 2 % 64 * 64 + g l 3 % 64
              · exact z ⟨y, h.1⟩
              · exact ne_of_width (n := 4) (by unfold width; split <;> (try split) <;> (try split) <;> omega) hl h.2)]
        · rw [if_neg (by omega)] at d2
          rw [d2, if_pos rfl, if_neg (fun h => by
            have := (hr _).1 h.1
            omega)]
      · have k' : ¬ (cont l 1 ∧ cont l 2 ∧ cont l 3) := fun h => k ((conts_4 l).2 h)
        unfold cont at k'
        rw [if_neg (by omega)] at d2
        rw [d2, if_pos k, if_pos rfl]
    · rw [if_neg (by omega)] at d2
      rw [d2, if_pos (by omega), if_pos rfl]
end Go.Proofs.YtnfhlnkbkfgihaaDoor.Utf
