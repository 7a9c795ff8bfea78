/- Texts of this claim, joined: RegionQ, BaseQ, OpenQ, ArrQ, Arr2Q, NumPlainQ, ShaPlainQ, MacPlainQ, StrQ, Ref01Q, Mac1Q, NumQ, SecPlainQ, SlicesQ, CrcPlainQ, CrcQ, CrcRefQ, Sec1Q, OpenSecQ, OpenSecsQ, BigQ, DiskPlainQ, Disk1Q, Disk2Q, PhaseQ. -/
import Derived.StillTail
import Derived.Deep.Quiet
import Derived.Deep.QuietTactic
import Derived.BigQuiet
import Derived.Below
import Derived.WalkKit
import Derived.OneCell
import Derived.Laws.OwnMore
import Derived.Laws.BitsAllLaws
import Derived.Lib.Hide
import Derived.Deep.Draws
import Derived.Maps.AppendAt
import Derived.Test.YtchcmklelmlbgaaGreatRows
import Derived.ProofKit
import Derived.OpenShut
import Derived.ShutString
import Derived.ChangeOld
import Derived.Lib.SmallJoins
import Derived.Deep.Slices
import Derived.Deep.Fields
import Derived.ChangeSame
import Derived.Laws.Rows
import Derived.Laws.Tables
import Derived.Laws.IdiomCopy
import Derived.Laws.MakeOwn
import Derived.Laws.IdiomStrings
import Derived.Lib.ConvBytes
import Derived.Outline
import Derived.Lib.MakeNoZero
import Derived.Laws.Entries
import Derived.WalkMore
import Derived.Deep.DeepMust
import Derived.WalkSpells
import Derived.Deep.MidRow
import Derived.Great.FillDense
import Derived.Great.BuildSlice
import Derived.Lib.MinMax
import Derived.Deep.RegionHeld3
import Derived.Deep.RegionLaw
import Derived.Maps.RangeWalk
/- A region that draws its order: reads and calls that only make memory come first, in whatever order; one operation that writes waits for all of them. One walk in the order of the text serves every order. -/
namespace Go.Proofs.YtchcmklelmlbgaaGreat
open Go.RowKit
set_option linter.unusedVariables false

section
variable {P : Program} {ops : Array Oper} {md : Region.Mode} {C : World → Prop}

def headQ (P : Program) (md : Region.Mode) (ops : Array Oper) (C : World → Prop) (n : Nat) (L : Array Bool → Act → Prop) : Nat → Array Bool → Act → Prop
  | 0, listed, a => L listed a
  | f + 1, listed, a => Region.ready md ops listed ≠ [] ∧ ∀ i ∈ Region.ready md ops listed, i < n ∧ qOp P ops C i (headQ P md ops C n L f (listed.setIfInBounds i true)) a
theorem any_of_headQ {n g : Nat} {L : Array Bool → Act → Prop} {Q' : Exit → Act → World → Prop} (hL : ∀ listed a w, C w → L listed a → wpAny P md ops Q' g listed a w) :
    ∀ (f : Nat) (listed : Array Bool) (a : Act) (w : World), C w → headQ P md ops C n L f listed a → wpAny P md ops Q' (f + g) listed a w
  | 0, listed, a, w, hw, h => by rw [Nat.zero_add]; exact hL _ _ _ hw h
  | f + 1, listed, a, w, hw, h => by
    rw [show f + 1 + g = (f + g) + 1 by omega]
    exact ⟨fun h0 => absurd h0 h.1, fun i hi => wpOp_of_qOp hw (fun a' w' hw' h' => any_of_headQ hL f _ a' w' hw' h') (h.2 i hi).2⟩
theorem headQ_first {n i : Nat} {oi : Oper} {v : Value} {L : Array Bool → Act → Prop} (hi : ops[i]? = some oi) (hsel : ∀ (j : Nat) (o : Oper) cs b, ops[j]? = some o → o.op ≠ .select cs b)
    (hs : Region.sinkB md ops n = true) (hc : Region.chainB md ops n = true) (hn : n < ops.size) (hin : i < n)
    (hdone : ∀ listed a, L listed a → ∀ j ∈ Region.ready md ops listed, n ≤ j) :
    ∀ (f : Nat) (listed : Array Bool) (a : Act), HeadInv md ops n listed →
      (∀ j oj, ops[j]? = some oj → j ≠ i → listed.getD j true = false → (∀ e ∈ oj.after, Region.binds md e = true → e.on ≠ i) → oi.apart ops oj = true) →
      i ∈ Region.ready md ops listed → YieldsIn P ops C oi v a →
      headQ P md ops C n L f (listed.setIfInBounds i true) (a.put oi.dst v) → headQ P md ops C n L (f + 1) listed a := by
  intro f
  induction f with
  | zero =>
    intro listed a inv _ hr hy H
    refine ⟨fun h => (by rw [h] at hr; cases hr), fun j hj => ?_⟩
    have hjn : j < n := by
      rcases Nat.lt_or_ge j n with h | h
      · exact h
      · exact absurd hj (tail_waits hs hc hn inv _ i rfl hin (mem_ready.1 hr).1 j h)
    refine ⟨hjn, ?_⟩
    by_cases hji : j = i
    · subst hji; exact hy.qOp hi H
    · have := hdone _ _ H j (ready_mono hj hji)
      omega
  | succ f ih =>
    intro listed a inv hfree hr hy H
    have hun := (mem_ready.1 hr).1
    refine ⟨fun h => (by rw [h] at hr; cases hr), fun j hj => ?_⟩
    have hjn : j < n := by
      rcases Nat.lt_or_ge j n with h | h
      · exact h
      · exact absurd hj (tail_waits hs hc hn inv _ i rfl hin hun j h)
    refine ⟨hjn, ?_⟩
    by_cases hji : j = i
    · subst hji; exact hy.qOp hi H
    · have h1 := (H.2 j (ready_mono hj hji)).2
      obtain ⟨hjun, oj, hoj, hall⟩ := mem_ready.1 hj
      have hnot : ∀ e ∈ oj.after, Region.binds md e = true → e.on ≠ i := fun e he hb heq => by
        have h1 := hall e he hb
        rw [heq, getD_both hun] at h1
        cases h1
      have h2 := qOp_put hoj (hfree j oj hoj hji hjun hnot) (fun cs b => hsel i oi cs b hi) (fun cs b => hsel j oj cs b hoj) hy h1
      have hfree' : ∀ k ok, ops[k]? = some ok → k ≠ i → (listed.setIfInBounds j true).getD k true = false →
          (∀ e ∈ ok.after, Region.binds md e = true → e.on ≠ i) → oi.apart ops ok = true := fun k ok hk hki hun hno => by
        refine hfree k ok hk hki ?_ hno
        by_cases hjk : j = k
        · subst hjk; exact hjun
        · rw [getD_set_ne true hjk] at hun; exact hun
      refine qOp_mono (fun a' h3 => ih (listed.setIfInBounds j true) a' (inv.set hj hjn) hfree' (ready_mono hr (Ne.symm hji)) h3.1 ?_) h2
      rw [Array.setIfInBounds_comm _ _ hji]
      exact h3.2
theorem headQ_lex {n g : Nat} {Lq : Act → Prop} (hsel : Region.noSelect ops = true) (hs : Region.sinkB md ops n = true) (hc : Region.chainB md ops n = true) (hn : n < ops.size) :
    ∀ (l : List Oper) (k : Nat) (listed : Array Bool) (a : Act), (∀ j, j < l.length → l[j]? = ops[k + j]?) → k + l.length = n → HeadInv md ops n listed →
    Region.lexHead md ops g l.length k listed = true → wpQuiet P ops C Lq l a →
    headQ P md ops C n (fun listed' a' => Region.seqB md ops g n listed' = true ∧ Lq a') l.length listed a
  | [], k, listed, a, _, hk, _, hB, h => by
    have : k = n := by simpa using hk
    subst this
    exact ⟨by simpa [Region.lexHead] using hB, h⟩
  | o :: l, k, listed, a, hl, hk, inv, hB, h => by
    have h0 : ops[k]? = some o := by simpa using (hl 0 (by simp)).symm
    simp only [List.length_cons, Region.lexHead, Bool.and_eq_true] at hB
    obtain ⟨⟨hr, hf⟩, hB'⟩ := hB
    have hkn : k < n := by simp only [List.length_cons] at hk; omega
    have hr' : k ∈ Region.ready md ops listed := by simpa using hr
    have hst : qOp P ops C k (wpQuiet P ops C Lq l) a := by unfold qOp; simp only [h0]; exact h
    obtain ⟨v, hy, hK⟩ := yieldsIn_of_qOp h0 hst
    exact headQ_first h0 (Region.noSelect_spec hsel) hs hc hn hkn (fun listed' a' hL => seqB_ready hL.1) l.length listed a inv (Region.free_spec h0 hf) hr' hy
      (headQ_lex hsel hs hc hn l (k + 1) _ _ (fun j hj => by have := hl (j + 1) (by simp; omega); simpa [Nat.add_assoc, Nat.add_comm 1 j] using this) (by simp only [List.length_cons] at hk; omega) (inv.set hr' hkn) hB' hK)
theorem wp_region_quiet_tail {id : Nat} {Q : Exit → Act → World → Prop} {a : Act} {w : World} {l : List Oper} (n : Nat) (hm : P.follows .mixedOrders = true) (hB : Region.lexTailB .any l.toArray n = true) (hC : C { w with drawn := w.drawn + 1 })
    (h : wpQuiet P l.toArray C (fun a' => ∀ w', C w' → wpList P l.toArray Q (l.drop n) a' w') (l.take n) a) : (Code.region id l.toArray true).wp P Q a w := by
  simp only [Region.lexTailB, Bool.and_eq_true, decide_eq_true_eq] at hB
  obtain ⟨⟨⟨⟨hsel, hn⟩, hs⟩, hc⟩, hlex⟩ := hB
  have hn' : n < l.length := by simpa using hn
  have htl : (l.take n).length = n := by simp; omega
  have hdl : (l.drop n).length = l.toArray.size - n := by simp
  have inv0 : HeadInv .any l.toArray n (Array.replicate l.toArray.size false) :=
    ⟨by simp, fun j oj _ hl => (by rw [getD_replicate_false] at hl; cases hl), fun t _ ht => getD_in (by simpa using ht) (getD_replicate_false _ _)⟩
  have H := headQ_lex (md := .any) (g := l.toArray.size - n) hsel hs hc hn (l.take n) 0 _ a (fun j hj => by
    have hj' : j < n := by rw [htl] at hj; exact hj
    simp [hj']) (by simpa using htl) inv0 (by rw [htl]; exact hlex) h
  refine wp_region_any hm ?_
  have := any_of_headQ (Q' := Q) (g := l.toArray.size - n) (fun listed a' w' hw' hL => by
    have := wpAny_of_seq (md := .any) (Q' := Q) (l.drop n) n listed a' w' (fun j => by simp [List.getElem?_drop]) (by rw [hdl]; exact hL.1) (hL.2 w' hw')
    rwa [hdl] at this) _ _ _ _ hC H
  rw [htl, show n + (l.toArray.size - n) = l.toArray.size by omega] at this
  exact this
end

section
variable {P : Program} {ops : Array Oper} {md : Region.Mode} {C : World → Prop}
/-! moves that only the tail waits for are taken first; then the head, in any order; then the tail -/
def preOne (o : Oper) (a : Act) : Act := match o.op with
  | .move x => a.put o.dst (a.eval x)
  | _ => a
def preAct (l : List Oper) (pre : List Nat) (a : Act) : Act := pre.foldl (fun a i => match l[i]? with | some o => preOne o a | none => a) a
def mark (listed : Array Bool) (is : List Nat) : Array Bool := is.foldl (fun x i => x.setIfInBounds i true) listed
def movesB (md : Region.Mode) (ops : Array Oper) : List Nat → Array Bool → Bool
  | [], _ => true
  | i :: is, listed => (match ops[i]? with | some o => o.guard.isNone && (match o.op with | .move _ => true | _ => false) | none => false) &&
      Region.free md ops listed i && (Region.ready md ops listed).contains i && movesB md ops is (listed.setIfInBounds i true)
theorem take_moves {l : List Oper} {Q : Exit → Act → World → Prop} {w : World} (hs : Region.noSelect l.toArray = true) (hQ : ∀ c d v a w, Q (.panic c) (Act.put a d v) w → Q (.panic c) a w) :
    ∀ (pre : List Nat) (fuel : Nat) (listed : Array Bool) (a : Act), movesB md l.toArray pre listed = true → wpAny P md l.toArray Q fuel (mark listed pre) (preAct l pre a) w → wpAny P md l.toArray Q (fuel + pre.length) listed a w
  | [], fuel, listed, a, _, h => by simpa [mark, preAct] using h
  | i :: is, fuel, listed, a, hB, h => by
    simp only [movesB, Bool.and_eq_true] at hB
    obtain ⟨⟨⟨hm, hf⟩, hr⟩, hB'⟩ := hB
    cases ho : l.toArray[i]? with
    | none => rw [ho] at hm; cases hm
    | some o =>
      rw [ho] at hm
      simp only [Bool.and_eq_true] at hm
      obtain ⟨hg, hm⟩ := hm
      cases hop : o.op with
      | move x =>
        have ho' : l[i]? = some o := by simpa using ho
        have hpre : preAct l (i :: is) a = preAct l is (a.put o.dst (a.eval x)) := by
          simp [preAct, ho', preOne, hop]
        rw [hpre] at h
        have hw : Region.wanted o (yielded l.toArray a.tmps) = true := by
          have : o.guard = none := by simpa using hg
          simp [Region.wanted, this]
        have hy : Yields P l.toArray o (a.eval x) a := .inl ⟨hw, fun w => BigFrame.run_move x hop w⟩
        exact wpAny_take ho hs hf hr (fun c a w => hQ c _ _ a w) hy (take_moves hs hQ is fuel _ _ hB' h)
      | _ => rw [hop] at hm; cases hm
structure InvI (md : Region.Mode) (ops : Array Oper) (n : Nat) (l0 listed : Array Bool) : Prop where
  inv : HeadInv md ops n listed
  more : ∀ i, l0.getD i true = true → listed.getD i true = true
def sinkI (md : Region.Mode) (ops : Array Oper) (n : Nat) (l0 : Array Bool) : Bool :=
  (List.range n).all fun i => l0.getD i true || (List.range (n + 1)).any fun j => decide (i < j) && Region.waitsFor md ops j i
theorem tail_waitsI {n : Nat} {l0 listed : Array Bool} (hs : sinkI md ops n l0 = true) (hc : Region.chainB md ops n = true) (hn : n < ops.size) (inv : InvI md ops n l0 listed) :
    ∀ (d i : Nat), n - i = d → i < n → listed.getD i true = false → ∀ t, n ≤ t → t ∉ Region.ready md ops listed := by
  intro d
  induction d using Nat.strongRecOn with
  | _ d ih =>
    intro i hd hi hun t ht hr
    obtain ⟨_, ot, hot, hall⟩ := mem_ready.1 hr
    have htlt : t < ops.size := (Array.getElem?_eq_some_iff.1 hot).1
    by_cases htn : t = n
    · subst htn
      have h1 := List.all_eq_true.1 hs i (List.mem_range.2 hi)
      have h0 : l0.getD i true = false := by
        cases h : l0.getD i true with
        | false => rfl
        | true => rw [inv.more i h] at hun; cases hun
      rw [h0, Bool.false_or] at h1
      obtain ⟨j, hj, hj2⟩ := List.any_eq_true.1 h1
      simp only [Bool.and_eq_true, decide_eq_true_eq] at hj2
      obtain ⟨oj, hoj, e, he, hb, hon⟩ := Region.waitsFor_spec hj2.2
      have hjle : j ≤ t := by have := List.mem_range.1 hj; omega
      by_cases hjt : j = t
      · subst hjt
        have : oj = ot := Option.some.inj (hoj.symm.trans hot)
        subst this
        have h2 := hall e he hb
        rw [hon, getD_both hun] at h2
        cases h2
      · cases hl : listed.getD j false with
        | true =>
          have h2 := inv.inv.closed j oj hoj hl e he hb
          rw [hon, getD_both hun] at h2
          cases h2
        | false =>
          have hjs : j < listed.size := by rw [inv.inv.size]; omega
          exact ih (t - j) (by omega) j rfl (by omega) (getD_in hjs hl) t (Nat.le_refl _) hr
    · have h1 := List.all_eq_true.1 hc t (List.mem_range.2 htlt)
      simp only [Bool.or_eq_true, decide_eq_true_eq] at h1
      rcases h1 with h1 | h1
      · omega
      · obtain ⟨o', ho', e, he, hb, hon⟩ := Region.waitsFor_spec h1
        have : o' = ot := Option.some.inj (ho'.symm.trans hot)
        subst this
        have h2 := hall e he hb
        rw [hon, getD_both (inv.inv.tail (t - 1) (by omega) (by omega))] at h2
        cases h2
theorem InvI.set {n i : Nat} {l0 listed : Array Bool} (inv : InvI md ops n l0 listed) (hi : i ∈ Region.ready md ops listed) (hin : i < n) : InvI md ops n l0 (listed.setIfInBounds i true) :=
  ⟨inv.inv.set hi hin, fun j hj => by
    by_cases h : i = j
    · subst h
      rcases Nat.lt_or_ge i listed.size with h' | h'
      · simp [h']
      · simp [h']
    · rw [getD_set_ne true h]; exact inv.more j hj⟩
theorem headI_first {n i : Nat} {oi : Oper} {v : Value} {l0 : Array Bool} {L : Array Bool → Act → Prop} (hi : ops[i]? = some oi) (hsel : ∀ (j : Nat) (o : Oper) cs b, ops[j]? = some o → o.op ≠ .select cs b)
    (hs : sinkI md ops n l0 = true) (hc : Region.chainB md ops n = true) (hn : n < ops.size) (hin : i < n)
    (hdone : ∀ listed a, L listed a → ∀ j ∈ Region.ready md ops listed, n ≤ j) :
    ∀ (f : Nat) (listed : Array Bool) (a : Act), InvI md ops n l0 listed →
      (∀ j oj, ops[j]? = some oj → j ≠ i → listed.getD j true = false → (∀ e ∈ oj.after, Region.binds md e = true → e.on ≠ i) → oi.apart ops oj = true) →
      i ∈ Region.ready md ops listed → YieldsIn P ops C oi v a →
      headQ P md ops C n L f (listed.setIfInBounds i true) (a.put oi.dst v) → headQ P md ops C n L (f + 1) listed a := by
  intro f
  induction f with
  | zero =>
    intro listed a inv _ hr hy H
    refine ⟨fun h => (by rw [h] at hr; cases hr), fun j hj => ?_⟩
    have hjn : j < n := by
      rcases Nat.lt_or_ge j n with h | h
      · exact h
      · exact absurd hj (tail_waitsI hs hc hn inv _ i rfl hin (mem_ready.1 hr).1 j h)
    refine ⟨hjn, ?_⟩
    by_cases hji : j = i
    · subst hji; exact hy.qOp hi H
    · have := hdone _ _ H j (ready_mono hj hji)
      omega
  | succ f ih =>
    intro listed a inv hfree hr hy H
    have hun := (mem_ready.1 hr).1
    refine ⟨fun h => (by rw [h] at hr; cases hr), fun j hj => ?_⟩
    have hjn : j < n := by
      rcases Nat.lt_or_ge j n with h | h
      · exact h
      · exact absurd hj (tail_waitsI hs hc hn inv _ i rfl hin hun j h)
    refine ⟨hjn, ?_⟩
    by_cases hji : j = i
    · subst hji; exact hy.qOp hi H
    · have h1 := (H.2 j (ready_mono hj hji)).2
      obtain ⟨hjun, oj, hoj, hall⟩ := mem_ready.1 hj
      have hnot : ∀ e ∈ oj.after, Region.binds md e = true → e.on ≠ i := fun e he hb heq => by
        have h1 := hall e he hb
        rw [heq, getD_both hun] at h1
        cases h1
      have h2 := qOp_put hoj (hfree j oj hoj hji hjun hnot) (fun cs b => hsel i oi cs b hi) (fun cs b => hsel j oj cs b hoj) hy h1
      have hfree' : ∀ k ok, ops[k]? = some ok → k ≠ i → (listed.setIfInBounds j true).getD k true = false →
          (∀ e ∈ ok.after, Region.binds md e = true → e.on ≠ i) → oi.apart ops ok = true := fun k ok hk hki hun hno => by
        refine hfree k ok hk hki ?_ hno
        by_cases hjk : j = k
        · subst hjk; exact hjun
        · rw [getD_set_ne true hjk] at hun; exact hun
      refine qOp_mono (fun a' h3 => ih (listed.setIfInBounds j true) a' (inv.set hj hjn) hfree' (ready_mono hr (Ne.symm hji)) h3.1 ?_) h2
      rw [Array.setIfInBounds_comm _ _ hji]
      exact h3.2
def headIB (md : Region.Mode) (ops : Array Oper) (g n : Nat) : List Nat → Array Bool → Bool
  | [], listed => Region.seqB md ops g n listed
  | i :: is, listed => decide (i < n) && (Region.ready md ops listed).contains i && Region.free md ops listed i && headIB md ops g n is (listed.setIfInBounds i true)
def opsAt (l : List Oper) : List Nat → List Oper
  | [] => []
  | i :: is => l.getD i default :: opsAt l is
theorem headI_lex {n g : Nat} {l0 : Array Bool} {Lq : Act → Prop} {l : List Oper} (hsel : Region.noSelect l.toArray = true) (hs : sinkI md l.toArray n l0 = true) (hc : Region.chainB md l.toArray n = true) (hn : n < l.toArray.size) :
    ∀ (hd : List Nat) (listed : Array Bool) (a : Act), InvI md l.toArray n l0 listed → headIB md l.toArray g n hd listed = true → wpQuiet P l.toArray C Lq (opsAt l hd) a →
    headQ P md l.toArray C n (fun listed' a' => Region.seqB md l.toArray g n listed' = true ∧ Lq a') hd.length listed a
  | [], listed, a, _, hB, h => ⟨by simpa [headIB] using hB, h⟩
  | i :: is, listed, a, inv, hB, h => by
    simp only [headIB, Bool.and_eq_true, decide_eq_true_eq] at hB
    obtain ⟨⟨⟨hin, hr⟩, hf⟩, hB'⟩ := hB
    have hr' : i ∈ Region.ready md l.toArray listed := by simpa using hr
    obtain ⟨_, oi, hoi, _⟩ := mem_ready.1 hr'
    have hget : l.getD i default = oi := by
      have : l[i]? = some oi := by simpa using hoi
      simp [List.getD, this]
    have hst : qOp P l.toArray C i (wpQuiet P l.toArray C Lq (opsAt l is)) a := by
      unfold qOp; simp only [hoi]
      have h' : wpQuiet P l.toArray C Lq (oi :: opsAt l is) a := by rw [← hget]; exact h
      exact h'
    obtain ⟨v, hy, hK⟩ := yieldsIn_of_qOp hoi hst
    exact headI_first hoi (Region.noSelect_spec hsel) hs hc hn hin (fun listed' a' hL => seqB_ready hL.1) is.length listed a inv (Region.free_spec hoi hf) hr' hy
      (headI_lex hsel hs hc hn is _ _ (inv.set hr' hin) hB' hK)
def closedB (md : Region.Mode) (ops : Array Oper) (listed : Array Bool) : Bool :=
  (List.range ops.size).all fun j => !listed.getD j false || match ops[j]? with | some o => o.after.all (fun e => !Region.binds md e || listed.getD e.on false) | none => true
def threeB (md : Region.Mode) (ops : Array Oper) (pre hd : List Nat) (n : Nat) : Bool :=
  Region.noSelect ops && decide (n < ops.size) && decide (ops.size = (hd.length + (ops.size - n)) + pre.length) && movesB md ops pre (Array.replicate ops.size false) &&
    decide ((mark (Array.replicate ops.size false) pre).size = ops.size) && closedB md ops (mark (Array.replicate ops.size false) pre) && (List.range ops.size).all (fun t => decide (t < n) || (mark (Array.replicate ops.size false) pre).getD t true == false) &&
    sinkI md ops n (mark (Array.replicate ops.size false) pre) && Region.chainB md ops n && headIB md ops (ops.size - n) n hd (mark (Array.replicate ops.size false) pre)
theorem wp_region_three {id : Nat} {Q : Exit → Act → World → Prop} {a : Act} {w : World} {l : List Oper} (pre hd : List Nat) (n : Nat) (hm : P.follows .mixedOrders = true) (hB : threeB .any l.toArray pre hd n = true) (hC : C { w with drawn := w.drawn + 1 })
    (hQ : ∀ c d v a w, Q (.panic c) (Act.put a d v) w → Q (.panic c) a w)
    (h : wpQuiet P l.toArray C (fun a' => ∀ w', C w' → wpList P l.toArray Q (l.drop n) a' w') (opsAt l hd) (preAct l pre a)) : (Code.region id l.toArray true).wp P Q a w := by
  simp only [threeB, Bool.and_eq_true, decide_eq_true_eq] at hB
  obtain ⟨⟨⟨⟨⟨⟨⟨⟨⟨hsel, hn⟩, hlen⟩, hmv⟩, hsz⟩, hcl⟩, htl⟩, hs⟩, hc⟩, hlex⟩ := hB
  refine wp_region_any hm ?_
  rw [hlen]
  rw [← hlen]
  have inv0 : InvI .any l.toArray n (mark (Array.replicate l.toArray.size false) pre) (mark (Array.replicate l.toArray.size false) pre) := by
    refine ⟨⟨hsz, fun j oj hj hl e he hb => ?_, fun t ht htt => ?_⟩, fun i hi => hi⟩
    · have hjs : j < l.toArray.size := (Array.getElem?_eq_some_iff.1 hj).1
      have h1 := List.all_eq_true.1 hcl j (List.mem_range.2 hjs)
      rw [hl, hj] at h1
      simp only [Bool.not_true, Bool.false_or] at h1
      have h2 := Array.all_eq_true_iff_forall_mem.1 h1 e he
      rw [hb] at h2
      simpa using h2
    · have h1 := List.all_eq_true.1 htl t (List.mem_range.2 htt)
      simp only [Bool.or_eq_true, decide_eq_true_eq] at h1
      rcases h1 with h1 | h1
      · omega
      · simpa using h1
  have H := headI_lex (md := .any) (g := l.toArray.size - n) hsel hs hc hn hd _ _ inv0 hlex h
  have hT := any_of_headQ (Q' := Q) (g := l.toArray.size - n) (fun listed a' w' hw' hL => by
    have hdl : (l.drop n).length = l.toArray.size - n := by simp
    have := wpAny_of_seq (md := .any) (Q' := Q) (l.drop n) n listed a' w' (fun j => by simp [List.getElem?_drop]) (by rw [hdl]; exact hL.1) (hL.2 w' hw')
    rwa [hdl] at this) _ _ _ _ hC H
  have := take_moves (md := .any) hsel hQ pre _ _ _ hmv hT
  rw [← hlen] at this
  exact this
end

/-- the world is as it was, below its end, but for new memory -/
def InB (w0 w' : World) : Prop := Below w0.heap.size w0 w'
theorem InB.start (w0 : World) : InB w0 { w0 with drawn := w0.drawn + 1 } := (Below.refl w0.heap.size w0).drew
theorem InB.below {w0 w' : World} (h : InB w0 w') : Below w0.heap.size w0 w' := h
theorem InB.on {w0 w' w1 : World} (h : InB w0 w') (b : Below w'.heap.size w' w1) : InB w0 w1 := Below.trans (B := w0.heap.size) h (b.mono (Below.size h))
theorem InB.cell {w0 w' : World} (h : InB w0 w') (b o : Nat) (hb : b < w0.heap.size) : w'.cell? ⟨b, o, none⟩ = w0.cell? ⟨b, o, none⟩ := Below.cell h (p := ⟨b, o, none⟩) hb
theorem InB.some (w0 : World) : ∃ w', InB w0 w' := ⟨_, InB.start w0⟩
theorem region_inb {P : Program} {id : Nat} {Q : Exit → Act → World → Prop} {a : Act} {w : World} {l : List Oper} (hm : P.follows .mixedOrders = true) (hB : Region.lexB .any l.toArray = true)
    (h : wpQuiet P l.toArray (InB w) (fun a' => ∀ w', InB w w' → Q .normal a' w') l a) : (Code.region id l.toArray true).wp P Q a w :=
  wp_region_quiet (C := InB w) hm hB (InB.start w) (by simpa using h)
theorem region_inb_tail {P : Program} {id : Nat} {Q : Exit → Act → World → Prop} {a : Act} {w : World} {l : List Oper} (n : Nat) (hm : P.follows .mixedOrders = true) (hB : Region.lexTailB .any l.toArray n = true)
    (h : wpQuiet P l.toArray (InB w) (fun a' => ∀ w', InB w w' → wpList P l.toArray Q (l.drop n) a' w') (l.take n) a) : (Code.region id l.toArray true).wp P Q a w :=
  wp_region_quiet_tail (C := InB w) n hm hB (InB.start w) h
theorem region_three {P : Program} {id : Nat} {Q : Exit → Act → World → Prop} {a : Act} {w : World} {l : List Oper} (pre hd : List Nat) (n : Nat) (hm : P.follows .mixedOrders = true) (hB : threeB .any l.toArray pre hd n = true)
    (hQ : ∀ c d v a w, Q (.panic c) (Act.put a d v) w → Q (.panic c) a w)
    (h : wpQuiet P l.toArray (InB w) (fun a' => ∀ w', InB w w' → wpList P l.toArray Q (l.drop n) a' w') (opsAt l hd) (preAct l pre a)) : (Code.region id l.toArray true).wp P Q a w :=
  wp_region_three (C := InB w) pre hd n hm hB (InB.start w) hQ h
end Go.Proofs.YtchcmklelmlbgaaGreat

/- Words for memory that all walks of this seat share: a slice that reads as a list of cells, a block of one cell, bits of unsigned numbers. No statement is proved here. -/
namespace Go.Proofs.YtchcmklelmlbgaaGreat
open Go.RowKit

/-! numbers as cells -/
abbrev e8 (x : UInt8) : Value := .int .u8 (x.toNat : Int)
/-! a number that came in, as an unsigned word -/
theorem to8 (n : Int) (h0 : 0 ≤ n) (h1 : n ≤ 255) : ∃ x : UInt8, n = (x.toNat : Int) :=
  ⟨UInt8.ofNat n.toNat, by rw [UInt8.toNat_ofNat']; have : n.toNat < 256 := by omega
                           simp [Nat.mod_eq_of_lt this]; omega⟩
theorem to64 (n : Int) (h0 : 0 ≤ n) (h1 : n ≤ 18446744073709551615) : ∃ x : UInt64, n = (x.toNat : Int) :=
  ⟨UInt64.ofNat n.toNat, by rw [UInt64.toNat_ofNat']; have : n.toNat < 18446744073709551616 := by omega
                            simp [Nat.mod_eq_of_lt this]; omega⟩
theorem list8 (zs : List Int) (h : ∀ n ∈ zs, (Lit.int .u8 n).wf = true) : ∃ l : List UInt8, zs = l.map (fun x => (x.toNat : Int)) := by
  induction zs with
  | nil => exact ⟨[], rfl⟩
  | cons z zs ih =>
    obtain ⟨l, rfl⟩ := ih fun n hn => h n (by simp [hn])
    have hz := h z (by simp)
    simp [Lit.wf, IntKind.min, IntKind.max, IntKind.signed, IntKind.bits] at hz
    obtain ⟨x, rfl⟩ := to8 z (by omega) (by omega)
    exact ⟨x :: l, rfl⟩
/-! a slice that reads as a list of cells -/
def Rd (w : World) (B : Nat) (A : Option Addr) (xs : List Value) : Prop :=
  xs ≠ [] → ∃ b off, A = some ⟨b, off, none⟩ ∧ b < B ∧ ∀ i (h : i < xs.length), w.cell? ⟨b, off + i, none⟩ = some xs[i]
theorem Rd.nil (w : World) (B : Nat) (A : Option Addr) : Rd w B A [] := fun h => absurd rfl h
theorem Rd.get {w : World} {B : Nat} {A : Option Addr} {xs : List Value} (h : Rd w B A xs) {k : Nat} (hk : k < xs.length) :
    ∃ b off, A = some ⟨b, off, none⟩ ∧ b < B ∧ w.cell? ⟨b, off + k, none⟩ = some xs[k] := by
  obtain ⟨b, off, rfl, hb, hc⟩ := h (by intro e; rw [e] at hk; exact absurd hk (by simp))
  exact ⟨b, off, rfl, hb, hc k hk⟩
theorem Rd.keep {w w' : World} {B : Nat} {A : Option Addr} {xs : List Value} (h : Rd w B A xs) (hk : ∀ p : Addr, p.block < B → w'.cell? p = w.cell? p) : Rd w' B A xs := by
  intro hne
  obtain ⟨b, off, rfl, hb, hc⟩ := h hne
  exact ⟨b, off, rfl, hb, fun i hi => (hk ⟨b, off + i, none⟩ hb).trans (hc i hi)⟩
theorem Rd.below {w w' : World} {B : Nat} {A : Option Addr} {xs : List Value} (h : Rd w B A xs) (hb : Below B w w') : Rd w' B A xs := h.keep fun _ hp => hb.cell hp
theorem Rd.more {w : World} {B B' : Nat} {A : Option Addr} {xs : List Value} (h : Rd w B A xs) (hB : B ≤ B') : Rd w B' A xs := by
  intro hne
  obtain ⟨b, off, rfl, hb, hc⟩ := h hne
  exact ⟨b, off, rfl, by omega, hc⟩
/-- it reads so in any later world, below that world's end -/
theorem Rd.on {w w' : World} {A : Option Addr} {xs : List Value} (h : Rd w w.heap.size A xs) (hb : Below w.heap.size w w') : Rd w' w'.heap.size A xs := (h.below hb).more hb.size
theorem Rd.own {w : World} {base : Nat} {e : TypeId} {A : Option Addr} {n c : Nat} {xs : List Value} (h : w.ownsRow base e 1 (.slice A n c) n xs) : Rd w w.heap.size A xs := by
  intro hne
  rcases h.2 with ⟨hv, hn⟩ | ⟨g, cap, cur, hv, hg, hh, hnc, hcm, hcs, ht⟩
  · exact absurd (List.eq_nil_of_length_eq_zero (by have := h.1; omega)) hne
  · injection hv with hA _ _
    subst hA
    refine ⟨g, 0, rfl, lt_of_block hh, fun i hi => ?_⟩
    have hl := h.1
    have := World.ownsRow.cellAt (j := i) h (by omega)
    rw [Nat.zero_add, this]; exact List.getElem?_eq_getElem hi
theorem Rd.lit (w : World) (cs : Array Value) (t : TypeId) (xs : List Value) (B : Nat) (hx : cs.toList = xs) (hB : w.heap.size < B) : Rd (w.alloc (.cells cs t)) B (some ⟨w.heap.size, 0, none⟩) xs := by
  subst hx
  intro _
  refine ⟨_, _, rfl, hB, fun i hi => ?_⟩
  rw [World.cell?_alloc_new, Nat.zero_add]
  simp
theorem below_lit (w : World) (o : Obj) : Below w.heap.size w (w.alloc o) := (Below.refl _ _).alloc (Nat.le_refl _) _
/-! a block of one cell -/
def Box (w : World) (g : Nat) (v : Value) : Prop := ∃ t, w.heap[g]? = some (.cells #[v] t (0, 0))
theorem Box.cell {w : World} {g : Nat} {v : Value} (h : Box w g v) : w.cell? ⟨g, 0, none⟩ = some v := h.elim fun _ h => cell_of_one h
theorem Box.free {w : World} {g : Nat} {v : Value} (h : Box w g v) : w.frozen? ⟨g, 0, none⟩ = false := h.elim fun _ h => free_of_one h
theorem Box.lt {w : World} {g : Nat} {v : Value} (h : Box w g v) : g < w.heap.size := h.elim fun _ h => lt_of_block h
theorem Box.new (w : World) (t : TypeId) (v : Value) : Box (w.alloc (.cells #[v] t)) w.heap.size v := ⟨t, heap_alloc_new w _⟩
theorem Box.set {w : World} {g : Nat} {v : Value} (h : Box w g v) (u : Value) : Box (w.setCell ⟨g, 0, none⟩ u) g u := h.elim fun t h => ⟨t, one_setCell h⟩
theorem Box.kept {w w' : World} {g : Nat} {v : Value} {row : Option Nat} (h : Box w g v) (hg : w.grownBy w' row) (hne : some g ≠ row) : Box w' g v :=
  h.elim fun t hh => ⟨t, (hg.block g (lt_of_block hh) hne).trans hh⟩
theorem Box.below {w w' : World} {g B : Nat} {v : Value} (h : Box w g v) (hb : Below B w w') (hg : g < B) : Box w' g v := h.elim fun t hh => ⟨t, (hb.block g hg).trans hh⟩
theorem Box.alloc {w : World} {g : Nat} {v : Value} (h : Box w g v) (o : Obj) : Box (w.alloc o) g v := h.elim fun t hh => ⟨t, (Below.heap_alloc w o g (lt_of_block hh)).trans hh⟩
theorem grown_set (w : World) (a : Addr) (u : Value) : w.grownBy (w.setCell a u) (some a.block) :=
  ⟨rfl, rfl, rfl, by simp, fun k _ hk => heap_setCell_other w a k u (fun e => hk (by rw [e]))⟩
theorem grown_trans {a b c : World} {r : Option Nat} (h : a.grownBy b r) (k : b.grownBy c r) : a.grownBy c r :=
  ⟨k.os.trans h.os, k.tape.trans h.tape, k.output.trans h.output, Nat.le_trans h.size k.size, fun i hi hn => (k.block i (Nat.lt_of_lt_of_le hi h.size) hn).trans (h.block i hi hn)⟩
theorem below_grown {w w' : World} (h : Below w.heap.size w w') (r : Option Nat) : w.grownBy w' r := ⟨h.os, h.tape, h.output, h.size, fun k hk _ => h.block k hk⟩
/-! append onto a row of the call's own, the source nil, empty or not -/
section
variable {P : Program} (w : World)
theorem run_append_rd (base : Nat) (t ty e : TypeId) (i : TypeInfo) (z : Value) (size bytes : Nat) (ht : P.underlying t = some (.slice e)) (hi : P.info? e = some i) (hz : i.zero = some z)
    (hsize : i.size = size) (hby : i.bytes = bytes) (hzs : z.cells.size = size) (hsz : 0 < size) (v : Value) (n : Nat) (xs : List Value) (hown : w.ownsRow base e size v n xs)
    (B : Nat) (A : Option Addr) (m c : Nat) (news : List Value) (hl : news.length = m * size) (hr : Rd w B A news) (h1 : ∀ u ∈ news, u.oneCell' = true)
    (h63 : n + m ≤ maxLen) (hbytes : (n + m) * bytes ≤ 140737488355328) (hbase : base ≤ w.heap.size) :
    ∃ v' w', (Builtin.append_ #[t, t] ty #[v, .slice A m c]).run P w = .ok v' w' ∧ w'.ownsRow base e size v' (n + m) (xs ++ news) ∧ w.grownBy w' v.ownBlock ∧
      (v'.ownBlock = v.ownBlock ∨ v'.ownBlock = some w.heap.size) := by
  cases A with
  | none =>
    have hn : news = [] := by
      cases news with
      | nil => rfl
      | cons a l => obtain ⟨b, off, h, _⟩ := hr (by simp); cases h
    subst hn
    have hm : m = 0 := by
      rcases Nat.eq_zero_or_pos m with h | h
      · exact h
      · have h2 := Nat.mul_pos h hsz
        have h3 : (0 : Nat) = m * size := hl
        omega
    subst hm
    refine ⟨v, w, ?_, by simpa using hown, ⟨rfl, rfl, rfl, Nat.le_refl _, fun _ _ _ => rfl⟩, .inl rfl⟩
    rcases hown.2 with ⟨rfl, rfl⟩ | ⟨g, cap, cur, rfl, _, _, hnc, _⟩
    · simp [Builtin.append_, run_underlying ht, sizeOf, typeInfo, hi, Builtin.lenOf, Builtin.firstCells]
    · simp [Builtin.append_, run_underlying ht, sizeOf, typeInfo, hi, Builtin.lenOf, Builtin.firstCells, hnc, storeCells]
  | some ad =>
    have hcells : ∀ j u, news[j]? = some u → w.cell? (ad.add j) = some u := by
      intro j u hu
      obtain ⟨hj, rfl⟩ := List.getElem?_eq_some_iff.1 hu
      obtain ⟨b, off, h, _, hc⟩ := hr (by intro e; rw [e] at hj; exact absurd hj (by simp))
      injection h with h
      subst h
      rw [Addr.add_lit]
      exact hc j hj
    obtain ⟨v', w', h, h2, h3, _, h5⟩ := run_append_own_at (P := P) w base t ty e i z size bytes ht hi hz hsize hby hzs hsz v n xs hown ad m c news hl hcells h1 h63 hbytes hbase
    exact ⟨v', w', h, h2, h3, h5⟩
theorem wp_append_rd {o : Oper} {a : Act} {K : Act → World → Prop} {Q : Exit → Act → World → Prop} (s x : Operand) (t : TypeId)
    (ho : o.op = .call { callee := .builtin .append, args := #[s, x], argTypes := #[t, t] })
    (base : Nat) (e : TypeId) (i : TypeInfo) (z : Value) (size bytes : Nat) (ht : P.underlying t = some (.slice e)) (hi : P.info? e = some i) (hz : i.zero = some z)
    (hsize : i.size = size) (hby : i.bytes = bytes) (hzs : z.cells.size = size) (hsz : 0 < size)
    (v : Value) (n : Nat) (xs : List Value) (hs : a.eval s = v) (hown : w.ownsRow base e size v n xs)
    (B : Nat) (A : Option Addr) (m c : Nat) (news : List Value) (hx : a.eval x = .slice A m c) (hl : news.length = m * size) (hr : Rd w B A news) (h1 : ∀ u ∈ news, u.oneCell' = true)
    (h63 : n + m ≤ maxLen) (hbytes : (n + m) * bytes ≤ 140737488355328) (hbase : base ≤ w.heap.size)
    (h : ∀ v' w', w'.ownsRow base e size v' (n + m) (xs ++ news) → w.grownBy w' v.ownBlock → (v'.ownBlock = v.ownBlock ∨ v'.ownBlock = some w.heap.size) → K (a.put o.dst v') w') : o.wp P a w K Q := by
  obtain ⟨v', w', hrun, h2, h3, h4⟩ := run_append_rd (P := P) w base t o.type e i z size bytes ht hi hz hsize hby hzs hsz v n xs hown B A m c news hl hr h1 h63 hbytes hbase
  unfold Oper.wp execOp
  simp only [ho, resolve, invoke, builtin, Sem.run_bind, Sem.run_pure, Result.andThen_ok, List.map_toArray, List.map_cons, List.map_nil, hs, hx, hrun]
  exact h v' w' h2 h3 h4
theorem wpList_append_rd {ops : Array Oper} {rest : List Oper} {o : Oper} {a : Act} {Q : Exit → Act → World → Prop} (hgd : o.guard = none) (s x : Operand) (t : TypeId)
    (ho : o.op = .call { callee := .builtin .append, args := #[s, x], argTypes := #[t, t] })
    (base : Nat) (e : TypeId) (i : TypeInfo) (z : Value) (size bytes : Nat) (ht : P.underlying t = some (.slice e)) (hi : P.info? e = some i) (hz : i.zero = some z)
    (hsize : i.size = size) (hby : i.bytes = bytes) (hzs : z.cells.size = size) (hsz : 0 < size)
    (v : Value) (n : Nat) (xs : List Value) (hs : a.eval s = v) (hown : w.ownsRow base e size v n xs)
    (B : Nat) (A : Option Addr) (m c : Nat) (news : List Value) (hx : a.eval x = .slice A m c) (hl : news.length = m * size) (hr : Rd w B A news) (h1 : ∀ u ∈ news, u.oneCell' = true)
    (h63 : n + m ≤ maxLen) (hbytes : (n + m) * bytes ≤ 140737488355328) (hbase : base ≤ w.heap.size)
    (h : ∀ v' w', w'.ownsRow base e size v' (n + m) (xs ++ news) → w.grownBy w' v.ownBlock → (v'.ownBlock = v.ownBlock ∨ v'.ownBlock = some w.heap.size) → wpList P ops Q rest (a.put o.dst v') w') : wpList P ops Q (o :: rest) a w :=
  wpList_plain hgd fun _ hK => wp_append_rd w s x t ho base e i z size bytes ht hi hz hsize hby hzs hsz v n xs hs hown B A m c news hx hl hr h1 h63 hbytes hbase fun v' w' h2 h3 h4 => hK _ _ (h v' w' h2 h3 h4)
end

theorem e8_one (l : List UInt8) : ∀ u ∈ l.map e8, u.oneCell' = true := by
  intro u hu
  obtain ⟨x, _, rfl⟩ := List.mem_map.1 hu
  rfl
theorem one_int (k : IntKind) (n : Int) : ∀ u ∈ [Value.int k n], u.oneCell' = true := by
  intro u hu
  rw [List.mem_singleton] at hu
  subst hu
  rfl
theorem le_alloc {b : Nat} {w : World} (h : b ≤ w.heap.size) (o : Obj) : b ≤ (w.alloc o).heap.size := by
  rw [show (w.alloc o).heap.size = w.heap.size + 1 by simp]; omega
theorem made_int (k : IntKind) (s : Nat) : (madeCells (Value.int k 0).cells (s * 1)).toList = List.replicate s (Value.int k 0) := by
  apply List.ext_getElem
  · simp [madeCells]
  · intro i h1 h2
    simp [madeCells, Value.cells, Nat.mod_one]
theorem own_nil (w : World) (base : Nat) (e : TypeId) (size : Nat) : w.ownsRow base e size (.slice none 0 0) 0 [] := ⟨by simp, .inl ⟨rfl, rfl⟩⟩
theorem own_form {w : World} {base : Nat} {e : TypeId} {size : Nat} {v : Value} {n : Nat} {xs : List Value} (h : w.ownsRow base e size v n xs) : ∃ A c, v = .slice A n c := by
  rcases h.2 with ⟨rfl, rfl⟩ | ⟨g, cap, cur, rfl, _⟩
  · exact ⟨_, _, rfl⟩
  · exact ⟨_, _, rfl⟩
theorem own_some {w : World} {base : Nat} {e : TypeId} {size : Nat} {v : Value} {n : Nat} {xs : List Value} (h : w.ownsRow base e size v n xs) (hn : 0 < n) : ∃ g c, v = .slice (some ⟨g, 0, none⟩) n c ∧ base ≤ g := by
  rcases h.2 with ⟨rfl, rfl⟩ | ⟨g, cap, cur, rfl, hg, _⟩
  · exact absurd hn (by omega)
  · exact ⟨_, _, rfl, hg⟩
theorem own_block {w : World} {base : Nat} {e : TypeId} {size : Nat} {v : Value} {n : Nat} {xs : List Value} (h : w.ownsRow base e size v n xs) {k : Nat} (hk : v.ownBlock = some k) : base ≤ k := (h.lt k hk).1
/-- a new slice of bytes comes back, of the call's own; nothing else has turned -/
def RetB (E : TypeId) (w : World) (l : List UInt8) (e : Ending) (w' : World) : Prop :=
  ∃ A c, e = .returned (.slice A l.length c) ∧ w'.ownsRow w.heap.size E 1 (.slice A l.length c) l.length (l.map e8) ∧ Below w.heap.size w w'
theorem RetB.mk {E : TypeId} {w w' : World} {l : List UInt8} {v : Value} {n : Nat} {xs : List Value} (h : w'.ownsRow w.heap.size E 1 v n xs) (hx : xs = l.map e8) (hb : Below w.heap.size w w') : RetB E w l (.returned v) w' := by
  subst hx
  obtain ⟨A, c, rfl⟩ := own_form h
  have hn : l.length = n := by simpa using h.1
  subst hn
  exact ⟨A, c, rfl, h, hb⟩
theorem own_base {w : World} {base base' : Nat} {e : TypeId} {size : Nat} {v : Value} {n : Nat} {xs : List Value} (h : w.ownsRow base e size v n xs) (hb : base' ≤ base) : w.ownsRow base' e size v n xs := by
  refine ⟨h.1, ?_⟩
  rcases h.2 with h | ⟨g, cap, cur, hv, hg, r⟩
  · exact .inl h
  · exact .inr ⟨g, cap, cur, hv, by omega, r⟩
theorem RetB.after {E : TypeId} {w w1 w2 : World} {l : List UInt8} {A : Option Addr} {c : Nat} (h1 : Below w.heap.size w w1) (h : w2.ownsRow w1.heap.size E 1 (.slice A l.length c) l.length (l.map e8)) (h2 : Below w1.heap.size w1 w2) :
    RetB E w l (.returned (.slice A l.length c)) w2 := ⟨A, c, rfl, own_base h h1.size, h1.trans (h2.mono h1.size)⟩
theorem own_on {w w' : World} {base : Nat} {e : TypeId} {size : Nat} {v : Value} {n : Nat} {xs : List Value} (h : w.ownsRow base e size v n xs) (b : Below w.heap.size w w') : w'.ownsRow base e size v n xs := by
  refine ⟨h.1, ?_⟩
  rcases h.2 with h | ⟨g, cap, cur, hv, hg, hh, r⟩
  · exact .inl h
  · exact .inr ⟨g, cap, cur, hv, hg, (b.block g (lt_of_block hh)).trans hh, r⟩
/-- one call behind the other -/
theorem bt {w wX w1 : World} (h : Below w.heap.size w wX) (b : Below wX.heap.size wX w1) : Below w.heap.size w w1 := h.trans (b.mono h.size)
theorem b1alloc (w : World) (o : Obj) : Below w.heap.size w (w.alloc o) := (Below.refl _ _).alloc (Nat.le_refl _) _
theorem b2alloc (w : World) (o o' : Obj) : Below w.heap.size w ((w.alloc o).alloc o') := bt (b1alloc w o) (b1alloc _ _)
theorem b3alloc (w : World) (o o' o'' : Obj) : Below w.heap.size w (((w.alloc o).alloc o').alloc o'') := bt (b2alloc w o o') (b1alloc _ _)
/-- behind a call that only made memory: all old cells and marks, for the walk -/
theorem bcell {W w1 : World} (hb : Below W.heap.size W w1) : (∀ b o, b < W.heap.size → w1.cell? ⟨b, o, none⟩ = W.cell? ⟨b, o, none⟩) ∧ (∀ b o, b < W.heap.size → w1.frozen? ⟨b, o, none⟩ = W.frozen? ⟨b, o, none⟩) ∧ W.heap.size ≤ w1.heap.size :=
  ⟨fun b o h => hb.cell (p := ⟨b, o, none⟩) h, fun b o h => hb.frozen (p := ⟨b, o, none⟩) h, hb.size⟩
theorem bdrew {B : Nat} {a w : World} (h : Below B a w) (n : Nat) : Below B a (w.drewN n) := ⟨h.os, h.tape, h.output, h.size, h.block⟩
theorem wrap_small {x : Int} (h0 : -1000000000000 ≤ x) (h1 : x ≤ 1000000000000) : IntKind.i64.wrap x = x := IntWalk.i64_in _ (by omega)
theorem bne_no {a b : Int} (h : a = b) : (a != b) = false := by simp [h]
theorem bne_yes {a b : Int} (h : a ≠ b) : (a != b) = true := by simp [h]
theorem beq_yes {a b : Int} (h : a = b) : (a == b) = true := by simp [h]
theorem beq_no {a b : Int} (h : a ≠ b) : (a == b) = false := by simp [h]
theorem bne8 {a b : UInt8} (h : a ≠ b) : ((a.toNat : Int) != (b.toNat : Int)) = true := bne_yes (fun e => h (UInt8.toNat_inj.1 (Int.natCast_inj.1 e)))
theorem bne8_no {a b : UInt8} (h : a = b) : ((a.toNat : Int) != (b.toNat : Int)) = false := by simp [h]
/-! what lay is as it lay, but for the blocks that are named -/
def Keep (fp : List Nat) (w w' : World) : Prop := w'.os = w.os ∧ w'.tape = w.tape ∧ w'.output = w.output ∧ w.heap.size ≤ w'.heap.size ∧ ∀ j, j < w.heap.size → j ∉ fp → w'.heap[j]? = w.heap[j]?
/-- a footprint has grown by new blocks alone -/
def Fresh (w : World) (fp fp' : List Nat) : Prop := ∀ j ∈ fp', j ∈ fp ∨ w.heap.size ≤ j
theorem Keep.refl (fp : List Nat) (w : World) : Keep fp w w := ⟨rfl, rfl, rfl, Nat.le_refl _, fun _ _ _ => rfl⟩
theorem Keep.size {fp : List Nat} {w w' : World} (h : Keep fp w w') : w.heap.size ≤ w'.heap.size := h.2.2.2.1
theorem Keep.block {fp : List Nat} {w w' : World} (h : Keep fp w w') {j : Nat} (hj : j < w.heap.size) (hn : j ∉ fp) : w'.heap[j]? = w.heap[j]? := h.2.2.2.2 j hj hn
theorem Keep.of_below {w w' : World} (h : Below w.heap.size w w') (fp : List Nat) : Keep fp w w' := ⟨h.os, h.tape, h.output, h.size, fun j hj _ => h.block j hj⟩
theorem Keep.of_grown {fp : List Nat} {w w' : World} {row : Option Nat} (h : w.grownBy w' row) (hr : ∀ g, row = some g → g ∈ fp) : Keep fp w w' :=
  ⟨h.os, h.tape, h.output, h.size, fun j hj hn => h.block j hj (fun e => hn (hr j e.symm))⟩
theorem Keep.trans {fp fp1 : List Nat} {w w1 w2 : World} (h : Keep fp w w1) (k : Keep fp1 w1 w2) (hf : Fresh w fp fp1) : Keep fp w w2 :=
  ⟨k.1.trans h.1, k.2.1.trans h.2.1, k.2.2.1.trans h.2.2.1, Nat.le_trans h.size k.size, fun j hj hn => (k.block (Nat.lt_of_lt_of_le hj h.size) (fun e => (hf j e).elim hn (fun h1 => absurd hj (by omega)))).trans (h.block hj hn)⟩
theorem Keep.below {fp : List Nat} {w w' : World} {B : Nat} (h : Keep fp w w') (hf : ∀ j ∈ fp, B ≤ j) (hB : B ≤ w.heap.size) : Below B w w' :=
  ⟨h.1, h.2.1, h.2.2.1, h.size, fun j hj => h.block (by omega) (fun e => by have := hf j e; omega)⟩
theorem Keep.more {fp fp' : List Nat} {w w' : World} (h : Keep fp w w') (hf : ∀ j ∈ fp, j ∈ fp') : Keep fp' w w' := ⟨h.1, h.2.1, h.2.2.1, h.size, fun j hj hn => h.block hj (fun e => hn (hf j e))⟩
theorem Keep.set {fp : List Nat} {w w' : World} (h : Keep fp w w') {p : Addr} (hp : p.block ∈ fp ∨ w.heap.size ≤ p.block) (u : Value) : Keep fp w (w'.setCell p u) :=
  ⟨h.1, h.2.1, h.2.2.1, by simpa [World.setCell] using h.size, fun j hj hn => (Below.heap_setCell w' p u j (by
    rintro rfl
    rcases hp with hp | hp
    · exact hn hp
    · omega)).trans (h.block hj hn)⟩
theorem Keep.alloc {fp : List Nat} {w w' : World} (h : Keep fp w w') (o : Obj) : Keep fp w (w'.alloc o) :=
  ⟨h.1, h.2.1, h.2.2.1, Nat.le_trans h.size (by simp), fun j hj hn => (Below.heap_alloc w' o j (Nat.lt_of_lt_of_le hj h.size)).trans (h.block hj hn)⟩
theorem Keep.drewN {fp : List Nat} {w w' : World} (h : Keep fp w w') (n : Nat) : Keep fp w (w'.drewN n) := h
theorem Fresh.refl (w : World) (fp : List Nat) : Fresh w fp fp := fun _ h => .inl h
theorem Fresh.trans {w w1 : World} {fp fp1 fp2 : List Nat} (h : Fresh w fp fp1) (hs : w.heap.size ≤ w1.heap.size) (k : Fresh w1 fp1 fp2) : Fresh w fp fp2 := fun j hj => by
  rcases k j hj with h1 | h1
  · exact h j h1
  · exact .inr (by omega)
theorem Fresh.ge {w : World} {fp fp1 : List Nat} {B : Nat} (h : Fresh w fp fp1) (hf : ∀ j ∈ fp, B ≤ j) (hB : B ≤ w.heap.size) : ∀ j ∈ fp1, B ≤ j := fun j hj => by
  rcases h j hj with h1 | h1
  · exact hf j h1
  · omega
theorem Fresh.out {w : World} {fp fp1 : List Nat} {g : Nat} (h : Fresh w fp fp1) (hg : g < w.heap.size) (hn : g ∉ fp) : g ∉ fp1 := fun e => by
  rcases h g e with h1 | h1
  · exact hn h1
  · omega
theorem Rd.keepK {w w' : World} {B : Nat} {A : Option Addr} {xs : List Value} {fp : List Nat} (h : Rd w B A xs) (k : Keep fp w w') (hf : ∀ j ∈ fp, B ≤ j) (hB : B ≤ w.heap.size) : Rd w' B A xs := h.below (k.below hf hB)
theorem own_keep {w w' : World} {base : Nat} {e : TypeId} {size : Nat} {v : Value} {n : Nat} {xs : List Value} {fp : List Nat} (h : w.ownsRow base e size v n xs) (k : Keep fp w w') (hne : ∀ g, v.ownBlock = some g → g ∉ fp) : w'.ownsRow base e size v n xs := by
  refine ⟨h.1, ?_⟩
  rcases h.2 with h | ⟨g, cap, cur, rfl, hg, hh, r⟩
  · exact .inl h
  · exact .inr ⟨g, cap, cur, rfl, hg, (k.block (lt_of_block hh) (hne g rfl)).trans hh, r⟩
theorem Box.keep {w w' : World} {g : Nat} {v : Value} {fp : List Nat} (h : Box w g v) (k : Keep fp w w') (hg : g ∉ fp) : Box w' g v := h.elim fun t hh => ⟨t, (k.block (lt_of_block hh) hg).trans hh⟩
/-- a slice that reads as a list of cells, in none of the blocks that are named -/
def RdN (w : World) (fp : List Nat) (A : Option Addr) (xs : List Value) : Prop :=
  xs ≠ [] → ∃ b off, A = some ⟨b, off, none⟩ ∧ b < w.heap.size ∧ b ∉ fp ∧ ∀ i (h : i < xs.length), w.cell? ⟨b, off + i, none⟩ = some xs[i]
theorem RdN.nil (w : World) (fp : List Nat) (A : Option Addr) : RdN w fp A [] := fun h => absurd rfl h
theorem RdN.rd {w : World} {fp : List Nat} {A : Option Addr} {xs : List Value} (h : RdN w fp A xs) : Rd w w.heap.size A xs := fun hne => by
  obtain ⟨b, off, rfl, hb, _, hc⟩ := h hne
  exact ⟨b, off, rfl, hb, hc⟩
theorem RdN.of {w : World} {fp : List Nat} {A : Option Addr} {xs : List Value} {B : Nat} (h : Rd w B A xs) (hf : ∀ j ∈ fp, B ≤ j) (hB : B ≤ w.heap.size) : RdN w fp A xs := fun hne => by
  obtain ⟨b, off, rfl, hb, hc⟩ := h hne
  exact ⟨b, off, rfl, by omega, fun e => by have := hf b e; omega, hc⟩
theorem RdN.keep {w w' : World} {fp fp' : List Nat} {A : Option Addr} {xs : List Value} (h : RdN w fp A xs) (k : Keep fp w w') (f : Fresh w fp fp') : RdN w' fp' A xs := fun hne => by
  obtain ⟨b, off, rfl, hb, hn, hc⟩ := h hne
  exact ⟨b, off, rfl, Nat.lt_of_lt_of_le hb k.size, f.out hb hn, fun i hi => (World.cell?_of_block (k.block hb hn)).trans (hc i hi)⟩
theorem RdN.on {w w' : World} {fp : List Nat} {A : Option Addr} {xs : List Value} (h : RdN w fp A xs) (b : Below w.heap.size w w') : RdN w' fp A xs := h.keep (Keep.of_below b fp) (Fresh.refl _ _)
theorem RdN.take {w : World} {fp : List Nat} {A : Option Addr} {xs : List Value} (h : RdN w fp A xs) (k : Nat) : RdN w fp A (xs.take k) := by
  intro hne
  obtain ⟨b, off, rfl, hb, hn, hc⟩ := h (by rintro rfl; exact hne (by simp))
  exact ⟨b, off, rfl, hb, hn, fun i hi => by rw [hc i (by rw [List.length_take] at hi; omega), List.getElem_take]⟩
theorem Rd.take {w : World} {B : Nat} {A : Option Addr} {xs : List Value} (h : Rd w B A xs) (k : Nat) : Rd w B A (xs.take k) := by
  intro hne
  obtain ⟨b, off, rfl, hb, hc⟩ := h (by rintro rfl; exact hne (by simp))
  exact ⟨b, off, rfl, hb, fun i hi => by rw [hc i (by rw [List.length_take] at hi; omega), List.getElem_take]⟩
theorem RdN.own {w w' : World} {e : TypeId} {A : Option Addr} {n c : Nat} {xs : List Value} {fp : List Nat} (h : w'.ownsRow w.heap.size e 1 (.slice A n c) n xs) (hf : ∀ j ∈ fp, j < w.heap.size) : RdN w' fp A xs := by
  intro hne
  rcases h.2 with ⟨hv, hn⟩ | ⟨g, cap, cur, hv, hg, hh, hnc, hcm, hcs, ht⟩
  · exact absurd (List.eq_nil_of_length_eq_zero (by have := h.1; omega)) hne
  · injection hv with hA _ _
    subst hA
    refine ⟨g, 0, rfl, lt_of_block hh, fun e => by have := hf g e; omega, fun i hi => ?_⟩
    have hl := h.1
    have := World.ownsRow.cellAt (j := i) h (by omega)
    rw [Nat.zero_add, this]; exact List.getElem?_eq_getElem hi
/-- a slice literal -/
theorem own_lit (w : World) (e : TypeId) (cs : Array Value) (base n : Nat) (hb : base ≤ w.heap.size) (hn : cs.size = n) (hm : n ≤ maxLen) : (w.alloc (.cells cs e)).ownsRow base e 1 (.slice (some ⟨w.heap.size, 0, none⟩) n n) n cs.toList := by
  subst hn
  refine ⟨by simp, .inr ⟨w.heap.size, cs.size, cs, rfl, hb, heap_alloc_new w _, Nat.le_refl _, hm, by simp, ?_⟩⟩
  rw [Nat.mul_one]; exact List.take_of_length_le (by simp)
theorem Rd.drop {w : World} {B : Nat} {A : Option Addr} {xs : List Value} (h : Rd w B A xs) (k : Nat) : Rd w B (A.map (fun x => x.add k)) (xs.drop k) := by
  intro hne
  obtain ⟨b, off, rfl, hb, hc⟩ := h (by rintro rfl; exact hne (by simp))
  refine ⟨b, off + k, by simp [Addr.add_lit], hb, fun i hi => ?_⟩
  rw [List.length_drop] at hi
  rw [Nat.add_assoc, hc (k + i) (by omega), List.getElem_drop]
theorem own_cap {w : World} {base : Nat} {e : TypeId} {size n c : Nat} {A : Option Addr} {xs : List Value} (h : w.ownsRow base e size (.slice A n c) n xs) : n ≤ c ∧ c ≤ maxLen := by
  rcases h.2 with ⟨hv, hn⟩ | ⟨g, cap, cur, hv, _, _, h1, h2, _⟩
  · injection hv with _ _ hc
    subst hc hn
    exact ⟨by omega, by unfold maxLen; omega⟩
  · injection hv with _ _ hc
    subst hc
    exact ⟨h1, h2⟩
theorem bset {B : Nat} {a w : World} (h : Below B a w) {b o : Nat} (hb : B ≤ b) (v : Value) : Below B a (w.setCell ⟨b, o, none⟩ v) := h.setCell (p := ⟨b, o, none⟩) hb v
theorem bset_new {w w' : World} (h : Below w.heap.size w w') (o : Nat) (v : Value) : Below w.heap.size w (w'.setCell ⟨w.heap.size, o, none⟩ v) := bset h (Nat.le_refl _) v
/-! ends -/
theorem ret_int {k : IntKind} {a b : Int} (h : a = b) : Ending.returned (.int k a) = .returned (.int k b) := by rw [h]
theorem ret_bool {a b : Bool} (h : a = b) : Ending.returned (.bool a) = .returned (.bool b) := by rw [h]
end Go.Proofs.YtchcmklelmlbgaaGreat

/- The arguments of a law, opened: slices of bytes and of numbers as lists; numbers as words. -/
namespace Go.Proofs.YtchcmklelmlbgaaGreat
open Go.ChangeShapes Go.WideShapes Go.ChangeAt Go.RowKit Go.Joins
open Go.ChangeMaps (open_string shut_string)
set_option linter.unusedVariables false

theorem own : ownKnob Tryz.prog.godebug = none := by kernel_rfl
theorem laidOut : laidOutB Tryz.prog = true := by kernel_rfl
theorem rd_row {w : World} {k : IntKind} {x : Addr} {len cap : Nat} {zs : List Int} (hl : len ≤ cap) (hz : zs.length = cap) (hc : ∀ i, i < zs.length → w.cell? (x.add i) = some (.int k (zs.getD i 0))) :
    Rd w w.heap.size (some x) ((zs.take len).map (Value.int k)) := by
  intro hne
  have hlen : 0 < len := by
    rcases Nat.eq_zero_or_pos len with h | h
    · subst h; simp at hne
    · exact h
  obtain ⟨b, off, spot⟩ := x
  have h0 := hc 0 (by omega)
  have hspot : spot = none := by simpa [Addr.add] using World.cell?_spot h0
  subst hspot
  refine ⟨b, off, rfl, ?_, fun i hi => ?_⟩
  · have h0' : w.cell? ⟨b, off, none⟩ ≠ none := by
      have : (⟨b, off, none⟩ : Addr).add 0 = ⟨b, off, none⟩ := by simp [Addr.add]
      rw [this] at h0; rw [h0]; simp
    rcases Nat.lt_or_ge b w.heap.size with h | h
    · exact h
    · exact absurd (by simp [World.cell?, Array.getElem?_eq_none h]) h0'
  · have hi' : i < len := by simpa [hz, Nat.min_eq_left hl] using hi
    have := hc i (by omega)
    rw [Addr.add_lit] at this
    rw [this]
    simp [List.getD, List.getElem?_eq_getElem (show i < zs.length by omega)]
theorem bytes_of {w : World} {A : Option Addr} {len cap : Nat} {E : Type} {P : Program} {enc : TypeId × Value → E} {t e : TypeId} {spare : Nat → Bool} {held : Bool} {fuel : Nat} {x : DataW E × List MemPlace}
    (hs : spare = fun _ => true) (ht : P.underlying t = some (.slice e)) (he : P.underlying e = some (.int .u8)) (hc : P.cellsOf e = 1) (h : DataW.trod enc P w 0 spare held fuel t (Value.slice A len cap).cells.toList = some x) :
    ∃ l : List UInt8, l.length = len ∧ Rd w w.heap.size A (l.map e8) ∧ len ≤ cap ∧ cap ≤ maxLen := by
  subst hs
  rcases open_ints ht he hc h with ⟨hcs, _⟩ | ⟨x, l, c, zs, hcs, _, hl, hm, hz, _, hcell, hwz⟩
  · simp [Value.cells] at hcs
    obtain ⟨rfl, rfl, rfl⟩ := hcs
    exact ⟨[], rfl, Rd.nil _ _ _, by omega, by unfold maxLen; omega⟩
  · simp [Value.cells] at hcs
    obtain ⟨rfl, rfl, rfl⟩ := hcs
    obtain ⟨l, rfl⟩ := list8 zs hwz
    have hz' : l.length = cap := by simpa using hz
    refine ⟨l.take len, by simp; omega, ?_, hl, hm⟩
    have := rd_row (len := len) hl (by simpa using hz') hcell
    simpa [List.map_take, Function.comp_def] using this
section
end
theorem wf64 {n : Int} (h : (Lit.int .u64 n).wf = true) : ∃ x : UInt64, n = (x.toNat : Int) := by
  simp [Lit.wf, IntKind.min, IntKind.max, IntKind.signed, IntKind.bits] at h; exact to64 n (by omega) (by omega)
theorem wfi {n : Int} (h : (Lit.int .i64 n).wf = true) : -9223372036854775808 ≤ n ∧ n ≤ 9223372036854775807 := by
  simp [Lit.wf, IntKind.min, IntKind.max, IntKind.signed, IntKind.bits] at h; omega
theorem places_lt {H : Type} {enc : TypeId × Value → H} {P : Program} {W : World} {t : TypeId} {v : Value} {d : DataW H} {p : List MemPlace} (k : DataW.Trod enc P W 0 (fun _ => true) true t v d p) : ∀ x ∈ p, x.block < W.heap.size := by
  obtain ⟨m, hm⟩ := k; exact DataW.trod_lt m _ _ _ hm
section
open Go.Deep
variable {H : Type} {enc : TypeId × Value → H} {P : Program} {w : World} {base : Nat} {spare : Nat → Bool} {held : Bool}
/-- a slice of structs of one-cell fields -/
theorem open_slice_fields {t e : TypeId} {fs : Array Field} {fuel : Nat} {cs : List Value} {x : DataW H × List MemPlace} (ht : P.underlying t = some (.slice e)) (he : P.underlying e = some (.struct fs))
    (hone : oneCellFields P fs = true) (hC : P.cellsOf e = fs.size) (h : DataW.trod enc P w base spare held fuel t cs = some x) :
    cs = [.slice none 0 0] ∨ ∃ (a : Addr) (len cap m : Nat), cs = [.slice (some a) len cap] ∧ base ≤ a.block ∧ len ≤ cap ∧ cap ≤ maxLen ∧ m = (if spare a.block then cap else len) ∧
      ∀ i, i < m → ∃ (ys : List (DataW H × List MemPlace)) (n : Nat), 
        ∀ (j : Nat) (f : Field), fs[j]? = some f → ∃ (v : Value) (y : DataW H × List MemPlace), w.cell? (a.add (i * fs.size + j)) = some v ∧ ys[j]? = some y ∧ DataW.trod enc P w base spare held n f.type [v] = some y := by
  rcases open_slice ht h with h0 | ⟨a, len, cap, m, n, D, Pl, hcs, hb, hl, hm, hmm, hx, hi⟩
  · exact .inl h0.1
  · refine .inr ⟨a, len, cap, m, hcs, hb, hl, hm, hmm, fun i him => ?_⟩
    obtain ⟨cs', hc, ht'⟩ := hi i him
    rw [hC] at hc
    obtain ⟨ys, n', hn', hy, hlen, hyl, hf⟩ := DataW.trod_struct he ht'
    obtain ⟨_, hcl, hat⟩ := World.cells?_some hc
    refine ⟨ys, n', fun j f hj => ?_⟩
    obtain ⟨ho, hk⟩ := hone_of hone j f hj
    have hjl : j < fs.size := (Array.getElem?_eq_some_iff.1 hj).1
    have hcell := hat j hjl
    have hv : cs'[j]? = some (cs'[j]'(by omega)) := List.getElem?_eq_getElem (by omega)
    have h1 := hf j f hj
    rw [ho, hk] at h1
    have hone' : (cs'.drop j).take 1 = [cs'[j]'(by omega)] := by
      rw [List.drop_eq_getElem_cons (by omega)]
      rfl
    rw [hone'] at h1
    have hys : ys[j]? = some (ys[j]'(by omega)) := List.getElem?_eq_getElem (by omega)
    refine ⟨_, _, ?_, hys, h1.trans hys⟩
    rw [← Go.Deep.add_add, hcell, hv]
theorem bytes_of1 {E : Type} {enc : TypeId × Value → E} {t e : TypeId} {fuel : Nat} {v : Value} {yy : DataW E × List MemPlace}
    (ht : P.underlying t = some (.slice e)) (he : P.underlying e = some (.int .u8)) (hc : P.cellsOf e = 1) (h : DataW.trod enc P w 0 (fun _ => true) held fuel t [v] = some yy) :
    ∃ (A : Option Addr) (l : List UInt8) (c : Nat), v = .slice A l.length c ∧ Rd w w.heap.size A (l.map e8) ∧ l.length ≤ c ∧ c ≤ maxLen := by
  have h0 := h
  rcases open_ints ht he hc h with ⟨hcs, _⟩ | ⟨x, l, c, zs, hcs, _, hl, hm, hz, _, hcell, hwz⟩
  · simp only [List.cons.injEq, and_true] at hcs
    exact ⟨none, [], 0, hcs, Rd.nil _ _ _, by simp, by unfold maxLen; omega⟩
  · simp only [List.cons.injEq, and_true] at hcs
    subst hcs
    obtain ⟨A, hA⟩ : ∃ A, A = some x := ⟨_, rfl⟩
    have h' : DataW.trod enc P w 0 (fun _ => true) held fuel t (Value.slice A l c).cells.toList = some yy := by rw [hA]; exact h0
    obtain ⟨ll, h1, h2, h3, h4⟩ := bytes_of rfl ht he hc h'
    subst h1
    exact ⟨A, ll, c, by rw [hA], h2, h3, h4⟩
theorem choose_list {α : Type} {n : Nat} {p : Nat → α → Prop} (h : ∀ i, i < n → ∃ a, p i a) : ∃ l : List α, l.length = n ∧ ∀ i (hi : i < l.length), p i l[i] := by
  induction n with
  | zero => exact ⟨[], rfl, fun i hi => absurd hi (by simp)⟩
  | succ n ih =>
    obtain ⟨l, hl, hp⟩ := ih fun i hi => h i (by omega)
    obtain ⟨a, ha⟩ := h n (by omega)
    refine ⟨l ++ [a], by simp [hl], fun i hi => ?_⟩
    rw [List.getElem_append]
    by_cases e : i < l.length
    · rw [dif_pos e]; exact hp i e
    · rw [dif_neg e]
      have : i = n := by simp at hi; omega
      subst this
      simpa using ha
end
end Go.Proofs.YtchcmklelmlbgaaGreat

/- Arrays by value, of any size, kept as one value: blocks whose cells are known as a list; laws for the operations that make, load and store them whole. -/
namespace Go.Proofs.YtchcmklelmlbgaaGreat
open Go.RowKit
set_option linter.unusedVariables false

/-- a block that holds just these cells -/
def Blk (w : World) (g : Nat) (xs : List Value) : Prop := ∃ t, w.heap[g]? = some (.cells xs.toArray t (0, 0))
/-- an array by value -/
def arrV (xs : List Value) : Value := .agg xs.toArray
theorem arrV_cells (xs : List Value) : (arrV xs).cells = xs.toArray := rfl
theorem Blk.lt {w : World} {g : Nat} {xs : List Value} (h : Blk w g xs) : g < w.heap.size := h.elim fun _ h => lt_of_block h
theorem Blk.cell {w : World} {g : Nat} {xs : List Value} (h : Blk w g xs) {k : Nat} (hk : k < xs.length) : w.cell? ⟨g, k, none⟩ = some xs[k] := by
  obtain ⟨t, h⟩ := h
  rw [cell_of_row w g k _ _ _ h]; simp [hk]
theorem Blk.free {w : World} {g : Nat} {xs : List Value} (h : Blk w g xs) (k : Nat) : w.frozen? ⟨g, k, none⟩ = false := by
  obtain ⟨t, h⟩ := h
  exact frozen_of_row w g k _ _ h
theorem Blk.set {w : World} {g : Nat} {xs : List Value} (h : Blk w g xs) {k : Nat} (v : Value) : Blk (w.setCell ⟨g, k, none⟩ v) g (xs.set k v) := by
  obtain ⟨t, h⟩ := h
  refine ⟨t, ?_⟩
  rw [heap_setCell_same w g k _ t v h]
  simp
theorem Blk.other {w : World} {g b k : Nat} {xs : List Value} (h : Blk w g xs) (v : Value) (hn : g ≠ b) : Blk (w.setCell ⟨b, k, none⟩ v) g xs := by
  obtain ⟨t, h⟩ := h
  exact ⟨t, (heap_setCell_other w _ g v (by simpa using hn)).trans h⟩
theorem Blk.alloc {w : World} {g : Nat} {xs : List Value} (h : Blk w g xs) (o : Obj) : Blk (w.alloc o) g xs := by
  obtain ⟨t, hh⟩ := h
  exact ⟨t, (heap_alloc_old w o (lt_of_block hh)).trans hh⟩
theorem Blk.new (w : World) (xs : List Value) (t : TypeId) : Blk (w.alloc (.cells xs.toArray t)) w.heap.size xs := ⟨t, heap_alloc_new w _⟩
theorem Blk.on {w w' : World} {g : Nat} {xs : List Value} (h : Blk w g xs) (b : Below w.heap.size w w') : Blk w' g xs := by
  obtain ⟨t, hh⟩ := h
  exact ⟨t, (b.block g (lt_of_block hh)).trans hh⟩
theorem Blk.below {w w' : World} {g B : Nat} {xs : List Value} (h : Blk w g xs) (b : Below B w w') (hg : g < B) : Blk w' g xs := by
  obtain ⟨t, hh⟩ := h
  exact ⟨t, (b.block g hg).trans hh⟩
theorem Blk.drewN {w : World} {g : Nat} {xs : List Value} (h : Blk w g xs) (n : Nat) : Blk (w.drewN n) g xs := h
theorem Blk.grown {w w' : World} {g : Nat} {xs : List Value} {row : Option Nat} (h : Blk w g xs) (hg : w.grownBy w' row) (hne : some g ≠ row) : Blk w' g xs := by
  obtain ⟨t, hh⟩ := h
  exact ⟨t, (hg.block g (lt_of_block hh) hne).trans hh⟩
theorem Blk.setRow {w : World} {g : Nat} {xs ys : List Value} (h : Blk w g xs) : Blk (w.setRow g ys.toArray) g ys := by
  obtain ⟨t, h⟩ := h
  exact ⟨t, setRow_heap w g _ _ t _ h⟩
theorem Blk.setRow_other {w : World} {g b : Nat} {xs : List Value} {ys : Array Value} (h : Blk w g xs) (hn : g ≠ b) : Blk (w.setRow b ys) g xs := by
  obtain ⟨t, h⟩ := h
  exact ⟨t, (Go.setRow_other w b g ys hn).trans h⟩
theorem Blk.rd {w : World} {g : Nat} {xs : List Value} (h : Blk w g xs) : Rd w w.heap.size (some ⟨g, 0, none⟩) xs := fun hne =>
  ⟨g, 0, rfl, h.lt, fun i hi => by rw [Nat.zero_add]; exact h.cell hi⟩
section
variable {P : Program}
/-- one operation that yields a value, by its run -/
theorem wpList_run {w w' : World} {ops : Array Oper} {rest : List Oper} {o : Oper} {a : Act} {Q : Exit → Act → World → Prop} (hg : o.guard = none) (v : Value)
    (hrun : (execOp a.eval o).run P w = .ok (.value v) w') (h : wpList P ops Q rest (a.put o.dst v) w') : wpList P ops Q (o :: rest) a w := by
  refine wpList_plain hg fun K hK => ?_
  unfold Oper.wp
  rw [hrun]
  exact hK _ _ h
theorem wpList_alloc {w : World} {ops : Array Oper} {rest : List Oper} {o : Oper} {a : Act} {Q : Exit → Act → World → Prop} (hg : o.guard = none) (t : TypeId) (ho : o.op = .alloc t) (xs : List Value)
    (hz : ∀ w, (zeroValue t).run P w = .ok (arrV xs) w)
    (h : wpList P ops Q rest (a.put o.dst (.pointer (some ⟨w.heap.size, 0, none⟩))) (w.alloc (.cells xs.toArray t))) : wpList P ops Q (o :: rest) a w := by
  refine wpList_run hg _ ?_ h
  unfold execOp
  simp only [ho]
  simp [Instr.alloc, hz, go_sem, arrV]
theorem wpList_box {w : World} {ops : Array Oper} {rest : List Oper} {o : Oper} {a : Act} {Q : Exit → Act → World → Prop} (hg : o.guard = none) (t : TypeId) (x : Operand) (ho : o.op = .box t x) (xs : List Value)
    (hx : a.eval x = arrV xs)
    (h : wpList P ops Q rest (a.put o.dst (.pointer (some ⟨w.heap.size, 0, none⟩))) (w.alloc (.cells xs.toArray t))) : wpList P ops Q (o :: rest) a w := by
  refine wpList_run hg _ ?_ h
  unfold execOp
  simp only [ho, hx]
  simp [Instr.box, go_sem, arrV]
theorem wpList_storeA {w : World} {ops : Array Oper} {rest : List Oper} {o : Oper} {a : Act} {Q : Exit → Act → World → Prop} (hgd : o.guard = none) (t : TypeId) (x y : Operand) (ho : o.op = .store t x y)
    {g : Nat} (hx : a.eval x = .pointer (some ⟨g, 0, none⟩)) {xs ys : List Value} (hy : a.eval y = arrV ys) (hb : Blk w g xs) (hl : xs.length = ys.length) (h1 : ∀ v ∈ ys, v.oneCell' = true) (hi : (P.info? t).map (·.size) = some ys.length)
    (h : wpList P ops Q rest (a.put o.dst undef) (w.setRow g ys.toArray)) : wpList P ops Q (o :: rest) a w := by
  obtain ⟨t', hb⟩ := hb
  refine wpList_plain hgd fun K hK => ?_
  have := run_storeVar_row (P := P) w g t' t _ ys.toArray hb (by simpa using hi) (by simpa using hl) (by simpa using h1)
  unfold Oper.wp execOp
  simp only [ho, hx, hy]
  simp [Instr.storeAt, Instr.sureAddr, this, arrV]
  exact hK _ _ h
/-! the same, the world behind them by what is known of it -/
theorem setRow_grown (w : World) (g : Nat) (cs : Array Value) : w.grownBy (w.setRow g cs) (some g) :=
  ⟨rfl, rfl, rfl, by simp [World.setRow], fun k _ hk => Go.setRow_other w g k cs (fun e => hk (by rw [e]))⟩
theorem wpList_allocN {w : World} {ops : Array Oper} {rest : List Oper} {o : Oper} {a : Act} {Q : Exit → Act → World → Prop} (hg : o.guard = none) (t : TypeId) (ho : o.op = .alloc t) (xs : List Value)
    (hz : ∀ w, (zeroValue t).run P w = .ok (arrV xs) w)
    (h : ∀ w1, Blk w1 w.heap.size xs → Below w.heap.size w w1 → w.heap.size < w1.heap.size → wpList P ops Q rest (a.put o.dst (.pointer (some ⟨w.heap.size, 0, none⟩))) w1) : wpList P ops Q (o :: rest) a w :=
  wpList_alloc hg t ho xs hz (h _ (Blk.new w xs t) (b1alloc _ _) (by simp))
theorem wpList_storeN {w : World} {ops : Array Oper} {rest : List Oper} {o : Oper} {a : Act} {Q : Exit → Act → World → Prop} (hgd : o.guard = none) (t : TypeId) (x y : Operand) (ho : o.op = .store t x y)
    {g : Nat} (hx : a.eval x = .pointer (some ⟨g, 0, none⟩)) {xs ys : List Value} (hy : a.eval y = arrV ys) (hb : Blk w g xs) (hl : xs.length = ys.length) (h1 : ∀ v ∈ ys, v.oneCell' = true) (hi : (P.info? t).map (·.size) = some ys.length)
    (h : ∀ w1, Blk w1 g ys → w.grownBy w1 (some g) → wpList P ops Q rest (a.put o.dst undef) w1) : wpList P ops Q (o :: rest) a w :=
  wpList_storeA hgd t x y ho hx hy hb hl h1 hi (h _ hb.setRow (setRow_grown _ _ _))
theorem below_row {B : Nat} {a w w1 : World} {g : Nat} (h : Below B a w) (hg : w.grownBy w1 (some g)) (hB : B ≤ g) (hs : B ≤ w.heap.size) : Below B a w1 :=
  h.grown hg hs (fun k e => by cases e; exact hB)
/-! many cells of a block -/
def splice (xs : List Value) (o : Nat) : List Value → List Value
  | [] => xs
  | v :: r => splice (xs.set o v) (o + 1) r
theorem Blk.setCells {g : Nat} : ∀ (cs : List Value) (o : Nat) {w : World} {xs : List Value}, Blk w g xs → Blk (w.setCells g o cs) g (splice xs o cs)
  | [], _, _, _, h => h
  | v :: r, o, _, _, h => Blk.setCells r (o + 1) (h.set v)
theorem setCells_grown (g : Nat) : ∀ (cs : List Value) (o : Nat) (w : World), w.grownBy (w.setCells g o cs) (some g)
  | [], _, w => ⟨rfl, rfl, rfl, Nat.le_refl _, fun _ _ _ => rfl⟩
  | v :: r, o, w => grown_trans (grown_set w ⟨g, o, none⟩ v) (setCells_grown g r (o + 1) _)
end
end Go.Proofs.YtchcmklelmlbgaaGreat

/- Making slices of numbers with room behind them. -/
namespace Go.Proofs.YtchcmklelmlbgaaGreat
open Go.RowKit
set_option linter.unusedVariables false
section
variable {P : Program}
/-- make of a slice of numbers, with room behind it -/
theorem wpList_makeN {w : World} {ops : Array Oper} {rest : List Oper} {o : Oper} {a : Act} {Q : Exit → Act → World → Prop} (hgd : o.guard = none) (t : TypeId) (x y : Operand) (ho : o.op = .makeSlice t x y)
    {e : TypeId} {i : TypeInfo} {k kl kc : IntKind} (ht : P.underlying t = some (.slice e)) (hi : P.info? e = some i) (hz : i.zero = some (.int k 0)) (hs : i.size = 1) (l c : Nat) {lz cz : Int} (hl : a.eval x = .int kl lz) (hlz : lz = (l : Int)) (hc : a.eval y = .int kc cz) (hcz : cz = (c : Int))
    (hlc : l ≤ c) (hb : i.bytes * c ≤ 281474976710656) (hm : c ≤ maxLen)
    (h : ∀ w1, w1.ownsRow w.heap.size e 1 (.slice (some ⟨w.heap.size, 0, none⟩) l c) l (List.replicate l (.int k 0)) → Below w.heap.size w w1 → w.heap.size < w1.heap.size →
      wpList P ops Q rest (a.put o.dst (.slice (some ⟨w.heap.size, 0, none⟩) l c)) w1) : wpList P ops Q (o :: rest) a w := by
  subst hlz hcz
  have hb' : (i.bytes : Int) * (c : Int) ≤ 281474976710656 := by
    have h : ((i.bytes * c : Nat) : Int) ≤ 281474976710656 := by omega
    rwa [Int.natCast_mul] at h
  have hm' : (c : Int) ≤ 9223372036854775807 := by
    have h := hm
    simp [maxLen] at h
    omega
  have hr := run_make (P := P) w t e i _ ht hi hz kl kc l c (by omega) (by omega) hb' hm'
  simp only [Int.toNat_natCast] at hr
  refine wpList_run (w' := w.alloc (.cells (madeCells (Value.int k 0).cells (c * i.size)) e)) hgd (.slice (some ⟨w.heap.size, 0, none⟩) l c) ?_ (h _ ⟨by simp, .inr ⟨w.heap.size, c, _, rfl, Nat.le_refl _, heap_alloc_new w _, hlc, hm, ?_, ?_⟩⟩ (b1alloc _ _) (by simp))
  · unfold execOp
    simp only [ho, hl, hc]
    simp [hr]
  · rw [hs, size_madeCells]
  · rw [hs, made_int, List.take_replicate]
    congr 1
    omega
/-! whole arrays in a region that draws its order -/
end
end Go.Proofs.YtchcmklelmlbgaaGreat

/- Numbers as bytes, most significant first: plain functions; nothing of the program. -/
namespace Go.Proofs.YtchcmklelmlbgaaGreat.Num

def putL (n size : Nat) : List UInt8 := (List.range size).map fun j => UInt8.ofNat (n / 2 ^ (8 * (size - 1 - j)))
theorem putL_len (n size : Nat) : (putL n size).length = size := by simp [putL]
theorem putL_get (n size j : Nat) (h : j < (putL n size).length) : (putL n size)[j] = UInt8.ofNat (n / 2 ^ (8 * (size - 1 - j))) := by simp [putL]
theorem putL_take (n size j : Nat) (h : j < size) : (putL n size).take (j + 1) = (putL n size).take j ++ [UInt8.ofNat (n / 2 ^ (8 * (size - 1 - j)))] := by
  rw [List.take_succ_eq_append_getElem (by rw [putL_len]; exact h), putL_get]
theorem cell_of (n e : Nat) : ((UInt8.ofNat (n / 2 ^ e)).toNat : Int) = (n : Int) / 2 ^ e % 256 := by
  rw [UInt8.toNat_ofNat', Int.natCast_emod, Int.natCast_ediv, Int.natCast_pow]; rfl
/-- the number that bytes are -/
def getN (l : List UInt8) : Nat := l.foldl (fun n c => n * 256 + c.toNat) 0
theorem getN_snoc (l : List UInt8) (c : UInt8) : getN (l ++ [c]) = getN l * 256 + c.toNat := by simp [getN]
theorem getN_take {l : List UInt8} {k : Nat} (h : k < l.length) : getN (l.take (k + 1)) = getN (l.take k) * 256 + l[k].toNat := by
  rw [List.take_succ_eq_append_getElem h, getN_snoc]
theorem getN_lt (l : List UInt8) : ∀ k, k ≤ l.length → getN (l.take k) < 256 ^ k
  | 0, _ => by simp [getN]
  | k + 1, h => by
    rw [getN_take (by omega), Nat.pow_succ]
    have := getN_lt l k (by omega)
    have := l[k].toNat_lt
    omega
theorem getN_7 (l : List UInt8) (k : Nat) (hk : k ≤ l.length) (h : k ≤ 7) : getN (l.take k) < 72057594037927936 := 
  Nat.lt_of_lt_of_le (getN_lt l k hk) (Nat.pow_le_pow_right (by omega) h)
theorem putL_succ (n s : Nat) : putL n (s + 1) = putL (n / 256) s ++ [UInt8.ofNat n] := by
  unfold putL
  rw [List.range_succ, List.map_append]
  congr 1
  · apply List.map_congr_left
    intro j hj
    have hj' := List.mem_range.1 hj
    rw [Nat.div_div_eq_div_mul, show (256 : Nat) = 2 ^ 8 from rfl, ← Nat.pow_add]
    congr 3
    omega
  · simp
theorem getN_putL (n s : Nat) : getN (putL n s) = n % 256 ^ s := by
  induction s generalizing n with
  | zero => simp [putL, getN, Nat.mod_one]
  | succ s ih =>
    have h := Nat.mod_mul (x := n) (a := 256) (b := 256 ^ s)
    rw [putL_succ, getN_snoc, ih, UInt8.toNat_ofNat', show 256 ^ (s + 1) = 256 * 256 ^ s by rw [Nat.pow_succ, Nat.mul_comm], h, show (2 : Nat) ^ 8 = 256 from rfl]
    omega
end Go.Proofs.YtchcmklelmlbgaaGreat.Num

/- SHA-256 as a plain function of lists; nothing of the program. -/
namespace Go.Proofs.YtchcmklelmlbgaaGreat.Sha

def kTab : List UInt32 := [
  0x428a2f98, 0x71374491, 0xb5c0fbcf, 0xe9b5dba5, 0x3956c25b, 0x59f111f1, 0x923f82a4, 0xab1c5ed5,
  0xd807aa98, 0x12835b01, 0x243185be, 0x550c7dc3, 0x72be5d74, 0x80deb1fe, 0x9bdc06a7, 0xc19bf174,
  0xe49b69c1, 0xefbe4786, 0x0fc19dc6, 0x240ca1cc, 0x2de92c6f, 0x4a7484aa, 0x5cb0a9dc, 0x76f988da,
  0x983e5152, 0xa831c66d, 0xb00327c8, 0xbf597fc7, 0xc6e00bf3, 0xd5a79147, 0x06ca6351, 0x14292967,
  0x27b70a85, 0x2e1b2138, 0x4d2c6dfc, 0x53380d13, 0x650a7354, 0x766a0abb, 0x81c2c92e, 0x92722c85,
  0xa2bfe8a1, 0xa81a664b, 0xc24b8b70, 0xc76c51a3, 0xd192e819, 0xd6990624, 0xf40e3585, 0x106aa070,
  0x19a4c116, 0x1e376c08, 0x2748774c, 0x34b0bcb5, 0x391c0cb3, 0x4ed8aa4a, 0x5b9cca4f, 0x682e6ff3,
  0x748f82ee, 0x78a5636f, 0x84c87814, 0x8cc70208, 0x90befffa, 0xa4506ceb, 0xbef9a3f7, 0xc67178f2]
def kAt (t : Nat) : UInt32 := kTab.getD t 0
/-- turned to the right by n, 0 < n < 32 -/
def rot (x : UInt32) (n : Nat) : UInt32 := (x <<< (UInt32.ofNat (32 - n))) ||| (x >>> (UInt32.ofNat n))
def low (x : UInt32) : UInt32 := rot x 7 ^^^ rot x 18 ^^^ (x >>> 3)
def high (x : UInt32) : UInt32 := rot x 17 ^^^ rot x 19 ^^^ (x >>> 10)
def be32 (b : List UInt8) (t : Nat) : UInt32 := UInt32.ofNat (Num.getN ((b.drop (4 * t)).take 4))
def wnext (b : List UInt8) (l : List UInt32) : UInt32 :=
  if l.length < 16 then be32 b l.length else
    high (l.getD (l.length - 2) 0) + l.getD (l.length - 7) 0 + low (l.getD (l.length - 15) 0) + l.getD (l.length - 16) 0
def wl (b : List UInt8) : Nat → List UInt32
  | 0 => []
  | k + 1 => wl b k ++ [wnext b (wl b k)]
structure H8 where
  a : UInt32
  b : UInt32
  c : UInt32
  d : UInt32
  e : UInt32
  f : UInt32
  g : UInt32
  h : UInt32
def H8.list (s : H8) : List UInt32 := [s.a, s.b, s.c, s.d, s.e, s.f, s.g, s.h]
def xOf (s : H8) (k w : UInt32) : UInt32 := s.h + (rot s.e 6 ^^^ rot s.e 11 ^^^ rot s.e 25) + (s.g ^^^ (s.e &&& (s.f ^^^ s.g))) + k + w
def yOf (s : H8) : UInt32 := (rot s.a 2 ^^^ rot s.a 13 ^^^ rot s.a 22) + (s.a &&& s.b ||| s.c &&& (s.a ||| s.b))
def round (s : H8) (k w : UInt32) : H8 := ⟨xOf s k w + yOf s, s.a, s.b, s.c, s.d + xOf s k w, s.e, s.f, s.g⟩
def rounds (w : List UInt32) (s : H8) : Nat → H8
  | 0 => s
  | t + 1 => round (rounds w s t) (kAt t) (w.getD t 0)
def H8.add (s r : H8) : H8 := ⟨s.a + r.a, s.b + r.b, s.c + r.c, s.d + r.d, s.e + r.e, s.f + r.f, s.g + r.g, s.h + r.h⟩
def block (s : H8) (b : List UInt8) : H8 := if b.length = 64 then (rounds (wl b 64) s 64).add s else s
/-! the reference's forms -/
def first : H8 := ⟨0x6a09e667, 0xbb67ae85, 0x3c6ef372, 0xa54ff53a, 0x510e527f, 0x9b05688c, 0x1f83d9ab, 0x5be0cd19⟩
/-- the padding of a row of n bytes -/
def padB (n : Nat) : List UInt8 := 128 :: List.replicate ((119 - n % 64) % 64) 0 ++ Num.putL (8 * n) 8
/-- the k-th whole block of 64 bytes -/
def blk (l : List UInt8) (k : Nat) : List UInt8 := (l.drop (64 * k)).take 64
def turned (l : List UInt8) : Nat → H8
  | 0 => first
  | k + 1 => block (turned l k) (blk l k)
def out8 (s : H8) : List UInt8 := s.list.flatMap fun x => Num.putL x.toNat 4
def whole (l : List UInt8) : List UInt8 := l ++ padB l.length
def sum (l : List UInt8) : List UInt8 := out8 (turned (whole l) ((whole l).length / 64))
end Go.Proofs.YtchcmklelmlbgaaGreat.Sha

/- HMAC and HKDF with SHA-256 as plain functions of lists; nothing of the program. -/
namespace Go.Proofs.YtchcmklelmlbgaaGreat.Mac
open Go.Proofs.YtchcmklelmlbgaaGreat.Sha (sum)

/-- filled up with noughts, or cut, to n bytes -/
def padTo (l : List UInt8) (n : Nat) : List UInt8 := l.take n ++ List.replicate (n - l.length) 0
theorem padTo_len (l : List UInt8) (n : Nat) : (padTo l n).length = n := by simp [padTo]; omega
def key (k : List UInt8) : List UInt8 := padTo (if 64 < k.length then sum k else k) 64
def over (k : List UInt8) (c : UInt8) : List UInt8 := k.map fun x => x ^^^ c
def inner (k t : List UInt8) : List UInt8 := sum (over (key k) 0x36 ++ t)
def mac (k t : List UInt8) : List UInt8 := sum (over (key k) 0x5c ++ inner k t)
theorem padTo_self (l : List UInt8) (n : Nat) (h : l.length = n) : padTo l n = l := by subst h; simp [padTo]
end Go.Proofs.YtchcmklelmlbgaaGreat.Mac
namespace Go.Proofs.YtchcmklelmlbgaaGreat.Kdf
open Go.Proofs.YtchcmklelmlbgaaGreat.Mac (mac)

/-- the n-th tag; before the first one: none -/
def tag (k info : List UInt8) : Nat → List UInt8
  | 0 => []
  | n + 1 => mac k (tag k info n ++ info ++ [UInt8.ofNat (n + 1)])
/-- n tags, one behind the other -/
def tags (k info : List UInt8) : Nat → List UInt8
  | 0 => []
  | n + 1 => tags k info n ++ tag k info (n + 1)
/-- how many tags so many bytes want -/
def many (size : Nat) : Nat := (size + 31) / 32
def expand (k info : List UInt8) (size : Nat) : List UInt8 := (tags k info (many size)).take size
def prefixB : List UInt8 := [111, 117, 98, 108, 105, 101, 116, 116, 101, 32]
def infoB (label : List UInt8) : List UInt8 := [0, 32, UInt8.ofNat (prefixB ++ label).length] ++ (prefixB ++ label)
def derive (k label : List UInt8) : List UInt8 := expand k (infoB label) 32
def chain (k label : List UInt8) : Nat → List UInt8
  | 0 => k
  | n + 1 => derive (chain k label n) label
end Go.Proofs.YtchcmklelmlbgaaGreat.Kdf

/- A slice of bytes turned into a string, nil and empty ones too; a string turned into a new slice of bytes. -/
namespace Go.Proofs.YtchcmklelmlbgaaGreat
open Go.RowKit

theorem run_conv_rd {P : Program} {w : World} {B : Nat} {A : Option Addr} {l : List UInt8} (src dst e : TypeId) (n c : Nat) (hn : n = l.length) (hs : P.underlying src = some (.slice e)) (he : P.underlying e = some (.int .u8)) (hd : P.underlying dst = some .string)
    (hr : Rd w B A (l.map e8)) : (convert src dst (.slice A n c)).run P w = .ok (.string ⟨l.toArray⟩) w := by
  subst hn
  cases A with
  | none =>
    have hl : l = [] := by
      cases l with
      | nil => rfl
      | cons a l => obtain ⟨b, off, h, _⟩ := hr (by simp); cases h
    subst hl
    simp [convert, run_underlying hs, run_underlying he, run_underlying hd, go_sem]
    rfl
  | some a =>
    refine run_convert_bytes_back w src dst e a c l hs he hd fun j hj => ?_
    obtain ⟨b, off, h, _, hc⟩ := hr (by intro h; simp at h; subst h; exact absurd hj (by simp))
    injection h with h
    subst h
    rw [Addr.add_lit, hc j (by simpa using hj), List.getElem_map]
end Go.Proofs.YtchcmklelmlbgaaGreat

/- The walks of the reference's small helpers (oublietteref01). -/
namespace Go.Proofs.YtchcmklelmlbgaaGreat.R1
open Go.RowKit
set_option linter.unusedVariables false
set_option maxRecDepth 100000

theorem info8 : (Tryz.prog.info? 5).map (fun i => (i.zero, i.size, i.bytes)) = some (some (.int .u8 0), 1, 1) := by kernel_rfl
/-- are bytes the same? -/
def sameB (a b : List UInt8) : Bool := decide (a = b)
theorem sameB_self (a : List UInt8) : sameB a a = true := by simp [sameB]
theorem sameB_of {a b : List UInt8} (h : a = b) : sameB a b = true := by simp [sameB, h]
theorem sameB_len {a b : List UInt8} (h : a.length ≠ b.length) : sameB a b = false := by
  simp only [sameB, decide_eq_false_iff_not]; intro e; exact h (by rw [e])
theorem sameB_at {a b : List UInt8} {k : Nat} (ha : k < a.length) (hb : k < b.length) (h : a[k] ≠ b[k]) : sameB a b = false := by
  simp only [sameB, decide_eq_false_iff_not]; intro e; subst e; exact h rfl
theorem sameB_all {a b : List UInt8} (hl : a.length = b.length) (h : ∀ j (ha : j < a.length) (hb : j < b.length), a[j] = b[j]) : sameB a b = true :=
  sameB_of (List.ext_getElem hl h)
theorem agree_succ {l m : List UInt8} {k : Nat} (h : ∀ j (ha : j < l.length) (hb : j < m.length), j < k → l[j] = m[j]) {h1 : k < l.length} {h2 : k < m.length} (he : l[k] = m[k]) :
    ∀ j (ha : j < l.length) (hb : j < m.length), j < k + 1 → l[j] = m[j] := fun j ha hb hj => by
  rcases Nat.lt_or_ge j k with e | e
  · exact h j ha hb e
  · obtain rfl : j = k := by omega
    exact he
set_option maxHeartbeats 400000 in
theorem same_any (A B : Option Addr) (l m : List UInt8) (n o c d : Nat) (w : World) (hn : n = l.length) (ho : o = m.length) (ha : Rd w w.heap.size A (l.map e8)) (hb : Rd w w.heap.size B (m.map e8)) (hl : l.length ≤ 1000000000000) (hm : m.length ≤ 1000000000000) :
    Calls Tryz.prog 95 #[.slice A n c, .slice B o d] w fun e w' => e = .returned (.bool (sameB l m)) ∧ Below w.heap.size w w' := by
  subst hn ho
  by_cases hlen : l.length = m.length
  · have hne := bne_no (congrArg (Nat.cast : Nat → Int) hlen)
    have Hlen := Lib.hid hlen
    have hle : l.length ≤ m.length := by omega
    clear hlen
    go_enter Tryz.func95, Tryz.ntmps95
    go_wp2
    go_loopw [5] (fun i wr => ∃ k : Nat, k ≤ l.length ∧ i = .int .i64 k ∧ Hid (∀ j (ha : j < l.length) (hb : j < m.length), j < k → l[j] = m[j]) ∧ Below w.heap.size w wr) (fun i _ => l.length - (intOf i).toNat)
    case atStart => exact ⟨0, by omega, rfl, fun j _ _ h => absurd h (by omega), Below.refl _ _⟩
    case round =>
      obtain ⟨k, hk, rfl, heq, hbel⟩ := hrel
      by_cases hlt : k < l.length
      · obtain ⟨b, off, rfl, hbb, hc⟩ := (ha.below hbel).get (k := k) (by simpa using hlt)
        obtain ⟨b', off', rfl, hbb', hc'⟩ := (hb.below hbel).get (k := k) (by simp; omega)
        rw [List.getElem_map] at hc hc'
        have hlt' : k < m.length := by omega
        by_cases hx : l[k] = m[k]
        · have hx' := bne8_no hx
          have Hx := Lib.hid hx
          clear hx
          go_wp2
          go_quiet (fail)
          go_wp2
          go_roundw
          case rel => exact ⟨k + 1, by omega, by go_num, agree_succ heq.out Hx.out, by simpa using bdrew hbel _⟩
          case measure => simp [intOf]; omega
        · have hx' := bne8 hx
          have Hx := Lib.hid (sameB_at hlt hlt' hx)
          clear hx
          go_wp2
          go_quiet (fail)
          go_wp2
          go_ret
          exact ⟨ret_bool Hx.out.symm, bdrew hbel _⟩
      · have Hx := Lib.hid (sameB_all Hlen.out fun j h1 h2 => heq.out j h1 h2 (by omega))
        go_wp2
        go_ret
        exact ⟨ret_bool Hx.out.symm, hbel⟩
  · have hne := bne_yes (fun e => hlen (Int.natCast_inj.1 e))
    have Hx := Lib.hid (sameB_len hlen)
    clear hlen
    go_enter Tryz.func95, Tryz.ntmps95
    go_wp2
    go_ret
    exact ⟨ret_bool Hx.out.symm, Below.refl _ _⟩
end Go.Proofs.YtchcmklelmlbgaaGreat.R1

/- The walks of num.Pad, num.Xor, bytes.Repeat (64 times one byte), bytes.Equal, and of the reference's Pad. -/
namespace Go.Proofs.YtchcmklelmlbgaaGreat.Mac
open Go.RowKit
set_option linter.unusedVariables false
set_option maxRecDepth 100000
theorem info8 : (Tryz.prog.info? 5).map (fun i => (i.zero, i.size, i.bytes)) = some (some (.int .u8 0), 1, 1) := by kernel_rfl
theorem size8 : (Tryz.prog.info? 5).map (·.size) = some 1 := by kernel_rfl
theorem splice_get : ∀ (cs xs : List Value) (o i : Nat), o + cs.length ≤ xs.length → (splice xs o cs)[i]? = if o ≤ i ∧ i < o + cs.length then cs[i - o]? else xs[i]?
  | [], xs, o, i, _ => by
    rw [splice, if_neg (by intro h; simp at h; omega)]
  | v :: r, xs, o, i, h => by
    simp only [List.length_cons] at h
    rw [splice, splice_get r (xs.set o v) (o + 1) i (by simp; omega)]
    by_cases h1 : o + 1 ≤ i ∧ i < o + 1 + r.length
    · rw [if_pos h1, if_pos (by simp only [List.length_cons]; omega), show i - o = (i - (o + 1)) + 1 by omega, List.getElem?_cons_succ]
    · rw [if_neg h1]
      by_cases h2 : i = o
      · subst h2
        rw [if_pos (by simp only [List.length_cons]; omega), List.getElem?_set_self (by omega)]
        simp
      · rw [if_neg (by simp only [List.length_cons]; omega), List.getElem?_set_ne (by omega)]
theorem splice_front (xs cs : List Value) (h : cs.length ≤ xs.length) : splice xs 0 cs = cs ++ xs.drop cs.length := by
  apply List.ext_getElem?
  intro i
  rw [splice_get cs xs 0 i (by omega)]
  by_cases h1 : i < cs.length
  · rw [if_pos (by omega), List.getElem?_append_left h1]; simp
  · rw [if_neg (by omega), List.getElem?_append_right (by omega), List.getElem?_drop, show cs.length + (i - cs.length) = i by omega]
/-- many cells of a row of the call's own -/
theorem own_setCells {base : Nat} {e : TypeId} {size g n cap : Nat} : ∀ (cs : List Value) (o : Nat) {w : World} {xs : List Value}, w.ownsRow base e size (.slice (some ⟨g, 0, none⟩) n cap) n xs → (w.setCells g o cs).ownsRow base e size (.slice (some ⟨g, 0, none⟩) n cap) n (splice xs o cs)
  | [], _, _, _, h => h
  | v :: r, o, _, _, h => own_setCells r (o + 1) (World.ownsRow.stored h o v).1
section
variable {P : Program}
/-- the builtin copy into the front of a row of the call's own -/
theorem wpList_copyO {w : World} {ops : Array Oper} {rest : List Oper} {o : Oper} {a : Act} {Q : Exit → Act → World → Prop} (hgd : o.guard = none) (d s : Operand) (t t' : TypeId)
    (ho : o.op = .call { callee := .builtin .copy, args := #[d, s], argTypes := #[t, t'] }) {g n cap : Nat} {A : Option Addr} {sLen sCap : Nat} (hd : a.eval d = .slice (some ⟨g, 0, none⟩) n cap) (hs : a.eval s = .slice A sLen sCap)
    {e : TypeId} (hu : P.underlying t = some (.slice e)) (hi : (P.info? e).map (·.size) = some 1) {base : Nat} {xs : List Value} (hown : w.ownsRow base e 1 (.slice (some ⟨g, 0, none⟩) n cap) n xs)
    {B : Nat} {news : List Value} (hl : news.length = sLen) (hr : Rd w B A news) (h1 : ∀ v ∈ news, v.oneCell' = true)
    (h : ∀ w1 r, w1.ownsRow base e 1 (.slice (some ⟨g, 0, none⟩) n cap) n (news.take n ++ xs.drop (news.take n).length) → w.grownBy w1 (some g) → wpList P ops Q rest (a.put o.dst (.int .i64 r)) w1) : wpList P ops Q (o :: rest) a w := by
  have hxl : xs.length = n := by have := hown.1; omega
  refine wpList_plain hgd fun K hK => ?_
  by_cases h0 : Nat.min sLen n = 0
  · have hr := run_copy_none (P := P) w t t' o.type e (some ⟨g, 0, none⟩) A n cap sLen sCap hu hi h0
    unfold Oper.wp execOp
    simp only [ho, resolve, invoke, builtin, Sem.run_bind, Sem.run_pure, Result.andThen_ok, List.map_toArray, List.map_cons, List.map_nil, hd, hs, hr]
    have ht : news.take n = [] := by
      apply List.eq_nil_of_length_eq_zero
      rw [List.length_take, hl, Nat.min_comm]; exact h0
    refine hK _ _ (h _ _ ?_ ⟨rfl, rfl, rfl, Nat.le_refl _, fun _ _ _ => rfl⟩)
    rw [ht]; simpa using hown
  · have hne : news ≠ [] := by rintro rfl; simp at hl; subst hl; simp at h0
    obtain ⟨b, off, rfl, _, hc⟩ := hr hne
    have hcl : (news.take n).length = Nat.min sLen n := by rw [List.length_take, hl]; exact Nat.min_comm _ _
    have hle : (news.take n).length ≤ n := by rw [List.length_take]; omega
    have hr := run_copy_cells (P := P) w t t' o.type e g 0 n cap ⟨b, off, none⟩ sLen sCap (news.take n) hu hi hcl
      (fun j v hv => by
        obtain ⟨hj, rfl⟩ := List.getElem?_eq_some_iff.1 hv
        rw [List.length_take] at hj
        rw [Addr.add_lit, hc j (by omega), List.getElem_take])
      (fun j hj => by
        rw [Nat.zero_add, World.ownsRow.cellAt hown j (by omega), List.getElem?_eq_getElem (show j < xs.length by omega)]; simp)
      (fun j _ => by rw [Nat.zero_add]; exact World.ownsRow.frozenAt hown j) (fun v hv => h1 v (List.mem_of_mem_take hv))
    unfold Oper.wp execOp
    simp only [ho, resolve, invoke, builtin, Sem.run_bind, Sem.run_pure, Result.andThen_ok, List.map_toArray, List.map_cons, List.map_nil, hd, hs, hr]
    have := own_setCells (news.take n) 0 hown
    rw [splice_front _ _ (by omega)] at this
    exact hK _ _ (h _ _ this (setCells_grown g _ 0 w))
end
theorem padTo_cells (l : List UInt8) (s : Nat) : ((l.map e8).take s ++ (List.replicate s (.int .u8 0)).drop ((l.map e8).take s).length) = (padTo l s).map e8 := by
  unfold padTo
  rw [List.map_append, List.map_take, List.drop_replicate]
  congr 1
  rw [List.map_replicate]
  congr 1
  rw [List.length_take, List.length_map]; omega
set_option maxHeartbeats 400000 in
theorem npad_any (A : Option Addr) (l : List UInt8) (n c s : Nat) (z : Int) (hz : z = (s : Int)) (w : World) (hn : n = l.length) (h1 : 1 ≤ s) (h2 : s ≤ 65536) (hr : Rd w w.heap.size A (l.map e8)) :
    Calls Tryz.prog 123 #[.slice A n c, .int .i64 z] w fun e w' => RetB 5 w (padTo l s) e w' := by
  subst hn hz
  obtain ⟨i0, hi0, hz0, hz1, hz2⟩ := info_parts info8
  have h1' : ((s : Int) < 1) = False := by simp; omega
  have h2' : (65536 < (s : Int)) = False := by simp; omega
  go_enter Tryz.func123, Tryz.ntmps123
  go_wp2_with (first
    | ((with_reducible show wpList _ _ _ (⟨some 13, _, _, _, _, _⟩ :: _) _ _); refine wpList_makeN rfl _ _ _ rfl Tryz.underlying51 hi0 hz0 hz1 s s rfl rfl rfl rfl (Nat.le_refl _) (by rw [hz2]; omega) (by unfold maxLen; omega) ?_; intro w1 hown1 bw1 hs1)
    | ((with_reducible show wpList _ _ _ (⟨some 16, _, _, _, _, _⟩ :: _) _ _); refine wpList_copyO rfl _ _ _ _ rfl rfl rfl Tryz.underlying51 size8 hown1 (by simp) (hr.on bw1) (e8_one _) ?_; intro w2 r2 hown2 hg2)
    | fail)
  go_ret
  rw [padTo_cells] at hown2
  exact RetB.mk hown2 rfl (below_row bw1 hg2 (Nat.le_refl _) bw1.size)
set_option maxHeartbeats 400000 in
theorem equal_any (A B : Option Addr) (l m : List UInt8) (n o c d : Nat) (w : World) (hn : n = l.length) (ho : o = m.length) (hr : Rd w w.heap.size A (l.map e8)) (hs : Rd w w.heap.size B (m.map e8)) :
    Calls Tryz.prog 130 #[.slice A n c, .slice B o d] w fun e w' => e = .returned (.bool (R1.sameB l m)) ∧ w = w' := by
  subst hn ho
  have h1 := run_conv_rd (P := Tryz.prog) 51 9 5 l.length c rfl Tryz.underlying51 Tryz.underlying5 Tryz.underlying9 hr
  have h2 := run_conv_rd (P := Tryz.prog) 51 9 5 m.length d rfl Tryz.underlying51 Tryz.underlying5 Tryz.underlying9 hs
  go_enter Tryz.func130, Tryz.ntmps130
  go_wp2
  go_ret
  exact ⟨ret_bool (by unfold R1.sameB; by_cases h : l = m <;> simp [h]), rfl⟩
end Go.Proofs.YtchcmklelmlbgaaGreat.Mac

/- The walks of the package num and of the reference's numbers as bytes. -/
namespace Go.Proofs.YtchcmklelmlbgaaGreat.Num
open Go.RowKit
set_option linter.unusedVariables false
set_option maxRecDepth 100000

theorem info8 : (Tryz.prog.info? 5).map (fun i => (i.zero, i.size, i.bytes)) = some (some (.int .u8 0), 1, 1) := by kernel_rfl
/-- bytes of a size outside 1 to 8: none -/
def put (n : Nat) (size : Int) : List UInt8 := if 1 ≤ size ∧ size ≤ 8 then putL n size.toNat else []
set_option maxHeartbeats 400000 in
theorem put_any (n : UInt64) (m : Int) (hm : m = (n.toNat : Int)) (s : Nat) (z : Int) (hz : z = (s : Int)) (hs : 1 ≤ s) (hs8 : s ≤ 8) (w : World) :
    Calls Tryz.prog 108 #[.int .u64 m, .int .i64 z] w fun e w' => RetB 5 w (putL n.toNat s) e w' := by
  subst hm hz
  obtain ⟨i0, hi0, hz0, hz1, hz2⟩ := info_parts info8
  have hn0 : (0 : Int) ≤ (n.toNat : Int) := by omega
  have hn1 : (n.toNat : Int) ≤ 18446744073709551615 := by have := n.toNat_lt; omega
  go_enter Tryz.func108, Tryz.ntmps108
  go_wp2
  go_step3
  go_wp2
  go_step3
  go_wp2
  go_loopw [4, 5] (fun v i wr => ∃ k : Nat, k ≤ s ∧ i = .int .i64 ((s : Int) - 1 - (k : Int)) ∧ wr.ownsRow w.heap.size 5 1 v k (((putL n.toNat s).take k).map e8) ∧ Below w.heap.size w wr) (fun _ i _ => (intOf i + 1).toNat)
  case atStart => exact ⟨0, by omega, by go_num, by simpa using own_nil _ _ _ _, Below.refl _ _⟩
  case round =>
    obtain ⟨k, hk, rfl, hown, hbel⟩ := hrel
    by_cases hlt : k < s
    · have hcell := Lib.hid (cell_of n.toNat (8 * (s - 1 - k)))
      go_wp2_with (at_builtin; refine wpList_append_rd _ rfl _ _ _ rfl w.heap.size 5 i0 _ 1 1 Tryz.underlying51 hi0 hz0 hz1 hz2 rfl (by omega) _ k _ rfl (hown.alloc _) _ _ 1 1 [.int .u8 ((n.toNat : Int) / 2 ^ (8 * (s - 1 - k)) % 256)] rfl rfl (Rd.lit wr _ _ _ (wr.heap.size + 1) rfl (by omega)) (one_int _ _) (by simp only [maxLen]; omega) (by omega) (le_alloc hbel.size _) ?_; intro v1 w1 hown1 hg1 hat1)
      go_roundw
      case rel => exact ⟨k + 1, by omega, by go_num, by rw [putL_take _ _ _ hlt, List.map_append, List.map_singleton]; unfold e8; rw [hcell.out]; exact hown1, (hbel.alloc hbel.size _).grown hg1 (by have := hbel.size; simp; omega) (fun g hg => own_block hown hg)⟩
      case measure => simp [intOf]; omega
    · obtain rfl : k = s := by omega
      rw [List.take_of_length_le (by rw [putL_len]; omega)] at hown
      go_wp2
      rw [Exit.noGoto_ret]
      go_ret
      exact RetB.mk hown rfl hbel
theorem or_byte {n c : Nat} (hn : n < 72057594037927936) (hc : c < 256) : bits .or .u64 ((n : Int) * 256) (c : Int) = ((n * 256 + c : Nat) : Int) := by
  have h := u64_or_nat (n * 256) c (by omega) (by omega)
  have h2 : n * 256 ||| c = n * 256 + c := by
    have := Nat.shiftLeft_add_eq_or_of_lt (i := 8) (a := n) (b := c) (by omega)
    rw [Nat.shiftLeft_eq, show (2 : Nat) ^ 8 = 256 from rfl] at this
    omega
  rw [h2] at h
  rw [show ((n : Int) * 256) = ((n * 256 : Nat) : Int) by omega]
  exact h
set_option maxHeartbeats 400000 in
theorem get_any (A : Option Addr) (l : List UInt8) (n cap : Nat) (B : Nat) (w : World) (hn : n = l.length) (hr : Rd w B A (l.map e8)) (h1 : 1 ≤ l.length) (h8 : l.length ≤ 8) :
    Calls Tryz.prog 118 #[.slice A n cap] w fun e w' => e = .returned (.tuple #[.int .u64 (getN l : Int), .int .i64 0]) ∧ w = w' := by
  subst hn
  have hne := beq_no (show (l.length : Int) ≠ 0 by omega)
  go_enter Tryz.func118, Tryz.ntmps118
  go_wp2
  go_loop [2, 5, 16] (fun n _ i => ∃ k : Nat, k ≤ l.length ∧ i = .int .i64 k ∧ n = .int .u64 (getN (l.take k) : Int)) (fun _ _ i => l.length - (intOf i).toNat)
  case atStart => exact ⟨0, by omega, rfl, rfl⟩
  case round =>
    obtain ⟨k, hk, rfl, rfl⟩ := hrel
    by_cases hlt : k < l.length
    · obtain ⟨b, off, rfl, hbb, hc⟩ := hr.get (k := k) (by simpa using hlt)
      rw [List.getElem_map] at hc
      have hb := getN_7 l k hk (by omega)
      have hc0 : (0 : Int) ≤ (l[k].toNat : Int) := by omega
      have hc1 : (l[k].toNat : Int) ≤ 255 := by have := l[k].toNat_lt; omega
      have hv := Lib.hid (show bits .or .u64 ((getN (l.take k) : Int) * 256) (l[k].toNat : Int) = (getN (l.take (k + 1)) : Int) by rw [or_byte hb (by omega), getN_take hlt])
      go_wp2
      go_round
      case rel => exact ⟨k + 1, by omega, by go_num, by rw [hv.out]⟩
      case measure => simp [intOf]; omega
    · obtain rfl : k = l.length := by omega
      have ht := Lib.hid (show getN (l.take l.length) = getN l by rw [List.take_length])
      go_wp2
      go_ret2
      exact ⟨by rw [← ht.out]; rfl, rfl⟩
end Go.Proofs.YtchcmklelmlbgaaGreat.Num

/- A sector and its bytes: plain functions; nothing of the program. -/
namespace Go.Proofs.YtchcmklelmlbgaaGreat.Sec
open Go.Proofs.YtchcmklelmlbgaaGreat.Num (putL getN putL_len)
open Go.Proofs.YtchcmklelmlbgaaGreat.Mac (padTo)

structure X where
  kind : Int
  life : UInt64
  seq : Int
  gen : UInt64
  body : List UInt8
/-- may it stand at a place? -/
def rightF (p : Int) (x : X) : Int := if x.kind < 1 ∨ 5 < x.kind ∨ p < 0 ∨ 1023 < p ∨ x.seq < 0 ∨ 1073741824 < x.seq then 2 else if 479 < x.body.length then 6 else 0
theorem right_of {p : Int} {x : X} (h : rightF p x = 0) : 1 ≤ x.kind ∧ x.kind ≤ 5 ∧ 0 ≤ p ∧ p ≤ 1023 ∧ 0 ≤ x.seq ∧ x.seq ≤ 1073741824 ∧ x.body.length ≤ 479 := by
  unfold rightF at h
  split at h
  · cases h
  · split at h
    · cases h
    · omega
theorem right_2 {p : Int} {x : X} (h : x.kind < 1 ∨ 5 < x.kind ∨ p < 0 ∨ 1023 < p ∨ x.seq < 0 ∨ 1073741824 < x.seq) : rightF p x = 2 := if_pos h
theorem right_6 {p : Int} {x : X} (h : ¬ (x.kind < 1 ∨ 5 < x.kind ∨ p < 0 ∨ 1023 < p ∨ x.seq < 0 ∨ 1073741824 < x.seq)) (hb : 479 < x.body.length) : rightF p x = 6 := by unfold rightF; rw [if_neg h, if_pos hb]
theorem right_0 {p : Int} {x : X} (h : ¬ (x.kind < 1 ∨ 5 < x.kind ∨ p < 0 ∨ 1023 < p ∨ x.seq < 0 ∨ 1073741824 < x.seq)) (hb : ¬ 479 < x.body.length) : rightF p x = 0 := by unfold rightF; rw [if_neg h, if_neg hb]
def head (p : Int) (x : X) : List UInt8 := putL x.kind.toNat 1 ++ putL p.toNat 2 ++ putL x.life.toNat 8 ++ putL x.seq.toNat 4 ++ putL x.gen.toNat 8 ++ putL x.body.length 2
theorem head_len (p : Int) (x : X) : (head p x).length = 25 := by simp [head, putL_len]
/-- the first 504 bytes -/
def text (p : Int) (x : X) : List UInt8 := padTo (head p x ++ x.body) 504
theorem padTo_len (l : List UInt8) (n : Nat) : (padTo l n).length = n := by unfold padTo; simp; omega
theorem text_len (p : Int) (x : X) : (text p x).length = 504 := padTo_len _ _
def zero512 : List UInt8 := List.replicate 512 0
theorem zero512_len : zero512.length = 512 := List.length_replicate ..
def blankB (b : List UInt8) : Bool := decide (b = zero512)
/-- the bytes from a place on -/
def cut (b : List UInt8) (i n : Nat) : List UInt8 := (b.drop i).take n
def lenB (b : List UInt8) : Nat := getN (cut b 23 2)
def ofB (b : List UInt8) : X := ⟨(getN (cut b 0 1) : Int), UInt64.ofNat (getN (cut b 3 8)), (getN (cut b 11 4) : Int), UInt64.ofNat (getN (cut b 15 8)), cut b 25 (lenB b)⟩
theorem cut_len {b : List UInt8} {i n : Nat} (h : i + n ≤ b.length) : (cut b i n).length = n := by simp [cut]; omega
/-- the sector of 504 bytes -/
def reads (p : Int) (b : List UInt8) : Option X := if lenB b ≤ 479 ∧ rightF p (ofB b) = 0 ∧ text p (ofB b) = b then some (ofB b) else none
def same (x y : X) : Bool := decide (x.kind = y.kind) && decide (x.life = y.life) && decide (x.seq = y.seq) && decide (x.gen = y.gen) && decide (x.body = y.body)
theorem cut_take (b : List UInt8) (i n m : Nat) (h : i + n ≤ m) : cut (b.take m) i n = cut b i n := by
  unfold cut
  rw [List.drop_take, List.take_take, Nat.min_eq_left (by omega)]
theorem ofB_take {b : List UInt8} {m : Nat} (hm : 504 ≤ m) (h : lenB b ≤ 479) : ofB (b.take m) = ofB b := by
  have h2 : lenB (b.take m) = lenB b := by unfold lenB; rw [cut_take _ _ _ _ (by omega)]
  unfold ofB
  rw [h2, cut_take _ _ _ _ (by omega), cut_take _ _ _ _ (by omega), cut_take _ _ _ _ (by omega), cut_take _ _ _ _ (by omega), cut_take _ _ _ _ (by omega)]
theorem lenB_take {b : List UInt8} {m : Nat} (hm : 504 ≤ m) : lenB (b.take m) = lenB b := by unfold lenB; rw [cut_take _ _ _ _ (by omega)]
end Go.Proofs.YtchcmklelmlbgaaGreat.Sec

/- The walks of the library's slices at bytes. -/
namespace Go.Proofs.YtchcmklelmlbgaaGreat.Sl
open Go.RowKit
set_option linter.unusedVariables false
set_option maxRecDepth 100000

theorem info8 : (Tryz.prog.info? 5).map (fun i => (i.zero, i.size, i.bytes)) = some (some (.int .u8 0), 1, 1) := by kernel_rfl
theorem own_empty (w : World) (e : TypeId) (base : Nat) (hb : base ≤ w.heap.size) : (w.alloc (.cells #[] e)).ownsRow base e 1 (.slice (some ⟨w.heap.size, 0, none⟩) 0 0) 0 [] :=
  ⟨by simp, .inr ⟨w.heap.size, 0, #[], rfl, hb, heap_alloc_new w _, by simp, by simp [maxLen], by simp, by simp⟩⟩
set_option maxHeartbeats 400000 in
theorem clone_any (A : Option Addr) (l : List UInt8) (n c : Nat) (w : World) (hn : n = l.length) (hr : Rd w w.heap.size A (l.map e8)) (hl : l.length ≤ 1000000000000) :
    Calls Tryz.prog 57 #[.slice A n c] w fun e w' => RetB 5 w l e w' := by
  subst hn
  obtain ⟨i0, hi0, hz0, hz1, hz2⟩ := info_parts info8
  cases A with
  | none =>
    obtain rfl : l = [] := by
      cases l with
      | nil => rfl
      | cons a l => obtain ⟨b, off, h, _⟩ := hr (by simp); cases h
    have heq := Lib.run_eql_slice_nil (P := Tryz.prog) w 51 5 none 0 c 0 0 Tryz.underlying51
    go_enter Tryz.func57, Tryz.ntmps57
    go_wp2
    go_ret
    exact ⟨none, 0, rfl, own_nil _ _ _ _, Below.refl _ _⟩
  | some a =>
    have heq := Lib.run_eql_slice_nil (P := Tryz.prog) w 51 5 (some a) l.length c 0 0 Tryz.underlying51
    go_enter Tryz.func57, Tryz.ntmps57
    go_wp2_with (at_builtin; refine wpList_append_rd _ rfl _ _ _ rfl w.heap.size 5 i0 _ 1 1 Tryz.underlying51 hi0 hz0 hz1 hz2 rfl (by omega) (.slice (some ⟨w.heap.size, 0, none⟩) 0 0) 0 [] rfl (own_empty w _ _ (Nat.le_refl _)) w.heap.size (some a) l.length c (l.map e8) rfl (by simp) (hr.below (b1alloc _ _)) (e8_one _) (by simp only [maxLen]; omega) (by omega) (by simp) ?_; intro v1 w1 hown1 hg1 hat1)
    go_ret
    exact RetB.mk hown1 (by simp) ((b1alloc _ _).grown hg1 (by simp) (fun k hk => by simp [Value.ownBlock] at hk; omega))
end Go.Proofs.YtchcmklelmlbgaaGreat.Sl

/- Sums of 32 bits as plain functions on lists of bytes; nothing of the program. -/
namespace Go.Proofs.YtchcmklelmlbgaaGreat.Crc

def step (c : UInt32) : UInt32 := (c >>> 1) ^^^ (3988292384 &&& -(c &&& 1))
def steps : Nat → UInt32 → UInt32
  | 0, c => c
  | n + 1, c => step (steps n c)
def byte (c : UInt32) (x : UInt8) : UInt32 := steps 8 (c ^^^ x.toUInt32)
def run (c : UInt32) (l : List UInt8) : UInt32 := l.foldl byte c
def more (s : UInt32) (l : List UInt8) : UInt32 := run (s ^^^ 4294967295) l ^^^ 4294967295
/-- what is turned by a step is found again -/
def back (d : UInt32) : UInt32 := if 2147483648 ≤ d.toNat then ((d ^^^ 3988292384) <<< 1) ||| 1 else d <<< 1
end Go.Proofs.YtchcmklelmlbgaaGreat.Crc

/- The walks of the package crc and of the reference's sums: each returns what the plain functions say. -/
namespace Go.Proofs.YtchcmklelmlbgaaGreat.Crc
open Go.RowKit

end Go.Proofs.YtchcmklelmlbgaaGreat.Crc

/- The walks of the reference's sums (oublietteref06), and crc.Bytes. -/
namespace Go.Proofs.YtchcmklelmlbgaaGreat.Crc
open Go.RowKit
set_option linter.unusedVariables false

theorem more_zero (l : List UInt8) : more 0 l = run 4294967295 l ^^^ 4294967295 := by unfold more; rw [UInt32.zero_xor]
theorem wide (x : UInt32) : (x.toNat : Int) = ((x.toUInt64).toNat : Int) := by simp
end Go.Proofs.YtchcmklelmlbgaaGreat.Crc

/- The small walks of the package sector, and of its reference. -/
namespace Go.Proofs.YtchcmklelmlbgaaGreat.Sec
open Go.RowKit
set_option linter.unusedVariables false
set_option maxRecDepth 100000

theorem info8 : (Tryz.prog.info? 5).map (fun i => (i.zero, i.size, i.bytes)) = some (some (.int .u8 0), 1, 1) := by kernel_rfl
def xv (x : X) (A : Option Addr) (c : Nat) : Value := .agg #[.int .i64 x.kind, .int .u64 (x.life.toNat : Int), .int .i64 x.seq, .int .u64 (x.gen.toNat : Int), .slice A x.body.length c]
theorem none_any (g : Nat) (w : World) : Calls Tryz.prog 120 #[.pointer (some ⟨g, 0, none⟩)] w fun e w' => e = .returned (.bool false) ∧ w = w' := by
  go_enter Tryz.func120, Tryz.ntmps120
  go_wp2
  go_ret
  exact ⟨rfl, rfl⟩
def withinB (n l m : Int) : Bool := decide (l ≤ n) && decide (n ≤ m)
theorem within_any (n l m : Int) (w : World) : Calls Tryz.prog 131 #[.int .i64 n, .int .i64 l, .int .i64 m] w fun e w' => e = .returned (.bool (withinB n l m)) ∧ w = w' := by
  by_cases h : l ≤ n
  · have hr := Lib.hid (show withinB n l m = decide (n ≤ m) by simp [withinB, h])
    go_enter Tryz.func131, Tryz.ntmps131
    go_wp2
    go_ret
    exact ⟨ret_bool hr.out.symm, rfl⟩
  · have hr := Lib.hid (show withinB n l m = false by simp [withinB, h])
    go_enter Tryz.func131, Tryz.ntmps131
    go_wp2
    go_ret
    exact ⟨ret_bool hr.out.symm, rfl⟩
set_option maxHeartbeats 1000000 in
theorem right_any (p : Int) (x : X) (A : Option Addr) (c : Nat) (w : World) :
    Calls Tryz.prog 121 #[.int .i64 p, .agg #[.int .i64 x.kind, .int .u64 (x.life.toNat : Int), .int .i64 x.seq, .int .u64 (x.gen.toNat : Int), .slice A x.body.length c]] w fun e w' => e = .returned (.int .i64 (rightF p x)) ∧ Below w.heap.size w w' := by
  have hmf : ∀ w : World, Sem.run Tryz.prog (callFunc 131 #[]) w = .ok (.enter 131 #[]) w := by intro w; simp [go_sem]
  by_cases h1 : x.kind < 1 ∨ 5 < x.kind
  · have hr := Lib.hid (show rightF p x = 2 from right_2 (by omega))
    have hb := Lib.hid (show withinB x.kind 1 5 = false by unfold withinB; simp; omega)
    clear h1
    go_enter Tryz.func121, Tryz.ntmps121
    go_wp2_with (go_at_call 131; refine (within_any _ _ _ _).mono ?_; rintro e w1 ⟨rfl, rfl⟩; try rw [hb.out])
    go_ret
    exact ⟨ret_int hr.out.symm, below_lit _ _⟩
  have hb := Lib.hid (show withinB x.kind 1 5 = true by unfold withinB; simp; omega)
  by_cases h2 : p < 0 ∨ 1023 < p
  · have hr := Lib.hid (show rightF p x = 2 from right_2 (by omega))
    have hb2 := Lib.hid (show withinB p 0 1023 = false by unfold withinB; simp; omega)
    clear h1 h2
    go_enter Tryz.func121, Tryz.ntmps121
    go_wp2_with (go_at_call 131; refine (within_any _ _ _ _).mono ?_; rintro e w1 ⟨rfl, rfl⟩; first | rw [hb.out] | rw [hb2.out])
    go_ret
    exact ⟨ret_int hr.out.symm, below_lit _ _⟩
  have hb2 := Lib.hid (show withinB p 0 1023 = true by unfold withinB; simp; omega)
  by_cases h3 : x.seq < 0 ∨ 1073741824 < x.seq
  · have hr := Lib.hid (show rightF p x = 2 from right_2 (by omega))
    have hb3 := Lib.hid (show withinB x.seq 0 1073741824 = false by unfold withinB; simp; omega)
    clear h1 h2 h3
    go_enter Tryz.func121, Tryz.ntmps121
    go_wp2_with (go_at_call 131; refine (within_any _ _ _ _).mono ?_; rintro e w1 ⟨rfl, rfl⟩; first | rw [hb.out] | rw [hb2.out] | rw [hb3.out])
    go_ret
    exact ⟨ret_int hr.out.symm, below_lit _ _⟩
  have hb3 := Lib.hid (show withinB x.seq 0 1073741824 = true by unfold withinB; simp; omega)
  by_cases h4 : 479 < x.body.length
  · have hr := Lib.hid (show rightF p x = 6 from right_6 (by omega) h4)
    clear h1 h2 h3
    go_enter Tryz.func121, Tryz.ntmps121
    go_wp2_with (go_at_call 131; refine (within_any _ _ _ _).mono ?_; rintro e w1 ⟨rfl, rfl⟩; first | rw [hb.out] | rw [hb2.out] | rw [hb3.out])
    go_ret
    exact ⟨ret_int hr.out.symm, below_lit _ _⟩
  have hr := Lib.hid (show rightF p x = 0 from right_0 (by omega) h4)
  clear h1 h2 h3
  go_enter Tryz.func121, Tryz.ntmps121
  go_wp2_with (go_at_call 131; refine (within_any _ _ _ _).mono ?_; rintro e w1 ⟨rfl, rfl⟩; first | rw [hb.out] | rw [hb2.out] | rw [hb3.out])
  go_ret
  exact ⟨ret_int hr.out.symm, below_lit _ _⟩
theorem nsame_any (A B : Option Addr) (l m : List UInt8) (n o c d : Nat) (w : World) (hn : n = l.length) (ho : o = m.length) (hr : Rd w w.heap.size A (l.map e8)) (hs : Rd w w.heap.size B (m.map e8)) :
    Calls Tryz.prog 113 #[.slice A n c, .slice B o d] w fun e w' => e = .returned (.bool (R1.sameB l m)) ∧ w = w' := by
  subst hn ho
  go_enter Tryz.func113, Tryz.ntmps113
  go_wp2_with (go_at_call 130; refine (Mac.equal_any _ _ _ _ _ _ _ _ _ rfl rfl hr hs).mono ?_; rintro e w' ⟨rfl, rfl⟩)
  go_ret
  exact ⟨rfl, rfl⟩
theorem blank_any (w : World) : Calls Tryz.prog 74 #[] w (RetB 5 w zero512) := by
  obtain ⟨i0, hi0, hz0, hz1, hz2⟩ := info_parts info8
  go_enter Tryz.func74, Tryz.ntmps74
  go_wp2_with ((with_reducible show wpList _ _ _ (⟨some 1, _, _, _, _, _⟩ :: _) _ _); refine wpList_make_full _ rfl _ _ _ rfl w.heap.size 5 i0 _ 1 Tryz.underlying51 hi0 hz0 hz1 _ _ _ _ 512 rfl rfl rfl rfl (by rw [hz2]; omega) (by simp only [maxLen]; omega) (Nat.le_refl _) ?_; intro w1 own1 hg1)
  rw [made_int] at own1
  go_ret
  exact RetB.mk own1 (by rw [zero512, List.map_replicate]; rfl) ((Below.refl _ _).grown hg1 (Nat.le_refl _) (by simp))
theorem isBlank_any (A : Option Addr) (l : List UInt8) (n c : Nat) (w : World) (hn : n = l.length) (hr : Rd w w.heap.size A (l.map e8)) :
    Calls Tryz.prog 127 #[.slice A n c] w fun e w' => e = .returned (.bool (blankB l)) ∧ Below w.heap.size w w' := by
  subst hn
  go_enter Tryz.func127, Tryz.ntmps127
  go_wp2_with fail
  refine (blank_any _).mono ?_
  rintro e w1 ⟨A1, c1, rfl, own1, b1⟩
  go_wp2_with fail
  refine (Mac.equal_any _ _ l zero512 _ _ _ _ _ rfl rfl (hr.on b1) (Rd.own own1)).mono ?_
  rintro e w2 ⟨rfl, rfl⟩
  go_wp2
  go_ret
  exact ⟨rfl, b1⟩
end Go.Proofs.YtchcmklelmlbgaaGreat.Sec

/- How a sector (a struct of five fields, one of them a slice of bytes) comes in as an argument. -/
namespace Go.Proofs.YtchcmklelmlbgaaGreat
open Go.ChangeShapes Go.WideShapes Go.ChangeAt Go.RowKit Go.Joins Go.Deep
set_option maxRecDepth 100000
set_option linter.unusedVariables false
end Go.Proofs.YtchcmklelmlbgaaGreat

/- Rows of sectors ([]Sector): how they read, and how they come in as an argument. -/
namespace Go.Proofs.YtchcmklelmlbgaaGreat
open Go.RowKit
set_option linter.unusedVariables false
/-- a sector in five cells -/
structure SecAt (w : World) (B b o : Nat) (x : Sec.X) (Ai : Option Addr) (ci : Nat) : Prop where
  c0 : w.cell? ⟨b, o, none⟩ = some (.int .i64 x.kind)
  c1 : w.cell? ⟨b, o + 1, none⟩ = some (.int .u64 (x.life.toNat : Int))
  c2 : w.cell? ⟨b, o + 2, none⟩ = some (.int .i64 x.seq)
  c3 : w.cell? ⟨b, o + 3, none⟩ = some (.int .u64 (x.gen.toNat : Int))
  c4 : w.cell? ⟨b, o + 4, none⟩ = some (.slice Ai x.body.length ci)
  rd : Rd w B Ai (x.body.map e8)
  cap : x.body.length ≤ ci
  max : ci ≤ maxLen
/-- a slice of sectors -/
def Secs (w : World) (B : Nat) (A : Option Addr) (l : List Sec.X) : Prop :=
  l ≠ [] → ∃ b off, A = some ⟨b, off, none⟩ ∧ b < B ∧ ∀ i (h : i < l.length), ∃ Ai ci, SecAt w B b (off + i * 5) l[i] Ai ci
theorem Secs.get {w : World} {B : Nat} {A : Option Addr} {l : List Sec.X} (h : Secs w B A l) {i : Nat} (hi : i < l.length) :
    ∃ b off Ai ci, A = some ⟨b, off, none⟩ ∧ b < B ∧ SecAt w B b (off + i * 5) l[i] Ai ci := by
  obtain ⟨b, off, rfl, hb, hc⟩ := h (by intro e; rw [e] at hi; exact absurd hi (by simp))
  obtain ⟨Ai, ci, h1⟩ := hc i hi
  exact ⟨b, off, Ai, ci, rfl, hb, h1⟩
theorem SecAt.below {w w' : World} {B b o : Nat} {x : Sec.X} {Ai : Option Addr} {ci : Nat} (h : SecAt w B b o x Ai ci) (hb : Below B w w') (hlt : b < B) : SecAt w' B b o x Ai ci :=
  ⟨(hb.cell (p := ⟨b, _, none⟩) hlt).trans h.c0, (hb.cell (p := ⟨b, _, none⟩) hlt).trans h.c1, (hb.cell (p := ⟨b, _, none⟩) hlt).trans h.c2, (hb.cell (p := ⟨b, _, none⟩) hlt).trans h.c3, (hb.cell (p := ⟨b, _, none⟩) hlt).trans h.c4, h.rd.below hb, h.cap, h.max⟩
theorem Secs.below {w w' : World} {B : Nat} {A : Option Addr} {l : List Sec.X} (h : Secs w B A l) (hb : Below B w w') : Secs w' B A l := by
  intro hne
  obtain ⟨b, off, rfl, hlt, hc⟩ := h hne
  refine ⟨b, off, rfl, hlt, fun i hi => ?_⟩
  obtain ⟨Ai, ci, h1⟩ := hc i hi
  exact ⟨Ai, ci, h1.below hb hlt⟩
open Go.ChangeShapes Go.WideShapes Go.ChangeAt Go.Joins Go.Deep
set_option maxRecDepth 100000
end Go.Proofs.YtchcmklelmlbgaaGreat

/- Great arrays and structs by value, and rows of such: what lies where, and the operations that make, load and store them whole. -/
namespace Go.Proofs.YtchcmklelmlbgaaGreat
open Go.RowKit
set_option linter.unusedVariables false

theorem fill_set (off : Nat) (v : Value) (cells : Array Value) (h : off + v.cells.size ≤ cells.size) :
    (v.cells.zipIdx.foldl (fun cs (c, j) => cs.setIfInBounds (off + j) c) cells).toList = cells.toList.take off ++ v.cells.toList ++ cells.toList.drop (off + v.cells.size) := by
  have h0 : v.cells.zipIdx.foldl (fun cs (c, j) => cs.setIfInBounds (off + j) c) cells = (v.cells.toList.zipIdx 0).foldl (fun cs (x : Value × Nat) => cs.setIfInBounds (off + x.2) x.1) cells := by
    rw [← Array.foldl_toList, Array.toList_zipIdx]
  rw [h0]
  obtain ⟨h1, h2⟩ := Great.foldl_set off v.cells.toList 0 cells
  apply List.ext_getElem?
  intro k
  rw [Array.getElem?_toList, h2 k]
  simp only [Nat.add_zero, Array.length_toList]
  by_cases ha : k < off
  · rw [if_neg (by omega), List.append_assoc, List.getElem?_append_left (by simp; omega), List.getElem?_take_of_lt ha, Array.getElem?_toList]
  · by_cases hb : k < off + v.cells.size
    · rw [if_pos ⟨by omega, by omega, by omega⟩, List.append_assoc, List.getElem?_append_right (by simp; omega), List.getElem?_append_left (by simp; omega)]
      simp only [List.length_take, Array.length_toList, Nat.min_eq_left (show off ≤ cells.size by omega)]
    · rw [if_neg (by omega), List.getElem?_append_right (by simp; omega), List.getElem?_drop]
      simp only [List.length_append, List.length_take, Array.length_toList, Nat.min_eq_left (show off ≤ cells.size by omega), Array.getElem?_toList]
      congr 1
      omega
theorem fill_one (place : Nat → Option (Nat × Nat)) (cells : Array Value) (v : Value) (h0 : place 0 = some (0, v.cells.size)) (hs : cells.size = v.cells.size) : Instr.fill place cells [(0, v)] = some v.cells := by
  unfold Instr.fill
  simp only [h0]
  rw [if_neg (by simp; omega)]
  unfold Instr.fill
  congr 1
  apply Array.toList_inj.1
  rw [fill_set 0 v cells (by omega)]
  simp [hs]
theorem fill_two (place : Nat → Option (Nat × Nat)) (cells : Array Value) (v0 v1 : Value) (h0 : place 0 = some (0, v0.cells.size)) (h1 : place 1 = some (v0.cells.size, v1.cells.size)) (hs : cells.size = v0.cells.size + v1.cells.size) :
    Instr.fill place cells [(0, v0), (1, v1)] = some (v0.cells ++ v1.cells) := by
  unfold Instr.fill
  simp only [h0]
  rw [if_neg (by simp; omega)]
  unfold Instr.fill
  simp only [h1]
  have hz : (v0.cells.zipIdx.foldl (fun cs (c, j) => cs.setIfInBounds (0 + j) c) cells).size = cells.size := by
    have := congrArg List.length (fill_set 0 v0 cells (by omega))
    simp only [Array.length_toList, List.length_append, List.length_take, List.length_drop] at this
    rw [this]; omega
  rw [if_neg (by rw [hz]; simp; omega)]
  unfold Instr.fill
  congr 1
  apply Array.toList_inj.1
  rw [fill_set v0.cells.size v1 _ (by rw [hz]; omega), fill_set 0 v0 cells (by omega)]
  simp only [List.take_zero, List.nil_append, Nat.zero_add, Array.toList_append]
  rw [List.take_append_of_le_length (by simp), List.take_of_length_le (by simp), List.drop_of_length_le (by simp; omega), List.append_nil]
/-! rows of great elements -/
theorem flat_len {α β : Type} (f : α → List β) (m : Nat) : ∀ (l : List α), (∀ x ∈ l, (f x).length = m) → (l.flatMap f).length = l.length * m
  | [], _ => by simp
  | x :: l, h => by
    rw [List.flatMap_cons, List.length_append, h x (by simp), flat_len f m l (fun y hy => h y (by simp [hy])), List.length_cons, Nat.succ_mul]; omega
theorem flat_at {α β : Type} (f : α → List β) (m : Nat) : ∀ (l : List α), (∀ x ∈ l, (f x).length = m) → ∀ (i j : Nat) (hi : i < l.length), j < m → (l.flatMap f)[i * m + j]? = (f l[i])[j]?
  | [], _, i, j, hi, _ => absurd hi (by simp)
  | x :: l, h, 0, j, hi, hj => by
    rw [List.flatMap_cons, Nat.zero_mul, Nat.zero_add, List.getElem?_append_left (by rw [h x (by simp)]; exact hj)]; rfl
  | x :: l, h, i + 1, j, hi, hj => by
    rw [List.flatMap_cons, List.getElem?_append_right (by rw [h x (by simp), Nat.succ_mul]; omega), h x (by simp), Nat.succ_mul, show i * m + m + j - m = i * m + j by omega,
      flat_at f m l (fun y hy => h y (by simp [hy])) i j (by simpa using hi) hj]
    rfl
theorem splice_get : ∀ (ys xs : List Value) (o k : Nat), o + ys.length ≤ xs.length → (splice xs o ys)[k]? = if o ≤ k ∧ k < o + ys.length then ys[k - o]? else xs[k]?
  | [], xs, o, k, h => by rw [if_neg (by simp)]; rfl
  | y :: ys, xs, o, k, h => by
    show (splice (xs.set o y) (o + 1) ys)[k]? = _
    rw [List.length_cons] at h
    rw [splice_get ys _ (o + 1) k (by rw [List.length_set]; omega)]
    by_cases e : k = o
    · subst e
      rw [if_neg (by omega), if_pos (by simp), Nat.sub_self, List.getElem?_set_self (by omega)]; rfl
    · rw [List.getElem?_set_ne (Ne.symm e)]
      by_cases hk : o + 1 ≤ k ∧ k < o + 1 + ys.length
      · rw [if_pos hk, if_pos (by rw [List.length_cons]; omega), show k - o = (k - (o + 1)) + 1 by omega, List.getElem?_cons_succ]
      · rw [if_neg hk, if_neg (by rw [List.length_cons]; omega)]
/-- one great element of a row is set -/
theorem splice_flat {α : Type} (f g : α → List Value) (m : Nat) (l : List α) (hf : ∀ x ∈ l, (f x).length = m) (hg : ∀ x ∈ l, (g x).length = m) (i : Nat) (hi : i < l.length) (ys : List Value) (hy : ys.length = m) (he : g l[i] = ys) (ho : ∀ k (hk : k < l.length), k ≠ i → g l[k] = f l[k]) :
    splice (l.flatMap f) (i * m) ys = l.flatMap g := by
  have hle : i * m + m ≤ l.length * m := by rw [← Nat.succ_mul]; exact Nat.mul_le_mul_right _ hi
  have hlf := flat_len f m l hf
  have hlg := flat_len g m l hg
  apply List.ext_getElem?
  intro k
  rw [splice_get _ _ _ _ (by rw [hlf, hy]; exact hle)]
  by_cases hk : k < l.length * m
  · have hm : 0 < m := Nat.pos_of_ne_zero (fun e => by subst e; simp at hk)
    have hq : k / m < l.length := (Nat.div_lt_iff_lt_mul hm).2 hk
    have hr : k % m < m := Nat.mod_lt _ hm
    have hkd : k = k / m * m + k % m := by rw [Nat.mul_comm]; exact (Nat.div_add_mod k m).symm
    generalize k / m = q at hq hkd
    generalize k % m = r at hr hkd
    subst hkd
    rw [flat_at g m l hg q r hq hr]
    by_cases e : q = i
    · subst e
      rw [if_pos ⟨by omega, by rw [hy]; omega⟩, he]
      congr 1
      omega
    · rw [if_neg (by
        rw [hy]
        rintro ⟨h1, h2⟩
        rcases Nat.lt_or_gt_of_ne e with h | h
        · have : (q + 1) * m ≤ i * m := Nat.mul_le_mul_right _ h
          rw [Nat.succ_mul] at this; omega
        · have : (i + 1) * m ≤ q * m := Nat.mul_le_mul_right _ h
          rw [Nat.succ_mul] at this; omega), flat_at f m l hf q r hq hr, ho q hq e]
  · rw [if_neg (by rw [hy]; omega), List.getElem?_eq_none (by rw [hlf]; omega), List.getElem?_eq_none (by rw [hlg]; omega)]
/-! what is owned, by parts -/
theorem own_range {w : World} {base : Nat} {e : TypeId} {size n g c : Nat} {xs ys : List Value} {o : Nat} (h : w.ownsRow base e size (.slice (some ⟨g, 0, none⟩) n c) n xs) (hy : ∀ j, j < ys.length → xs[o + j]? = ys[j]?) : w.rangeAt g o ys := fun j v hv => by
  have hj := (List.getElem?_eq_some_iff.1 hv).1
  have h1 := hy j hj
  rw [hv] at h1
  have hk := (List.getElem?_eq_some_iff.1 h1).1
  rw [World.ownsRow.cellAt h (o + j) (by have := h.1; omega)]
  exact h1
end Go.Proofs.YtchcmklelmlbgaaGreat

/- A disk: what is kept, what is pending, when its power goes: plain functions; nothing of the program. -/
namespace Go.Proofs.YtchcmklelmlbgaaGreat.Disk

/-- a write: where, and what -/
abbrev Wr := Nat × List UInt8
/-- a disk: how many sectors, what is pending, all that came to be kept, the fuse, the calls, whether the power is gone -/
structure St where
  size : Nat
  pend : List Wr
  all : List Wr
  fuse : Int
  calls : Nat
  down : Bool
def zero512 : List UInt8 := List.replicate 512 0
theorem zero512_len : zero512.length = 512 := List.length_replicate ..
/-- what is kept at a place, behind all that came to be kept -/
def kept (l : List Wr) (p : Nat) : List UInt8 := l.foldl (fun o w => if w.1 = p then w.2 else o) zero512
theorem kept_nil (p : Nat) : kept [] p = zero512 := rfl
theorem kept_snoc (l : List Wr) (w : Wr) (p : Nat) : kept (l ++ [w]) p = if w.1 = p then w.2 else kept l p := by simp [kept]
theorem fold_none (p : Nat) : ∀ (m : List Wr) (z : List UInt8), (∀ w ∈ m, w.1 ≠ p) → m.foldl (fun o w => if w.1 = p then w.2 else o) z = z
  | [], z, _ => rfl
  | w :: m, z, h => by rw [List.foldl_cons, if_neg (h w (by simp)), fold_none p m z (fun x hx => h x (by simp [hx]))]
theorem kept_append (l m : List Wr) (p : Nat) (h : ∀ w ∈ m, w.1 ≠ p) : kept (l ++ m) p = kept l p := by
  unfold kept; rw [List.foldl_append, fold_none p m _ h]
def new (n : Nat) : St := ⟨n, [], [], -1, 0, false⟩
/-- a turning call: is the power still there? -/
def burn (s : St) : St × Int :=
  if s.fuse = 0 then ({ s with calls := s.calls + 1, down := true }, 12)
  else if 0 < s.fuse then ({ s with calls := s.calls + 1, fuse := s.fuse - 1 }, 0)
  else ({ s with calls := s.calls + 1 }, 0)
def write (s : St) (p : Int) (b : List UInt8) : St × Int :=
  if s.down = true then (s, 12) else if p < 0 ∨ (s.size : Int) ≤ p then (s, 2) else if b.length ≠ 512 then (s, 4)
  else burn { s with pend := s.pend ++ [(p.toNat, b)] }
def flush (s : St) : St × Int :=
  if s.down = true then (s, 12) else if (burn s).2 = 0 then ({ (burn s).1 with all := s.all ++ s.pend, pend := [] }, 0) else burn s
def read (s : St) (p : Int) : List UInt8 × Int :=
  if s.down = true then ([], 12) else if p < 0 ∨ (s.size : Int) ≤ p then ([], 2) else (kept (s.all ++ s.pend) p.toNat, 0)
def keptAt (s : St) (p : Int) : List UInt8 := if p < 0 ∨ (s.size : Int) ≤ p then [] else kept s.all p.toNat
def arm (s : St) (f : Int) : St := { s with fuse := max f (-1) }
/-- where a torn write is torn -/
def cutAt (a : Int) : Nat := (a % 513).toNat
/-- is the i-th pending write kept whole? -/
def whole (keep : List Int) (i : Nat) : Bool := decide (0 < keep.length) && decide (keep.getD (i % keep.length) 0 % 2 = 1)
/-- what comes of the i-th pending write -/
def fate (keep : List Int) (torn a : Int) (i : Nat) (w : Wr) (all : List Wr) : List Wr :=
  if (i : Int) = torn then all ++ [(w.1, w.2.take (cutAt a) ++ (kept all w.1).drop (cutAt a))] else if whole keep i = true then all ++ [w] else all
def fates (keep : List Int) (torn a : Int) : Nat → List Wr → List Wr → List Wr
  | _, [], all => all
  | i, w :: r, all => fates keep torn a (i + 1) r (fate keep torn a i w all)
def restart (s : St) (keep : List Int) (torn a : Int) : St := { s with all := fates keep torn a 0 s.pend s.all, pend := [], down := false, fuse := -1 }
def put (s : St) (p : Int) (b : List UInt8) : St × Int :=
  if p < 0 ∨ (s.size : Int) ≤ p then (s, 2) else if b.length ≠ 512 then (s, 4) else ({ s with all := s.all ++ [(p.toNat, b)] }, 0)
/-! what a disk always is -/
def okW (n : Nat) (w : Wr) : Prop := w.1 < n ∧ w.2.length = 512
structure ok (s : St) : Prop where
  size : 1 ≤ s.size ∧ s.size ≤ 1024
  pend : ∀ w ∈ s.pend, okW s.size w
  all : ∀ w ∈ s.all, okW s.size w
  fuse : -1 ≤ s.fuse ∧ s.fuse ≤ 9223372036854775807
theorem fold_len (p : Nat) : ∀ (l : List Wr) (z : List UInt8), z.length = 512 → (∀ w ∈ l, w.2.length = 512) → (l.foldl (fun o w => if w.1 = p then w.2 else o) z).length = 512
  | [], z, hz, _ => hz
  | w :: l, z, hz, h => by
    rw [List.foldl_cons]
    refine fold_len p l _ ?_ (fun x hx => h x (by simp [hx]))
    split
    · exact h w (by simp)
    · exact hz
theorem kept_len {l : List Wr} {n : Nat} (h : ∀ w ∈ l, okW n w) (p : Nat) : (kept l p).length = 512 := fold_len p l _ zero512_len (fun w hw => (h w hw).2)
theorem ok_new {n : Nat} (h1 : 1 ≤ n) (h2 : n ≤ 1024) : ok (new n) := ⟨⟨h1, h2⟩, (by intro w hw; cases hw), (by intro w hw; cases hw), by unfold new; constructor <;> simp only [] <;> omega⟩
theorem ok_burn {s : St} (h : ok s) : ok (burn s).1 := by
  have hf := h.fuse
  unfold burn
  split
  · exact ⟨h.size, h.pend, h.all, hf⟩
  · split
    · exact ⟨h.size, h.pend, h.all, by constructor <;> (simp only []; omega)⟩
    · exact ⟨h.size, h.pend, h.all, hf⟩
theorem burn_lists (s : St) : (burn s).1.pend = s.pend ∧ (burn s).1.all = s.all ∧ (burn s).1.size = s.size := by
  unfold burn
  split
  · exact ⟨rfl, rfl, rfl⟩
  · split <;> exact ⟨rfl, rfl, rfl⟩
theorem burn_calls (s : St) : (burn s).1.calls = s.calls + 1 := by
  unfold burn
  split
  · rfl
  · split <;> rfl
/-! how much there is -/
def St.sz (s : St) : Nat := s.pend.length + s.all.length + s.calls
theorem sz_burn (s : St) : (burn s).1.sz = s.sz + 1 := by
  unfold St.sz
  rw [burn_calls, (burn_lists s).1, (burn_lists s).2.1]; omega
theorem sz_write (s : St) (p : Int) (b : List UInt8) : (write s p b).1.sz ≤ s.sz + 2 := by
  unfold write
  split
  · exact Nat.le_add_right _ _
  · split
    · exact Nat.le_add_right _ _
    · split
      · exact Nat.le_add_right _ _
      · rw [sz_burn]; unfold St.sz; simp only [List.length_append, List.length_singleton]; omega
theorem sz_flush (s : St) : (flush s).1.sz ≤ s.sz + 1 := by
  unfold flush
  split
  · exact Nat.le_add_right _ _
  · split
    · have := burn_calls s
      unfold St.sz; simp only [List.length_append, List.length_nil]; omega
    · rw [sz_burn]; exact Nat.le_refl _
theorem sz_put (s : St) (p : Int) (b : List UInt8) : (put s p b).1.sz ≤ s.sz + 1 := by
  unfold put
  split
  · exact Nat.le_add_right _ _
  · split
    · exact Nat.le_add_right _ _
    · unfold St.sz; simp only [List.length_append, List.length_singleton]; omega
end Go.Proofs.YtchcmklelmlbgaaGreat.Disk

/- A disk in memory; the walks of its small methods. -/
namespace Go.Proofs.YtchcmklelmlbgaaGreat.Disk
open Go.RowKit
set_option linter.unusedVariables false
set_option maxRecDepth 100000

/-- a block of a type that holds just these cells -/
def BlkT (w : World) (b : Nat) (t : TypeId) (xs : List Value) : Prop := w.heap[b]? = some (.cells xs.toArray t (0, 0))
theorem keep_set (w : World) (g o : Nat) (u : Value) : Keep [g] w (w.setCell ⟨g, o, none⟩ u) := (Keep.refl _ _).set (.inl (by simp)) _
def wcells (x : Wr) : List Value := .int .i64 (x.1 : Int) :: x.2.map e8
def kcells (n : Nat) (all : List Wr) : List Value := (List.range n).flatMap fun p => (kept all p).map e8
def pcells (l : List Wr) : List Value := l.flatMap wcells
/-- what came to be kept is told: its place, and a slice of a block with its bytes -/
def Told (w : World) (fp : List Nat) (vk : Value) (l : List Wr) (acs : List Value) : Prop :=
  ∀ i (h : i < l.length), ∃ b c, acs[i * 2]? = some (.int .i64 (l[i].1 : Int)) ∧ acs[i * 2 + 1]? = some (.slice (some ⟨b, 0, none⟩) 512 c) ∧ BlkT w b 113 (l[i].2.map e8) ∧ b ∈ fp ∧ vk.ownBlock ≠ some b ∧ 512 ≤ c ∧ c ≤ maxLen
/-- a disk lies at block g, in the blocks fp -/
structure Lies (w : World) (g : Nat) (fp : List Nat) (s : St) (vk vp va : Value) (acs : List Value) : Prop where
  blk : w.heap[g]? = some (.cells #[vk, vp, va, .int .i64 s.fuse, .int .i64 (s.calls : Int), .bool s.down] 78 (0, 0))
  kept : w.ownsRow 0 113 512 vk s.size (kcells s.size s.all)
  pend : w.ownsRow 0 115 513 vp s.pend.length (pcells s.pend)
  all : w.ownsRow 0 161 2 va s.all.length acs
  told : Told w fp vk s.all acs
  inG : g ∈ fp
  inK : ∀ j, vk.ownBlock = some j → j ∈ fp
  inP : ∀ j, vp.ownBlock = some j → j ∈ fp
  inA : ∀ j, va.ownBlock = some j → j ∈ fp
  lt : ∀ j ∈ fp, j < w.heap.size
  ok : ok s
def DAt (w : World) (g : Nat) (fp : List Nat) (s : St) : Prop := ∃ vk vp va acs, Lies w g fp s vk vp va acs
theorem own_type {w : World} {base : Nat} {e t : TypeId} {size n g : Nat} {v : Value} {xs : List Value} {cs : Array Value} {fr : Nat × Nat} (h : w.ownsRow base e size v n xs) (hg : w.heap[g]? = some (.cells cs t fr)) (hne : e ≠ t) : v.ownBlock ≠ some g := by
  rcases h.2 with ⟨rfl, _⟩ | ⟨k, cap, cur, rfl, _, hh, _⟩
  · simp [Value.ownBlock]
  · intro e2
    have : k = g := by simpa [Value.ownBlock] using e2
    subst this
    rw [hg] at hh
    injection hh with hh
    injection hh with h1 h2 h3
    exact hne h2.symm
theorem six {w : World} {g : Nat} {v0 v1 v2 v3 v4 v5 : Value} {t : TypeId} (h : w.heap[g]? = some (.cells #[v0, v1, v2, v3, v4, v5] t (0, 0))) :
    w.cell? ⟨g, 0, none⟩ = some v0 ∧ w.cell? ⟨g, 1, none⟩ = some v1 ∧ w.cell? ⟨g, 2, none⟩ = some v2 ∧ w.cell? ⟨g, 3, none⟩ = some v3 ∧ w.cell? ⟨g, 4, none⟩ = some v4 ∧ w.cell? ⟨g, 5, none⟩ = some v5 ∧ ∀ o, w.frozen? ⟨g, o, none⟩ = false := by
  refine ⟨?_, ?_, ?_, ?_, ?_, ?_, ?_⟩ <;> simp [World.cell?, World.frozen?, h]
theorem Lies.keep {w w' : World} {g : Nat} {fp fp' : List Nat} {s : St} {vk vp va : Value} {acs : List Value} (h : Lies w g fp s vk vp va acs) (k : Keep fp' w w') (hd : ∀ j ∈ fp, j ∉ fp') : Lies w' g fp s vk vp va acs :=
  ⟨(k.block (h.lt g h.inG) (hd g h.inG)).trans h.blk, own_keep h.kept k (fun j hj => hd j (h.inK j hj)), own_keep h.pend k (fun j hj => hd j (h.inP j hj)), own_keep h.all k (fun j hj => hd j (h.inA j hj)),
    fun i hi => by
      obtain ⟨b, c, h1, h2, h3, h4, h5⟩ := h.told i hi
      exact ⟨b, c, h1, h2, (k.block (h.lt b h4) (hd b h4)).trans h3, h4, h5⟩,
    h.inG, h.inK, h.inP, h.inA, fun j hj => Nat.lt_of_lt_of_le (h.lt j hj) k.size, h.ok⟩
theorem Lies.on {w w' : World} {g : Nat} {fp : List Nat} {s : St} {vk vp va : Value} {acs : List Value} (h : Lies w g fp s vk vp va acs) (b : Below w.heap.size w w') : Lies w' g fp s vk vp va acs := h.keep (Keep.of_below b []) (fun _ _ => by simp)
/-- the block of the numbers is turned -/
theorem Lies.turn {w w' : World} {g : Nat} {fp : List Nat} {s s' : St} {vk vp va : Value} {acs : List Value} (h : Lies w g fp s vk vp va acs) (k : Keep [g] w w')
    (hb : w'.heap[g]? = some (.cells #[vk, vp, va, .int .i64 s'.fuse, .int .i64 (s'.calls : Int), .bool s'.down] 78 (0, 0))) (h1 : s'.size = s.size) (h2 : s'.pend = s.pend) (h3 : s'.all = s.all) (h4 : Disk.ok s') : Lies w' g fp s' vk vp va acs := by
  have hK := own_type h.kept h.blk (by decide)
  have hP := own_type h.pend h.blk (by decide)
  have hA := own_type h.all h.blk (by decide)
  refine ⟨hb, ?_, ?_, ?_, ?_, h.inG, h.inK, h.inP, h.inA, fun j hj => Nat.lt_of_lt_of_le (h.lt j hj) k.size, h4⟩
  · rw [h1, h3]; exact own_keep h.kept k (fun j hj e => by rw [List.mem_singleton] at e; subst e; exact hK hj)
  · rw [h2]; exact own_keep h.pend k (fun j hj e => by rw [List.mem_singleton] at e; subst e; exact hP hj)
  · rw [h3]; exact own_keep h.all k (fun j hj e => by rw [List.mem_singleton] at e; subst e; exact hA hj)
  · rw [h3]
    intro i hi
    obtain ⟨b, c, h1, h2, h3, h4, h5⟩ := h.told i hi
    refine ⟨b, c, h1, h2, (k.block (h.lt b h4) ?_).trans h3, h4, h5⟩
    intro e
    rw [List.mem_singleton] at e
    subst e
    have := h.blk
    unfold BlkT at h3
    rw [h3] at this
    injection this with this
    injection this with e1 e2 e3
    exact absurd e2 (by decide)
theorem DAt.on {w w' : World} {g : Nat} {fp : List Nat} {s : St} (h : DAt w g fp s) (b : Below w.heap.size w w') : DAt w' g fp s := by
  obtain ⟨vk, vp, va, acs, h⟩ := h; exact ⟨vk, vp, va, acs, h.on b⟩
theorem DAt.keep {w w' : World} {g : Nat} {fp fp' : List Nat} {s : St} (h : DAt w g fp s) (k : Keep fp' w w') (hd : ∀ j ∈ fp, j ∉ fp') : DAt w' g fp s := by
  obtain ⟨vk, vp, va, acs, h⟩ := h; exact ⟨vk, vp, va, acs, h.keep k hd⟩
theorem DAt.lt {w : World} {g : Nat} {fp : List Nat} {s : St} (h : DAt w g fp s) : ∀ j ∈ fp, j < w.heap.size := by
  obtain ⟨vk, vp, va, acs, h⟩ := h; exact h.lt
theorem DAt.ok {w : World} {g : Nat} {fp : List Nat} {s : St} (h : DAt w g fp s) : Disk.ok s := by
  obtain ⟨vk, vp, va, acs, h⟩ := h; exact h.ok
/-- may a place be asked for? -/
def askF (s : St) (p : Int) : Int := if p < 0 ∨ (s.size : Int) ≤ p then 2 else 0
set_option maxHeartbeats 400000 in
theorem asked_any (g : Nat) (fp : List Nat) (s : St) (p : Int) (w : World) (h : DAt w g fp s) :
    Calls Tryz.prog 100 #[.pointer (some ⟨g, 0, none⟩), .int .i64 p] w fun e w' => e = .returned (.int .i64 (askF s p)) ∧ w = w' := by
  obtain ⟨vk, vp, va, acs, h⟩ := h
  obtain ⟨A, c, rfl⟩ := own_form h.kept
  obtain ⟨c0, _, _, _, _, _, fr⟩ := six h.blk
  by_cases h0 : p < 0
  · have he := Lib.hid (show askF s p = 2 from if_pos (.inl h0))
    clear h
    go_enter Tryz.func100, Tryz.ntmps100
    go_wp2
    go_ret
    exact ⟨ret_int he.out.symm, rfl⟩
  · by_cases h1 : (s.size : Int) ≤ p
    · have he := Lib.hid (show askF s p = 2 from if_pos (.inr h1))
      clear h
      go_enter Tryz.func100, Tryz.ntmps100
      go_wp2
      go_ret
      exact ⟨ret_int he.out.symm, rfl⟩
    · have he := Lib.hid (show askF s p = 0 from if_neg (by omega))
      clear h
      go_enter Tryz.func100, Tryz.ntmps100
      go_wp2
      go_ret
      exact ⟨ret_int he.out.symm, rfl⟩
theorem down_any (g : Nat) (fp : List Nat) (s : St) (w : World) (h : DAt w g fp s) : Calls Tryz.prog 31 #[.pointer (some ⟨g, 0, none⟩)] w fun e w' => e = .returned (.bool s.down) ∧ w = w' := by
  obtain ⟨vk, vp, va, acs, h⟩ := h
  obtain ⟨_, _, _, _, _, c5, fr⟩ := six h.blk
  clear h
  go_enter Tryz.func31, Tryz.ntmps31
  go_wp2
  go_ret
  exact ⟨rfl, rfl⟩
theorem size_any (g : Nat) (fp : List Nat) (s : St) (w : World) (h : DAt w g fp s) : Calls Tryz.prog 68 #[.pointer (some ⟨g, 0, none⟩)] w fun e w' => e = .returned (.int .i64 (s.size : Int)) ∧ w = w' := by
  obtain ⟨vk, vp, va, acs, h⟩ := h
  obtain ⟨A, c, rfl⟩ := own_form h.kept
  obtain ⟨c0, _, _, _, _, _, fr⟩ := six h.blk
  clear h
  go_enter Tryz.func68, Tryz.ntmps68
  go_wp2
  go_ret
  exact ⟨rfl, rfl⟩
set_option maxHeartbeats 400000 in
theorem burn_any (g : Nat) (fp : List Nat) (s : St) (vk vp va : Value) (acs : List Value) (w : World) (h : Lies w g fp s vk vp va acs) (hs : s.sz ≤ 1000000000) :
    Calls Tryz.prog 101 #[.pointer (some ⟨g, 0, none⟩)] w fun e w' => e = .returned (.int .i64 (burn s).2) ∧ Lies w' g fp (burn s).1 vk vp va acs ∧ Keep [g] w w' := by
  obtain ⟨_, _, _, c3, c4, c5, fr⟩ := six h.blk
  have hc : s.calls ≤ 1000000000 := by unfold St.sz at hs; omega
  have hf := h.ok.fuse
  have hbl := burn_lists s
  have hbo := ok_burn h.ok
  have fin : ∀ (w' : World) (r : Int), (burn s).2 = r → Keep [g] w w' → w'.heap[g]? = some (.cells #[vk, vp, va, .int .i64 (burn s).1.fuse, .int .i64 ((burn s).1.calls : Int), .bool (burn s).1.down] 78 (0, 0)) →
      Ending.returned (.int .i64 r) = .returned (.int .i64 (burn s).2) ∧ Lies w' g fp (burn s).1 vk vp va acs ∧ Keep [g] w w' := fun w' r hr k hb =>
    ⟨by rw [hr], h.turn k hb hbl.2.2 hbl.1 hbl.2.1 hbo, k⟩
  have Hblk := Lib.hid h.blk
  have Fin := Lib.hid fin
  clear h fin hbl hbo
  by_cases h0 : s.fuse = 0
  · have hb := Lib.hid (show burn s = ({ s with calls := s.calls + 1, down := true }, 12) from if_pos h0)
    have t0 := beq_yes h0
    have H0 := Lib.hid h0
    clear h0
    go_enter Tryz.func101, Tryz.ntmps101
    go_wp2
    go_ret
    refine Fin.out _ _ (by rw [hb.out]) ((keep_set _ _ _ _).trans (keep_set _ _ _ _) (Fresh.refl _ _)) ?_
    rw [hb.out]
    simp [World.setCell, Array.getElem?_modify, Hblk.out]
  · by_cases h1 : 0 < s.fuse
    · have hb := Lib.hid (show burn s = ({ s with calls := s.calls + 1, fuse := s.fuse - 1 }, 0) by unfold burn; rw [if_neg h0, if_pos h1])
      have t0 := beq_no h0
      go_enter Tryz.func101, Tryz.ntmps101
      go_wp2
      go_ret
      refine Fin.out _ _ (by rw [hb.out]) ((keep_set _ _ _ _).trans (keep_set _ _ _ _) (Fresh.refl _ _)) ?_
      rw [hb.out]
      simp [World.setCell, Array.getElem?_modify, Hblk.out]
    · have hb := Lib.hid (show burn s = ({ s with calls := s.calls + 1 }, 0) by unfold burn; rw [if_neg h0, if_neg h1])
      have t0 := beq_no h0
      go_enter Tryz.func101, Tryz.ntmps101
      go_wp2
      go_ret
      refine Fin.out _ _ (by rw [hb.out]) (keep_set _ _ _ _) ?_
      rw [hb.out]
      simp [World.setCell, Array.getElem?_modify, Hblk.out]
end Go.Proofs.YtchcmklelmlbgaaGreat.Disk

/- The walk of disk.keep: bytes come to be kept. -/
namespace Go.Proofs.YtchcmklelmlbgaaGreat.Disk
open Go.RowKit
set_option linter.unusedVariables false
set_option maxRecDepth 100000

theorem wpList_boxT {P : Program} {w : World} {ops : Array Oper} {rest : List Oper} {o : Oper} {a : Act} {Q : Exit → Act → World → Prop} (hg : o.guard = none) (t : TypeId) (x : Operand) (ho : o.op = .box t x) (xs : List Value)
    (hx : a.eval x = arrV xs)
    (h : ∀ w1, BlkT w1 w.heap.size t xs → Below w.heap.size w w1 → w.heap.size < w1.heap.size → wpList P ops Q rest (a.put o.dst (.pointer (some ⟨w.heap.size, 0, none⟩))) w1) : wpList P ops Q (o :: rest) a w :=
  wpList_box hg t x ho xs hx (h _ (heap_alloc_new w _) (b1alloc _ _) (by simp))
theorem step_append_rd {P : Program} (w : World) {ops : Array Oper} {o : Oper} {a : Act} {K : Act → World → Prop} {Q : Exit → Act → World → Prop} {E : Prop} (hgd : o.guard = none) (s x : Operand) (t : TypeId)
    (ho : o.op = .call { callee := .builtin .append, args := #[s, x], argTypes := #[t, t] })
    (base : Nat) (e : TypeId) (i : TypeInfo) (z : Value) (size bytes : Nat) (ht : P.underlying t = some (.slice e)) (hi : P.info? e = some i) (hz : i.zero = some z)
    (hsize : i.size = size) (hby : i.bytes = bytes) (hzs : z.cells.size = size) (hsz : 0 < size)
    (v : Value) (n : Nat) (xs : List Value) (hs : a.eval s = v) (hown : w.ownsRow base e size v n xs)
    (A : Option Addr) (m c : Nat) (news : List Value) (hx : a.eval x = .slice A m c) (hl : news.length = m * size) (hr : Rd w w.heap.size A news) (h1 : ∀ u ∈ news, u.oneCell' = true)
    (h63 : n + m ≤ maxLen) (hbytes : (n + m) * bytes ≤ 140737488355328) (hbase : base ≤ w.heap.size)
    (h : ∀ v' w', w'.ownsRow base e size v' (n + m) (xs ++ news) → w.grownBy w' v.ownBlock → (v'.ownBlock = v.ownBlock ∨ v'.ownBlock = some w.heap.size) → K (a.put o.dst v') w') :
    if Region.wanted o (yielded ops a.tmps) = true then Oper.wp P o a w K Q else E := by
  have hw : Region.wanted o (yielded ops a.tmps) = true := by simp [Region.wanted, hgd]
  rw [if_pos hw]
  exact wp_append_rd w s x t ho base e i z size bytes ht hi hz hsize hby hzs hsz v n xs hs hown w.heap.size A m c news hx hl hr h1 h63 hbytes hbase h
theorem szB : (Tryz.prog.info? 113).map (·.size) = some 512 := by kernel_rfl
theorem szW : (Tryz.prog.info? 115).map (·.size) = some 513 := by kernel_rfl
theorem infoWr : (Tryz.prog.info? 161).map (fun i => (i.zero, i.size, i.bytes)) = some (some (.agg #[.int .i64 0, .slice none 0 0]), 2, 32) := by kernel_rfl
theorem szBl {b : List UInt8} (h : b.length = 512) : (Tryz.prog.info? 113).map (·.size) = some (b.map e8).length := by rw [List.length_map, h]; exact szB
theorem own_there {w : World} {base : Nat} {e : TypeId} {size n g c : Nat} {xs : List Value} {o m : Nat} (h : w.ownsRow base e size (.slice (some ⟨g, 0, none⟩) n c) n xs) (hle : o + m ≤ n * size) : w.there g o m := fun j hj =>
  ⟨by rw [World.ownsRow.cellAt h (o + j) (by omega)]; have := h.1; rw [List.getElem?_eq_getElem (by omega)]; rfl, World.ownsRow.frozenAt h _⟩
theorem own_setCells {base : Nat} {e : TypeId} {size n g c : Nat} : ∀ (ys : List Value) (o : Nat) {w : World} {xs : List Value}, w.ownsRow base e size (.slice (some ⟨g, 0, none⟩) n c) n xs → o + ys.length ≤ n * size → (w.setCells g o ys).ownsRow base e size (.slice (some ⟨g, 0, none⟩) n c) n (splice xs o ys)
  | [], _, _, _, h, _ => h
  | y :: ys, o, _, _, h, hle => own_setCells ys (o + 1) (h.stored o y).1 (by rw [List.length_cons] at hle; omega)
theorem own_grown {w w' : World} {base : Nat} {e : TypeId} {size n : Nat} {v : Value} {xs : List Value} {row : Option Nat} (h : w.ownsRow base e size v n xs) (hg : w.grownBy w' row) (hne : ∀ k, v.ownBlock = some k → row ≠ some k) : w'.ownsRow base e size v n xs := by
  refine ⟨h.1, ?_⟩
  rcases h.2 with h | ⟨k, cap, cur, rfl, hb, hh, r⟩
  · exact .inl h
  · exact .inr ⟨k, cap, cur, rfl, hb, (hg.block k (lt_of_block hh) (fun e => hne k rfl e.symm)).trans hh, r⟩
theorem own_blk {w : World} {base : Nat} {e : TypeId} {size n g c : Nat} {xs : List Value} (h : w.ownsRow base e size (.slice (some ⟨g, 0, none⟩) n c) n xs) : ∃ cs, w.heap[g]? = some (.cells cs e (0, 0)) := by
  rcases h.2 with ⟨h, _⟩ | ⟨k, cap, cur, hv, hb, hh, r⟩
  · simp at h
  · injection hv with h1 h2 h3
    injection h1 with h1
    injection h1 with h1
    subst h1
    exact ⟨cur, hh⟩
theorem grown_alloc_drew (w : World) (o : Obj) (r : Option Nat) : w.grownBy (w.alloc o).drew r := ⟨rfl, rfl, rfl, by show w.heap.size ≤ (w.alloc o).heap.size; simp, fun k hk _ => Below.heap_alloc w o k hk⟩
theorem at_alloc_drew {w : World} {o : Obj} {v' v : Value} (h : v'.ownBlock = v.ownBlock ∨ v'.ownBlock = some (w.alloc o).drew.heap.size) : v'.ownBlock = v.ownBlock ∨ v'.ownBlock = some (w.heap.size + 1) := h.imp id fun e => e.trans (by show some (w.alloc o).heap.size = _; simp)
theorem keep_fin {g gk g3 ck c3 p : Nat} {fp : List Nat} {s : St} {vp va : Value} {acs : List Value} {b : List UInt8} {w w1 w2 w3 : World} (h : Lies w g fp s (.slice (some ⟨gk, 0, none⟩) s.size ck) vp va acs)
    (bw1 : Below w.heap.size w w1) (hg2 : w1.grownBy w2 (some gk)) (hB2 : BlkT w2 w.heap.size 113 (b.map e8)) (hk2 : w2.ownsRow 0 113 512 (.slice (some ⟨gk, 0, none⟩) s.size ck) s.size (kcells s.size (s.all ++ [(p, b)])))
    (own3 : w3.ownsRow 0 161 2 (.slice (some ⟨g3, 0, none⟩) (s.all.length + 1) c3) (s.all.length + 1) (acs ++ [.int .i64 (p : Int), .slice (some ⟨w.heap.size, 0, none⟩) 512 512])) (hg3 : w2.grownBy w3 va.ownBlock)
    (hat : (Value.slice (some ⟨g3, 0, none⟩) (s.all.length + 1) c3).ownBlock = va.ownBlock ∨ (Value.slice (some ⟨g3, 0, none⟩) (s.all.length + 1) c3).ownBlock = some (w2.heap.size + 1))
    (e3 : w3.heap[g]? = some (.cells #[.slice (some ⟨gk, 0, none⟩) s.size ck, vp, va, .int .i64 s.fuse, .int .i64 (s.calls : Int), .bool s.down] 78 (0, 0))) (hp : p < s.size) (hb : b.length = 512) :
    ∃ fp' va' acs', Lies (w3.setCell ⟨g, 2, none⟩ (.slice (some ⟨g3, 0, none⟩) (s.all.length + 1) c3)) g fp' { s with all := s.all ++ [(p, b)] } (.slice (some ⟨gk, 0, none⟩) s.size ck) vp va' acs' ∧ Keep fp w (w3.setCell ⟨g, 2, none⟩ (.slice (some ⟨g3, 0, none⟩) (s.all.length + 1) c3)) ∧ Fresh w fp fp' := by
  obtain ⟨v3, hv3⟩ : ∃ v3, v3 = Value.slice (some ⟨g3, 0, none⟩) (s.all.length + 1) c3 := ⟨_, rfl⟩
  have hv3b : v3.ownBlock = some g3 := by rw [hv3]; rfl
  rw [← hv3] at own3 hat ⊢
  have hgk : gk ∈ fp := h.inK gk rfl
  have k1 : Keep fp w w1 := Keep.of_below bw1 fp
  have k2 : Keep fp w1 w2 := Keep.of_grown hg2 (fun j e => by injection e with e; subst e; exact hgk)
  have k3 : Keep fp w2 w3 := Keep.of_grown hg3 (fun j e => h.inA j e)
  have k4 : Keep fp w3 (w3.setCell ⟨g, 2, none⟩ v3) := (Keep.refl fp w3).set (.inl h.inG) _
  have k12 := k1.trans k2 (Fresh.refl _ _)
  have k13 := k12.trans k3 (Fresh.refl _ _)
  have k14 := k13.trans k4 (Fresh.refl _ _)
  obtain ⟨csk, hcsk⟩ := own_blk h.kept
  have hAk : va.ownBlock ≠ some gk := own_type h.all hcsk (by decide)
  have hPk : vp.ownBlock ≠ some gk := own_type h.pend hcsk (by decide)
  have hPg := own_type h.pend h.blk (by decide)
  have hAg := own_type h.all h.blk (by decide)
  have hKg := own_type h.kept h.blk (by decide)
  have hgkg : gk ≠ g := fun e => by rw [e] at hKg; exact hKg rfl
  have h3g := own_type own3 e3 (by decide)
  have hPA : ∀ j, vp.ownBlock = some j → va.ownBlock ≠ some j := fun j hj => by
    rcases h.pend.2 with ⟨hv, _⟩ | ⟨q, cap, cur, hv, _, hh, _⟩
    · rw [hv] at hj; simp [Value.ownBlock] at hj
    · have : q = j := by rw [hv] at hj; simpa [Value.ownBlock] using hj
      subst this
      exact own_type h.all hh (by decide)
  have hblk : ∀ j, j < w.heap.size → j ≠ gk → va.ownBlock ≠ some j → j ≠ g → (w3.setCell ⟨g, 2, none⟩ v3).heap[j]? = w.heap[j]? := fun j hj h1 h2 h4 => by
    rw [heap_setCell_other w3 _ j v3 (by simpa using h4), hg3.block j (Nat.lt_of_lt_of_le hj k12.size) (fun e => h2 e.symm), hg2.block j (Nat.lt_of_lt_of_le hj k1.size) (fun e => h1 (by injection e)), bw1.block j hj]
  have hBsz : w.heap.size < w2.heap.size := lt_of_block hB2
  refine ⟨w.heap.size :: g3 :: fp, v3, acs ++ [.int .i64 (p : Int), .slice (some ⟨w.heap.size, 0, none⟩) 512 512], ⟨?_, ?_, ?_, ?_, ?_, by simp [h.inG], fun j hj => by simp [h.inK j hj], fun j hj => by simp [h.inP j hj], fun j hj => by rw [hv3b] at hj; injection hj with hj; simp [hj], ?_, ?_⟩, k14, ?_⟩
  · simp [World.setCell, Array.getElem?_modify, e3]
  · exact own_grown (own_grown hk2 hg3 (fun k hk e => by rw [e] at hAk; injection hk with hk; subst hk; exact hAk rfl)) (grown_set _ _ _) (fun k hk e => by injection hk with hk; injection e with e; exact hgkg (hk.trans e.symm))
  · exact own_grown (own_grown (own_grown (own_on h.pend bw1) hg2 (fun k hk e => hPk (by rw [hk, e]))) hg3 (fun k hk e => hPA k hk e)) (grown_set _ _ _) (fun k hk e => hPg (by rw [hk]; exact e.symm))
  · rw [List.length_append, List.length_singleton]
    exact own_grown own3 (grown_set _ _ _) (fun k hk e => h3g (by rw [hk]; exact e.symm))
  · intro i hi
    simp only [List.length_append, List.length_singleton] at hi
    have hal : acs.length = s.all.length * 2 := h.all.1
    by_cases hlt : i < s.all.length
    · obtain ⟨q, c, q1, q2, q3, q4, q5, q6, q7⟩ := h.told i hlt
      refine ⟨q, c, ?_, ?_, ?_, by simp [q4], q5, q6, q7⟩
      · simp only [List.getElem_append_left hlt]
        rw [List.getElem?_append_left (by omega)]; exact q1
      · rw [List.getElem?_append_left (by omega)]; exact q2
      · simp only [List.getElem_append_left hlt]
        refine (hblk q (h.lt q q4) (fun e => q5 (by rw [e]; rfl)) (own_type h.all q3 (by decide)) (fun e => ?_)).trans q3
        subst e
        have := h.blk
        unfold BlkT at q3
        rw [q3] at this
        injection this with this
        injection this with e1 e2 e3
        exact absurd e2 (by decide)
    · obtain rfl : i = s.all.length := by omega
      refine ⟨w.heap.size, 512, ?_, ?_, ?_, by simp, ?_, Nat.le_refl _, by unfold maxLen; omega⟩
      · rw [List.getElem?_append_right (by omega)]; simp [hal]
      · rw [List.getElem?_append_right (by omega)]; simp [hal, Nat.add_sub_cancel_left]
      · have he : (s.all ++ [(p, b)])[s.all.length]'(by simp) = (p, b) := by simp
        rw [he]
        refine (heap_setCell_other w3 _ w.heap.size v3 ?_).trans ((hg3.block w.heap.size hBsz (fun e => ?_)).trans hB2)
        · intro e; have := h.lt g h.inG; simp at e; omega
        · have := h.lt _ (h.inA _ e.symm); omega
      · intro e
        have := h.lt _ (h.inK _ e); omega
  · intro j hj
    simp only [List.mem_cons] at hj
    have hs4 : (w3.setCell ⟨g, 2, none⟩ v3).heap.size = w3.heap.size := by simp [World.setCell]
    rcases hj with rfl | rfl | hj
    · rw [hs4]; exact Nat.lt_of_lt_of_le hBsz k3.size
    · rw [hs4]; exact (own3.lt _ hv3b).2
    · exact Nat.lt_of_lt_of_le (h.lt j hj) k14.size
  · exact ⟨h.ok.size, h.ok.pend, fun x hx => by
      rcases List.mem_append.1 hx with hx | hx
      · exact h.ok.all x hx
      · rw [List.mem_singleton] at hx; subst hx; exact ⟨hp, hb⟩, h.ok.fuse⟩
  · intro j hj
    simp only [List.mem_cons] at hj
    rcases hj with rfl | rfl | hj
    · exact .inr (Nat.le_refl _)
    · rcases hat with e | e
      · rw [hv3b] at e; exact .inl (h.inA _ e.symm)
      · rw [hv3b] at e; injection e with e; exact .inr (by omega)
    · exact .inl hj
set_option maxHeartbeats 800000 in
theorem keep_any (g : Nat) (fp : List Nat) (s : St) (vk vp va : Value) (acs : List Value) (p : Nat) (b : List UInt8) (w : World) (h : Lies w g fp s vk vp va acs) (hs : s.sz ≤ 1000000000) (hp : p < s.size) (hb : b.length = 512) :
    Calls Tryz.prog 66 #[.pointer (some ⟨g, 0, none⟩), .int .i64 (p : Int), arrV (b.map e8)] w fun e w' => e = .returned (.tuple #[]) ∧ ∃ fp' va' acs', Lies w' g fp' { s with all := s.all ++ [(p, b)] } vk vp va' acs' ∧ Keep fp w w' ∧ Fresh w fp fp' := by
  obtain ⟨gk, ck, rfl, _⟩ := own_some h.kept (by omega)
  obtain ⟨i0, hi0, hz0, hz1, hz2⟩ := info_parts infoWr
  have hxl : (b.map e8).length = 512 := by rw [List.length_map, hb]
  have hx1 := e8_one b
  have hszb := szBl hb
  have hub := Tryz.underlying113
  have hkc : splice (kcells s.size s.all) (p * 512) (b.map e8) = kcells s.size (s.all ++ [(p, b)]) :=
    splice_flat (fun q => (kept s.all q).map e8) (fun q => (kept (s.all ++ [(p, b)]) q).map e8) 512 (List.range s.size) (fun q _ => by rw [List.length_map, kept_len h.ok.all]) (fun q _ => by
      rw [List.length_map, kept_snoc]
      split
      · exact hb
      · exact kept_len h.ok.all q) p (by simpa using hp) (b.map e8) (by rw [List.length_map, hb]) (by simp only [List.getElem_range, kept_snoc, if_true]) (fun q hq hne => by
      simp only [List.getElem_range, kept_snoc]
      rw [if_neg (fun e => hne e.symm)])
  obtain ⟨xs, hxs⟩ : ∃ xs, xs = b.map e8 := ⟨_, rfl⟩
  rw [← hxs] at hxl hx1 hszb hkc ⊢
  have Hxs := Lib.hid hxs
  have Hkc := Lib.hid hkc
  clear hxs hkc
  have hpI : (p : Int) < (s.size : Int) := by omega
  go_enter Tryz.func66, Tryz.ntmps66
  go_wp2_with ((with_reducible show wpList _ _ _ (⟨some 5, _, _, _, _, _⟩ :: _) _ _); refine wpList_boxT rfl _ _ rfl xs rfl ?_; intro w1 hB bw1 hs1)
  have h1 := h.on bw1
  obtain ⟨c0, c1, c2, c3, c4, c5, fr⟩ := six h1.blk
  go_frame
  have hgB : g ≠ w.heap.size := fun e => by have := h.lt g h.inG; omega
  have hkB : gk ≠ w.heap.size := fun e => by have := h.lt gk (h.inK gk rfl); omega
  have hgk : g ≠ gk := fun e => by
    have := own_type h.kept h.blk (by decide)
    rw [e] at this
    exact this rfl
  have hrB : w1.rangeAt w.heap.size 0 xs := fun j v hv => by
    rw [Nat.zero_add, cell_of_row _ _ _ _ _ _ hB]; simpa using hv
  have hle : p * 512 + 512 ≤ s.size * 512 := by rw [← Nat.succ_mul]; exact Nat.mul_le_mul_right _ hp
  have hth : w1.there gk (p * 512) 512 := own_there h1.kept hle
  have hS2 : (w1.drew.setCells gk (p * 512) xs).cell? ⟨g, 0, none⟩ = some (.slice (some ⟨gk, 0, none⟩) s.size ck) ∧ (w1.drew.setCells gk (p * 512) xs).rangeAt w.heap.size 0 xs ∧ (w1.drew.setCells gk (p * 512) xs).there gk (p * 512) 512 :=
    ⟨(World.cell?_setCells_out gk xs (p * 512) w1.drew ⟨g, 0, none⟩ (fun e _ => absurd e hgk)).trans c0, World.rangeAt_setCells_apart (w := w1.drew) hrB gk _ xs (.inl (Ne.symm hkB)), World.there_setCells (w := w1.drew) hth gk _ xs⟩
  go_region_held3 (fun w' => w'.cell? ⟨g, 0, none⟩ = some (.slice (some ⟨gk, 0, none⟩) s.size ck) ∧ w'.rangeAt w.heap.size 0 xs ∧ w'.there gk (p * 512) 512) (first | exact ⟨c0, hrB, hth⟩ | exact hS2) (fail)
  have hk2 := own_setCells xs (p * 512) (w := w1.drew) h1.kept (by rw [hxl]; exact hle)
  rw [Hkc.out] at hk2
  have hg2 : w1.grownBy (w1.drew.setCells gk (p * 512) xs) (some gk) := grown_trans (show w1.grownBy w1.drew (some gk) from ⟨rfl, rfl, rfl, Nat.le_refl _, fun _ _ _ => rfl⟩) (setCells_grown gk xs (p * 512) w1.drew)
  have hB2 : BlkT (w1.drew.setCells gk (p * 512) xs) w.heap.size 113 xs := (hg2.block _ hs1 (fun e => hkB (by injection e with e; exact e.symm))).trans hB
  obtain ⟨w2, hw2⟩ : ∃ w2, w2 = w1.drew.setCells gk (p * 512) xs := ⟨_, rfl⟩
  rw [← hw2] at hk2 hg2 hB2 ⊢
  clear hS2 hw2 hth hrB c0 c1 c2 c3 c4 c5 fr
  have hg2b := (hg2.block g (Nat.lt_of_lt_of_le (h.lt g h.inG) bw1.size) (fun e => hgk (by injection e))).trans h1.blk
  obtain ⟨c0, c1, c2, c3, c4, c5, fr⟩ := six hg2b
  go_wp2
  have hA2 := own_grown h1.all hg2 (fun k hk e => by
    injection e with e
    subst e
    obtain ⟨cs, hcs⟩ := own_blk h.kept
    exact own_type h.all hcs (by decide) hk)
  have hgl : g < w2.heap.size := lt_of_block hg2b
  have hgA : some g ≠ va.ownBlock := fun e => own_type h.all h.blk (by decide) e.symm
  have hBl : w.heap.size < w2.heap.size := lt_of_block hB2
  go_region_law ((refine step_append_rd _ (by rfl) _ _ _ (by rfl) 0 161 i0 _ 2 32 Tryz.underlying76 hi0 hz0 hz1 hz2 rfl (by omega) va s.all.length acs (by rfl) ?_ _ 1 1 [.int .i64 (p : Int), .slice (some ⟨w.heap.size, 0, none⟩) 512 512] (by rfl) (by rfl) ?_ (by simp [Value.oneCell']) (by simp only [maxLen]; unfold St.sz at hs; omega) (by unfold St.sz at hs; omega) (Nat.zero_le _) ?_); (· exact hA2.alloc _); (· exact Rd.lit _ _ _ _ _ rfl (by simp)); intro v3 w3 own3 hg3 hat3; obtain ⟨g3, c3', rfl, _⟩ := own_some own3 (by omega); have e3 := (hg3.block g (by simp; omega) hgA).trans ((Below.heap_alloc _ _ g hgl).trans hg2b); obtain ⟨_, _, d2, _, _, _, d7⟩ := six e3; have d8 := d7 2; have hg4 := grown_trans (grown_alloc_drew w2 _ va.ownBlock) hg3; have hat4 := at_alloc_drew hat3)
  all_goals
    have fin := Lib.hid (keep_fin h bw1 hg2 (Hxs.out ▸ hB2) hk2 own3 hg4 hat4 e3 hp hb)
    go_wp2
    go_end0
    exact ⟨rfl, fin.out⟩
end Go.Proofs.YtchcmklelmlbgaaGreat.Disk

/- A region that draws its order, of reads and of a chain of calls that write, one waiting for the other: one walk in the order of the text serves every order. The class of worlds hangs on how many of the chain's calls are over. -/
namespace Go.Proofs.YtchcmklelmlbgaaGreat
open Go.RowKit
set_option linter.unusedVariables false

section
variable {P : Program} {ops : Array Oper} {md : Region.Mode} {C : Array Bool → World → Prop}

structure OkL (md : Region.Mode) (ops : Array Oper) (listed : Array Bool) : Prop where
  size : listed.size = ops.size
  closed : ∀ j oj, ops[j]? = some oj → listed.getD j false = true → ∀ e ∈ oj.after, Region.binds md e = true → listed.getD e.on false = true
theorem OkL.set {i : Nat} {listed : Array Bool} (inv : OkL md ops listed) (hi : i ∈ Region.ready md ops listed) : OkL md ops (listed.setIfInBounds i true) := by
  obtain ⟨_, oi, hoi, hall⟩ := mem_ready.1 hi
  refine ⟨by simp [inv.size], fun j oj hj hl e he hb => ?_⟩
  by_cases hij : i = j
  · subst hij
    have : oj = oi := Option.some.inj (hj.symm.trans hoi)
    subst this
    exact getD_set_true (hall e he hb)
  · rw [getD_set_ne false hij] at hl
    exact getD_set_true (inv.closed j oj hj hl e he hb)
def idleI (md : Region.Mode) (ops : Array Oper) (C : Array Bool → World → Prop) (i : Nat) : Prop :=
  ∀ listed w, OkL md ops listed → i ∈ Region.ready md ops listed → C listed w → C (listed.setIfInBounds i true) w
def YieldsI (P : Program) (md : Region.Mode) (ops : Array Oper) (C : Array Bool → World → Prop) (i : Nat) (o : Oper) (v : Value) (a : Act) : Prop :=
  (Region.wanted o (yielded ops a.tmps) = true ∧ ∀ listed w, OkL md ops listed → i ∈ Region.ready md ops listed → C listed w → 
      match (execOp a.eval o).run P w with
      | .ok (.value u) w' => u = v ∧ C (listed.setIfInBounds i true) w'
      | .ok .skip w' => v = undef ∧ C (listed.setIfInBounds i true) w'
      | .ok (.enter f args) w' => Calls P f args w' (fun e w'' => e = .returned v ∧ C (listed.setIfInBounds i true) w'')
      | _ => False) ∨
  (Region.wanted o (yielded ops a.tmps) = false ∧ v = undef ∧ idleI md ops C i)
theorem YieldsI.of_same {i : Nat} {o : Oper} {v : Value} {a a' : Act} (hy : YieldsI P md ops C i o v a) (he : execOp a'.eval o = execOp a.eval o)
    (hw : Region.wanted o (yielded ops a'.tmps) = Region.wanted o (yielded ops a.tmps)) : YieldsI P md ops C i o v a' := by
  unfold YieldsI at *
  rw [he, hw]
  exact hy
def qOpI (P : Program) (md : Region.Mode) (ops : Array Oper) (C : Array Bool → World → Prop) (i : Nat) (K : Act → Prop) (a : Act) : Prop :=
  ∃ o v, ops[i]? = some o ∧ YieldsI P md ops C i o v a ∧ K (a.put o.dst v)
theorem qOpI_mono {i : Nat} {a : Act} {K K' : Act → Prop} (h : ∀ a, K a → K' a) (hh : qOpI P md ops C i K a) : qOpI P md ops C i K' a :=
  let ⟨o, v, h1, h2, h3⟩ := hh
  ⟨o, v, h1, h2, h _ h3⟩
theorem wpOp_of_qOpI {i : Nat} {a : Act} {listed : Array Bool} {K : Act → Prop} {K' : Act → World → Prop} {Q' : Exit → Act → World → Prop} {w : World} (hL : OkL md ops listed) (hi : i ∈ Region.ready md ops listed) (hC : C listed w)
    (h : ∀ a w', C (listed.setIfInBounds i true) w' → K a → K' a w') (hh : qOpI P md ops C i K a) : wpOp P ops Q' i K' a w := by
  obtain ⟨o, v, ho, hy, hk⟩ := hh
  unfold wpOp
  simp only [ho]
  rcases hy with ⟨hw, hv⟩ | ⟨hw, rfl, hid⟩
  · rw [if_pos hw]
    refine .inl ?_
    have h3 := hv listed w hL hi hC
    unfold Oper.wp
    generalize (execOp a.eval o).run P w = r at *
    cases r with
    | ok n w' =>
      cases n <;> simp only [Oper.upon] at h3 ⊢
      case value u => obtain ⟨rfl, h4⟩ := h3; exact h _ _ h4 hk
      case skip => obtain ⟨rfl, h4⟩ := h3; exact h _ _ h4 hk
      case enter f args => exact h3.mono fun e w'' ⟨he, hw''⟩ => by subst he; exact h _ _ hw'' hk
    | halt x w' => simp only at h3
  · rw [if_neg (by rw [hw]; simp)]
    exact h _ _ (hid listed w hL hi hC) hk
theorem qOpI_put {i j : Nat} {oi oj : Oper} {v : Value} (hj : ops[j]? = some oj) (hap : oi.apart ops oj = true)
    (hsi : ∀ cs b, oi.op ≠ .select cs b) (hsj : ∀ cs b, oj.op ≠ .select cs b) {K : Act → Prop} {a : Act}
    (hy : YieldsI P md ops C i oi v a) (h : qOpI P md ops C j K (a.put oi.dst v)) :
    qOpI P md ops C j (fun a' => YieldsI P md ops C i oi v a' ∧ K (a'.put oi.dst v)) a := by
  obtain ⟨h1, h2, h3⟩ := Oper.apart_spec hap
  have keep : ∀ (a : Act), YieldsI P md ops C i oi v a → ∀ u, YieldsI P md ops C i oi v (a.put oj.dst u) := fun a hy u =>
    hy.of_same (execOp_put oi hsi a oj.dst u h3) (wanted_put oi a oj.dst u h3)
  obtain ⟨o, u, ho, hyj, hk⟩ := h
  obtain rfl : o = oj := Option.some.inj (ho.symm.trans hj)
  exact ⟨o, u, hj, hyj.of_same (execOp_put o hsj a oi.dst v h1).symm (wanted_put o a oi.dst v h1).symm, keep a hy u, by rw [← Act.put_comm a v u h2]; exact hk⟩
def wpAnyI (P : Program) (md : Region.Mode) (ops : Array Oper) (C : Array Bool → World → Prop) (F : Array Bool → Prop) (Q : Act → Prop) : Nat → Array Bool → Act → Prop
  | 0, listed, a => Region.ready md ops listed = [] ∧ F listed ∧ Q a
  | fuel + 1, listed, a =>
    (Region.ready md ops listed = [] → F listed ∧ Q a) ∧
    ∀ i ∈ Region.ready md ops listed, qOpI P md ops C i (wpAnyI P md ops C F Q fuel (listed.setIfInBounds i true)) a
theorem wpAny_of_I {F : Array Bool → Prop} {Q : Act → Prop} {Q' : Exit → Act → World → Prop} (hQ : ∀ listed a w, F listed → C listed w → Q a → Q' .normal a w) : ∀ (fuel : Nat) (listed : Array Bool) (a : Act) (w : World), OkL md ops listed → C listed w →
    wpAnyI P md ops C F Q fuel listed a → wpAny P md ops Q' fuel listed a w
  | 0, _, _, _, _, hw, h => ⟨h.1, hQ _ _ _ h.2.1 hw h.2.2⟩
  | fuel + 1, _, _, _, hL, hw, h => ⟨fun h0 => hQ _ _ _ (h.1 h0).1 hw (h.1 h0).2, fun i hi => wpOp_of_qOpI hL hi hw (fun a' w' hw' => wpAny_of_I hQ fuel _ a' w' (hL.set hi) hw') (h.2 i hi)⟩
theorem wpAnyI_first {F : Array Bool → Prop} {Q : Act → Prop} {i : Nat} {oi : Oper} {v : Value} (hi : ops[i]? = some oi) (hsel : ∀ (j : Nat) (o : Oper) cs b, ops[j]? = some o → o.op ≠ .select cs b) :
    ∀ (fuel : Nat) (listed : Array Bool) (a : Act),
      (∀ j oj, ops[j]? = some oj → j ≠ i → listed.getD j true = false → (∀ e ∈ oj.after, Region.binds md e = true → e.on ≠ i) → oi.apart ops oj = true) →
      i ∈ Region.ready md ops listed → YieldsI P md ops C i oi v a →
      wpAnyI P md ops C F Q fuel (listed.setIfInBounds i true) (a.put oi.dst v) → wpAnyI P md ops C F Q (fuel + 1) listed a := by
  intro fuel
  induction fuel with
  | zero =>
    intro listed a _ hr hy H
    refine ⟨fun h => (by rw [h] at hr; cases hr), fun j hj => ?_⟩
    by_cases hji : j = i
    · subst hji; exact ⟨oi, v, hi, hy, H⟩
    · have := ready_mono hj hji
      rw [H.1] at this
      cases this
  | succ fuel ih =>
    intro listed a hfree hr hy H
    refine ⟨fun h => (by rw [h] at hr; cases hr), fun j hj => ?_⟩
    by_cases hji : j = i
    · subst hji; exact ⟨oi, v, hi, hy, H⟩
    · have h1 := H.2 j (ready_mono hj hji)
      obtain ⟨hjun, oj, hoj, hall⟩ := mem_ready.1 hj
      have hnot : ∀ e ∈ oj.after, Region.binds md e = true → e.on ≠ i := fun e he hb heq => by
        have h1 := hall e he hb
        have h0 := (mem_ready.1 hr).1
        rw [heq] at h1
        rcases Nat.lt_or_ge i listed.size with h' | h'
        · simp [h'] at h0 h1; rw [h0] at h1; cases h1
        · simp [Array.getElem?_eq_none h'] at h1
      have h2 := qOpI_put hoj (hfree j oj hoj hji hjun hnot) (fun cs b => hsel i oi cs b hi) (fun cs b => hsel j oj cs b hoj) hy h1
      have hfree' : ∀ k ok, ops[k]? = some ok → k ≠ i → (listed.setIfInBounds j true).getD k true = false →
          (∀ e ∈ ok.after, Region.binds md e = true → e.on ≠ i) → oi.apart ops ok = true := fun k ok hk hki hun hno => by
        refine hfree k ok hk hki ?_ hno
        by_cases hjk : j = k
        · subst hjk; exact hjun
        · rw [getD_set_ne true hjk] at hun; exact hun
      refine qOpI_mono (fun a' h3 => ih (listed.setIfInBounds j true) a' hfree' (ready_mono hr (Ne.symm hji)) h3.1 ?_) h2
      rw [Array.setIfInBounds_comm _ _ hji]
      exact h3.2
def wpLexI (P : Program) (md : Region.Mode) (ops : Array Oper) (C : Array Bool → World → Prop) (Q : Act → Prop) : Nat → List Oper → Act → Prop
  | _, [], a => Q a
  | k, o :: rest, a => ∃ v, YieldsI P md ops C k o v a ∧ wpLexI P md ops C Q (k + 1) rest (a.put o.dst v)
def lexLast : List Nat → Array Bool → Array Bool
  | [], listed => listed
  | i :: is, listed => lexLast is (listed.setIfInBounds i true)
theorem wpAnyI_lex {F : Array Bool → Prop} {Q : Act → Prop} (hs : Region.noSelect ops = true) : ∀ (l : List Oper) (k : Nat) (listed : Array Bool) (a : Act), (∀ j, l[j]? = ops[k + j]?) →
    Region.lexFrom md ops l.length k listed = true → F (lexLast (List.range' k l.length) listed) → wpLexI P md ops C Q k l a → wpAnyI P md ops C F Q l.length listed a
  | [], _, _, _, _, hB, hF, h => ⟨by simpa [Region.lexFrom] using hB, hF, h⟩
  | o :: l, k, listed, a, hl, hB, hF, h => by
    have h0 : ops[k]? = some o := by simpa using (hl 0).symm
    simp only [List.length_cons, Region.lexFrom, Bool.and_eq_true] at hB
    obtain ⟨⟨hr, hf⟩, hB'⟩ := hB
    obtain ⟨v, hy, hK⟩ := h
    exact wpAnyI_first h0 (Region.noSelect_spec hs) l.length listed a (Region.free_spec h0 hf) (by simpa using hr) hy
      (wpAnyI_lex hs l (k + 1) _ _ (fun j => by have := hl (j + 1); simpa [Nat.add_assoc, Nat.add_comm 1 j] using this) hB' hF hK)
theorem wp_region_I {id : Nat} {F : Array Bool → Prop} {Q : Exit → Act → World → Prop} {a : Act} {w : World} (hm : P.follows .mixedOrders = true) (hB : Region.lexB .any ops = true) (hC : C (Array.replicate ops.size false) { w with drawn := w.drawn + 1 })
    (hF : F (lexLast (List.range' 0 ops.toList.length) (Array.replicate ops.size false)))
    (h : wpLexI P .any ops C (fun a' => ∀ listed w', F listed → C listed w' → Q .normal a' w') 0 ops.toList a) : (Code.region id ops true).wp P Q a w := by
  simp only [Region.lexB, Bool.and_eq_true] at hB
  have inv0 : OkL .any ops (Array.replicate ops.size false) :=
    ⟨by simp, fun j oj _ hl => (by rw [getD_replicate_false] at hl; cases hl)⟩
  refine wp_region_any hm (wpAny_of_I (C := C) (F := F) (Q := fun a' => ∀ listed w', F listed → C listed w' → Q .normal a' w') (fun _ _ w' hF hw' h => h _ w' hF hw') _ _ _ _ inv0 hC ?_)
  have := wpAnyI_lex (C := C) (F := F) (md := .any) hB.1 ops.toList 0 (Array.replicate ops.size false) a (by simp) (by simpa using hB.2) hF h
  simpa using this
end

/-! ### how many of a chain are over -/
def phase (chain : List Nat) (listed : Array Bool) : Nat := (chain.filter fun i => listed.getD i false).length
def descF (md : Region.Mode) (i : Nat) : List Oper → Array Bool → Array Bool
  | [], acc => acc
  | o :: rest, acc => descF md i rest (acc.push (o.after.any fun e => Region.binds md e && (e.on == i || acc.getD e.on false)))
/-- does k wait for i, through others or not? -/
def reach (md : Region.Mode) (ops : Array Oper) (_ : Nat) (k i : Nat) : Bool := (descF md i ops.toList #[]).getD k false
section
variable {ops : Array Oper} {md : Region.Mode}
theorem desc_listed {listed : Array Bool} (hL : OkL md ops listed) (i : Nat) : ∀ (l : List Oper) (acc : Array Bool), (∀ j, l[j]? = ops[acc.size + j]?) →
    (∀ k, acc.getD k false = true → (k ∈ Region.ready md ops listed ∨ listed.getD k false = true) → listed.getD i false = true) →
    ∀ k, (descF md i l acc).getD k false = true → (k ∈ Region.ready md ops listed ∨ listed.getD k false = true) → listed.getD i false = true
  | [], acc, _, h, k, hk, hr => h k hk hr
  | o :: rest, acc, hl, h, k, hk, hr => by
    refine desc_listed hL i rest _ (fun j => by have := hl (j + 1); simpa [Nat.add_assoc, Nat.add_comm 1 j] using this) (fun k' hk' hr' => ?_) k hk hr
    by_cases e : k' < acc.size
    · refine h k' ?_ hr'
      simpa [Array.getD, Array.getElem?_push, e, Nat.ne_of_lt e, show k' < acc.size + 1 by omega, Array.getElem_push] using hk'
    · by_cases e2 : k' = acc.size
      · subst e2
        have ho : ops[acc.size]? = some o := by simpa using (hl 0).symm
        have hv : (o.after.any fun e => Region.binds md e && (e.on == i || acc.getD e.on false)) = true := by
          simpa [Array.getD] using hk'
        obtain ⟨e, he, hb⟩ := Array.any_eq_true'.1 hv
        simp only [Bool.and_eq_true, Bool.or_eq_true, beq_iff_eq] at hb
        have hle : listed.getD e.on false = true := by
          rcases hr' with hr' | hr'
          · obtain ⟨_, o', ho', hall⟩ := mem_ready.1 hr'
            obtain rfl : o = o' := Option.some.inj (ho.symm.trans ho')
            exact hall e he hb.1
          · exact hL.closed _ o ho hr' e he hb.1
        rcases hb.2 with h1 | h1
        · rw [← h1]; exact hle
        · exact h e.on h1 (.inr hle)
      · exfalso
        have : ¬ k' < acc.size + 1 := by omega
        simp [Array.getD, this] at hk'
theorem reach_listed {listed : Array Bool} (hL : OkL md ops listed) (f k i : Nat) (hk : k ∈ Region.ready md ops listed ∨ listed.getD k false = true) (h : reach md ops f k i = true) : listed.getD i false = true :=
  desc_listed hL i ops.toList #[] (by simp) (fun k hk _ => by simp at hk) k h hk
theorem filter_le {p q : Nat → Bool} (h : ∀ i, p i = true → q i = true) : ∀ l : List Nat, (l.filter p).length ≤ (l.filter q).length
  | [] => by simp
  | i :: l => by
    have ih := filter_le h l
    rw [List.filter_cons, List.filter_cons]
    by_cases hp : p i = true
    · rw [if_pos hp, if_pos (h i hp), List.length_cons, List.length_cons]; omega
    · rw [if_neg hp]
      split
      · rw [List.length_cons]; omega
      · exact ih
theorem phase_ge {chain : List Nat} {listed : Array Bool} (hL : OkL md ops listed) {k f : Nat} (hk : k ∈ Region.ready md ops listed) : (chain.filter fun i => reach md ops f k i).length ≤ phase chain listed := by
  unfold phase
  exact filter_le (fun i h => reach_listed hL f k i (.inl hk) h) chain
theorem phase_set {chain : List Nat} {listed : Array Bool} {k : Nat} (h : chain.contains k = false) : phase chain (listed.setIfInBounds k true) = phase chain listed := by
  unfold phase
  congr 1
  refine List.filter_congr fun i hi => ?_
  have : k ≠ i := by rintro rfl; simp [hi] at h
  rw [getD_set_ne false this]
theorem ready_false {listed : Array Bool} {k : Nat} (hk : k ∈ Region.ready md ops listed) : listed.getD k false = false := getD_both (mem_ready.1 hk).1
theorem phase_eq {chain : List Nat} {listed : Array Bool} (hL : OkL md ops listed) {k f : Nat} (hk : k ∈ Region.ready md ops listed) (ht : ∀ c ∈ chain, c = k ∨ reach md ops f k c = true ∨ reach md ops f c k = true) :
    phase chain listed = (chain.filter fun i => reach md ops f k i).length := by
  unfold phase
  congr 1
  refine List.filter_congr fun c hc => ?_
  cases hr : reach md ops f k c with
  | true => exact reach_listed hL f k c (.inl hk) hr
  | false =>
    rcases ht c hc with rfl | h | h
    · exact ready_false hk
    · rw [hr] at h; cases h
    · cases hl : listed.getD c false with
      | false => rfl
      | true =>
        have := reach_listed hL f c k (.inr hl) h
        rw [ready_false hk] at this
        cases this
theorem phase_one {listed : Array Bool} {k : Nat} (hin : k < listed.size) (hun : listed.getD k false = false) : ∀ {chain : List Nat}, chain.Nodup → k ∈ chain → phase chain (listed.setIfInBounds k true) = phase chain listed + 1
  | [], _, h => by cases h
  | c :: l, hn, h => by
    have hn' := List.nodup_cons.1 hn
    unfold phase
    rw [List.filter_cons, List.filter_cons]
    by_cases e : c = k
    · subst e
      have h1 : (listed.setIfInBounds c true).getD c false = true := by simp [hin]
      have h2 : (l.filter fun i => (listed.setIfInBounds c true).getD i false) = l.filter fun i => listed.getD i false :=
        List.filter_congr fun i hi => getD_set_ne false (fun e => hn'.1 (by rw [e]; exact hi))
      rw [if_pos h1, if_neg (by rw [hun]; simp), h2]
      rfl
    · have hk : k ∈ l := by
        rcases List.mem_cons.1 h with h | h
        · exact absurd h.symm e
        · exact h
      have ih := phase_one hin hun hn'.2 hk
      unfold phase at ih
      rw [getD_set_ne false (Ne.symm e)]
      split
      · rw [List.length_cons, List.length_cons, ih]
      · exact ih
def ix : List Nat → Nat → Nat
  | [], _ => 0
  | i :: l, k => if i = k then 0 else ix l k + 1
def phB (md : Region.Mode) (ops : Array Oper) (f : Nat) (chain : List Nat) (lo : List (Nat × Nat)) : Bool :=
  decide chain.Nodup && chain.all (fun c => decide (c < ops.size) && chain.all (fun d => d == c || reach md ops f c d || reach md ops f d c) && (chain.filter fun i => reach md ops f c i).length == ix chain c) &&
    lo.all (fun kb => decide (kb.2 ≤ (chain.filter fun i => reach md ops f kb.1 i).length)) && phase chain (lexLast (List.range' 0 ops.toList.length) (Array.replicate ops.size false)) == chain.length
end

section
variable {P : Program} {ops : Array Oper} {Ph : Nat → World → Prop} {chain : List Nat} {lo : List (Nat × Nat)}
def phUpon (P : Program) (C' : World → Prop) (v : Value) : Result Next → Prop
  | .ok (.value u) w' => u = v ∧ C' w'
  | .ok .skip w' => v = undef ∧ C' w'
  | .ok (.enter f args) w' => Calls P f args w' fun e w'' => e = .returned v ∧ C' w''
  | _ => False
@[go_sem] theorem phUpon_value (P : Program) (C' : World → Prop) (v u : Value) (w' : World) : phUpon P C' v (.ok (.value u) w') = (u = v ∧ C' w') := rfl
@[go_sem] theorem phUpon_skip (P : Program) (C' : World → Prop) (v : Value) (w' : World) : phUpon P C' v (.ok .skip w') = (v = undef ∧ C' w') := rfl
@[go_sem] theorem phUpon_enter (P : Program) (C' : World → Prop) (v : Value) (f : FuncId) (args : Array Value) (w' : World) : phUpon P C' v (.ok (.enter f args) w') = Calls P f args w' fun e w'' => e = .returned v ∧ C' w'' := rfl
end
end Go.Proofs.YtchcmklelmlbgaaGreat
