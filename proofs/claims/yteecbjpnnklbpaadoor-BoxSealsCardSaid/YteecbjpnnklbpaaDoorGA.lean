/- Texts of this claim, joined: Region, Base, NumPlain, Num, Ref01, Arr, Arr2, ArrEq. -/
import Derived.StillTail
import Derived.Deep.Quiet
import Derived.Deep.QuietTactic
import Derived.BigQuiet
import Derived.Below
import Derived.WalkKit
import Derived.OneCell
import Derived.Laws.OwnMore
import Derived.Laws.BitsAllLaws
import Derived.Lib.Hide
import Derived.Deep.Draws
import Derived.Maps.AppendAt
import Derived.Test.YteecbjpnnklbpaaDoorRows
import Derived.Outline
import Derived.WalkMore
import Derived.Deep.DeepMust
import Derived.Laws.Rows
import Derived.Laws.Tables
import Derived.Laws.IdiomCopy
import Derived.Laws.MakeOwn
import Derived.Stop.BytesEq
/- A region that draws its order: reads and calls that only make memory come first, in whatever order; one operation that writes waits for all of them. One walk in the order of the text serves every order. -/
namespace Go.Proofs.YteecbjpnnklbpaaDoor
open Go.RowKit
set_option linter.unusedVariables false

section
variable {P : Program} {ops : Array Oper} {md : Region.Mode} {C : World → Prop}

def headQ (P : Program) (md : Region.Mode) (ops : Array Oper) (C : World → Prop) (n : Nat) (L : Array Bool → Act → Prop) : Nat → Array Bool → Act → Prop
  | 0, listed, a => L listed a
  | f + 1, listed, a => Region.ready md ops listed ≠ [] ∧ ∀ i ∈ Region.ready md ops listed, i < n ∧ qOp P ops C i (headQ P md ops C n L f (listed.setIfInBounds i true)) a

theorem any_of_headQ {n g : Nat} {L : Array Bool → Act → Prop} {Q' : Exit → Act → World → Prop} (hL : ∀ listed a w, C w → L listed a → wpAny P md ops Q' g listed a w) :
    ∀ (f : Nat) (listed : Array Bool) (a : Act) (w : World), C w → headQ P md ops C n L f listed a → wpAny P md ops Q' (f + g) listed a w
  | 0, listed, a, w, hw, h => by rw [Nat.zero_add]; exact hL _ _ _ hw h
  | f + 1, listed, a, w, hw, h => by
    rw [show f + 1 + g = (f + g) + 1 by omega]
    exact ⟨fun h0 => absurd h0 h.1, fun i hi => wpOp_of_qOp hw (fun a' w' hw' h' => any_of_headQ hL f _ a' w' hw' h') (h.2 i hi).2⟩

theorem headQ_first {n i : Nat} {oi : Oper} {v : Value} {L : Array Bool → Act → Prop} (hi : ops[i]? = some oi) (hsel : ∀ (j : Nat) (o : Oper) cs b, ops[j]? = some o → o.op ≠ .select cs b)
    (hs : Region.sinkB md ops n = true) (hc : Region.chainB md ops n = true) (hn : n < ops.size) (hin : i < n)
    (hdone : ∀ listed a, L listed a → ∀ j ∈ Region.ready md ops listed, n ≤ j) :
    ∀ (f : Nat) (listed : Array Bool) (a : Act), HeadInv md ops n listed →
      (∀ j oj, ops[j]? = some oj → j ≠ i → listed.getD j true = false → (∀ e ∈ oj.after, Region.binds md e = true → e.on ≠ i) → oi.apart ops oj = true) →
      i ∈ Region.ready md ops listed → YieldsIn P ops C oi v a →
      headQ P md ops C n L f (listed.setIfInBounds i true) (a.put oi.dst v) → headQ P md ops C n L (f + 1) listed a := by
  intro f
  induction f with
  | zero =>
    intro listed a inv _ hr hy H
    refine ⟨fun h => (by rw [h] at hr; cases hr), fun j hj => ?_⟩
    have hjn : j < n := by
      rcases Nat.lt_or_ge j n with h | h
      · exact h
      · exact absurd hj (tail_waits hs hc hn inv _ i rfl hin (mem_ready.1 hr).1 j h)
    refine ⟨hjn, ?_⟩
    by_cases hji : j = i
    · subst hji; exact hy.qOp hi H
    · have := hdone _ _ H j (ready_mono hj hji)
      omega
  | succ f ih =>
    intro listed a inv hfree hr hy H
    have hun := (mem_ready.1 hr).1
    refine ⟨fun h => (by rw [h] at hr; cases hr), fun j hj => ?_⟩
    have hjn : j < n := by
      rcases Nat.lt_or_ge j n with h | h
      · exact h
      · exact absurd hj (tail_waits hs hc hn inv _ i rfl hin hun j h)
    refine ⟨hjn, ?_⟩
    by_cases hji : j = i
    · subst hji; exact hy.qOp hi H
    · have h1 := (H.2 j (ready_mono hj hji)).2
      obtain ⟨hjun, oj, hoj, hall⟩ := mem_ready.1 hj
      have hnot : ∀ e ∈ oj.after, Region.binds md e = true → e.on ≠ i := fun e he hb heq => by
        have h1 := hall e he hb
        rw [heq, getD_both hun] at h1
        cases h1
      have h2 := qOp_put hoj (hfree j oj hoj hji hjun hnot) (fun cs b => hsel i oi cs b hi) (fun cs b => hsel j oj cs b hoj) hy h1
      have hfree' : ∀ k ok, ops[k]? = some ok → k ≠ i → (listed.setIfInBounds j true).getD k true = false →
          (∀ e ∈ ok.after, Region.binds md e = true → e.on ≠ i) → oi.apart ops ok = true := fun k ok hk hki hun hno => by
        refine hfree k ok hk hki ?_ hno
        by_cases hjk : j = k
        · subst hjk; exact hjun
        · rw [getD_set_ne true hjk] at hun; exact hun
      refine qOp_mono (fun a' h3 => ih (listed.setIfInBounds j true) a' (inv.set hj hjn) hfree' (ready_mono hr (Ne.symm hji)) h3.1 ?_) h2
      rw [Array.setIfInBounds_comm _ _ hji]
      exact h3.2

theorem headQ_lex {n g : Nat} {Lq : Act → Prop} (hsel : Region.noSelect ops = true) (hs : Region.sinkB md ops n = true) (hc : Region.chainB md ops n = true) (hn : n < ops.size) :
    ∀ (l : List Oper) (k : Nat) (listed : Array Bool) (a : Act), (∀ j, j < l.length → l[j]? = ops[k + j]?) → k + l.length = n → HeadInv md ops n listed →
    Region.lexHead md ops g l.length k listed = true → wpQuiet P ops C Lq l a →
    headQ P md ops C n (fun listed' a' => Region.seqB md ops g n listed' = true ∧ Lq a') l.length listed a
  | [], k, listed, a, _, hk, _, hB, h => by
    have : k = n := by simpa using hk
    subst this
    exact ⟨by simpa [Region.lexHead] using hB, h⟩
  | o :: l, k, listed, a, hl, hk, inv, hB, h => by
    have h0 : ops[k]? = some o := by simpa using (hl 0 (by simp)).symm
    simp only [List.length_cons, Region.lexHead, Bool.and_eq_true] at hB
    obtain ⟨⟨hr, hf⟩, hB'⟩ := hB
    have hkn : k < n := by simp only [List.length_cons] at hk; omega
    have hr' : k ∈ Region.ready md ops listed := by simpa using hr
    have hst : qOp P ops C k (wpQuiet P ops C Lq l) a := by unfold qOp; simp only [h0]; exact h
    obtain ⟨v, hy, hK⟩ := yieldsIn_of_qOp h0 hst
    exact headQ_first h0 (Region.noSelect_spec hsel) hs hc hn hkn (fun listed' a' hL => seqB_ready hL.1) l.length listed a inv (Region.free_spec h0 hf) hr' hy
      (headQ_lex hsel hs hc hn l (k + 1) _ _ (fun j hj => by have := hl (j + 1) (by simp; omega); simpa [Nat.add_assoc, Nat.add_comm 1 j] using this) (by simp only [List.length_cons] at hk; omega) (inv.set hr' hkn) hB' hK)

theorem wp_region_quiet_tail {id : Nat} {Q : Exit → Act → World → Prop} {a : Act} {w : World} {l : List Oper} (n : Nat) (hm : P.follows .mixedOrders = true) (hB : Region.lexTailB .any l.toArray n = true) (hC : C { w with drawn := w.drawn + 1 })
    (h : wpQuiet P l.toArray C (fun a' => ∀ w', C w' → wpList P l.toArray Q (l.drop n) a' w') (l.take n) a) : (Code.region id l.toArray true).wp P Q a w := by
  simp only [Region.lexTailB, Bool.and_eq_true, decide_eq_true_eq] at hB
  obtain ⟨⟨⟨⟨hsel, hn⟩, hs⟩, hc⟩, hlex⟩ := hB
  have hn' : n < l.length := by simpa using hn
  have htl : (l.take n).length = n := by simp; omega
  have hdl : (l.drop n).length = l.toArray.size - n := by simp
  have inv0 : HeadInv .any l.toArray n (Array.replicate l.toArray.size false) :=
    ⟨by simp, fun j oj _ hl => (by rw [getD_replicate_false] at hl; cases hl), fun t _ ht => getD_in (by simpa using ht) (getD_replicate_false _ _)⟩
  have H := headQ_lex (md := .any) (g := l.toArray.size - n) hsel hs hc hn (l.take n) 0 _ a (fun j hj => by
    have hj' : j < n := by rw [htl] at hj; exact hj
    simp [hj']) (by simpa using htl) inv0 (by rw [htl]; exact hlex) h
  refine wp_region_any hm ?_
  have := any_of_headQ (Q' := Q) (g := l.toArray.size - n) (fun listed a' w' hw' hL => by
    have := wpAny_of_seq (md := .any) (Q' := Q) (l.drop n) n listed a' w' (fun j => by simp [List.getElem?_drop]) (by rw [hdl]; exact hL.1) (hL.2 w' hw')
    rwa [hdl] at this) _ _ _ _ hC H
  rw [htl, show n + (l.toArray.size - n) = l.toArray.size by omega] at this
  exact this
end

section
variable {P : Program} {ops : Array Oper} {md : Region.Mode} {C : World → Prop}
/-! moves that only the tail waits for are taken first; then the head, in any order; then the tail -/
def preOne (o : Oper) (a : Act) : Act := match o.op with
  | .move x => a.put o.dst (a.eval x)
  | _ => a
def preAct (l : List Oper) (pre : List Nat) (a : Act) : Act := pre.foldl (fun a i => match l[i]? with | some o => preOne o a | none => a) a
def mark (listed : Array Bool) (is : List Nat) : Array Bool := is.foldl (fun x i => x.setIfInBounds i true) listed
def movesB (md : Region.Mode) (ops : Array Oper) : List Nat → Array Bool → Bool
  | [], _ => true
  | i :: is, listed => (match ops[i]? with | some o => o.guard.isNone && (match o.op with | .move _ => true | _ => false) | none => false) &&
      Region.free md ops listed i && (Region.ready md ops listed).contains i && movesB md ops is (listed.setIfInBounds i true)
theorem take_moves {l : List Oper} {Q : Exit → Act → World → Prop} {w : World} (hs : Region.noSelect l.toArray = true) (hQ : ∀ c d v a w, Q (.panic c) (Act.put a d v) w → Q (.panic c) a w) :
    ∀ (pre : List Nat) (fuel : Nat) (listed : Array Bool) (a : Act), movesB md l.toArray pre listed = true → wpAny P md l.toArray Q fuel (mark listed pre) (preAct l pre a) w → wpAny P md l.toArray Q (fuel + pre.length) listed a w
  | [], fuel, listed, a, _, h => by simpa [mark, preAct] using h
  | i :: is, fuel, listed, a, hB, h => by
    simp only [movesB, Bool.and_eq_true] at hB
    obtain ⟨⟨⟨hm, hf⟩, hr⟩, hB'⟩ := hB
    cases ho : l.toArray[i]? with
    | none => rw [ho] at hm; cases hm
    | some o =>
      rw [ho] at hm
      simp only [Bool.and_eq_true] at hm
      obtain ⟨hg, hm⟩ := hm
      cases hop : o.op with
      | move x =>
        have ho' : l[i]? = some o := by simpa using ho
        have hpre : preAct l (i :: is) a = preAct l is (a.put o.dst (a.eval x)) := by
          simp [preAct, ho', preOne, hop]
        rw [hpre] at h
        have hw : Region.wanted o (yielded l.toArray a.tmps) = true := by
          have : o.guard = none := by simpa using hg
          simp [Region.wanted, this]
        have hy : Yields P l.toArray o (a.eval x) a := .inl ⟨hw, fun w => BigFrame.run_move x hop w⟩
        exact wpAny_take ho hs hf hr (fun c a w => hQ c _ _ a w) hy (take_moves hs hQ is fuel _ _ hB' h)
      | _ => rw [hop] at hm; cases hm

structure InvI (md : Region.Mode) (ops : Array Oper) (n : Nat) (l0 listed : Array Bool) : Prop where
  inv : HeadInv md ops n listed
  more : ∀ i, l0.getD i true = true → listed.getD i true = true
def sinkI (md : Region.Mode) (ops : Array Oper) (n : Nat) (l0 : Array Bool) : Bool :=
  (List.range n).all fun i => l0.getD i true || (List.range (n + 1)).any fun j => decide (i < j) && Region.waitsFor md ops j i
theorem tail_waitsI {n : Nat} {l0 listed : Array Bool} (hs : sinkI md ops n l0 = true) (hc : Region.chainB md ops n = true) (hn : n < ops.size) (inv : InvI md ops n l0 listed) :
    ∀ (d i : Nat), n - i = d → i < n → listed.getD i true = false → ∀ t, n ≤ t → t ∉ Region.ready md ops listed := by
  intro d
  induction d using Nat.strongRecOn with
  | _ d ih =>
    intro i hd hi hun t ht hr
    obtain ⟨_, ot, hot, hall⟩ := mem_ready.1 hr
    have htlt : t < ops.size := (Array.getElem?_eq_some_iff.1 hot).1
    by_cases htn : t = n
    · subst htn
      have h1 := List.all_eq_true.1 hs i (List.mem_range.2 hi)
      have h0 : l0.getD i true = false := by
        cases h : l0.getD i true with
        | false => rfl
        | true => rw [inv.more i h] at hun; cases hun
      rw [h0, Bool.false_or] at h1
      obtain ⟨j, hj, hj2⟩ := List.any_eq_true.1 h1
      simp only [Bool.and_eq_true, decide_eq_true_eq] at hj2
      obtain ⟨oj, hoj, e, he, hb, hon⟩ := Region.waitsFor_spec hj2.2
      have hjle : j ≤ t := by have := List.mem_range.1 hj; omega
      by_cases hjt : j = t
      · subst hjt
        have : oj = ot := Option.some.inj (hoj.symm.trans hot)
        subst this
        have h2 := hall e he hb
        rw [hon, getD_both hun] at h2
        cases h2
      · cases hl : listed.getD j false with
        | true =>
          have h2 := inv.inv.closed j oj hoj hl e he hb
          rw [hon, getD_both hun] at h2
          cases h2
        | false =>
          have hjs : j < listed.size := by rw [inv.inv.size]; omega
          exact ih (t - j) (by omega) j rfl (by omega) (getD_in hjs hl) t (Nat.le_refl _) hr
    · have h1 := List.all_eq_true.1 hc t (List.mem_range.2 htlt)
      simp only [Bool.or_eq_true, decide_eq_true_eq] at h1
      rcases h1 with h1 | h1
      · omega
      · obtain ⟨o', ho', e, he, hb, hon⟩ := Region.waitsFor_spec h1
        have : o' = ot := Option.some.inj (ho'.symm.trans hot)
        subst this
        have h2 := hall e he hb
        rw [hon, getD_both (inv.inv.tail (t - 1) (by omega) (by omega))] at h2
        cases h2
theorem InvI.set {n i : Nat} {l0 listed : Array Bool} (inv : InvI md ops n l0 listed) (hi : i ∈ Region.ready md ops listed) (hin : i < n) : InvI md ops n l0 (listed.setIfInBounds i true) :=
  ⟨inv.inv.set hi hin, fun j hj => by
    by_cases h : i = j
    · subst h
      rcases Nat.lt_or_ge i listed.size with h' | h'
      · simp [h']
      · simp [h']
    · rw [getD_set_ne true h]; exact inv.more j hj⟩

theorem headI_first {n i : Nat} {oi : Oper} {v : Value} {l0 : Array Bool} {L : Array Bool → Act → Prop} (hi : ops[i]? = some oi) (hsel : ∀ (j : Nat) (o : Oper) cs b, ops[j]? = some o → o.op ≠ .select cs b)
    (hs : sinkI md ops n l0 = true) (hc : Region.chainB md ops n = true) (hn : n < ops.size) (hin : i < n)
    (hdone : ∀ listed a, L listed a → ∀ j ∈ Region.ready md ops listed, n ≤ j) :
    ∀ (f : Nat) (listed : Array Bool) (a : Act), InvI md ops n l0 listed →
      (∀ j oj, ops[j]? = some oj → j ≠ i → listed.getD j true = false → (∀ e ∈ oj.after, Region.binds md e = true → e.on ≠ i) → oi.apart ops oj = true) →
      i ∈ Region.ready md ops listed → YieldsIn P ops C oi v a →
      headQ P md ops C n L f (listed.setIfInBounds i true) (a.put oi.dst v) → headQ P md ops C n L (f + 1) listed a := by
  intro f
  induction f with
  | zero =>
    intro listed a inv _ hr hy H
    refine ⟨fun h => (by rw [h] at hr; cases hr), fun j hj => ?_⟩
    have hjn : j < n := by
      rcases Nat.lt_or_ge j n with h | h
      · exact h
      · exact absurd hj (tail_waitsI hs hc hn inv _ i rfl hin (mem_ready.1 hr).1 j h)
    refine ⟨hjn, ?_⟩
    by_cases hji : j = i
    · subst hji; exact hy.qOp hi H
    · have := hdone _ _ H j (ready_mono hj hji)
      omega
  | succ f ih =>
    intro listed a inv hfree hr hy H
    have hun := (mem_ready.1 hr).1
    refine ⟨fun h => (by rw [h] at hr; cases hr), fun j hj => ?_⟩
    have hjn : j < n := by
      rcases Nat.lt_or_ge j n with h | h
      · exact h
      · exact absurd hj (tail_waitsI hs hc hn inv _ i rfl hin hun j h)
    refine ⟨hjn, ?_⟩
    by_cases hji : j = i
    · subst hji; exact hy.qOp hi H
    · have h1 := (H.2 j (ready_mono hj hji)).2
      obtain ⟨hjun, oj, hoj, hall⟩ := mem_ready.1 hj
      have hnot : ∀ e ∈ oj.after, Region.binds md e = true → e.on ≠ i := fun e he hb heq => by
        have h1 := hall e he hb
        rw [heq, getD_both hun] at h1
        cases h1
      have h2 := qOp_put hoj (hfree j oj hoj hji hjun hnot) (fun cs b => hsel i oi cs b hi) (fun cs b => hsel j oj cs b hoj) hy h1
      have hfree' : ∀ k ok, ops[k]? = some ok → k ≠ i → (listed.setIfInBounds j true).getD k true = false →
          (∀ e ∈ ok.after, Region.binds md e = true → e.on ≠ i) → oi.apart ops ok = true := fun k ok hk hki hun hno => by
        refine hfree k ok hk hki ?_ hno
        by_cases hjk : j = k
        · subst hjk; exact hjun
        · rw [getD_set_ne true hjk] at hun; exact hun
      refine qOp_mono (fun a' h3 => ih (listed.setIfInBounds j true) a' (inv.set hj hjn) hfree' (ready_mono hr (Ne.symm hji)) h3.1 ?_) h2
      rw [Array.setIfInBounds_comm _ _ hji]
      exact h3.2

def headIB (md : Region.Mode) (ops : Array Oper) (g n : Nat) : List Nat → Array Bool → Bool
  | [], listed => Region.seqB md ops g n listed
  | i :: is, listed => decide (i < n) && (Region.ready md ops listed).contains i && Region.free md ops listed i && headIB md ops g n is (listed.setIfInBounds i true)
def opsAt (l : List Oper) : List Nat → List Oper
  | [] => []
  | i :: is => l.getD i default :: opsAt l is
theorem headI_lex {n g : Nat} {l0 : Array Bool} {Lq : Act → Prop} {l : List Oper} (hsel : Region.noSelect l.toArray = true) (hs : sinkI md l.toArray n l0 = true) (hc : Region.chainB md l.toArray n = true) (hn : n < l.toArray.size) :
    ∀ (hd : List Nat) (listed : Array Bool) (a : Act), InvI md l.toArray n l0 listed → headIB md l.toArray g n hd listed = true → wpQuiet P l.toArray C Lq (opsAt l hd) a →
    headQ P md l.toArray C n (fun listed' a' => Region.seqB md l.toArray g n listed' = true ∧ Lq a') hd.length listed a
  | [], listed, a, _, hB, h => ⟨by simpa [headIB] using hB, h⟩
  | i :: is, listed, a, inv, hB, h => by
    simp only [headIB, Bool.and_eq_true, decide_eq_true_eq] at hB
    obtain ⟨⟨⟨hin, hr⟩, hf⟩, hB'⟩ := hB
    have hr' : i ∈ Region.ready md l.toArray listed := by simpa using hr
    obtain ⟨_, oi, hoi, _⟩ := mem_ready.1 hr'
    have hget : l.getD i default = oi := by
      have : l[i]? = some oi := by simpa using hoi
      simp [List.getD, this]
    have hst : qOp P l.toArray C i (wpQuiet P l.toArray C Lq (opsAt l is)) a := by
      unfold qOp; simp only [hoi]
      have h' : wpQuiet P l.toArray C Lq (oi :: opsAt l is) a := by rw [← hget]; exact h
      exact h'
    obtain ⟨v, hy, hK⟩ := yieldsIn_of_qOp hoi hst
    exact headI_first hoi (Region.noSelect_spec hsel) hs hc hn hin (fun listed' a' hL => seqB_ready hL.1) is.length listed a inv (Region.free_spec hoi hf) hr' hy
      (headI_lex hsel hs hc hn is _ _ (inv.set hr' hin) hB' hK)

def closedB (md : Region.Mode) (ops : Array Oper) (listed : Array Bool) : Bool :=
  (List.range ops.size).all fun j => !listed.getD j false || match ops[j]? with | some o => o.after.all (fun e => !Region.binds md e || listed.getD e.on false) | none => true
def threeB (md : Region.Mode) (ops : Array Oper) (pre hd : List Nat) (n : Nat) : Bool :=
  Region.noSelect ops && decide (n < ops.size) && decide (ops.size = (hd.length + (ops.size - n)) + pre.length) && movesB md ops pre (Array.replicate ops.size false) &&
    decide ((mark (Array.replicate ops.size false) pre).size = ops.size) && closedB md ops (mark (Array.replicate ops.size false) pre) && (List.range ops.size).all (fun t => decide (t < n) || (mark (Array.replicate ops.size false) pre).getD t true == false) &&
    sinkI md ops n (mark (Array.replicate ops.size false) pre) && Region.chainB md ops n && headIB md ops (ops.size - n) n hd (mark (Array.replicate ops.size false) pre)

theorem wp_region_three {id : Nat} {Q : Exit → Act → World → Prop} {a : Act} {w : World} {l : List Oper} (pre hd : List Nat) (n : Nat) (hm : P.follows .mixedOrders = true) (hB : threeB .any l.toArray pre hd n = true) (hC : C { w with drawn := w.drawn + 1 })
    (hQ : ∀ c d v a w, Q (.panic c) (Act.put a d v) w → Q (.panic c) a w)
    (h : wpQuiet P l.toArray C (fun a' => ∀ w', C w' → wpList P l.toArray Q (l.drop n) a' w') (opsAt l hd) (preAct l pre a)) : (Code.region id l.toArray true).wp P Q a w := by
  simp only [threeB, Bool.and_eq_true, decide_eq_true_eq] at hB
  obtain ⟨⟨⟨⟨⟨⟨⟨⟨⟨hsel, hn⟩, hlen⟩, hmv⟩, hsz⟩, hcl⟩, htl⟩, hs⟩, hc⟩, hlex⟩ := hB
  refine wp_region_any hm ?_
  rw [hlen]
  rw [← hlen]
  have inv0 : InvI .any l.toArray n (mark (Array.replicate l.toArray.size false) pre) (mark (Array.replicate l.toArray.size false) pre) := by
    refine ⟨⟨hsz, fun j oj hj hl e he hb => ?_, fun t ht htt => ?_⟩, fun i hi => hi⟩
    · have hjs : j < l.toArray.size := (Array.getElem?_eq_some_iff.1 hj).1
      have h1 := List.all_eq_true.1 hcl j (List.mem_range.2 hjs)
      rw [hl, hj] at h1
      simp only [Bool.not_true, Bool.false_or] at h1
      have h2 := Array.all_eq_true_iff_forall_mem.1 h1 e he
      rw [hb] at h2
      simpa using h2
    · have h1 := List.all_eq_true.1 htl t (List.mem_range.2 htt)
      simp only [Bool.or_eq_true, decide_eq_true_eq] at h1
      rcases h1 with h1 | h1
      · omega
      · simpa using h1
  have H := headI_lex (md := .any) (g := l.toArray.size - n) hsel hs hc hn hd _ _ inv0 hlex h
  have hT := any_of_headQ (Q' := Q) (g := l.toArray.size - n) (fun listed a' w' hw' hL => by
    have hdl : (l.drop n).length = l.toArray.size - n := by simp
    have := wpAny_of_seq (md := .any) (Q' := Q) (l.drop n) n listed a' w' (fun j => by simp [List.getElem?_drop]) (by rw [hdl]; exact hL.1) (hL.2 w' hw')
    rwa [hdl] at this) _ _ _ _ hC H
  have := take_moves (md := .any) hsel hQ pre _ _ _ hmv hT
  rw [← hlen] at this
  exact this
end

/-- the world is as it was, below its end, but for new memory -/
def InB (w0 w' : World) : Prop := Below w0.heap.size w0 w'
theorem InB.start (w0 : World) : InB w0 { w0 with drawn := w0.drawn + 1 } := (Below.refl w0.heap.size w0).drew
theorem InB.below {w0 w' : World} (h : InB w0 w') : Below w0.heap.size w0 w' := h
theorem InB.on {w0 w' w1 : World} (h : InB w0 w') (b : Below w'.heap.size w' w1) : InB w0 w1 := Below.trans (B := w0.heap.size) h (b.mono (Below.size h))
theorem InB.cell {w0 w' : World} (h : InB w0 w') (b o : Nat) (hb : b < w0.heap.size) : w'.cell? ⟨b, o, none⟩ = w0.cell? ⟨b, o, none⟩ := Below.cell h (p := ⟨b, o, none⟩) hb
theorem InB.some (w0 : World) : ∃ w', InB w0 w' := ⟨_, InB.start w0⟩
theorem region_inb {P : Program} {id : Nat} {Q : Exit → Act → World → Prop} {a : Act} {w : World} {l : List Oper} (hm : P.follows .mixedOrders = true) (hB : Region.lexB .any l.toArray = true)
    (h : wpQuiet P l.toArray (InB w) (fun a' => ∀ w', InB w w' → Q .normal a' w') l a) : (Code.region id l.toArray true).wp P Q a w :=
  wp_region_quiet (C := InB w) hm hB (InB.start w) (by simpa using h)
theorem region_inb_tail {P : Program} {id : Nat} {Q : Exit → Act → World → Prop} {a : Act} {w : World} {l : List Oper} (n : Nat) (hm : P.follows .mixedOrders = true) (hB : Region.lexTailB .any l.toArray n = true)
    (h : wpQuiet P l.toArray (InB w) (fun a' => ∀ w', InB w w' → wpList P l.toArray Q (l.drop n) a' w') (l.take n) a) : (Code.region id l.toArray true).wp P Q a w :=
  wp_region_quiet_tail (C := InB w) n hm hB (InB.start w) h
theorem region_three {P : Program} {id : Nat} {Q : Exit → Act → World → Prop} {a : Act} {w : World} {l : List Oper} (pre hd : List Nat) (n : Nat) (hm : P.follows .mixedOrders = true) (hB : threeB .any l.toArray pre hd n = true)
    (hQ : ∀ c d v a w, Q (.panic c) (Act.put a d v) w → Q (.panic c) a w)
    (h : wpQuiet P l.toArray (InB w) (fun a' => ∀ w', InB w w' → wpList P l.toArray Q (l.drop n) a' w') (opsAt l hd) (preAct l pre a)) : (Code.region id l.toArray true).wp P Q a w :=
  wp_region_three (C := InB w) pre hd n hm hB (InB.start w) hQ h
end Go.Proofs.YteecbjpnnklbpaaDoor

/- Words for memory that all walks of this seat share: a slice that reads as a list of cells, a block of one cell, bits of unsigned numbers. No statement is proved here. -/
namespace Go.Proofs.YteecbjpnnklbpaaDoor
open Go.RowKit

/-! numbers as cells -/
abbrev e8 (x : UInt8) : Value := .int .u8 (x.toNat : Int)

theorem xor8 (a b : UInt8) : bits .xor .u8 (a.toNat : Int) (b.toNat : Int) = ((a ^^^ b).toNat : Int) := by
  rw [u8_xor_nat _ _ a.toNat_lt b.toNat_lt]; simp
theorem and8 (a b : UInt8) : bits .and .u8 (a.toNat : Int) (b.toNat : Int) = ((a &&& b).toNat : Int) := by
  rw [u8_and_nat _ _ a.toNat_lt b.toNat_lt]; simp
theorem or8 (a b : UInt8) : bits .or .u8 (a.toNat : Int) (b.toNat : Int) = ((a ||| b).toNat : Int) := by
  rw [u8_or_nat _ _ a.toNat_lt b.toNat_lt]; simp
theorem xor32 (a b : UInt32) : bits .xor .u32 (a.toNat : Int) (b.toNat : Int) = ((a ^^^ b).toNat : Int) := by
  rw [u32_xor_nat _ _ a.toNat_lt b.toNat_lt]; simp
theorem and32 (a b : UInt32) : bits .and .u32 (a.toNat : Int) (b.toNat : Int) = ((a &&& b).toNat : Int) := by
  rw [u32_and_nat _ _ a.toNat_lt b.toNat_lt]; simp
theorem or32 (a b : UInt32) : bits .or .u32 (a.toNat : Int) (b.toNat : Int) = ((a ||| b).toNat : Int) := by
  rw [u32_or_nat _ _ a.toNat_lt b.toNat_lt]; simp
theorem xor64 (a b : UInt64) : bits .xor .u64 (a.toNat : Int) (b.toNat : Int) = ((a ^^^ b).toNat : Int) := by
  rw [u64_xor_nat _ _ a.toNat_lt b.toNat_lt]; simp
theorem and64 (a b : UInt64) : bits .and .u64 (a.toNat : Int) (b.toNat : Int) = ((a &&& b).toNat : Int) := by
  rw [u64_and_nat _ _ a.toNat_lt b.toNat_lt]; simp
theorem or64 (a b : UInt64) : bits .or .u64 (a.toNat : Int) (b.toNat : Int) = ((a ||| b).toNat : Int) := by
  rw [u64_or_nat _ _ a.toNat_lt b.toNat_lt]; simp

/-! a number that came in, as an unsigned word -/
theorem to8 (n : Int) (h0 : 0 ≤ n) (h1 : n ≤ 255) : ∃ x : UInt8, n = (x.toNat : Int) :=
  ⟨UInt8.ofNat n.toNat, by rw [UInt8.toNat_ofNat']; have : n.toNat < 256 := by omega
                           simp [Nat.mod_eq_of_lt this]; omega⟩
theorem to32 (n : Int) (h0 : 0 ≤ n) (h1 : n ≤ 4294967295) : ∃ x : UInt32, n = (x.toNat : Int) :=
  ⟨UInt32.ofNat n.toNat, by rw [UInt32.toNat_ofNat']; have : n.toNat < 4294967296 := by omega
                            simp [Nat.mod_eq_of_lt this]; omega⟩
theorem to64 (n : Int) (h0 : 0 ≤ n) (h1 : n ≤ 18446744073709551615) : ∃ x : UInt64, n = (x.toNat : Int) :=
  ⟨UInt64.ofNat n.toNat, by rw [UInt64.toNat_ofNat']; have : n.toNat < 18446744073709551616 := by omega
                            simp [Nat.mod_eq_of_lt this]; omega⟩
theorem list8 (zs : List Int) (h : ∀ n ∈ zs, (Lit.int .u8 n).wf = true) : ∃ l : List UInt8, zs = l.map (fun x => (x.toNat : Int)) := by
  induction zs with
  | nil => exact ⟨[], rfl⟩
  | cons z zs ih =>
    obtain ⟨l, rfl⟩ := ih fun n hn => h n (by simp [hn])
    have hz := h z (by simp)
    simp [Lit.wf, IntKind.min, IntKind.max, IntKind.signed, IntKind.bits] at hz
    obtain ⟨x, rfl⟩ := to8 z (by omega) (by omega)
    exact ⟨x :: l, rfl⟩

/-! a slice that reads as a list of cells -/
def Rd (w : World) (B : Nat) (A : Option Addr) (xs : List Value) : Prop :=
  xs ≠ [] → ∃ b off, A = some ⟨b, off, none⟩ ∧ b < B ∧ ∀ i (h : i < xs.length), w.cell? ⟨b, off + i, none⟩ = some xs[i]

theorem Rd.nil (w : World) (B : Nat) (A : Option Addr) : Rd w B A [] := fun h => absurd rfl h
theorem Rd.get {w : World} {B : Nat} {A : Option Addr} {xs : List Value} (h : Rd w B A xs) {k : Nat} (hk : k < xs.length) :
    ∃ b off, A = some ⟨b, off, none⟩ ∧ b < B ∧ w.cell? ⟨b, off + k, none⟩ = some xs[k] := by
  obtain ⟨b, off, rfl, hb, hc⟩ := h (by intro e; rw [e] at hk; exact absurd hk (by simp))
  exact ⟨b, off, rfl, hb, hc k hk⟩
theorem Rd.keep {w w' : World} {B : Nat} {A : Option Addr} {xs : List Value} (h : Rd w B A xs) (hk : ∀ p : Addr, p.block < B → w'.cell? p = w.cell? p) : Rd w' B A xs := by
  intro hne
  obtain ⟨b, off, rfl, hb, hc⟩ := h hne
  exact ⟨b, off, rfl, hb, fun i hi => (hk ⟨b, off + i, none⟩ hb).trans (hc i hi)⟩
theorem Rd.below {w w' : World} {B : Nat} {A : Option Addr} {xs : List Value} (h : Rd w B A xs) (hb : Below B w w') : Rd w' B A xs := h.keep fun _ hp => hb.cell hp
theorem Rd.more {w : World} {B B' : Nat} {A : Option Addr} {xs : List Value} (h : Rd w B A xs) (hB : B ≤ B') : Rd w B' A xs := by
  intro hne
  obtain ⟨b, off, rfl, hb, hc⟩ := h hne
  exact ⟨b, off, rfl, by omega, hc⟩
/-- it reads so in any later world, below that world's end -/
theorem Rd.on {w w' : World} {A : Option Addr} {xs : List Value} (h : Rd w w.heap.size A xs) (hb : Below w.heap.size w w') : Rd w' w'.heap.size A xs := (h.below hb).more hb.size
theorem Rd.own {w : World} {base : Nat} {e : TypeId} {A : Option Addr} {n c : Nat} {xs : List Value} (h : w.ownsRow base e 1 (.slice A n c) n xs) : Rd w w.heap.size A xs := by
  intro hne
  rcases h.2 with ⟨hv, hn⟩ | ⟨g, cap, cur, hv, hg, hh, hnc, hcm, hcs, ht⟩
  · exact absurd (List.eq_nil_of_length_eq_zero (by have := h.1; omega)) hne
  · injection hv with hA _ _
    subst hA
    refine ⟨g, 0, rfl, lt_of_block hh, fun i hi => ?_⟩
    have hl := h.1
    have := World.ownsRow.cellAt (j := i) h (by omega)
    rw [Nat.zero_add, this]; exact List.getElem?_eq_getElem hi

theorem Rd.lit (w : World) (cs : Array Value) (t : TypeId) (xs : List Value) (B : Nat) (hx : cs.toList = xs) (hB : w.heap.size < B) : Rd (w.alloc (.cells cs t)) B (some ⟨w.heap.size, 0, none⟩) xs := by
  subst hx
  intro _
  refine ⟨_, _, rfl, hB, fun i hi => ?_⟩
  rw [World.cell?_alloc_new, Nat.zero_add]
  simp
theorem below_lit (w : World) (o : Obj) : Below w.heap.size w (w.alloc o) := (Below.refl _ _).alloc (Nat.le_refl _) _

/-! a block of one cell -/
def Box (w : World) (g : Nat) (v : Value) : Prop := ∃ t, w.heap[g]? = some (.cells #[v] t (0, 0))
theorem Box.cell {w : World} {g : Nat} {v : Value} (h : Box w g v) : w.cell? ⟨g, 0, none⟩ = some v := h.elim fun _ h => cell_of_one h
theorem Box.free {w : World} {g : Nat} {v : Value} (h : Box w g v) : w.frozen? ⟨g, 0, none⟩ = false := h.elim fun _ h => free_of_one h
theorem Box.lt {w : World} {g : Nat} {v : Value} (h : Box w g v) : g < w.heap.size := h.elim fun _ h => lt_of_block h
theorem Box.new (w : World) (t : TypeId) (v : Value) : Box (w.alloc (.cells #[v] t)) w.heap.size v := ⟨t, heap_alloc_new w _⟩
theorem Box.set {w : World} {g : Nat} {v : Value} (h : Box w g v) (u : Value) : Box (w.setCell ⟨g, 0, none⟩ u) g u := h.elim fun t h => ⟨t, one_setCell h⟩
theorem Box.kept {w w' : World} {g : Nat} {v : Value} {row : Option Nat} (h : Box w g v) (hg : w.grownBy w' row) (hne : some g ≠ row) : Box w' g v :=
  h.elim fun t hh => ⟨t, (hg.block g (lt_of_block hh) hne).trans hh⟩
theorem Box.below {w w' : World} {g B : Nat} {v : Value} (h : Box w g v) (hb : Below B w w') (hg : g < B) : Box w' g v := h.elim fun t hh => ⟨t, (hb.block g hg).trans hh⟩
theorem Box.alloc {w : World} {g : Nat} {v : Value} (h : Box w g v) (o : Obj) : Box (w.alloc o) g v := h.elim fun t hh => ⟨t, (Below.heap_alloc w o g (lt_of_block hh)).trans hh⟩

theorem grown_set (w : World) (a : Addr) (u : Value) : w.grownBy (w.setCell a u) (some a.block) :=
  ⟨rfl, rfl, rfl, by simp, fun k _ hk => heap_setCell_other w a k u (fun e => hk (by rw [e]))⟩
theorem grown_trans {a b c : World} {r : Option Nat} (h : a.grownBy b r) (k : b.grownBy c r) : a.grownBy c r :=
  ⟨k.os.trans h.os, k.tape.trans h.tape, k.output.trans h.output, Nat.le_trans h.size k.size, fun i hi hn => (k.block i (Nat.lt_of_lt_of_le hi h.size) hn).trans (h.block i hi hn)⟩
theorem below_grown {w w' : World} (h : Below w.heap.size w w') (r : Option Nat) : w.grownBy w' r := ⟨h.os, h.tape, h.output, h.size, fun k hk _ => h.block k hk⟩

/-! append onto a row of the call's own, the source nil, empty or not -/
section
variable {P : Program} (w : World)
theorem run_append_rd (base : Nat) (t ty e : TypeId) (i : TypeInfo) (z : Value) (size bytes : Nat) (ht : P.underlying t = some (.slice e)) (hi : P.info? e = some i) (hz : i.zero = some z)
    (hsize : i.size = size) (hby : i.bytes = bytes) (hzs : z.cells.size = size) (hsz : 0 < size) (v : Value) (n : Nat) (xs : List Value) (hown : w.ownsRow base e size v n xs)
    (B : Nat) (A : Option Addr) (m c : Nat) (news : List Value) (hl : news.length = m * size) (hr : Rd w B A news) (h1 : ∀ u ∈ news, u.oneCell' = true)
    (h63 : n + m ≤ maxLen) (hbytes : (n + m) * bytes ≤ 140737488355328) (hbase : base ≤ w.heap.size) :
    ∃ v' w', (Builtin.append_ #[t, t] ty #[v, .slice A m c]).run P w = .ok v' w' ∧ w'.ownsRow base e size v' (n + m) (xs ++ news) ∧ w.grownBy w' v.ownBlock ∧
      (v'.ownBlock = v.ownBlock ∨ v'.ownBlock = some w.heap.size) := by
  cases A with
  | none =>
    have hn : news = [] := by
      cases news with
      | nil => rfl
      | cons a l => obtain ⟨b, off, h, _⟩ := hr (by simp); cases h
    subst hn
    have hm : m = 0 := by
      rcases Nat.eq_zero_or_pos m with h | h
      · exact h
      · have h2 := Nat.mul_pos h hsz
        have h3 : (0 : Nat) = m * size := hl
        omega
    subst hm
    refine ⟨v, w, ?_, by simpa using hown, ⟨rfl, rfl, rfl, Nat.le_refl _, fun _ _ _ => rfl⟩, .inl rfl⟩
    rcases hown.2 with ⟨rfl, rfl⟩ | ⟨g, cap, cur, rfl, _, _, hnc, _⟩
    · simp [Builtin.append_, run_underlying ht, sizeOf, typeInfo, hi, Builtin.lenOf, Builtin.firstCells]
    · simp [Builtin.append_, run_underlying ht, sizeOf, typeInfo, hi, Builtin.lenOf, Builtin.firstCells, hnc, storeCells]
  | some ad =>
    have hcells : ∀ j u, news[j]? = some u → w.cell? (ad.add j) = some u := by
      intro j u hu
      obtain ⟨hj, rfl⟩ := List.getElem?_eq_some_iff.1 hu
      obtain ⟨b, off, h, _, hc⟩ := hr (by intro e; rw [e] at hj; exact absurd hj (by simp))
      injection h with h
      subst h
      rw [Addr.add_lit]
      exact hc j hj
    obtain ⟨v', w', h, h2, h3, _, h5⟩ := run_append_own_at (P := P) w base t ty e i z size bytes ht hi hz hsize hby hzs hsz v n xs hown ad m c news hl hcells h1 h63 hbytes hbase
    exact ⟨v', w', h, h2, h3, h5⟩

theorem wp_append_rd {o : Oper} {a : Act} {K : Act → World → Prop} {Q : Exit → Act → World → Prop} (s x : Operand) (t : TypeId)
    (ho : o.op = .call { callee := .builtin .append, args := #[s, x], argTypes := #[t, t] })
    (base : Nat) (e : TypeId) (i : TypeInfo) (z : Value) (size bytes : Nat) (ht : P.underlying t = some (.slice e)) (hi : P.info? e = some i) (hz : i.zero = some z)
    (hsize : i.size = size) (hby : i.bytes = bytes) (hzs : z.cells.size = size) (hsz : 0 < size)
    (v : Value) (n : Nat) (xs : List Value) (hs : a.eval s = v) (hown : w.ownsRow base e size v n xs)
    (B : Nat) (A : Option Addr) (m c : Nat) (news : List Value) (hx : a.eval x = .slice A m c) (hl : news.length = m * size) (hr : Rd w B A news) (h1 : ∀ u ∈ news, u.oneCell' = true)
    (h63 : n + m ≤ maxLen) (hbytes : (n + m) * bytes ≤ 140737488355328) (hbase : base ≤ w.heap.size)
    (h : ∀ v' w', w'.ownsRow base e size v' (n + m) (xs ++ news) → w.grownBy w' v.ownBlock → (v'.ownBlock = v.ownBlock ∨ v'.ownBlock = some w.heap.size) → K (a.put o.dst v') w') : o.wp P a w K Q := by
  obtain ⟨v', w', hrun, h2, h3, h4⟩ := run_append_rd (P := P) w base t o.type e i z size bytes ht hi hz hsize hby hzs hsz v n xs hown B A m c news hl hr h1 h63 hbytes hbase
  unfold Oper.wp execOp
  simp only [ho, resolve, invoke, builtin, Sem.run_bind, Sem.run_pure, Result.andThen_ok, List.map_toArray, List.map_cons, List.map_nil, hs, hx, hrun]
  exact h v' w' h2 h3 h4

theorem wpList_append_rd {ops : Array Oper} {rest : List Oper} {o : Oper} {a : Act} {Q : Exit → Act → World → Prop} (hgd : o.guard = none) (s x : Operand) (t : TypeId)
    (ho : o.op = .call { callee := .builtin .append, args := #[s, x], argTypes := #[t, t] })
    (base : Nat) (e : TypeId) (i : TypeInfo) (z : Value) (size bytes : Nat) (ht : P.underlying t = some (.slice e)) (hi : P.info? e = some i) (hz : i.zero = some z)
    (hsize : i.size = size) (hby : i.bytes = bytes) (hzs : z.cells.size = size) (hsz : 0 < size)
    (v : Value) (n : Nat) (xs : List Value) (hs : a.eval s = v) (hown : w.ownsRow base e size v n xs)
    (B : Nat) (A : Option Addr) (m c : Nat) (news : List Value) (hx : a.eval x = .slice A m c) (hl : news.length = m * size) (hr : Rd w B A news) (h1 : ∀ u ∈ news, u.oneCell' = true)
    (h63 : n + m ≤ maxLen) (hbytes : (n + m) * bytes ≤ 140737488355328) (hbase : base ≤ w.heap.size)
    (h : ∀ v' w', w'.ownsRow base e size v' (n + m) (xs ++ news) → w.grownBy w' v.ownBlock → (v'.ownBlock = v.ownBlock ∨ v'.ownBlock = some w.heap.size) → wpList P ops Q rest (a.put o.dst v') w') : wpList P ops Q (o :: rest) a w :=
  wpList_plain hgd fun _ hK => wp_append_rd w s x t ho base e i z size bytes ht hi hz hsize hby hzs hsz v n xs hs hown B A m c news hx hl hr h1 h63 hbytes hbase fun v' w' h2 h3 h4 => hK _ _ (h v' w' h2 h3 h4)
end

theorem e8_one (l : List UInt8) : ∀ u ∈ l.map e8, u.oneCell' = true := by
  intro u hu
  obtain ⟨x, _, rfl⟩ := List.mem_map.1 hu
  rfl
theorem one_int (k : IntKind) (n : Int) : ∀ u ∈ [Value.int k n], u.oneCell' = true := by
  intro u hu
  rw [List.mem_singleton] at hu
  subst hu
  rfl
theorem le_alloc {b : Nat} {w : World} (h : b ≤ w.heap.size) (o : Obj) : b ≤ (w.alloc o).heap.size := by
  rw [show (w.alloc o).heap.size = w.heap.size + 1 by simp]; omega
theorem made_int (k : IntKind) (s : Nat) : (madeCells (Value.int k 0).cells (s * 1)).toList = List.replicate s (Value.int k 0) := by
  apply List.ext_getElem
  · simp [madeCells]
  · intro i h1 h2
    simp [madeCells, Value.cells, Nat.mod_one]
theorem own_nil (w : World) (base : Nat) (e : TypeId) (size : Nat) : w.ownsRow base e size (.slice none 0 0) 0 [] := ⟨by simp, .inl ⟨rfl, rfl⟩⟩
theorem own_form {w : World} {base : Nat} {e : TypeId} {size : Nat} {v : Value} {n : Nat} {xs : List Value} (h : w.ownsRow base e size v n xs) : ∃ A c, v = .slice A n c := by
  rcases h.2 with ⟨rfl, rfl⟩ | ⟨g, cap, cur, rfl, _⟩
  · exact ⟨_, _, rfl⟩
  · exact ⟨_, _, rfl⟩
theorem own_some {w : World} {base : Nat} {e : TypeId} {size : Nat} {v : Value} {n : Nat} {xs : List Value} (h : w.ownsRow base e size v n xs) (hn : 0 < n) : ∃ g c, v = .slice (some ⟨g, 0, none⟩) n c ∧ base ≤ g := by
  rcases h.2 with ⟨rfl, rfl⟩ | ⟨g, cap, cur, rfl, hg, _⟩
  · exact absurd hn (by omega)
  · exact ⟨_, _, rfl, hg⟩
theorem own_block {w : World} {base : Nat} {e : TypeId} {size : Nat} {v : Value} {n : Nat} {xs : List Value} (h : w.ownsRow base e size v n xs) {k : Nat} (hk : v.ownBlock = some k) : base ≤ k := (h.lt k hk).1

/-- a new slice of bytes comes back, of the call's own; nothing else has turned -/
def RetB (E : TypeId) (w : World) (l : List UInt8) (e : Ending) (w' : World) : Prop :=
  ∃ A c, e = .returned (.slice A l.length c) ∧ w'.ownsRow w.heap.size E 1 (.slice A l.length c) l.length (l.map e8) ∧ Below w.heap.size w w'
theorem RetB.mk {E : TypeId} {w w' : World} {l : List UInt8} {v : Value} {n : Nat} {xs : List Value} (h : w'.ownsRow w.heap.size E 1 v n xs) (hx : xs = l.map e8) (hb : Below w.heap.size w w') : RetB E w l (.returned v) w' := by
  subst hx
  obtain ⟨A, c, rfl⟩ := own_form h
  have hn : l.length = n := by simpa using h.1
  subst hn
  exact ⟨A, c, rfl, h, hb⟩

theorem own_base {w : World} {base base' : Nat} {e : TypeId} {size : Nat} {v : Value} {n : Nat} {xs : List Value} (h : w.ownsRow base e size v n xs) (hb : base' ≤ base) : w.ownsRow base' e size v n xs := by
  refine ⟨h.1, ?_⟩
  rcases h.2 with h | ⟨g, cap, cur, hv, hg, r⟩
  · exact .inl h
  · exact .inr ⟨g, cap, cur, hv, by omega, r⟩
theorem RetB.after {E : TypeId} {w w1 w2 : World} {l : List UInt8} {A : Option Addr} {c : Nat} (h1 : Below w.heap.size w w1) (h : w2.ownsRow w1.heap.size E 1 (.slice A l.length c) l.length (l.map e8)) (h2 : Below w1.heap.size w1 w2) :
    RetB E w l (.returned (.slice A l.length c)) w2 := ⟨A, c, rfl, own_base h h1.size, h1.trans (h2.mono h1.size)⟩
theorem own_on {w w' : World} {base : Nat} {e : TypeId} {size : Nat} {v : Value} {n : Nat} {xs : List Value} (h : w.ownsRow base e size v n xs) (b : Below w.heap.size w w') : w'.ownsRow base e size v n xs := by
  refine ⟨h.1, ?_⟩
  rcases h.2 with h | ⟨g, cap, cur, hv, hg, hh, r⟩
  · exact .inl h
  · exact .inr ⟨g, cap, cur, hv, hg, (b.block g (lt_of_block hh)).trans hh, r⟩
/-- one call behind the other -/
theorem bt {w wX w1 : World} (h : Below w.heap.size w wX) (b : Below wX.heap.size wX w1) : Below w.heap.size w w1 := h.trans (b.mono h.size)
theorem b1alloc (w : World) (o : Obj) : Below w.heap.size w (w.alloc o) := (Below.refl _ _).alloc (Nat.le_refl _) _
theorem b2alloc (w : World) (o o' : Obj) : Below w.heap.size w ((w.alloc o).alloc o') := bt (b1alloc w o) (b1alloc _ _)
theorem b3alloc (w : World) (o o' o'' : Obj) : Below w.heap.size w (((w.alloc o).alloc o').alloc o'') := bt (b2alloc w o o') (b1alloc _ _)
/-- behind a call that only made memory: all old cells and marks, for the walk -/
theorem bcell {W w1 : World} (hb : Below W.heap.size W w1) : (∀ b o, b < W.heap.size → w1.cell? ⟨b, o, none⟩ = W.cell? ⟨b, o, none⟩) ∧ (∀ b o, b < W.heap.size → w1.frozen? ⟨b, o, none⟩ = W.frozen? ⟨b, o, none⟩) ∧ W.heap.size ≤ w1.heap.size :=
  ⟨fun b o h => hb.cell (p := ⟨b, o, none⟩) h, fun b o h => hb.frozen (p := ⟨b, o, none⟩) h, hb.size⟩
theorem bdrew {B : Nat} {a w : World} (h : Below B a w) (n : Nat) : Below B a (w.drewN n) := ⟨h.os, h.tape, h.output, h.size, h.block⟩
/-- an array by value, of numbers, at an index in its bounds -/
theorem run_index_ints {P : Program} {t e : TypeId} {n : Nat} {ek : IntKind} {cs : Array Value} {k : IntKind} {i : Nat} {v : Value} (h : P.underlying t = some (.array n e)) (he : P.underlying e = some (.int ek)) (hs : (P.info? e).map (·.size) = some 1) (hi : i < n) (hv : cs[i]? = some v) (w : World) :
    (Instr.index t (.agg cs) (.int k (i : Int))).run P w = .ok v w := by
  have hb : (0 : Int) ≤ (i : Int) ∧ (i : Int) < (n : Int) := by omega
  obtain ⟨inf, hinf, hsz⟩ := Option.map_eq_some_iff.1 hs
  simp [Instr.index, run_underlying h, asIntOf, hb, go_sem, part, isAgg, run_underlying he, sizeOf, typeInfo, hinf, hsz, hv]
  intro hle; omega
theorem wrap_small {x : Int} (h0 : -1000000000000 ≤ x) (h1 : x ≤ 1000000000000) : IntKind.i64.wrap x = x := IntWalk.i64_in _ (by omega)
theorem bne_no {a b : Int} (h : a = b) : (a != b) = false := by simp [h]
theorem bne_yes {a b : Int} (h : a ≠ b) : (a != b) = true := by simp [h]
theorem beq_yes {a b : Int} (h : a = b) : (a == b) = true := by simp [h]
theorem beq_no {a b : Int} (h : a ≠ b) : (a == b) = false := by simp [h]
theorem bne8 {a b : UInt8} (h : a ≠ b) : ((a.toNat : Int) != (b.toNat : Int)) = true := bne_yes (fun e => h (UInt8.toNat_inj.1 (Int.natCast_inj.1 e)))
theorem beq8 {a b : UInt8} (h : a ≠ b) : ((a.toNat : Int) == (b.toNat : Int)) = false := beq_no (fun e => h (UInt8.toNat_inj.1 (Int.natCast_inj.1 e)))
theorem bne8_no {a b : UInt8} (h : a = b) : ((a.toNat : Int) != (b.toNat : Int)) = false := by simp [h]
/-! what lay is as it lay, but for the blocks that are named -/
def Keep (fp : List Nat) (w w' : World) : Prop := w'.os = w.os ∧ w'.tape = w.tape ∧ w'.output = w.output ∧ w.heap.size ≤ w'.heap.size ∧ ∀ j, j < w.heap.size → j ∉ fp → w'.heap[j]? = w.heap[j]?
/-- a footprint has grown by new blocks alone -/
def Fresh (w : World) (fp fp' : List Nat) : Prop := ∀ j ∈ fp', j ∈ fp ∨ w.heap.size ≤ j
theorem Keep.refl (fp : List Nat) (w : World) : Keep fp w w := ⟨rfl, rfl, rfl, Nat.le_refl _, fun _ _ _ => rfl⟩
theorem Keep.size {fp : List Nat} {w w' : World} (h : Keep fp w w') : w.heap.size ≤ w'.heap.size := h.2.2.2.1
theorem Keep.block {fp : List Nat} {w w' : World} (h : Keep fp w w') {j : Nat} (hj : j < w.heap.size) (hn : j ∉ fp) : w'.heap[j]? = w.heap[j]? := h.2.2.2.2 j hj hn
theorem Keep.of_below {w w' : World} (h : Below w.heap.size w w') (fp : List Nat) : Keep fp w w' := ⟨h.os, h.tape, h.output, h.size, fun j hj _ => h.block j hj⟩
theorem Keep.of_grown {fp : List Nat} {w w' : World} {row : Option Nat} (h : w.grownBy w' row) (hr : ∀ g, row = some g → g ∈ fp) : Keep fp w w' :=
  ⟨h.os, h.tape, h.output, h.size, fun j hj hn => h.block j hj (fun e => hn (hr j e.symm))⟩
theorem Keep.trans {fp fp1 : List Nat} {w w1 w2 : World} (h : Keep fp w w1) (k : Keep fp1 w1 w2) (hf : Fresh w fp fp1) : Keep fp w w2 :=
  ⟨k.1.trans h.1, k.2.1.trans h.2.1, k.2.2.1.trans h.2.2.1, Nat.le_trans h.size k.size, fun j hj hn => (k.block (Nat.lt_of_lt_of_le hj h.size) (fun e => (hf j e).elim hn (fun h1 => absurd hj (by omega)))).trans (h.block hj hn)⟩
theorem Keep.below {fp : List Nat} {w w' : World} {B : Nat} (h : Keep fp w w') (hf : ∀ j ∈ fp, B ≤ j) (hB : B ≤ w.heap.size) : Below B w w' :=
  ⟨h.1, h.2.1, h.2.2.1, h.size, fun j hj => h.block (by omega) (fun e => by have := hf j e; omega)⟩
theorem Keep.more {fp fp' : List Nat} {w w' : World} (h : Keep fp w w') (hf : ∀ j ∈ fp, j ∈ fp') : Keep fp' w w' := ⟨h.1, h.2.1, h.2.2.1, h.size, fun j hj hn => h.block hj (fun e => hn (hf j e))⟩
theorem Keep.set {fp : List Nat} {w w' : World} (h : Keep fp w w') {p : Addr} (hp : p.block ∈ fp ∨ w.heap.size ≤ p.block) (u : Value) : Keep fp w (w'.setCell p u) :=
  ⟨h.1, h.2.1, h.2.2.1, by simpa [World.setCell] using h.size, fun j hj hn => (Below.heap_setCell w' p u j (by
    rintro rfl
    rcases hp with hp | hp
    · exact hn hp
    · omega)).trans (h.block hj hn)⟩
theorem Keep.alloc {fp : List Nat} {w w' : World} (h : Keep fp w w') (o : Obj) : Keep fp w (w'.alloc o) :=
  ⟨h.1, h.2.1, h.2.2.1, Nat.le_trans h.size (by simp), fun j hj hn => (Below.heap_alloc w' o j (Nat.lt_of_lt_of_le hj h.size)).trans (h.block hj hn)⟩
theorem Keep.drewN {fp : List Nat} {w w' : World} (h : Keep fp w w') (n : Nat) : Keep fp w (w'.drewN n) := h
theorem Fresh.refl (w : World) (fp : List Nat) : Fresh w fp fp := fun _ h => .inl h
theorem Fresh.trans {w w1 : World} {fp fp1 fp2 : List Nat} (h : Fresh w fp fp1) (hs : w.heap.size ≤ w1.heap.size) (k : Fresh w1 fp1 fp2) : Fresh w fp fp2 := fun j hj => by
  rcases k j hj with h1 | h1
  · exact h j h1
  · exact .inr (by omega)
theorem Fresh.ge {w : World} {fp fp1 : List Nat} {B : Nat} (h : Fresh w fp fp1) (hf : ∀ j ∈ fp, B ≤ j) (hB : B ≤ w.heap.size) : ∀ j ∈ fp1, B ≤ j := fun j hj => by
  rcases h j hj with h1 | h1
  · exact hf j h1
  · omega
theorem Fresh.out {w : World} {fp fp1 : List Nat} {g : Nat} (h : Fresh w fp fp1) (hg : g < w.heap.size) (hn : g ∉ fp) : g ∉ fp1 := fun e => by
  rcases h g e with h1 | h1
  · exact hn h1
  · omega
theorem Rd.keepK {w w' : World} {B : Nat} {A : Option Addr} {xs : List Value} {fp : List Nat} (h : Rd w B A xs) (k : Keep fp w w') (hf : ∀ j ∈ fp, B ≤ j) (hB : B ≤ w.heap.size) : Rd w' B A xs := h.below (k.below hf hB)
theorem own_keep {w w' : World} {base : Nat} {e : TypeId} {size : Nat} {v : Value} {n : Nat} {xs : List Value} {fp : List Nat} (h : w.ownsRow base e size v n xs) (k : Keep fp w w') (hne : ∀ g, v.ownBlock = some g → g ∉ fp) : w'.ownsRow base e size v n xs := by
  refine ⟨h.1, ?_⟩
  rcases h.2 with h | ⟨g, cap, cur, rfl, hg, hh, r⟩
  · exact .inl h
  · exact .inr ⟨g, cap, cur, rfl, hg, (k.block (lt_of_block hh) (hne g rfl)).trans hh, r⟩
theorem Box.keep {w w' : World} {g : Nat} {v : Value} {fp : List Nat} (h : Box w g v) (k : Keep fp w w') (hg : g ∉ fp) : Box w' g v := h.elim fun t hh => ⟨t, (k.block (lt_of_block hh) hg).trans hh⟩
/-- a slice that reads as a list of cells, in none of the blocks that are named -/
def RdN (w : World) (fp : List Nat) (A : Option Addr) (xs : List Value) : Prop :=
  xs ≠ [] → ∃ b off, A = some ⟨b, off, none⟩ ∧ b < w.heap.size ∧ b ∉ fp ∧ ∀ i (h : i < xs.length), w.cell? ⟨b, off + i, none⟩ = some xs[i]
theorem RdN.nil (w : World) (fp : List Nat) (A : Option Addr) : RdN w fp A [] := fun h => absurd rfl h
theorem RdN.rd {w : World} {fp : List Nat} {A : Option Addr} {xs : List Value} (h : RdN w fp A xs) : Rd w w.heap.size A xs := fun hne => by
  obtain ⟨b, off, rfl, hb, _, hc⟩ := h hne
  exact ⟨b, off, rfl, hb, hc⟩
theorem RdN.of {w : World} {fp : List Nat} {A : Option Addr} {xs : List Value} {B : Nat} (h : Rd w B A xs) (hf : ∀ j ∈ fp, B ≤ j) (hB : B ≤ w.heap.size) : RdN w fp A xs := fun hne => by
  obtain ⟨b, off, rfl, hb, hc⟩ := h hne
  exact ⟨b, off, rfl, by omega, fun e => by have := hf b e; omega, hc⟩
theorem RdN.keep {w w' : World} {fp fp' : List Nat} {A : Option Addr} {xs : List Value} (h : RdN w fp A xs) (k : Keep fp w w') (f : Fresh w fp fp') : RdN w' fp' A xs := fun hne => by
  obtain ⟨b, off, rfl, hb, hn, hc⟩ := h hne
  exact ⟨b, off, rfl, Nat.lt_of_lt_of_le hb k.size, f.out hb hn, fun i hi => (World.cell?_of_block (k.block hb hn)).trans (hc i hi)⟩
theorem RdN.on {w w' : World} {fp : List Nat} {A : Option Addr} {xs : List Value} (h : RdN w fp A xs) (b : Below w.heap.size w w') : RdN w' fp A xs := h.keep (Keep.of_below b fp) (Fresh.refl _ _)
theorem RdN.take {w : World} {fp : List Nat} {A : Option Addr} {xs : List Value} (h : RdN w fp A xs) (k : Nat) : RdN w fp A (xs.take k) := by
  intro hne
  obtain ⟨b, off, rfl, hb, hn, hc⟩ := h (by rintro rfl; exact hne (by simp))
  exact ⟨b, off, rfl, hb, hn, fun i hi => by rw [hc i (by rw [List.length_take] at hi; omega), List.getElem_take]⟩
theorem Rd.take {w : World} {B : Nat} {A : Option Addr} {xs : List Value} (h : Rd w B A xs) (k : Nat) : Rd w B A (xs.take k) := by
  intro hne
  obtain ⟨b, off, rfl, hb, hc⟩ := h (by rintro rfl; exact hne (by simp))
  exact ⟨b, off, rfl, hb, fun i hi => by rw [hc i (by rw [List.length_take] at hi; omega), List.getElem_take]⟩
theorem RdN.own {w w' : World} {e : TypeId} {A : Option Addr} {n c : Nat} {xs : List Value} {fp : List Nat} (h : w'.ownsRow w.heap.size e 1 (.slice A n c) n xs) (hf : ∀ j ∈ fp, j < w.heap.size) : RdN w' fp A xs := by
  intro hne
  rcases h.2 with ⟨hv, hn⟩ | ⟨g, cap, cur, hv, hg, hh, hnc, hcm, hcs, ht⟩
  · exact absurd (List.eq_nil_of_length_eq_zero (by have := h.1; omega)) hne
  · injection hv with hA _ _
    subst hA
    refine ⟨g, 0, rfl, lt_of_block hh, fun e => by have := hf g e; omega, fun i hi => ?_⟩
    have hl := h.1
    have := World.ownsRow.cellAt (j := i) h (by omega)
    rw [Nat.zero_add, this]; exact List.getElem?_eq_getElem hi
/-- a slice literal -/
theorem own_lit (w : World) (e : TypeId) (cs : Array Value) (base n : Nat) (hb : base ≤ w.heap.size) (hn : cs.size = n) (hm : n ≤ maxLen) : (w.alloc (.cells cs e)).ownsRow base e 1 (.slice (some ⟨w.heap.size, 0, none⟩) n n) n cs.toList := by
  subst hn
  refine ⟨by simp, .inr ⟨w.heap.size, cs.size, cs, rfl, hb, heap_alloc_new w _, Nat.le_refl _, hm, by simp, ?_⟩⟩
  rw [Nat.mul_one]; exact List.take_of_length_le (by simp)
theorem retB_lit1 {E : TypeId} {w : World} {o : Obj} {cs : Array Value} {l : List UInt8} {v : Value} (h : cs.toList = l.map e8) (hm : l.length ≤ 1000000) (hv : v = .slice (some ⟨w.heap.size + 1, 0, none⟩) l.length l.length) :
    RetB E w l (.returned v) ((w.alloc o).alloc (.cells cs E)) := by
  subst hv
  have hs : cs.size = l.length := by have := congrArg List.length h; simpa using this
  have := own_lit (w.alloc o) E cs w.heap.size l.length (b1alloc _ _).size hs (by unfold maxLen; omega)
  rw [h, show (w.alloc o).heap.size = w.heap.size + 1 by simp] at this
  exact ⟨_, _, rfl, this, b2alloc _ _ _⟩
theorem Rd.drop {w : World} {B : Nat} {A : Option Addr} {xs : List Value} (h : Rd w B A xs) (k : Nat) : Rd w B (A.map (fun x => x.add k)) (xs.drop k) := by
  intro hne
  obtain ⟨b, off, rfl, hb, hc⟩ := h (by rintro rfl; exact hne (by simp))
  refine ⟨b, off + k, by simp [Addr.add_lit], hb, fun i hi => ?_⟩
  rw [List.length_drop] at hi
  rw [Nat.add_assoc, hc (k + i) (by omega), List.getElem_drop]
theorem Rd.empty {w : World} {B : Nat} {A : Option Addr} {xs : List Value} (h : xs = []) : Rd w B A xs := fun hne => absurd h hne
theorem own_cap {w : World} {base : Nat} {e : TypeId} {size n c : Nat} {A : Option Addr} {xs : List Value} (h : w.ownsRow base e size (.slice A n c) n xs) : n ≤ c ∧ c ≤ maxLen := by
  rcases h.2 with ⟨hv, hn⟩ | ⟨g, cap, cur, hv, _, _, h1, h2, _⟩
  · injection hv with _ _ hc
    subst hc hn
    exact ⟨by omega, by unfold maxLen; omega⟩
  · injection hv with _ _ hc
    subst hc
    exact ⟨h1, h2⟩
theorem bset {B : Nat} {a w : World} (h : Below B a w) {b o : Nat} (hb : B ≤ b) (v : Value) : Below B a (w.setCell ⟨b, o, none⟩ v) := h.setCell (p := ⟨b, o, none⟩) hb v
theorem bset_new {w w' : World} (h : Below w.heap.size w w') (o : Nat) (v : Value) : Below w.heap.size w (w'.setCell ⟨w.heap.size, o, none⟩ v) := bset h (Nat.le_refl _) v
/-! ends -/
theorem ret_int {k : IntKind} {a b : Int} (h : a = b) : Ending.returned (.int k a) = .returned (.int k b) := by rw [h]
theorem ret_bool {a b : Bool} (h : a = b) : Ending.returned (.bool a) = .returned (.bool b) := by rw [h]
end Go.Proofs.YteecbjpnnklbpaaDoor

/- Numbers as bytes, most significant first: plain functions; nothing of the program. -/
namespace Go.Proofs.YteecbjpnnklbpaaDoor.Num

def putL (n size : Nat) : List UInt8 := (List.range size).map fun j => UInt8.ofNat (n / 2 ^ (8 * (size - 1 - j)))
theorem putL_len (n size : Nat) : (putL n size).length = size := by simp [putL]
theorem putL_get (n size j : Nat) (h : j < (putL n size).length) : (putL n size)[j] = UInt8.ofNat (n / 2 ^ (8 * (size - 1 - j))) := by simp [putL]
theorem putL_take (n size j : Nat) (h : j < size) : (putL n size).take (j + 1) = (putL n size).take j ++ [UInt8.ofNat (n / 2 ^ (8 * (size - 1 - j)))] := by
  rw [List.take_succ_eq_append_getElem (by rw [putL_len]; exact h), putL_get]
theorem cell_of (n e : Nat) : ((UInt8.ofNat (n / 2 ^ e)).toNat : Int) = (n : Int) / 2 ^ e % 256 := by
  rw [UInt8.toNat_ofNat', Int.natCast_emod, Int.natCast_ediv, Int.natCast_pow]; rfl
/-- the reference's: the last ones are put first -/
def backL (n size k : Nat) : List UInt8 := (List.range size).map fun i => if i < size - k then 0 else UInt8.ofNat (n / 2 ^ (8 * (size - 1 - i)))
theorem backL_len (n size k : Nat) : (backL n size k).length = size := by simp [backL]
theorem backL_zero (n size : Nat) : backL n size 0 = List.replicate size 0 := by
  apply List.ext_getElem
  · simp [backL]
  · intro i h1 h2
    rw [backL_len] at h1
    simp only [backL, List.getElem_map, List.getElem_range, List.getElem_replicate]
    rw [if_pos (by omega)]
theorem backL_all (n size : Nat) : backL n size size = putL n size := by
  unfold backL putL
  apply List.map_congr_left
  intro i _
  rw [if_neg (by omega)]
theorem backL_set (n size k : Nat) (h : k < size) : (backL n size k).set (size - 1 - k) (UInt8.ofNat (n / 2 ^ (8 * k))) = backL n size (k + 1) := by
  apply List.ext_getElem
  · simp [backL]
  · intro i h1 h2
    rw [List.length_set, backL_len] at h1
    rw [List.getElem_set]
    simp only [backL, List.getElem_map, List.getElem_range]
    by_cases e : size - 1 - k = i
    · subst e
      rw [if_pos rfl, if_neg (by omega), show size - 1 - (size - 1 - k) = k by omega]
    · rw [if_neg e]
      by_cases e2 : i < size - k
      · rw [if_pos e2, if_pos (by omega)]
      · rw [if_neg e2, if_neg (by omega)]
/-- the number that bytes are -/
def getN (l : List UInt8) : Nat := l.foldl (fun n c => n * 256 + c.toNat) 0
theorem getN_snoc (l : List UInt8) (c : UInt8) : getN (l ++ [c]) = getN l * 256 + c.toNat := by simp [getN]
theorem getN_take {l : List UInt8} {k : Nat} (h : k < l.length) : getN (l.take (k + 1)) = getN (l.take k) * 256 + l[k].toNat := by
  rw [List.take_succ_eq_append_getElem h, getN_snoc]
theorem getN_lt (l : List UInt8) : ∀ k, k ≤ l.length → getN (l.take k) < 256 ^ k
  | 0, _ => by simp [getN]
  | k + 1, h => by
    rw [getN_take (by omega), Nat.pow_succ]
    have := getN_lt l k (by omega)
    have := l[k].toNat_lt
    omega
theorem getN_8 (l : List UInt8) (h : l.length ≤ 8) : getN l < 18446744073709551616 := by
  have := getN_lt l l.length (Nat.le_refl _)
  rw [List.take_length] at this
  exact Nat.lt_of_lt_of_le this (Nat.pow_le_pow_right (by omega) h)
theorem getN_7 (l : List UInt8) (k : Nat) (hk : k ≤ l.length) (h : k ≤ 7) : getN (l.take k) < 72057594037927936 := 
  Nat.lt_of_lt_of_le (getN_lt l k hk) (Nat.pow_le_pow_right (by omega) h)
theorem putL_succ (n s : Nat) : putL n (s + 1) = putL (n / 256) s ++ [UInt8.ofNat n] := by
  unfold putL
  rw [List.range_succ, List.map_append]
  congr 1
  · apply List.map_congr_left
    intro j hj
    have hj' := List.mem_range.1 hj
    rw [Nat.div_div_eq_div_mul, show (256 : Nat) = 2 ^ 8 from rfl, ← Nat.pow_add]
    congr 3
    omega
  · simp
theorem getN_putL (n s : Nat) : getN (putL n s) = n % 256 ^ s := by
  induction s generalizing n with
  | zero => simp [putL, getN, Nat.mod_one]
  | succ s ih =>
    have h := Nat.mod_mul (x := n) (a := 256) (b := 256 ^ s)
    rw [putL_succ, getN_snoc, ih, UInt8.toNat_ofNat', show 256 ^ (s + 1) = 256 * 256 ^ s by rw [Nat.pow_succ, Nat.mul_comm], h, show (2 : Nat) ^ 8 = 256 from rfl]
    omega
end Go.Proofs.YteecbjpnnklbpaaDoor.Num

/- The walks of the package num and of the reference's numbers as bytes. -/
namespace Go.Proofs.YteecbjpnnklbpaaDoor.Num
open Go.RowKit
set_option linter.unusedVariables false
set_option maxRecDepth 100000

theorem info8 : (Tryd.prog.info? 5).map (fun i => (i.zero, i.size, i.bytes)) = some (some (.int .u8 0), 1, 1) := by kernel_rfl
/-- bytes of a size outside 1 to 8: none -/
def put (n : Nat) (size : Int) : List UInt8 := if 1 ≤ size ∧ size ≤ 8 then putL n size.toNat else []

set_option maxHeartbeats 400000 in
theorem put_any (n : UInt64) (m : Int) (hm : m = (n.toNat : Int)) (s : Nat) (z : Int) (hz : z = (s : Int)) (hs : 1 ≤ s) (hs8 : s ≤ 8) (w : World) :
    Calls Tryd.prog 65 #[.int .u64 m, .int .i64 z] w fun e w' => RetB 5 w (putL n.toNat s) e w' := by
  subst hm hz
  obtain ⟨i0, hi0, hz0, hz1, hz2⟩ := info_parts info8
  have hn0 : (0 : Int) ≤ (n.toNat : Int) := by omega
  have hn1 : (n.toNat : Int) ≤ 18446744073709551615 := by have := n.toNat_lt; omega
  go_enter Tryd.func65, Tryd.ntmps65
  go_wp2
  go_step3
  go_wp2
  go_step3
  go_wp2
  go_loopw [4, 5] (fun v i wr => ∃ k : Nat, k ≤ s ∧ i = .int .i64 ((s : Int) - 1 - (k : Int)) ∧ wr.ownsRow w.heap.size 5 1 v k (((putL n.toNat s).take k).map e8) ∧ Below w.heap.size w wr) (fun _ i _ => (intOf i + 1).toNat)
  case atStart => exact ⟨0, by omega, by go_num, by simpa using own_nil _ _ _ _, Below.refl _ _⟩
  case round =>
    obtain ⟨k, hk, rfl, hown, hbel⟩ := hrel
    by_cases hlt : k < s
    · have hcell := Lib.hid (cell_of n.toNat (8 * (s - 1 - k)))
      go_wp2_with (at_builtin; refine wpList_append_rd _ rfl _ _ _ rfl w.heap.size 5 i0 _ 1 1 Tryd.underlying37 hi0 hz0 hz1 hz2 rfl (by omega) _ k _ rfl (hown.alloc _) _ _ 1 1 [.int .u8 ((n.toNat : Int) / 2 ^ (8 * (s - 1 - k)) % 256)] rfl rfl (Rd.lit wr _ _ _ (wr.heap.size + 1) rfl (by omega)) (one_int _ _) (by simp only [maxLen]; omega) (by omega) (le_alloc hbel.size _) ?_; intro v1 w1 hown1 hg1 hat1)
      go_roundw
      case rel => exact ⟨k + 1, by omega, by go_num, by rw [putL_take _ _ _ hlt, List.map_append, List.map_singleton]; unfold e8; rw [hcell.out]; exact hown1, (hbel.alloc hbel.size _).grown hg1 (by have := hbel.size; simp; omega) (fun g hg => own_block hown hg)⟩
      case measure => simp [intOf]; omega
    · obtain rfl : k = s := by omega
      rw [List.take_of_length_le (by rw [putL_len]; omega)] at hown
      go_wp2
      rw [Exit.noGoto_ret]
      go_ret
      exact RetB.mk hown rfl hbel
set_option maxHeartbeats 400000 in
theorem rput_any (n : UInt64) (m : Int) (hm : m = (n.toNat : Int)) (s : Nat) (z : Int) (hz : z = (s : Int)) (hs : 1 ≤ s) (hs8 : s ≤ 8) (w : World) :
    Calls Tryd.prog 85 #[.int .u64 m, .int .i64 z] w fun e w' => RetB 5 w (putL n.toNat s) e w' := by
  subst hm hz
  obtain ⟨i0, hi0, hz0, hz1, hz2⟩ := info_parts info8
  have hn0 : (0 : Int) ≤ (n.toNat : Int) := by omega
  have hn1 : (n.toNat : Int) ≤ 18446744073709551615 := by have := n.toNat_lt; omega
  go_enter Tryd.func85, Tryd.ntmps85
  go_wp2_with (at_make; refine wpList_make_full _ rfl _ _ _ rfl w.heap.size 5 i0 _ 1 Tryd.underlying37 hi0 hz0 hz1 _ _ _ _ s rfl rfl rfl rfl (by rw [hz2]; omega) (by simp only [maxLen]; omega) (Nat.le_refl _) ?_; intro w1 hown1 hg1)
  rw [made_int] at hown1
  have hbw : Below w.heap.size w w1 := (Below.refl _ _).grown hg1 (Nat.le_refl _) (by simp)
  go_loopw [0, 6] (fun m i wr => ∃ k : Nat, k ≤ s ∧ m = .int .u64 ((n.toNat / 2 ^ (8 * k) : Nat) : Int) ∧ i = .int .i64 ((s : Int) - 1 - (k : Int)) ∧ wr.ownsRow w.heap.size 5 1 (.slice (some ⟨w.heap.size, 0, none⟩) s s) s ((backL n.toNat s k).map e8) ∧ Below w.heap.size w wr) (fun _ i _ => (intOf i + 1).toNat)
  case atStart => exact ⟨0, by omega, by simp, by go_num, by rw [backL_zero, List.map_replicate]; exact hown1, hbw⟩
  case round =>
    obtain ⟨k, hk, rfl, rfl, hown, hbel⟩ := hrel
    by_cases hlt : k < s
    · have hcell := Lib.hid (cell_of n.toNat (8 * k))
      have hlen := backL_len n.toNat s k
      have hc := World.ownsRow.cellAt hown (s - 1 - k) (by omega)
      have hi : s - 1 - k < ((backL n.toNat s k).map e8).length := by rw [List.length_map, hlen]; omega
      rw [List.getElem?_eq_getElem hi, List.getElem_map] at hc
      have hf := World.ownsRow.frozenAt hown (s - 1 - k)
      have hst := (World.ownsRow.stored hown (s - 1 - k) (e8 (UInt8.ofNat (n.toNat / 2 ^ (8 * k))))).1
      rw [← List.map_set, backL_set _ _ _ hlt] at hst
      unfold e8 at hst
      rw [hcell.out] at hst
      have Hst := Lib.hid hst
      obtain ⟨q, hq⟩ : ∃ q, q = n.toNat / 2 ^ (8 * k) := ⟨_, rfl⟩
      have hq1 : (q : Int) ≤ 18446744073709551615 := by have : q ≤ n.toNat := by rw [hq]; exact Nat.div_le_self _ _
                                                        omega
      have hq2 := Lib.hid (show ((q : Int) / 256) = ((n.toNat / 2 ^ (8 * (k + 1)) : Nat) : Int) by rw [show n.toNat / 2 ^ (8 * (k + 1)) = q / 256 by rw [hq, Nat.div_div_eq_div_mul, Nat.mul_add, Nat.pow_add]]; omega)
      rw [← hq]
      have Hq := Lib.hid hq
      clear hlen hq hst hcell
      go_wp2
      go_roundw
      case rel => exact ⟨k + 1, by omega, by rw [hq2.out], by go_num, by have h := Hst.out
                                                                         rw [show (n.toNat : Int) / 2 ^ (8 * k) = (q : Int) by rw [Hq.out, Int.natCast_ediv, Int.natCast_pow]; rfl] at h
                                                                         exact h, hbel.setCell (Nat.le_refl _) _⟩
      case measure => simp [intOf]; omega
    · obtain rfl : k = s := by omega
      rw [backL_all] at hown
      go_wp2
      go_ret
      exact RetB.mk hown rfl hbel
theorem put_le (n : Nat) (s : Int) : (put n s).length ≤ 8 := by
  unfold put
  split
  · rw [putL_len]; omega
  · simp
theorem put_yes {n : Nat} {s : Int} (h0 : 1 ≤ s) (h1 : s ≤ 8) : put n s = putL n s.toNat := if_pos ⟨h0, h1⟩
theorem put_no {n : Nat} {s : Int} (h : s < 1 ∨ 8 < s) : put n s = [] := if_neg (by omega)
theorem retB_nil (E : TypeId) (w : World) : RetB E w [] (.returned (.slice none 0 0)) w := ⟨none, 0, rfl, own_nil _ _ _ _, Below.refl _ _⟩
set_option maxHeartbeats 400000 in
theorem putz_any (n : UInt64) (m : Int) (hm : m = (n.toNat : Int)) (s : Int) (hs0 : -9223372036854775808 ≤ s) (hs1 : s ≤ 9223372036854775807) (w : World) :
    Calls Tryd.prog 65 #[.int .u64 m, .int .i64 s] w fun e w' => RetB 5 w (put n.toNat s) e w' := by
  by_cases h : 1 ≤ s ∧ s ≤ 8
  · rw [put_yes h.1 h.2]
    exact put_any n m hm s.toNat s (by omega) (by omega) (by omega) w
  · have hp := Lib.hid (put_no (n := n.toNat) (show s < 1 ∨ 8 < s by omega))
    have hr := retB_nil 5 w
    rcases (show s < 1 ∨ 8 < s by omega) with h1 | h1
    all_goals
      clear h
      go_enter Tryd.func65, Tryd.ntmps65
      go_wp2
      go_step3
      go_wp2
      go_ret
      rw [hp.out]
      exact hr
set_option maxHeartbeats 400000 in
theorem rputz_any (n : UInt64) (m : Int) (hm : m = (n.toNat : Int)) (s : Int) (hs0 : -9223372036854775808 ≤ s) (hs1 : s ≤ 9223372036854775807) (w : World) :
    Calls Tryd.prog 85 #[.int .u64 m, .int .i64 s] w fun e w' => RetB 5 w (put n.toNat s) e w' := by
  by_cases h : 1 ≤ s ∧ s ≤ 8
  · rw [put_yes h.1 h.2]
    exact rput_any n m hm s.toNat s (by omega) (by omega) (by omega) w
  · have hp := Lib.hid (put_no (n := n.toNat) (show s < 1 ∨ 8 < s by omega))
    have hr := retB_nil 5 w
    rcases (show s < 1 ∨ 8 < s by omega) with h1 | h1
    all_goals
      clear h
      go_enter Tryd.func85, Tryd.ntmps85
      go_wp2
      go_ret
      rw [hp.out]
      exact hr
theorem or_byte {n c : Nat} (hn : n < 72057594037927936) (hc : c < 256) : bits .or .u64 ((n : Int) * 256) (c : Int) = ((n * 256 + c : Nat) : Int) := by
  have h := u64_or_nat (n * 256) c (by omega) (by omega)
  have h2 : n * 256 ||| c = n * 256 + c := by
    have := Nat.shiftLeft_add_eq_or_of_lt (i := 8) (a := n) (b := c) (by omega)
    rw [Nat.shiftLeft_eq, show (2 : Nat) ^ 8 = 256 from rfl] at this
    omega
  rw [h2] at h
  rw [show ((n : Int) * 256) = ((n * 256 : Nat) : Int) by omega]
  exact h
set_option maxHeartbeats 400000 in
theorem get_any (A : Option Addr) (l : List UInt8) (n cap : Nat) (B : Nat) (w : World) (hn : n = l.length) (hr : Rd w B A (l.map e8)) (h1 : 1 ≤ l.length) (h8 : l.length ≤ 8) :
    Calls Tryd.prog 124 #[.slice A n cap] w fun e w' => e = .returned (.tuple #[.int .u64 (getN l : Int), .int .i64 0]) ∧ w = w' := by
  subst hn
  have hne := beq_no (show (l.length : Int) ≠ 0 by omega)
  go_enter Tryd.func124, Tryd.ntmps124
  go_wp2
  go_loop [2, 5, 16] (fun n _ i => ∃ k : Nat, k ≤ l.length ∧ i = .int .i64 k ∧ n = .int .u64 (getN (l.take k) : Int)) (fun _ _ i => l.length - (intOf i).toNat)
  case atStart => exact ⟨0, by omega, rfl, rfl⟩
  case round =>
    obtain ⟨k, hk, rfl, rfl⟩ := hrel
    by_cases hlt : k < l.length
    · obtain ⟨b, off, rfl, hbb, hc⟩ := hr.get (k := k) (by simpa using hlt)
      rw [List.getElem_map] at hc
      have hb := getN_7 l k hk (by omega)
      have hc0 : (0 : Int) ≤ (l[k].toNat : Int) := by omega
      have hc1 : (l[k].toNat : Int) ≤ 255 := by have := l[k].toNat_lt; omega
      have hv := Lib.hid (show bits .or .u64 ((getN (l.take k) : Int) * 256) (l[k].toNat : Int) = (getN (l.take (k + 1)) : Int) by rw [or_byte hb (by omega), getN_take hlt])
      go_wp2
      go_round
      case rel => exact ⟨k + 1, by omega, by go_num, by rw [hv.out]⟩
      case measure => simp [intOf]; omega
    · obtain rfl : k = l.length := by omega
      have ht := Lib.hid (show getN (l.take l.length) = getN l by rw [List.take_length])
      go_wp2
      go_ret2
      exact ⟨by rw [← ht.out]; rfl, rfl⟩
set_option maxHeartbeats 400000 in
theorem get_no (A : Option Addr) (n cap : Nat) (w : World) (h : n = 0 ∨ 8 < n) (hm : n ≤ maxLen) :
    Calls Tryd.prog 124 #[.slice A n cap] w fun e w' => e = .returned (.tuple #[.int .u64 0, .int .i64 4]) ∧ w = w' := by
  unfold maxLen at hm
  rcases h with rfl | h
  · go_enter Tryd.func124, Tryd.ntmps124
    go_wp2
    go_ret2
    exact ⟨rfl, rfl⟩
  · have hne := beq_no (show (n : Int) ≠ 0 by omega)
    go_enter Tryd.func124, Tryd.ntmps124
    go_wp2
    go_ret2
    exact ⟨rfl, rfl⟩
set_option maxHeartbeats 400000 in
theorem rget_any (A : Option Addr) (l : List UInt8) (n cap : Nat) (B : Nat) (w : World) (hn : n = l.length) (hr : Rd w B A (l.map e8)) (h1 : 1 ≤ l.length) (h8 : l.length ≤ 8) :
    Calls Tryd.prog 119 #[.slice A n cap] w fun e w' => e = .returned (.tuple #[.int .u64 (getN l : Int), .int .i64 0]) ∧ w = w' := by
  subst hn
  go_enter Tryd.func119, Tryd.ntmps119
  go_wp2
  go_loop [4, 5] (fun n i => ∃ k : Nat, k ≤ l.length ∧ i = .int .i64 k ∧ n = .int .u64 (getN (l.take k) : Int)) (fun _ i => l.length - (intOf i).toNat)
  case atStart => exact ⟨0, by omega, rfl, rfl⟩
  case round =>
    obtain ⟨k, hk, rfl, rfl⟩ := hrel
    by_cases hlt : k < l.length
    · obtain ⟨b, off, rfl, hbb, hc⟩ := hr.get (k := k) (by simpa using hlt)
      rw [List.getElem_map] at hc
      have hb := getN_7 l k hk (by omega)
      have hc0 : (0 : Int) ≤ (l[k].toNat : Int) := by omega
      have hc1 : (l[k].toNat : Int) ≤ 255 := by have := l[k].toNat_lt; omega
      have hv := Lib.hid (show (getN (l.take k) : Int) * 256 + (l[k].toNat : Int) = (getN (l.take (k + 1)) : Int) by rw [getN_take hlt]; omega)
      go_wp2
      go_round
      case rel => exact ⟨k + 1, by omega, by go_num, by rw [hv.out]⟩
      case measure => simp [intOf]; omega
    · obtain rfl : k = l.length := by omega
      have ht := Lib.hid (show getN (l.take l.length) = getN l by rw [List.take_length])
      go_wp2
      go_ret2
      exact ⟨by rw [← ht.out]; rfl, rfl⟩
set_option maxHeartbeats 400000 in
theorem rget_no (A : Option Addr) (n cap : Nat) (w : World) (h : n = 0 ∨ 8 < n) (hm : n ≤ maxLen) :
    Calls Tryd.prog 119 #[.slice A n cap] w fun e w' => e = .returned (.tuple #[.int .u64 0, .int .i64 4]) ∧ w = w' := by
  unfold maxLen at hm
  rcases h with rfl | h
  · go_enter Tryd.func119, Tryd.ntmps119
    go_wp2
    go_ret2
    exact ⟨rfl, rfl⟩
  · go_enter Tryd.func119, Tryd.ntmps119
    go_wp2
    go_ret2
    exact ⟨rfl, rfl⟩
end Go.Proofs.YteecbjpnnklbpaaDoor.Num

/- The walks of the reference's small helpers (oublietteref01). -/
namespace Go.Proofs.YteecbjpnnklbpaaDoor.R1
open Go.RowKit
set_option linter.unusedVariables false
set_option maxRecDepth 100000

theorem info8 : (Tryd.prog.info? 5).map (fun i => (i.zero, i.size, i.bytes)) = some (some (.int .u8 0), 1, 1) := by kernel_rfl

set_option maxHeartbeats 400000 in
theorem join_any (A B : Option Addr) (l m : List UInt8) (n o c d : Nat) (w : World) (hn : n = l.length) (ho : o = m.length) (ha : Rd w w.heap.size A (l.map e8)) (hb : Rd w w.heap.size B (m.map e8)) (hl : l.length + m.length ≤ 1000000000000) :
    Calls Tryd.prog 47 #[.slice A n c, .slice B o d] w fun e w' => RetB 5 w (l ++ m) e w' := by
  subst hn ho
  obtain ⟨i0, hi0, hz0, hz1, hz2⟩ := info_parts info8
  go_enter Tryd.func47, Tryd.ntmps47
  go_wp2_with (first
    | (at_builtin; refine wpList_append_rd _ rfl (.tmp 6) (.tmp 7) _ rfl w.heap.size 5 i0 _ 1 1 Tryd.underlying37 hi0 hz0 hz1 hz2 rfl (by omega) (.slice none 0 0) 0 [] rfl (own_nil _ _ _ _) w.heap.size A l.length c (l.map e8) rfl (by simp) ha (e8_one _) (by simp only [maxLen]; omega) (by omega) (Nat.le_refl _) ?_; intro v1 w1 hown1 hg1 hat1; have hbw1 : Below w.heap.size w w1 := (Below.refl _ _).grown hg1 (Nat.le_refl _) (by simp [Value.ownBlock]))
    | (at_builtin; refine wpList_append_rd _ rfl (.tmp 9) (.tmp 10) _ rfl w.heap.size 5 i0 _ 1 1 Tryd.underlying37 hi0 hz0 hz1 hz2 rfl (by omega) v1 (0 + l.length) ([] ++ l.map e8) rfl hown1 w.heap.size B m.length d (m.map e8) rfl (by simp) (hb.below hbw1) (e8_one _) (by simp only [maxLen]; omega) (by omega) hbw1.size ?_; intro v2 w2 hown2 hg2 hat2))
  go_ret
  exact RetB.mk hown2 (by simp) (hbw1.grown hg2 hbw1.size (fun k hk => own_block hown1 hk))


/-- are bytes the same? -/
def sameB (a b : List UInt8) : Bool := decide (a = b)
theorem sameB_self (a : List UInt8) : sameB a a = true := by simp [sameB]
theorem sameB_of {a b : List UInt8} (h : a = b) : sameB a b = true := by simp [sameB, h]
theorem sameB_len {a b : List UInt8} (h : a.length ≠ b.length) : sameB a b = false := by
  simp only [sameB, decide_eq_false_iff_not]; intro e; exact h (by rw [e])
theorem sameB_at {a b : List UInt8} {k : Nat} (ha : k < a.length) (hb : k < b.length) (h : a[k] ≠ b[k]) : sameB a b = false := by
  simp only [sameB, decide_eq_false_iff_not]; intro e; subst e; exact h rfl
theorem sameB_all {a b : List UInt8} (hl : a.length = b.length) (h : ∀ j (ha : j < a.length) (hb : j < b.length), a[j] = b[j]) : sameB a b = true :=
  sameB_of (List.ext_getElem hl h)
theorem agree_succ {l m : List UInt8} {k : Nat} (h : ∀ j (ha : j < l.length) (hb : j < m.length), j < k → l[j] = m[j]) {h1 : k < l.length} {h2 : k < m.length} (he : l[k] = m[k]) :
    ∀ j (ha : j < l.length) (hb : j < m.length), j < k + 1 → l[j] = m[j] := fun j ha hb hj => by
  rcases Nat.lt_or_ge j k with e | e
  · exact h j ha hb e
  · obtain rfl : j = k := by omega
    exact he
set_option maxHeartbeats 400000 in
theorem same_any (A B : Option Addr) (l m : List UInt8) (n o c d : Nat) (w : World) (hn : n = l.length) (ho : o = m.length) (ha : Rd w w.heap.size A (l.map e8)) (hb : Rd w w.heap.size B (m.map e8)) (hl : l.length ≤ 1000000000000) (hm : m.length ≤ 1000000000000) :
    Calls Tryd.prog 29 #[.slice A n c, .slice B o d] w fun e w' => e = .returned (.bool (sameB l m)) ∧ Below w.heap.size w w' := by
  subst hn ho
  by_cases hlen : l.length = m.length
  · have hne := bne_no (congrArg (Nat.cast : Nat → Int) hlen)
    have Hlen := Lib.hid hlen
    have hle : l.length ≤ m.length := by omega
    clear hlen
    go_enter Tryd.func29, Tryd.ntmps29
    go_wp2
    go_loopw [5] (fun i wr => ∃ k : Nat, k ≤ l.length ∧ i = .int .i64 k ∧ Hid (∀ j (ha : j < l.length) (hb : j < m.length), j < k → l[j] = m[j]) ∧ Below w.heap.size w wr) (fun i _ => l.length - (intOf i).toNat)
    case atStart => exact ⟨0, by omega, rfl, fun j _ _ h => absurd h (by omega), Below.refl _ _⟩
    case round =>
      obtain ⟨k, hk, rfl, heq, hbel⟩ := hrel
      by_cases hlt : k < l.length
      · obtain ⟨b, off, rfl, hbb, hc⟩ := (ha.below hbel).get (k := k) (by simpa using hlt)
        obtain ⟨b', off', rfl, hbb', hc'⟩ := (hb.below hbel).get (k := k) (by simp; omega)
        rw [List.getElem_map] at hc hc'
        have hlt' : k < m.length := by omega
        by_cases hx : l[k] = m[k]
        · have hx' := bne8_no hx
          have Hx := Lib.hid hx
          clear hx
          go_wp2
          go_quiet (fail)
          go_wp2
          go_roundw
          case rel => exact ⟨k + 1, by omega, by go_num, agree_succ heq.out Hx.out, by simpa using bdrew hbel _⟩
          case measure => simp [intOf]; omega
        · have hx' := bne8 hx
          have Hx := Lib.hid (sameB_at hlt hlt' hx)
          clear hx
          go_wp2
          go_quiet (fail)
          go_wp2
          go_ret
          exact ⟨ret_bool Hx.out.symm, bdrew hbel _⟩
      · have Hx := Lib.hid (sameB_all Hlen.out fun j h1 h2 => heq.out j h1 h2 (by omega))
        go_wp2
        go_ret
        exact ⟨ret_bool Hx.out.symm, hbel⟩
  · have hne := bne_yes (fun e => hlen (Int.natCast_inj.1 e))
    have Hx := Lib.hid (sameB_len hlen)
    clear hlen
    go_enter Tryd.func29, Tryd.ntmps29
    go_wp2
    go_ret
    exact ⟨ret_bool Hx.out.symm, Below.refl _ _⟩
end Go.Proofs.YteecbjpnnklbpaaDoor.R1

/- Arrays by value, of any size, kept as one value: blocks whose cells are known as a list; laws for the operations that make, load and store them whole. -/
namespace Go.Proofs.YteecbjpnnklbpaaDoor
open Go.RowKit
set_option linter.unusedVariables false

/-- a block that holds just these cells -/
def Blk (w : World) (g : Nat) (xs : List Value) : Prop := ∃ t, w.heap[g]? = some (.cells xs.toArray t (0, 0))
/-- an array by value -/
def arrV (xs : List Value) : Value := .agg xs.toArray
theorem arrV_cells (xs : List Value) : (arrV xs).cells = xs.toArray := rfl
theorem Blk.lt {w : World} {g : Nat} {xs : List Value} (h : Blk w g xs) : g < w.heap.size := h.elim fun _ h => lt_of_block h
theorem Blk.cell {w : World} {g : Nat} {xs : List Value} (h : Blk w g xs) {k : Nat} (hk : k < xs.length) : w.cell? ⟨g, k, none⟩ = some xs[k] := by
  obtain ⟨t, h⟩ := h
  rw [cell_of_row w g k _ _ _ h]; simp [hk]
theorem Blk.free {w : World} {g : Nat} {xs : List Value} (h : Blk w g xs) (k : Nat) : w.frozen? ⟨g, k, none⟩ = false := by
  obtain ⟨t, h⟩ := h
  exact frozen_of_row w g k _ _ h
theorem Blk.set {w : World} {g : Nat} {xs : List Value} (h : Blk w g xs) {k : Nat} (v : Value) : Blk (w.setCell ⟨g, k, none⟩ v) g (xs.set k v) := by
  obtain ⟨t, h⟩ := h
  refine ⟨t, ?_⟩
  rw [heap_setCell_same w g k _ t v h]
  simp
theorem Blk.other {w : World} {g b k : Nat} {xs : List Value} (h : Blk w g xs) (v : Value) (hn : g ≠ b) : Blk (w.setCell ⟨b, k, none⟩ v) g xs := by
  obtain ⟨t, h⟩ := h
  exact ⟨t, (heap_setCell_other w _ g v (by simpa using hn)).trans h⟩
theorem Blk.alloc {w : World} {g : Nat} {xs : List Value} (h : Blk w g xs) (o : Obj) : Blk (w.alloc o) g xs := by
  obtain ⟨t, hh⟩ := h
  exact ⟨t, (heap_alloc_old w o (lt_of_block hh)).trans hh⟩
theorem Blk.new (w : World) (xs : List Value) (t : TypeId) : Blk (w.alloc (.cells xs.toArray t)) w.heap.size xs := ⟨t, heap_alloc_new w _⟩
theorem Blk.on {w w' : World} {g : Nat} {xs : List Value} (h : Blk w g xs) (b : Below w.heap.size w w') : Blk w' g xs := by
  obtain ⟨t, hh⟩ := h
  exact ⟨t, (b.block g (lt_of_block hh)).trans hh⟩
theorem Blk.below {w w' : World} {g B : Nat} {xs : List Value} (h : Blk w g xs) (b : Below B w w') (hg : g < B) : Blk w' g xs := by
  obtain ⟨t, hh⟩ := h
  exact ⟨t, (b.block g hg).trans hh⟩
theorem Blk.drewN {w : World} {g : Nat} {xs : List Value} (h : Blk w g xs) (n : Nat) : Blk (w.drewN n) g xs := h
theorem Blk.grown {w w' : World} {g : Nat} {xs : List Value} {row : Option Nat} (h : Blk w g xs) (hg : w.grownBy w' row) (hne : some g ≠ row) : Blk w' g xs := by
  obtain ⟨t, hh⟩ := h
  exact ⟨t, (hg.block g (lt_of_block hh) hne).trans hh⟩
theorem Blk.setRow {w : World} {g : Nat} {xs ys : List Value} (h : Blk w g xs) : Blk (w.setRow g ys.toArray) g ys := by
  obtain ⟨t, h⟩ := h
  exact ⟨t, setRow_heap w g _ _ t _ h⟩
theorem Blk.setRow_other {w : World} {g b : Nat} {xs : List Value} {ys : Array Value} (h : Blk w g xs) (hn : g ≠ b) : Blk (w.setRow b ys) g xs := by
  obtain ⟨t, h⟩ := h
  exact ⟨t, (Go.setRow_other w b g ys hn).trans h⟩
theorem below_setRow {B : Nat} {a w : World} (h : Below B a w) {g : Nat} (hg : B ≤ g) (cs : Array Value) : Below B a (w.setRow g cs) :=
  ⟨h.os, h.tape, h.output, by simpa [World.setRow] using h.size, fun j hj => (Go.setRow_other w g j cs (by omega)).trans (h.block j hj)⟩
theorem Blk.rd {w : World} {g : Nat} {xs : List Value} (h : Blk w g xs) : Rd w w.heap.size (some ⟨g, 0, none⟩) xs := fun hne =>
  ⟨g, 0, rfl, h.lt, fun i hi => by rw [Nat.zero_add]; exact h.cell hi⟩

section
variable {P : Program}
/-- one operation that yields a value, by its run -/
theorem wpList_run {w w' : World} {ops : Array Oper} {rest : List Oper} {o : Oper} {a : Act} {Q : Exit → Act → World → Prop} (hg : o.guard = none) (v : Value)
    (hrun : (execOp a.eval o).run P w = .ok (.value v) w') (h : wpList P ops Q rest (a.put o.dst v) w') : wpList P ops Q (o :: rest) a w := by
  refine wpList_plain hg fun K hK => ?_
  unfold Oper.wp
  rw [hrun]
  exact hK _ _ h
theorem wpList_alloc {w : World} {ops : Array Oper} {rest : List Oper} {o : Oper} {a : Act} {Q : Exit → Act → World → Prop} (hg : o.guard = none) (t : TypeId) (ho : o.op = .alloc t) (xs : List Value)
    (hz : ∀ w, (zeroValue t).run P w = .ok (arrV xs) w)
    (h : wpList P ops Q rest (a.put o.dst (.pointer (some ⟨w.heap.size, 0, none⟩))) (w.alloc (.cells xs.toArray t))) : wpList P ops Q (o :: rest) a w := by
  refine wpList_run hg _ ?_ h
  unfold execOp
  simp only [ho]
  simp [Instr.alloc, hz, go_sem, arrV]
theorem wpList_box {w : World} {ops : Array Oper} {rest : List Oper} {o : Oper} {a : Act} {Q : Exit → Act → World → Prop} (hg : o.guard = none) (t : TypeId) (x : Operand) (ho : o.op = .box t x) (xs : List Value)
    (hx : a.eval x = arrV xs)
    (h : wpList P ops Q rest (a.put o.dst (.pointer (some ⟨w.heap.size, 0, none⟩))) (w.alloc (.cells xs.toArray t))) : wpList P ops Q (o :: rest) a w := by
  refine wpList_run hg _ ?_ h
  unfold execOp
  simp only [ho, hx]
  simp [Instr.box, go_sem, arrV]
theorem wpList_loadA {w : World} {ops : Array Oper} {rest : List Oper} {o : Oper} {a : Act} {Q : Exit → Act → World → Prop} (hg : o.guard = none) (t : TypeId) (x : Operand) (ho : o.op = .load t x)
    {g : Nat} (hx : a.eval x = .pointer (some ⟨g, 0, none⟩)) {xs : List Value} (hb : Blk w g xs) {n : Nat} {e : TypeId} (hu : P.underlying t = some (.array n e)) (hi : (P.info? t).map (·.size) = some xs.length)
    (h : wpList P ops Q rest (a.put o.dst (arrV xs)) w) : wpList P ops Q (o :: rest) a w := by
  obtain ⟨t', hb⟩ := hb
  refine wpList_run hg (arrV xs) ?_ h
  unfold execOp
  simp only [ho, hx]
  have := run_loadVar_row (P := P) w g t' t _ _ _ hb hu rfl (by simpa using hi)
  simp [Instr.loadAt, Instr.sureAddr, this, arrV]
theorem wpList_storeA {w : World} {ops : Array Oper} {rest : List Oper} {o : Oper} {a : Act} {Q : Exit → Act → World → Prop} (hgd : o.guard = none) (t : TypeId) (x y : Operand) (ho : o.op = .store t x y)
    {g : Nat} (hx : a.eval x = .pointer (some ⟨g, 0, none⟩)) {xs ys : List Value} (hy : a.eval y = arrV ys) (hb : Blk w g xs) (hl : xs.length = ys.length) (h1 : ∀ v ∈ ys, v.oneCell' = true) (hi : (P.info? t).map (·.size) = some ys.length)
    (h : wpList P ops Q rest (a.put o.dst undef) (w.setRow g ys.toArray)) : wpList P ops Q (o :: rest) a w := by
  obtain ⟨t', hb⟩ := hb
  refine wpList_plain hgd fun K hK => ?_
  have := run_storeVar_row (P := P) w g t' t _ ys.toArray hb (by simpa using hi) (by simpa using hl) (by simpa using h1)
  unfold Oper.wp execOp
  simp only [ho, hx, hy]
  simp [Instr.storeAt, Instr.sureAddr, this, arrV]
  exact hK _ _ h
/-! the same, the world behind them by what is known of it -/
theorem setRow_grown (w : World) (g : Nat) (cs : Array Value) : w.grownBy (w.setRow g cs) (some g) :=
  ⟨rfl, rfl, rfl, by simp [World.setRow], fun k _ hk => Go.setRow_other w g k cs (fun e => hk (by rw [e]))⟩
theorem wpList_allocN {w : World} {ops : Array Oper} {rest : List Oper} {o : Oper} {a : Act} {Q : Exit → Act → World → Prop} (hg : o.guard = none) (t : TypeId) (ho : o.op = .alloc t) (xs : List Value)
    (hz : ∀ w, (zeroValue t).run P w = .ok (arrV xs) w)
    (h : ∀ w1, Blk w1 w.heap.size xs → Below w.heap.size w w1 → w.heap.size < w1.heap.size → wpList P ops Q rest (a.put o.dst (.pointer (some ⟨w.heap.size, 0, none⟩))) w1) : wpList P ops Q (o :: rest) a w :=
  wpList_alloc hg t ho xs hz (h _ (Blk.new w xs t) (b1alloc _ _) (by simp))
theorem wpList_boxN {w : World} {ops : Array Oper} {rest : List Oper} {o : Oper} {a : Act} {Q : Exit → Act → World → Prop} (hg : o.guard = none) (t : TypeId) (x : Operand) (ho : o.op = .box t x) (xs : List Value)
    (hx : a.eval x = arrV xs)
    (h : ∀ w1, Blk w1 w.heap.size xs → Below w.heap.size w w1 → w.heap.size < w1.heap.size → wpList P ops Q rest (a.put o.dst (.pointer (some ⟨w.heap.size, 0, none⟩))) w1) : wpList P ops Q (o :: rest) a w :=
  wpList_box hg t x ho xs hx (h _ (Blk.new w xs t) (b1alloc _ _) (by simp))
theorem wpList_storeN {w : World} {ops : Array Oper} {rest : List Oper} {o : Oper} {a : Act} {Q : Exit → Act → World → Prop} (hgd : o.guard = none) (t : TypeId) (x y : Operand) (ho : o.op = .store t x y)
    {g : Nat} (hx : a.eval x = .pointer (some ⟨g, 0, none⟩)) {xs ys : List Value} (hy : a.eval y = arrV ys) (hb : Blk w g xs) (hl : xs.length = ys.length) (h1 : ∀ v ∈ ys, v.oneCell' = true) (hi : (P.info? t).map (·.size) = some ys.length)
    (h : ∀ w1, Blk w1 g ys → w.grownBy w1 (some g) → wpList P ops Q rest (a.put o.dst undef) w1) : wpList P ops Q (o :: rest) a w :=
  wpList_storeA hgd t x y ho hx hy hb hl h1 hi (h _ hb.setRow (setRow_grown _ _ _))
theorem below_row {B : Nat} {a w w1 : World} {g : Nat} (h : Below B a w) (hg : w.grownBy w1 (some g)) (hB : B ≤ g) (hs : B ≤ w.heap.size) : Below B a w1 :=
  h.grown hg hs (fun k e => by cases e; exact hB)
/-! many cells of a block -/
def splice (xs : List Value) (o : Nat) : List Value → List Value
  | [] => xs
  | v :: r => splice (xs.set o v) (o + 1) r
theorem Blk.setCells {g : Nat} : ∀ (cs : List Value) (o : Nat) {w : World} {xs : List Value}, Blk w g xs → Blk (w.setCells g o cs) g (splice xs o cs)
  | [], _, _, _, h => h
  | v :: r, o, _, _, h => Blk.setCells r (o + 1) (h.set v)
theorem setCells_grown (g : Nat) : ∀ (cs : List Value) (o : Nat) (w : World), w.grownBy (w.setCells g o cs) (some g)
  | [], _, w => ⟨rfl, rfl, rfl, Nat.le_refl _, fun _ _ _ => rfl⟩
  | v :: r, o, w => grown_trans (grown_set w ⟨g, o, none⟩ v) (setCells_grown g r (o + 1) _)
/-- the builtin copy into a block that is known whole -/
theorem wpList_copyN {w : World} {ops : Array Oper} {rest : List Oper} {o : Oper} {a : Act} {Q : Exit → Act → World → Prop} (hgd : o.guard = none) (d s : Operand) (t t' : TypeId)
    (ho : o.op = .call { callee := .builtin .copy, args := #[d, s], argTypes := #[t, t'] }) {g off dLen dCap : Nat} {ad : Addr} {sLen sCap : Nat} (hd : a.eval d = .slice (some ⟨g, off, none⟩) dLen dCap) (hs : a.eval s = .slice (some ad) sLen sCap)
    (cs : List Value) (hn : cs.length = Nat.min sLen dLen) {e : TypeId} (hu : P.underlying t = some (.slice e)) (hi : (P.info? e).map (·.size) = some 1) {xs : List Value} (hb : Blk w g xs) (hfit : off + cs.length ≤ xs.length)
    (hsrc : ∀ j v, cs[j]? = some v → w.cell? (ad.add j) = some v) (h1 : ∀ v ∈ cs, v.oneCell' = true)
    (h : ∀ w1, Blk w1 g (splice xs off cs) → w.grownBy w1 (some g) → wpList P ops Q rest (a.put o.dst (goInt cs.length)) w1) : wpList P ops Q (o :: rest) a w := by
  refine wpList_plain hgd fun K hK => ?_
  have hr := run_copy_cells (P := P) w t t' o.type e g off dLen dCap ad sLen sCap cs hu hi hn hsrc (fun j hj => by rw [hb.cell (show off + j < xs.length by omega)]; rfl) (fun j _ => hb.free _) h1
  unfold Oper.wp execOp
  simp only [ho, resolve, invoke, builtin, Sem.run_bind, Sem.run_pure, Result.andThen_ok, List.map_toArray, List.map_cons, List.map_nil, hd, hs, hr]
  exact hK _ _ (h _ (hb.setCells cs off) (setCells_grown g cs off w))
/-- a result that is a block, whole -/
theorem results_arr {fn : Func} {p : Tmp} {t : TypeId} (h : fn.results = #[.cell p t]) (tmps : Array Value) {w : World} {g : Nat} {xs : List Value} (hb : Blk w g xs) {n : Nat} {e : TypeId} (hu : P.underlying t = some (.array n e))
    (hi : (P.info? t).map (·.size) = some xs.length) (hp : tmps[p]? = some (.pointer (some ⟨g, 0, none⟩))) : (results fn tmps).run P w = .ok (arrV xs) w := by
  obtain ⟨t', hb⟩ := hb
  exact results_cell_row h tmps w g t' _ _ _ (by simp [Array.getD_eq_getD_getElem?, hp]) hb hu rfl (by simpa using hi)
end
end Go.Proofs.YteecbjpnnklbpaaDoor

/- Making slices of numbers with room behind them. -/
namespace Go.Proofs.YteecbjpnnklbpaaDoor
open Go.RowKit
set_option linter.unusedVariables false
section
variable {P : Program}
/-- make of a slice of numbers, with room behind it -/
theorem wpList_makeN {w : World} {ops : Array Oper} {rest : List Oper} {o : Oper} {a : Act} {Q : Exit → Act → World → Prop} (hgd : o.guard = none) (t : TypeId) (x y : Operand) (ho : o.op = .makeSlice t x y)
    {e : TypeId} {i : TypeInfo} {k kl kc : IntKind} (ht : P.underlying t = some (.slice e)) (hi : P.info? e = some i) (hz : i.zero = some (.int k 0)) (hs : i.size = 1) (l c : Nat) {lz cz : Int} (hl : a.eval x = .int kl lz) (hlz : lz = (l : Int)) (hc : a.eval y = .int kc cz) (hcz : cz = (c : Int))
    (hlc : l ≤ c) (hb : i.bytes * c ≤ 281474976710656) (hm : c ≤ maxLen)
    (h : ∀ w1, w1.ownsRow w.heap.size e 1 (.slice (some ⟨w.heap.size, 0, none⟩) l c) l (List.replicate l (.int k 0)) → Below w.heap.size w w1 → w.heap.size < w1.heap.size →
      wpList P ops Q rest (a.put o.dst (.slice (some ⟨w.heap.size, 0, none⟩) l c)) w1) : wpList P ops Q (o :: rest) a w := by
  subst hlz hcz
  have hb' : (i.bytes : Int) * (c : Int) ≤ 281474976710656 := by
    have h : ((i.bytes * c : Nat) : Int) ≤ 281474976710656 := by omega
    rwa [Int.natCast_mul] at h
  have hm' : (c : Int) ≤ 9223372036854775807 := by
    have h := hm
    simp [maxLen] at h
    omega
  have hr := run_make (P := P) w t e i _ ht hi hz kl kc l c (by omega) (by omega) hb' hm'
  simp only [Int.toNat_natCast] at hr
  refine wpList_run (w' := w.alloc (.cells (madeCells (Value.int k 0).cells (c * i.size)) e)) hgd (.slice (some ⟨w.heap.size, 0, none⟩) l c) ?_ (h _ ⟨by simp, .inr ⟨w.heap.size, c, _, rfl, Nat.le_refl _, heap_alloc_new w _, hlc, hm, ?_, ?_⟩⟩ (b1alloc _ _) (by simp))
  · unfold execOp
    simp only [ho, hl, hc]
    simp [hr]
  · rw [hs, size_madeCells]
  · rw [hs, made_int, List.take_replicate]
    congr 1
    omega
/-! whole arrays in a region that draws its order -/
theorem wpQuiet_run {ops : Array Oper} {C : World → Prop} {Q : Act → Prop} {a : Act} {o : Oper} {rest : List Oper} (hg : o.guard = none) (v : Value) (hrun : ∀ w, C w → (execOp a.eval o).run P w = .ok (.value v) w)
    (h : wpQuiet P ops C Q rest (a.put o.dst v)) : wpQuiet P ops C Q (o :: rest) a := by
  refine wpQuiet_step fun K hK => ?_
  rw [if_pos (by simp [Region.wanted, hg])]
  refine ⟨v, fun w hw => ?_, hK _ h⟩
  unfold Oper.quietAt
  rw [hrun w hw]
  exact ⟨rfl, rfl⟩
theorem wpQuiet_loadA {ops : Array Oper} {C : World → Prop} {Q : Act → Prop} {a : Act} {o : Oper} {rest : List Oper} (hg : o.guard = none) (t : TypeId) (x : Operand) (ho : o.op = .load t x)
    {g : Nat} (hx : a.eval x = .pointer (some ⟨g, 0, none⟩)) {xs : List Value} (hb : ∀ w, C w → Blk w g xs) {n : Nat} {e : TypeId} (hu : P.underlying t = some (.array n e)) (hi : (P.info? t).map (·.size) = some xs.length)
    (h : wpQuiet P ops C Q rest (a.put o.dst (arrV xs))) : wpQuiet P ops C Q (o :: rest) a := by
  refine wpQuiet_run hg (arrV xs) (fun w hw => ?_) h
  obtain ⟨t', hb⟩ := hb w hw
  unfold execOp
  simp only [ho, hx]
  have := run_loadVar_row (P := P) w g t' t _ _ _ hb hu rfl (by simpa using hi)
  simp [Instr.loadAt, Instr.sureAddr, this, arrV]
end
end Go.Proofs.YteecbjpnnklbpaaDoor

/- Arrays of numbers are equal to themselves. -/
namespace Go.Proofs.YteecbjpnnklbpaaDoor
set_option linter.unusedVariables false
section
variable {P : Program} (w : World)
theorem run_equalIn_self (d : Nat) (t e : TypeId) (n : Nat) (k : IntKind) (ht : P.underlying t = some (.array n e)) (he : P.underlying e = some (.int k)) (hsz : ∀ w, (sizeOf e).run P w = .ok 1 w)
    (xs : List Int) (hx : xs.length = n) :
    (Op.equalIn (d + 2) t (.agg (xs.map (Value.int k)).toArray) (.agg (xs.map (Value.int k)).toArray)).run P w = .ok true w := by
  rw [Op.equalIn]
  simp only [Sem.run_bind, run_underlying ht, Result.andThen_ok, hsz, Std.Legacy.Range.forIn_eq_forIn_range', Std.Legacy.Range.size, Nat.sub_zero, Nat.add_sub_cancel, Nat.div_one]
  have hl : ∀ i ∈ List.range' 0 n 1, i < n := fun i hi => by simpa using (List.mem_range'_1.1 hi).2
  generalize List.range' 0 n 1 = l at hl ⊢
  induction l with
  | nil => simp
  | cons i l ih =>
    have hi : i < n := hl i (by simp)
    have px : (part e (xs.map (Value.int k)).toArray (i * 1)).run P w = .ok (.int k (xs.getD i 0)) w := by
      simp [part, isAgg, run_underlying he, List.getD, List.getElem?_eq_getElem (show i < xs.length by omega)]
    have pe : (Op.equalIn (d + 1) e (.int k (xs.getD i 0)) (.int k (xs.getD i 0))).run P w = .ok true w := by
      rw [run_equalIn_int w d e k k _ _ he]
      simp
    simp only [List.forIn_cons, Sem.run_bind, px, pe, Result.andThen_ok]
    simp only [Bool.not_true, Bool.false_eq_true, if_false, Sem.run_pure, Result.andThen_ok]
    exact ih fun j hj => hl j (by simp [hj])
theorem run_eql_self (t e : TypeId) (n : Nat) (k : IntKind) (ht : P.underlying t = some (.array n e)) (he : P.underlying e = some (.int k)) (hsz : ∀ w, (sizeOf e).run P w = .ok 1 w)
    (xs : List Int) (hx : xs.length = n) :
    (binOp .eql t (.agg (xs.map (Value.int k)).toArray) (.agg (xs.map (Value.int k)).toArray)).run P w = .ok (.bool true) w := by
  rw [run_eql_struct, run_equalIn_self w 9998 t e n k ht he hsz xs hx]
  rfl
end
end Go.Proofs.YteecbjpnnklbpaaDoor
