/- Texts of this claim, joined: RegionQ, BaseQ, ArrQ, BigQ, DiskPlainQ, Disk1Q, Disk2Q, PhaseQ, StepsQ, Disk3Q, Disk4Q, Disk5Q, Disk6Q, Disk7Q, Disk8Q, SlicesQ, Disk9Q, Disk10Q, ChunkQ, BackQ, DiskRQ, Arr2Q, NumPlainQ, ShaPlainQ, MacPlainQ, StrQ, Ref01Q, Mac1Q, NumQ, SecPlainQ, CrcPlainQ, CrcQ, CrcRefQ. -/
import Derived.StillTail
import Derived.Deep.Quiet
import Derived.Deep.QuietTactic
import Derived.BigQuiet
import Derived.Below
import Derived.WalkKit
import Derived.OneCell
import Derived.Laws.OwnMore
import Derived.Laws.BitsAllLaws
import Derived.Lib.Hide
import Derived.Deep.Draws
import Derived.Maps.AppendAt
import Derived.Laws.Rows
import Derived.Laws.Tables
import Derived.Laws.IdiomCopy
import Derived.Laws.MakeOwn
import Derived.Deep.MidRow
import Derived.Great.FillDense
import Derived.Great.BuildSlice
import Derived.Test.YtchcmklelmlbgaaGreatRows
import Derived.Outline
import Derived.Lib.MinMax
import Derived.Deep.RegionHeld3
import Derived.Deep.RegionLaw
import Derived.Maps.RangeWalk
import Derived.WalkSpells
import Derived.RangeFuncNested
import Derived.RangeFuncBound
import Derived.RangeFuncCalls
import Derived.RangeFuncLeaves
import Derived.RangeFuncBox
import Derived.Shelf.Abstract
import Derived.Shelf.RegionOpen
import Derived.OwnWalkIn
import Derived.TacticsInMore
import Derived.LoopNIn
import Derived.LoopIn
import Derived.Sort.QuietIn
import Derived.BigFrameIn
import Derived.WalkMore
import Derived.ScopeJumps
import Derived.Laws.IdiomStrings
import Derived.Lib.ConvBytes
import Derived.Lib.MakeNoZero
import Derived.Laws.Entries
import Derived.Deep.DeepMust
namespace Go.Proofs.YtchcmklelmlbgaaGreat
open Go.RowKit
set_option linter.unusedVariables false
section
variable {P : Program} {ops : Array Oper} {md : Region.Mode} {C : World -> Prop}
def headQ (P : Program) (md : Region.Mode) (ops : Array Oper) (C : World -> Prop) (n : Nat) (L : Array Bool -> Act -> Prop) : Nat -> Array Bool -> Act -> Prop
 | 0, listed, a => L listed a
 | f + 1, listed, a => Region.ready md ops listed ≠ [] /\ ∀ i ∈ Region.ready md ops listed, i < n /\ qOp P ops C i (headQ P md ops C n L f (listed.setIfInBounds i true)) a
theorem any_of_headQ {n g : Nat} {L : Array Bool -> Act -> Prop} {Q' : Exit -> Act -> World -> Prop} (hL : ∀ listed a w, C w -> L listed a -> wpAny P md ops Q' g listed a w) :
   ∀ (f : Nat) (listed : Array Bool) (a : Act) (w : World), C w -> headQ P md ops C n L f listed a -> wpAny P md ops Q' (f + g) listed a w
 | 0, listed, a, w, hw, h => by rw [Nat.zero_add]; exact hL _ _ _ hw h
 | f + 1, listed, a, w, hw, h => by
   rw [show f + 1 + g = (f + g) + 1 by omega]
   exact ⟨fun h0 => absurd h0 h.1, fun i hi => wpOp_of_qOp hw (fun a' w' hw' h' => any_of_headQ hL f _ a' w' hw' h') (h.2 i hi).2⟩
theorem headQ_first {n i : Nat} {oi : Oper} {v : Value} {L : Array Bool -> Act -> Prop} (hi : ops[i]? = some oi) (hsel : ∀ (j : Nat) (o : Oper) cs b, ops[j]? = some o -> o.op ≠ .select cs b)
   (hs : Region.sinkB md ops n = true) (hc : Region.chainB md ops n = true) (hn : n < ops.size) (hin : i < n)
   (hdone : ∀ listed a, L listed a -> ∀ j ∈ Region.ready md ops listed, n <= j) :
   ∀ (f : Nat) (listed : Array Bool) (a : Act), HeadInv md ops n listed ->
     (∀ j oj, ops[j]? = some oj -> j ≠ i -> listed.getD j true = false -> (∀ e ∈ oj.after, Region.binds md e = true -> e.on ≠ i) -> oi.apart ops oj = true) ->
     i ∈ Region.ready md ops listed -> YieldsIn P ops C oi v a ->
     headQ P md ops C n L f (listed.setIfInBounds i true) (a.put oi.dst v) -> headQ P md ops C n L (f + 1) listed a := by
 intro f
 induction f with
 | zero =>
   intro listed a inv _ hr hy H
   refine ⟨fun h => (by rw [h] at hr; cases hr), fun j hj => ?_⟩
   have hjn : j < n := by
     rcases Nat.lt_or_ge j n with h | h
     · exact h
     · exact absurd hj (tail_waits hs hc hn inv _ i rfl hin (mem_ready.1 hr).1 j h)
   refine ⟨hjn, ?_⟩
   by_cases hji : j = i
   · subst hji; exact hy.qOp hi H
   · have := hdone _ _ H j (ready_mono hj hji)
     omega
 | succ f ih =>
   intro listed a inv hfree hr hy H
   have hun := (mem_ready.1 hr).1
   refine ⟨fun h => (by rw [h] at hr; cases hr), fun j hj => ?_⟩
   have hjn : j < n := by
     rcases Nat.lt_or_ge j n with h | h
     · exact h
     · exact absurd hj (tail_waits hs hc hn inv _ i rfl hin hun j h)
   refine ⟨hjn, ?_⟩
   by_cases hji : j = i
   · subst hji; exact hy.qOp hi H
   · have h1 := (H.2 j (ready_mono hj hji)).2
     obtain ⟨hjun, oj, hoj, hall⟩ := mem_ready.1 hj
     have hnot : ∀ e ∈ oj.after, Region.binds md e = true -> e.on ≠ i := fun e he hb heq => by
       have h1 := hall e he hb
       rw [heq, getD_both hun] at h1
       cases h1
     have h2 := qOp_put hoj (hfree j oj hoj hji hjun hnot) (fun cs b => hsel i oi cs b hi) (fun cs b => hsel j oj cs b hoj) hy h1
     have hfree' : ∀ k ok, ops[k]? = some ok -> k ≠ i -> (listed.setIfInBounds j true).getD k true = false ->
         (∀ e ∈ ok.after, Region.binds md e = true -> e.on ≠ i) -> oi.apart ops ok = true := fun k ok hk hki hun hno => by
       refine hfree k ok hk hki ?_ hno
       by_cases hjk : j = k
       · subst hjk; exact hjun
       · rw [getD_set_ne true hjk] at hun; exact hun
     refine qOp_mono (fun a' h3 => ih (listed.setIfInBounds j true) a' (inv.set hj hjn) hfree' (ready_mono hr (Ne.symm hji)) h3.1 ?_) h2
     rw [Array.setIfInBounds_comm _ _ hji]
     exact h3.2
theorem headQ_lex {n g : Nat} {Lq : Act -> Prop} (hsel : Region.noSelect ops = true) (hs : Region.sinkB md ops n = true) (hc : Region.chainB md ops n = true) (hn : n < ops.size) :
   ∀ (l : List Oper) (k : Nat) (listed : Array Bool) (a : Act), (∀ j, j < l.length -> l[j]? = ops[k + j]?) -> k + l.length = n -> HeadInv md ops n listed ->
   Region.lexHead md ops g l.length k listed = true -> wpQuiet P ops C Lq l a ->
   headQ P md ops C n (fun listed' a' => Region.seqB md ops g n listed' = true /\ Lq a') l.length listed a
 | [], k, listed, a, _, hk, _, hB, h => by
   have : k = n := by simpa using hk
   subst this
   exact ⟨by simpa [Region.lexHead] using hB, h⟩
 | o :: l, k, listed, a, hl, hk, inv, hB, h => by
   have h0 : ops[k]? = some o := by simpa using (hl 0 (by simp)).symm
   simp only [List.length_cons, Region.lexHead, Bool.and_eq_true] at hB
   obtain ⟨⟨hr, hf⟩, hB'⟩ := hB
   have hkn : k < n := by simp only [List.length_cons] at hk; omega
   have hr' : k ∈ Region.ready md ops listed := by simpa using hr
   have hst : qOp P ops C k (wpQuiet P ops C Lq l) a := by unfold qOp; simp only [h0]; exact h
   obtain ⟨v, hy, hK⟩ := yieldsIn_of_qOp h0 hst
   exact headQ_first h0 (Region.noSelect_spec hsel) hs hc hn hkn (fun listed' a' hL => seqB_ready hL.1) l.length listed a inv (Region.free_spec h0 hf) hr' hy
     (headQ_lex hsel hs hc hn l (k + 1) _ _ (fun j hj => by have := hl (j + 1) (by simp; omega); simpa [Nat.add_assoc, Nat.add_comm 1 j] using this) (by simp only [List.length_cons] at hk; omega) (inv.set hr' hkn) hB' hK)
theorem wp_region_quiet_tail {id : Nat} {Q : Exit -> Act -> World -> Prop} {a : Act} {w : World} {l : List Oper} (n : Nat) (hm : P.follows .mixedOrders = true) (hB : Region.lexTailB .any l.toArray n = true) (hC : C { w with drawn := w.drawn + 1 })
   (h : wpQuiet P l.toArray C (fun a' => ∀ w', C w' -> wpList P l.toArray Q (l.drop n) a' w') (l.take n) a) : (Code.region id l.toArray true).wp P Q a w := by
 simp only [Region.lexTailB, Bool.and_eq_true, decide_eq_true_eq] at hB
 obtain ⟨⟨⟨⟨hsel, hn⟩, hs⟩, hc⟩, hlex⟩ := hB
 have hn' : n < l.length := by simpa using hn
 have htl : (l.take n).length = n := by simp; omega
 have hdl : (l.drop n).length = l.toArray.size - n := by simp
 have inv0 : HeadInv .any l.toArray n (Array.replicate l.toArray.size false) :=
   ⟨by simp, fun j oj _ hl => (by rw [getD_replicate_false] at hl; cases hl), fun t _ ht => getD_in (by simpa using ht) (getD_replicate_false _ _)⟩
 have H := headQ_lex (md := .any) (g := l.toArray.size - n) hsel hs hc hn (l.take n) 0 _ a (fun j hj => by
   have hj' : j < n := by rw [htl] at hj; exact hj
   simp [hj']) (by simpa using htl) inv0 (by rw [htl]; exact hlex) h
 refine wp_region_any hm ?_
 have := any_of_headQ (Q' := Q) (g := l.toArray.size - n) (fun listed a' w' hw' hL => by
   have := wpAny_of_seq (md := .any) (Q' := Q) (l.drop n) n listed a' w' (fun j => by simp [List.getElem?_drop]) (by rw [hdl]; exact hL.1) (hL.2 w' hw')
   rwa [hdl] at this) _ _ _ _ hC H
 rw [htl, show n + (l.toArray.size - n) = l.toArray.size by omega] at this
 exact this
end
section
variable {P : Program} {ops : Array Oper} {md : Region.Mode} {C : World -> Prop}
def preOne (o : Oper) (a : Act) : Act := match o.op with
 | .move x => a.put o.dst (a.eval x)
 | _ => a
def preAct (l : List Oper) (pre : List Nat) (a : Act) : Act := pre.foldl (fun a i => match l[i]? with | some o => preOne o a | none => a) a
def mark (listed : Array Bool) (is : List Nat) : Array Bool := is.foldl (fun x i => x.setIfInBounds i true) listed
def movesB (md : Region.Mode) (ops : Array Oper) : List Nat -> Array Bool -> Bool
 | [], _ => true
 | i :: is, listed => (match ops[i]? with | some o => o.guard.isNone && (match o.op with | .move _ => true | _ => false) | none => false) &&
     Region.free md ops listed i && (Region.ready md ops listed).contains i && movesB md ops is (listed.setIfInBounds i true)
theorem take_moves {l : List Oper} {Q : Exit -> Act -> World -> Prop} {w : World} (hs : Region.noSelect l.toArray = true) (hQ : ∀ c d v a w, Q (.panic c) (Act.put a d v) w -> Q (.panic c) a w) :
   ∀ (pre : List Nat) (fuel : Nat) (listed : Array Bool) (a : Act), movesB md l.toArray pre listed = true -> wpAny P md l.toArray Q fuel (mark listed pre) (preAct l pre a) w -> wpAny P md l.toArray Q (fuel + pre.length) listed a w
 | [], fuel, listed, a, _, h => by simpa [mark, preAct] using h
 | i :: is, fuel, listed, a, hB, h => by
   simp only [movesB, Bool.and_eq_true] at hB
   obtain ⟨⟨⟨hm, hf⟩, hr⟩, hB'⟩ := hB
   cases ho : l.toArray[i]? with
   | none => rw [ho] at hm; cases hm
   | some o =>
     rw [ho] at hm
     simp only [Bool.and_eq_true] at hm
     obtain ⟨hg, hm⟩ := hm
     cases hop : o.op with
     | move x =>
       have ho' : l[i]? = some o := by simpa using ho
       have hpre : preAct l (i :: is) a = preAct l is (a.put o.dst (a.eval x)) := by
         simp [preAct, ho', preOne, hop]
       rw [hpre] at h
       have hw : Region.wanted o (yielded l.toArray a.tmps) = true := by
         have : o.guard = none := by simpa using hg
         simp [Region.wanted, this]
       have hy : Yields P l.toArray o (a.eval x) a := .inl ⟨hw, fun w => BigFrame.run_move x hop w⟩
       exact wpAny_take ho hs hf hr (fun c a w => hQ c _ _ a w) hy (take_moves hs hQ is fuel _ _ hB' h)
     | _ => rw [hop] at hm; cases hm
structure InvI (md : Region.Mode) (ops : Array Oper) (n : Nat) (l0 listed : Array Bool) : Prop where
 inv : HeadInv md ops n listed
 more : ∀ i, l0.getD i true = true -> listed.getD i true = true
def sinkI (md : Region.Mode) (ops : Array Oper) (n : Nat) (l0 : Array Bool) : Bool :=
 (List.range n).all fun i => l0.getD i true || (List.range (n + 1)).any fun j => decide (i < j) && Region.waitsFor md ops j i
theorem tail_waitsI {n : Nat} {l0 listed : Array Bool} (hs : sinkI md ops n l0 = true) (hc : Region.chainB md ops n = true) (hn : n < ops.size) (inv : InvI md ops n l0 listed) :
   ∀ (d i : Nat), n - i = d -> i < n -> listed.getD i true = false -> ∀ t, n <= t -> t ∉ Region.ready md ops listed := by
 intro d
 induction d using Nat.strongRecOn with
 | _ d ih =>
   intro i hd hi hun t ht hr
   obtain ⟨_, ot, hot, hall⟩ := mem_ready.1 hr
   have htlt : t < ops.size := (Array.getElem?_eq_some_iff.1 hot).1
   by_cases htn : t = n
   · subst htn
     have h1 := List.all_eq_true.1 hs i (List.mem_range.2 hi)
     have h0 : l0.getD i true = false := by
       cases h : l0.getD i true with
       | false => rfl
       | true => rw [inv.more i h] at hun; cases hun
     rw [h0, Bool.false_or] at h1
     obtain ⟨j, hj, hj2⟩ := List.any_eq_true.1 h1
     simp only [Bool.and_eq_true, decide_eq_true_eq] at hj2
     obtain ⟨oj, hoj, e, he, hb, hon⟩ := Region.waitsFor_spec hj2.2
     have hjle : j <= t := by have := List.mem_range.1 hj; omega
     by_cases hjt : j = t
     · subst hjt
       have : oj = ot := Option.some.inj (hoj.symm.trans hot)
       subst this
       have h2 := hall e he hb
       rw [hon, getD_both hun] at h2
       cases h2
     · cases hl : listed.getD j false with
       | true =>
         have h2 := inv.inv.closed j oj hoj hl e he hb
         rw [hon, getD_both hun] at h2
         cases h2
       | false =>
         have hjs : j < listed.size := by rw [inv.inv.size]; omega
         exact ih (t - j) (by omega) j rfl (by omega) (getD_in hjs hl) t (Nat.le_refl _) hr
   · have h1 := List.all_eq_true.1 hc t (List.mem_range.2 htlt)
     simp only [Bool.or_eq_true, decide_eq_true_eq] at h1
     rcases h1 with h1 | h1
     · omega
     · obtain ⟨o', ho', e, he, hb, hon⟩ := Region.waitsFor_spec h1
       have : o' = ot := Option.some.inj (ho'.symm.trans hot)
       subst this
       have h2 := hall e he hb
       rw [hon, getD_both (inv.inv.tail (t - 1) (by omega) (by omega))] at h2
       cases h2
theorem InvI.set {n i : Nat} {l0 listed : Array Bool} (inv : InvI md ops n l0 listed) (hi : i ∈ Region.ready md ops listed) (hin : i < n) : InvI md ops n l0 (listed.setIfInBounds i true) :=
 ⟨inv.inv.set hi hin, fun j hj => by
   by_cases h : i = j
   · subst h
     rcases Nat.lt_or_ge i listed.size with h' | h'
     · simp [h']
     · simp [h']
   · rw [getD_set_ne true h]; exact inv.more j hj⟩
theorem headI_first {n i : Nat} {oi : Oper} {v : Value} {l0 : Array Bool} {L : Array Bool -> Act -> Prop} (hi : ops[i]? = some oi) (hsel : ∀ (j : Nat) (o : Oper) cs b, ops[j]? = some o -> o.op ≠ .select cs b)
   (hs : sinkI md ops n l0 = true) (hc : Region.chainB md ops n = true) (hn : n < ops.size) (hin : i < n)
   (hdone : ∀ listed a, L listed a -> ∀ j ∈ Region.ready md ops listed, n <= j) :
   ∀ (f : Nat) (listed : Array Bool) (a : Act), InvI md ops n l0 listed ->
     (∀ j oj, ops[j]? = some oj -> j ≠ i -> listed.getD j true = false -> (∀ e ∈ oj.after, Region.binds md e = true -> e.on ≠ i) -> oi.apart ops oj = true) ->
     i ∈ Region.ready md ops listed -> YieldsIn P ops C oi v a ->
     headQ P md ops C n L f (listed.setIfInBounds i true) (a.put oi.dst v) -> headQ P md ops C n L (f + 1) listed a := by
 intro f
 induction f with
 | zero =>
   intro listed a inv _ hr hy H
   refine ⟨fun h => (by rw [h] at hr; cases hr), fun j hj => ?_⟩
   have hjn : j < n := by
     rcases Nat.lt_or_ge j n with h | h
     · exact h
     · exact absurd hj (tail_waitsI hs hc hn inv _ i rfl hin (mem_ready.1 hr).1 j h)
   refine ⟨hjn, ?_⟩
   by_cases hji : j = i
   · subst hji; exact hy.qOp hi H
   · have := hdone _ _ H j (ready_mono hj hji)
     omega
 | succ f ih =>
   intro listed a inv hfree hr hy H
   have hun := (mem_ready.1 hr).1
   refine ⟨fun h => (by rw [h] at hr; cases hr), fun j hj => ?_⟩
   have hjn : j < n := by
     rcases Nat.lt_or_ge j n with h | h
     · exact h
     · exact absurd hj (tail_waitsI hs hc hn inv _ i rfl hin hun j h)
   refine ⟨hjn, ?_⟩
   by_cases hji : j = i
   · subst hji; exact hy.qOp hi H
   · have h1 := (H.2 j (ready_mono hj hji)).2
     obtain ⟨hjun, oj, hoj, hall⟩ := mem_ready.1 hj
     have hnot : ∀ e ∈ oj.after, Region.binds md e = true -> e.on ≠ i := fun e he hb heq => by
       have h1 := hall e he hb
       rw [heq, getD_both hun] at h1
       cases h1
     have h2 := qOp_put hoj (hfree j oj hoj hji hjun hnot) (fun cs b => hsel i oi cs b hi) (fun cs b => hsel j oj cs b hoj) hy h1
     have hfree' : ∀ k ok, ops[k]? = some ok -> k ≠ i -> (listed.setIfInBounds j true).getD k true = false ->
         (∀ e ∈ ok.after, Region.binds md e = true -> e.on ≠ i) -> oi.apart ops ok = true := fun k ok hk hki hun hno => by
       refine hfree k ok hk hki ?_ hno
       by_cases hjk : j = k
       · subst hjk; exact hjun
       · rw [getD_set_ne true hjk] at hun; exact hun
     refine qOp_mono (fun a' h3 => ih (listed.setIfInBounds j true) a' (inv.set hj hjn) hfree' (ready_mono hr (Ne.symm hji)) h3.1 ?_) h2
     rw [Array.setIfInBounds_comm _ _ hji]
     exact h3.2
def headIB (md : Region.Mode) (ops : Array Oper) (g n : Nat) : List Nat -> Array Bool -> Bool
 | [], listed => Region.seqB md ops g n listed
 | i :: is, listed => decide (i < n) && (Region.ready md ops listed).contains i && Region.free md ops listed i && headIB md ops g n is (listed.setIfInBounds i true)
def opsAt (l : List Oper) : List Nat -> List Oper
 | [] => []
 | i :: is => l.getD i default :: opsAt l is
theorem headI_lex {n g : Nat} {l0 : Array Bool} {Lq : Act -> Prop} {l : List Oper} (hsel : Region.noSelect l.toArray = true) (hs : sinkI md l.toArray n l0 = true) (hc : Region.chainB md l.toArray n = true) (hn : n < l.toArray.size) :
   ∀ (hd : List Nat) (listed : Array Bool) (a : Act), InvI md l.toArray n l0 listed -> headIB md l.toArray g n hd listed = true -> wpQuiet P l.toArray C Lq (opsAt l hd) a ->
   headQ P md l.toArray C n (fun listed' a' => Region.seqB md l.toArray g n listed' = true /\ Lq a') hd.length listed a
 | [], listed, a, _, hB, h => ⟨by simpa [headIB] using hB, h⟩
 | i :: is, listed, a, inv, hB, h => by
   simp only [headIB, Bool.and_eq_true, decide_eq_true_eq] at hB
   obtain ⟨⟨⟨hin, hr⟩, hf⟩, hB'⟩ := hB
   have hr' : i ∈ Region.ready md l.toArray listed := by simpa using hr
   obtain ⟨_, oi, hoi, _⟩ := mem_ready.1 hr'
   have hget : l.getD i default = oi := by
     have : l[i]? = some oi := by simpa using hoi
     simp [List.getD, this]
   have hst : qOp P l.toArray C i (wpQuiet P l.toArray C Lq (opsAt l is)) a := by
     unfold qOp; simp only [hoi]
     have h' : wpQuiet P l.toArray C Lq (oi :: opsAt l is) a := by rw [<- hget]; exact h
     exact h'
   obtain ⟨v, hy, hK⟩ := yieldsIn_of_qOp hoi hst
   exact headI_first hoi (Region.noSelect_spec hsel) hs hc hn hin (fun listed' a' hL => seqB_ready hL.1) is.length listed a inv (Region.free_spec hoi hf) hr' hy
     (headI_lex hsel hs hc hn is _ _ (inv.set hr' hin) hB' hK)
def closedB (md : Region.Mode) (ops : Array Oper) (listed : Array Bool) : Bool :=
 (List.range ops.size).all fun j => !listed.getD j false || match ops[j]? with | some o => o.after.all (fun e => !Region.binds md e || listed.getD e.on false) | none => true
def threeB (md : Region.Mode) (ops : Array Oper) (pre hd : List Nat) (n : Nat) : Bool :=
 Region.noSelect ops && decide (n < ops.size) && decide (ops.size = (hd.length + (ops.size - n)) + pre.length) && movesB md ops pre (Array.replicate ops.size false) &&
   decide ((mark (Array.replicate ops.size false) pre).size = ops.size) && closedB md ops (mark (Array.replicate ops.size false) pre) && (List.range ops.size).all (fun t => decide (t < n) || (mark (Array.replicate ops.size false) pre).getD t true == false) &&
   sinkI md ops n (mark (Array.replicate ops.size false) pre) && Region.chainB md ops n && headIB md ops (ops.size - n) n hd (mark (Array.replicate ops.size false) pre)
theorem wp_region_three {id : Nat} {Q : Exit -> Act -> World -> Prop} {a : Act} {w : World} {l : List Oper} (pre hd : List Nat) (n : Nat) (hm : P.follows .mixedOrders = true) (hB : threeB .any l.toArray pre hd n = true) (hC : C { w with drawn := w.drawn + 1 })
   (hQ : ∀ c d v a w, Q (.panic c) (Act.put a d v) w -> Q (.panic c) a w)
   (h : wpQuiet P l.toArray C (fun a' => ∀ w', C w' -> wpList P l.toArray Q (l.drop n) a' w') (opsAt l hd) (preAct l pre a)) : (Code.region id l.toArray true).wp P Q a w := by
 simp only [threeB, Bool.and_eq_true, decide_eq_true_eq] at hB
 obtain ⟨⟨⟨⟨⟨⟨⟨⟨⟨hsel, hn⟩, hlen⟩, hmv⟩, hsz⟩, hcl⟩, htl⟩, hs⟩, hc⟩, hlex⟩ := hB
 refine wp_region_any hm ?_
 rw [hlen]
 rw [<- hlen]
 have inv0 : InvI .any l.toArray n (mark (Array.replicate l.toArray.size false) pre) (mark (Array.replicate l.toArray.size false) pre) := by
   refine ⟨⟨hsz, fun j oj hj hl e he hb => ?_, fun t ht htt => ?_⟩, fun i hi => hi⟩
   · have hjs : j < l.toArray.size := (Array.getElem?_eq_some_iff.1 hj).1
     have h1 := List.all_eq_true.1 hcl j (List.mem_range.2 hjs)
     rw [hl, hj] at h1
     simp only [Bool.not_true, Bool.false_or] at h1
     have h2 := Array.all_eq_true_iff_forall_mem.1 h1 e he
     rw [hb] at h2
     simpa using h2
   · have h1 := List.all_eq_true.1 htl t (List.mem_range.2 htt)
     simp only [Bool.or_eq_true, decide_eq_true_eq] at h1
     rcases h1 with h1 | h1
     · omega
     · simpa using h1
 have H := headI_lex (md := .any) (g := l.toArray.size - n) hsel hs hc hn hd _ _ inv0 hlex h
 have hT := any_of_headQ (Q' := Q) (g := l.toArray.size - n) (fun listed a' w' hw' hL => by
   have hdl : (l.drop n).length = l.toArray.size - n := by simp
   have := wpAny_of_seq (md := .any) (Q' := Q) (l.drop n) n listed a' w' (fun j => by simp [List.getElem?_drop]) (by rw [hdl]; exact hL.1) (hL.2 w' hw')
   rwa [hdl] at this) _ _ _ _ hC H
 have := take_moves (md := .any) hsel hQ pre _ _ _ hmv hT
 rw [<- hlen] at this
 exact this
end
def InB (w0 w' : World) : Prop := Below w0.heap.size w0 w'
theorem InB.start (w0 : World) : InB w0 { w0 with drawn := w0.drawn + 1 } := (Below.refl w0.heap.size w0).drew
theorem InB.below {w0 w' : World} (h : InB w0 w') : Below w0.heap.size w0 w' := h
theorem InB.on {w0 w' w1 : World} (h : InB w0 w') (b : Below w'.heap.size w' w1) : InB w0 w1 := Below.trans (B := w0.heap.size) h (b.mono (Below.size h))
theorem InB.cell {w0 w' : World} (h : InB w0 w') (b o : Nat) (hb : b < w0.heap.size) : w'.cell? ⟨b, o, none⟩ = w0.cell? ⟨b, o, none⟩ := Below.cell h (p := ⟨b, o, none⟩) hb
theorem InB.some (w0 : World) : ∃ w', InB w0 w' := ⟨_, InB.start w0⟩
theorem region_inb {P : Program} {id : Nat} {Q : Exit -> Act -> World -> Prop} {a : Act} {w : World} {l : List Oper} (hm : P.follows .mixedOrders = true) (hB : Region.lexB .any l.toArray = true)
   (h : wpQuiet P l.toArray (InB w) (fun a' => ∀ w', InB w w' -> Q .normal a' w') l a) : (Code.region id l.toArray true).wp P Q a w :=
 wp_region_quiet (C := InB w) hm hB (InB.start w) (by simpa using h)
theorem region_inb_tail {P : Program} {id : Nat} {Q : Exit -> Act -> World -> Prop} {a : Act} {w : World} {l : List Oper} (n : Nat) (hm : P.follows .mixedOrders = true) (hB : Region.lexTailB .any l.toArray n = true)
   (h : wpQuiet P l.toArray (InB w) (fun a' => ∀ w', InB w w' -> wpList P l.toArray Q (l.drop n) a' w') (l.take n) a) : (Code.region id l.toArray true).wp P Q a w :=
 wp_region_quiet_tail (C := InB w) n hm hB (InB.start w) h
theorem region_three {P : Program} {id : Nat} {Q : Exit -> Act -> World -> Prop} {a : Act} {w : World} {l : List Oper} (pre hd : List Nat) (n : Nat) (hm : P.follows .mixedOrders = true) (hB : threeB .any l.toArray pre hd n = true)
   (hQ : ∀ c d v a w, Q (.panic c) (Act.put a d v) w -> Q (.panic c) a w)
   (h : wpQuiet P l.toArray (InB w) (fun a' => ∀ w', InB w w' -> wpList P l.toArray Q (l.drop n) a' w') (opsAt l hd) (preAct l pre a)) : (Code.region id l.toArray true).wp P Q a w :=
 wp_region_three (C := InB w) pre hd n hm hB (InB.start w) hQ h
end Go.Proofs.YtchcmklelmlbgaaGreat
namespace Go.Proofs.YtchcmklelmlbgaaGreat
open Go.RowKit
abbrev e8 (x : UInt8) : Value := .int .u8 (x.toNat : Int)
theorem to8 (n : Int) (h0 : 0 <= n) (h1 : n <= 255) : ∃ x : UInt8, n = (x.toNat : Int) :=
 ⟨UInt8.ofNat n.toNat, by rw [UInt8.toNat_ofNat']; have : n.toNat < 256 := by omega
                          simp [Nat.mod_eq_of_lt this]; omega⟩
theorem to64 (n : Int) (h0 : 0 <= n) (h1 : n <= 18446744073709551615) : ∃ x : UInt64, n = (x.toNat : Int) :=
 ⟨UInt64.ofNat n.toNat, by rw [UInt64.toNat_ofNat']; have : n.toNat < 18446744073709551616 := by omega
                           simp [Nat.mod_eq_of_lt this]; omega⟩
theorem list8 (zs : List Int) (h : ∀ n ∈ zs, (Lit.int .u8 n).wf = true) : ∃ l : List UInt8, zs = l.map (fun x => (x.toNat : Int)) := by
 induction zs with
 | nil => exact ⟨[], rfl⟩
 | cons z zs ih =>
   obtain ⟨l, rfl⟩ := ih fun n hn => h n (by simp [hn])
   have hz := h z (by simp)
   simp [Lit.wf, IntKind.min, IntKind.max, IntKind.signed, IntKind.bits] at hz
   obtain ⟨x, rfl⟩ := to8 z (by omega) (by omega)
   exact ⟨x :: l, rfl⟩
def Rd (w : World) (B : Nat) (A : Option Addr) (xs : List Value) : Prop :=
 xs ≠ [] -> ∃ b off, A = some ⟨b, off, none⟩ /\ b < B /\ ∀ i (h : i < xs.length), w.cell? ⟨b, off + i, none⟩ = some xs[i]
theorem Rd.nil (w : World) (B : Nat) (A : Option Addr) : Rd w B A [] := fun h => absurd rfl h
theorem Rd.get {w : World} {B : Nat} {A : Option Addr} {xs : List Value} (h : Rd w B A xs) {k : Nat} (hk : k < xs.length) :
   ∃ b off, A = some ⟨b, off, none⟩ /\ b < B /\ w.cell? ⟨b, off + k, none⟩ = some xs[k] := by
 obtain ⟨b, off, rfl, hb, hc⟩ := h (by intro e; rw [e] at hk; exact absurd hk (by simp))
 exact ⟨b, off, rfl, hb, hc k hk⟩
theorem Rd.keep {w w' : World} {B : Nat} {A : Option Addr} {xs : List Value} (h : Rd w B A xs) (hk : ∀ p : Addr, p.block < B -> w'.cell? p = w.cell? p) : Rd w' B A xs := by
 intro hne
 obtain ⟨b, off, rfl, hb, hc⟩ := h hne
 exact ⟨b, off, rfl, hb, fun i hi => (hk ⟨b, off + i, none⟩ hb).trans (hc i hi)⟩
theorem Rd.below {w w' : World} {B : Nat} {A : Option Addr} {xs : List Value} (h : Rd w B A xs) (hb : Below B w w') : Rd w' B A xs := h.keep fun _ hp => hb.cell hp
theorem Rd.more {w : World} {B B' : Nat} {A : Option Addr} {xs : List Value} (h : Rd w B A xs) (hB : B <= B') : Rd w B' A xs := by
 intro hne
 obtain ⟨b, off, rfl, hb, hc⟩ := h hne
 exact ⟨b, off, rfl, by omega, hc⟩
theorem Rd.on {w w' : World} {A : Option Addr} {xs : List Value} (h : Rd w w.heap.size A xs) (hb : Below w.heap.size w w') : Rd w' w'.heap.size A xs := (h.below hb).more hb.size
theorem Rd.own {w : World} {base : Nat} {e : TypeId} {A : Option Addr} {n c : Nat} {xs : List Value} (h : w.ownsRow base e 1 (.slice A n c) n xs) : Rd w w.heap.size A xs := by
 intro hne
 rcases h.2 with ⟨hv, hn⟩ | ⟨g, cap, cur, hv, hg, hh, hnc, hcm, hcs, ht⟩
 · exact absurd (List.eq_nil_of_length_eq_zero (by have := h.1; omega)) hne
 · injection hv with hA _ _
   subst hA
   refine ⟨g, 0, rfl, lt_of_block hh, fun i hi => ?_⟩
   have hl := h.1
   have := World.ownsRow.cellAt (j := i) h (by omega)
   rw [Nat.zero_add, this]; exact List.getElem?_eq_getElem hi
theorem Rd.lit (w : World) (cs : Array Value) (t : TypeId) (xs : List Value) (B : Nat) (hx : cs.toList = xs) (hB : w.heap.size < B) : Rd (w.alloc (.cells cs t)) B (some ⟨w.heap.size, 0, none⟩) xs := by
 subst hx
 intro _
 refine ⟨_, _, rfl, hB, fun i hi => ?_⟩
 rw [World.cell?_alloc_new, Nat.zero_add]
 simp
theorem below_lit (w : World) (o : Obj) : Below w.heap.size w (w.alloc o) := (Below.refl _ _).alloc (Nat.le_refl _) _
def Box (w : World) (g : Nat) (v : Value) : Prop := ∃ t, w.heap[g]? = some (.cells #[v] t (0, 0))
theorem Box.cell {w : World} {g : Nat} {v : Value} (h : Box w g v) : w.cell? ⟨g, 0, none⟩ = some v := h.elim fun _ h => cell_of_one h
theorem Box.free {w : World} {g : Nat} {v : Value} (h : Box w g v) : w.frozen? ⟨g, 0, none⟩ = false := h.elim fun _ h => free_of_one h
theorem Box.lt {w : World} {g : Nat} {v : Value} (h : Box w g v) : g < w.heap.size := h.elim fun _ h => lt_of_block h
theorem Box.new (w : World) (t : TypeId) (v : Value) : Box (w.alloc (.cells #[v] t)) w.heap.size v := ⟨t, heap_alloc_new w _⟩
theorem Box.set {w : World} {g : Nat} {v : Value} (h : Box w g v) (u : Value) : Box (w.setCell ⟨g, 0, none⟩ u) g u := h.elim fun t h => ⟨t, one_setCell h⟩
theorem Box.kept {w w' : World} {g : Nat} {v : Value} {row : Option Nat} (h : Box w g v) (hg : w.grownBy w' row) (hne : some g ≠ row) : Box w' g v :=
 h.elim fun t hh => ⟨t, (hg.block g (lt_of_block hh) hne).trans hh⟩
theorem Box.below {w w' : World} {g B : Nat} {v : Value} (h : Box w g v) (hb : Below B w w') (hg : g < B) : Box w' g v := h.elim fun t hh => ⟨t, (hb.block g hg).trans hh⟩
theorem Box.alloc {w : World} {g : Nat} {v : Value} (h : Box w g v) (o : Obj) : Box (w.alloc o) g v := h.elim fun t hh => ⟨t, (Below.heap_alloc w o g (lt_of_block hh)).trans hh⟩
theorem grown_set (w : World) (a : Addr) (u : Value) : w.grownBy (w.setCell a u) (some a.block) :=
 ⟨rfl, rfl, rfl, by simp, fun k _ hk => heap_setCell_other w a k u (fun e => hk (by rw [e]))⟩
theorem grown_trans {a b c : World} {r : Option Nat} (h : a.grownBy b r) (k : b.grownBy c r) : a.grownBy c r :=
 ⟨k.os.trans h.os, k.tape.trans h.tape, k.output.trans h.output, Nat.le_trans h.size k.size, fun i hi hn => (k.block i (Nat.lt_of_lt_of_le hi h.size) hn).trans (h.block i hi hn)⟩
theorem below_grown {w w' : World} (h : Below w.heap.size w w') (r : Option Nat) : w.grownBy w' r := ⟨h.os, h.tape, h.output, h.size, fun k hk _ => h.block k hk⟩
section
variable {P : Program} (w : World)
theorem run_append_rd (base : Nat) (t ty e : TypeId) (i : TypeInfo) (z : Value) (size bytes : Nat) (ht : P.underlying t = some (.slice e)) (hi : P.info? e = some i) (hz : i.zero = some z)
   (hsize : i.size = size) (hby : i.bytes = bytes) (hzs : z.cells.size = size) (hsz : 0 < size) (v : Value) (n : Nat) (xs : List Value) (hown : w.ownsRow base e size v n xs)
   (B : Nat) (A : Option Addr) (m c : Nat) (news : List Value) (hl : news.length = m * size) (hr : Rd w B A news) (h1 : ∀ u ∈ news, u.oneCell' = true)
   (h63 : n + m <= maxLen) (hbytes : (n + m) * bytes <= 140737488355328) (hbase : base <= w.heap.size) :
   ∃ v' w', (Builtin.append_ #[t, t] ty #[v, .slice A m c]).run P w = .ok v' w' /\ w'.ownsRow base e size v' (n + m) (xs ++ news) /\ w.grownBy w' v.ownBlock /\
     (v'.ownBlock = v.ownBlock \/ v'.ownBlock = some w.heap.size) := by
 cases A with
 | none =>
   have hn : news = [] := by
     cases news with
     | nil => rfl
     | cons a l => obtain ⟨b, off, h, _⟩ := hr (by simp); cases h
   subst hn
   have hm : m = 0 := by
     rcases Nat.eq_zero_or_pos m with h | h
     · exact h
     · have h2 := Nat.mul_pos h hsz
       have h3 : (0 : Nat) = m * size := hl
       omega
   subst hm
   refine ⟨v, w, ?_, by simpa using hown, ⟨rfl, rfl, rfl, Nat.le_refl _, fun _ _ _ => rfl⟩, .inl rfl⟩
   rcases hown.2 with ⟨rfl, rfl⟩ | ⟨g, cap, cur, rfl, _, _, hnc, _⟩
   · simp [Builtin.append_, run_underlying ht, sizeOf, typeInfo, hi, Builtin.lenOf, Builtin.firstCells]
   · simp [Builtin.append_, run_underlying ht, sizeOf, typeInfo, hi, Builtin.lenOf, Builtin.firstCells, hnc, storeCells]
 | some ad =>
   have hcells : ∀ j u, news[j]? = some u -> w.cell? (ad.add j) = some u := by
     intro j u hu
     obtain ⟨hj, rfl⟩ := List.getElem?_eq_some_iff.1 hu
     obtain ⟨b, off, h, _, hc⟩ := hr (by intro e; rw [e] at hj; exact absurd hj (by simp))
     injection h with h
     subst h
     rw [Addr.add_lit]
     exact hc j hj
   obtain ⟨v', w', h, h2, h3, _, h5⟩ := run_append_own_at (P := P) w base t ty e i z size bytes ht hi hz hsize hby hzs hsz v n xs hown ad m c news hl hcells h1 h63 hbytes hbase
   exact ⟨v', w', h, h2, h3, h5⟩
theorem wp_append_rd {o : Oper} {a : Act} {K : Act -> World -> Prop} {Q : Exit -> Act -> World -> Prop} (s x : Operand) (t : TypeId)
   (ho : o.op = .call { callee := .builtin .append, args := #[s, x], argTypes := #[t, t] })
   (base : Nat) (e : TypeId) (i : TypeInfo) (z : Value) (size bytes : Nat) (ht : P.underlying t = some (.slice e)) (hi : P.info? e = some i) (hz : i.zero = some z)
   (hsize : i.size = size) (hby : i.bytes = bytes) (hzs : z.cells.size = size) (hsz : 0 < size)
   (v : Value) (n : Nat) (xs : List Value) (hs : a.eval s = v) (hown : w.ownsRow base e size v n xs)
   (B : Nat) (A : Option Addr) (m c : Nat) (news : List Value) (hx : a.eval x = .slice A m c) (hl : news.length = m * size) (hr : Rd w B A news) (h1 : ∀ u ∈ news, u.oneCell' = true)
   (h63 : n + m <= maxLen) (hbytes : (n + m) * bytes <= 140737488355328) (hbase : base <= w.heap.size)
   (h : ∀ v' w', w'.ownsRow base e size v' (n + m) (xs ++ news) -> w.grownBy w' v.ownBlock -> (v'.ownBlock = v.ownBlock \/ v'.ownBlock = some w.heap.size) -> K (a.put o.dst v') w') : o.wp P a w K Q := by
 obtain ⟨v', w', hrun, h2, h3, h4⟩ := run_append_rd (P := P) w base t o.type e i z size bytes ht hi hz hsize hby hzs hsz v n xs hown B A m c news hl hr h1 h63 hbytes hbase
 unfold Oper.wp execOp
 simp only [ho, resolve, invoke, builtin, Sem.run_bind, Sem.run_pure, Result.andThen_ok, List.map_toArray, List.map_cons, List.map_nil, hs, hx, hrun]
 exact h v' w' h2 h3 h4
theorem wpList_append_rd {ops : Array Oper} {rest : List Oper} {o : Oper} {a : Act} {Q : Exit -> Act -> World -> Prop} (hgd : o.guard = none) (s x : Operand) (t : TypeId)
   (ho : o.op = .call { callee := .builtin .append, args := #[s, x], argTypes := #[t, t] })
   (base : Nat) (e : TypeId) (i : TypeInfo) (z : Value) (size bytes : Nat) (ht : P.underlying t = some (.slice e)) (hi : P.info? e = some i) (hz : i.zero = some z)
   (hsize : i.size = size) (hby : i.bytes = bytes) (hzs : z.cells.size = size) (hsz : 0 < size)
   (v : Value) (n : Nat) (xs : List Value) (hs : a.eval s = v) (hown : w.ownsRow base e size v n xs)
   (B : Nat) (A : Option Addr) (m c : Nat) (news : List Value) (hx : a.eval x = .slice A m c) (hl : news.length = m * size) (hr : Rd w B A news) (h1 : ∀ u ∈ news, u.oneCell' = true)
   (h63 : n + m <= maxLen) (hbytes : (n + m) * bytes <= 140737488355328) (hbase : base <= w.heap.size)
   (h : ∀ v' w', w'.ownsRow base e size v' (n + m) (xs ++ news) -> w.grownBy w' v.ownBlock -> (v'.ownBlock = v.ownBlock \/ v'.ownBlock = some w.heap.size) -> wpList P ops Q rest (a.put o.dst v') w') : wpList P ops Q (o :: rest) a w :=
 wpList_plain hgd fun _ hK => wp_append_rd w s x t ho base e i z size bytes ht hi hz hsize hby hzs hsz v n xs hs hown B A m c news hx hl hr h1 h63 hbytes hbase fun v' w' h2 h3 h4 => hK _ _ (h v' w' h2 h3 h4)
end
theorem e8_one (l : List UInt8) : ∀ u ∈ l.map e8, u.oneCell' = true := by
 intro u hu
 obtain ⟨x, _, rfl⟩ := List.mem_map.1 hu
 rfl
theorem one_int (k : IntKind) (n : Int) : ∀ u ∈ [Value.int k n], u.oneCell' = true := by
 intro u hu
 rw [List.mem_singleton] at hu
 subst hu
 rfl
theorem le_alloc {b : Nat} {w : World} (h : b <= w.heap.size) (o : Obj) : b <= (w.alloc o).heap.size := by
 rw [show (w.alloc o).heap.size = w.heap.size + 1 by simp]; omega
theorem made_int (k : IntKind) (s : Nat) : (madeCells (Value.int k 0).cells (s * 1)).toList = List.replicate s (Value.int k 0) := by
 apply List.ext_getElem
 · simp [madeCells]
 · intro i h1 h2
   simp [madeCells, Value.cells, Nat.mod_one]
theorem own_nil (w : World) (base : Nat) (e : TypeId) (size : Nat) : w.ownsRow base e size (.slice none 0 0) 0 [] := ⟨by simp, .inl ⟨rfl, rfl⟩⟩
theorem own_form {w : World} {base : Nat} {e : TypeId} {size : Nat} {v : Value} {n : Nat} {xs : List Value} (h : w.ownsRow base e size v n xs) : ∃ A c, v = .slice A n c := by
 rcases h.2 with ⟨rfl, rfl⟩ | ⟨g, cap, cur, rfl, _⟩
 · exact ⟨_, _, rfl⟩
 · exact ⟨_, _, rfl⟩
theorem own_some {w : World} {base : Nat} {e : TypeId} {size : Nat} {v : Value} {n : Nat} {xs : List Value} (h : w.ownsRow base e size v n xs) (hn : 0 < n) : ∃ g c, v = .slice (some ⟨g, 0, none⟩) n c /\ base <= g := by
 rcases h.2 with ⟨rfl, rfl⟩ | ⟨g, cap, cur, rfl, hg, _⟩
 · exact absurd hn (by omega)
 · exact ⟨_, _, rfl, hg⟩
theorem own_block {w : World} {base : Nat} {e : TypeId} {size : Nat} {v : Value} {n : Nat} {xs : List Value} (h : w.ownsRow base e size v n xs) {k : Nat} (hk : v.ownBlock = some k) : base <= k := (h.lt k hk).1
def RetB (E : TypeId) (w : World) (l : List UInt8) (e : Ending) (w' : World) : Prop :=
 ∃ A c, e = .returned (.slice A l.length c) /\ w'.ownsRow w.heap.size E 1 (.slice A l.length c) l.length (l.map e8) /\ Below w.heap.size w w'
theorem RetB.mk {E : TypeId} {w w' : World} {l : List UInt8} {v : Value} {n : Nat} {xs : List Value} (h : w'.ownsRow w.heap.size E 1 v n xs) (hx : xs = l.map e8) (hb : Below w.heap.size w w') : RetB E w l (.returned v) w' := by
 subst hx
 obtain ⟨A, c, rfl⟩ := own_form h
 have hn : l.length = n := by simpa using h.1
 subst hn
 exact ⟨A, c, rfl, h, hb⟩
theorem own_base {w : World} {base base' : Nat} {e : TypeId} {size : Nat} {v : Value} {n : Nat} {xs : List Value} (h : w.ownsRow base e size v n xs) (hb : base' <= base) : w.ownsRow base' e size v n xs := by
 refine ⟨h.1, ?_⟩
 rcases h.2 with h | ⟨g, cap, cur, hv, hg, r⟩
 · exact .inl h
 · exact .inr ⟨g, cap, cur, hv, by omega, r⟩
theorem RetB.after {E : TypeId} {w w1 w2 : World} {l : List UInt8} {A : Option Addr} {c : Nat} (h1 : Below w.heap.size w w1) (h : w2.ownsRow w1.heap.size E 1 (.slice A l.length c) l.length (l.map e8)) (h2 : Below w1.heap.size w1 w2) :
   RetB E w l (.returned (.slice A l.length c)) w2 := ⟨A, c, rfl, own_base h h1.size, h1.trans (h2.mono h1.size)⟩
theorem own_on {w w' : World} {base : Nat} {e : TypeId} {size : Nat} {v : Value} {n : Nat} {xs : List Value} (h : w.ownsRow base e size v n xs) (b : Below w.heap.size w w') : w'.ownsRow base e size v n xs := by
 refine ⟨h.1, ?_⟩
 rcases h.2 with h | ⟨g, cap, cur, hv, hg, hh, r⟩
 · exact .inl h
 · exact .inr ⟨g, cap, cur, hv, hg, (b.block g (lt_of_block hh)).trans hh, r⟩
theorem bt {w wX w1 : World} (h : Below w.heap.size w wX) (b : Below wX.heap.size wX w1) : Below w.heap.size w w1 := h.trans (b.mono h.size)
theorem b1alloc (w : World) (o : Obj) : Below w.heap.size w (w.alloc o) := (Below.refl _ _).alloc (Nat.le_refl _) _
theorem b2alloc (w : World) (o o' : Obj) : Below w.heap.size w ((w.alloc o).alloc o') := bt (b1alloc w o) (b1alloc _ _)
theorem b3alloc (w : World) (o o' o'' : Obj) : Below w.heap.size w (((w.alloc o).alloc o').alloc o'') := bt (b2alloc w o o') (b1alloc _ _)
theorem bcell {W w1 : World} (hb : Below W.heap.size W w1) : (∀ b o, b < W.heap.size -> w1.cell? ⟨b, o, none⟩ = W.cell? ⟨b, o, none⟩) /\ (∀ b o, b < W.heap.size -> w1.frozen? ⟨b, o, none⟩ = W.frozen? ⟨b, o, none⟩) /\ W.heap.size <= w1.heap.size :=
 ⟨fun b o h => hb.cell (p := ⟨b, o, none⟩) h, fun b o h => hb.frozen (p := ⟨b, o, none⟩) h, hb.size⟩
theorem bdrew {B : Nat} {a w : World} (h : Below B a w) (n : Nat) : Below B a (w.drewN n) := ⟨h.os, h.tape, h.output, h.size, h.block⟩
theorem wrap_small {x : Int} (h0 : -1000000000000 <= x) (h1 : x <= 1000000000000) : IntKind.i64.wrap x = x := IntWalk.i64_in _ (by omega)
theorem bne_no {a b : Int} (h : a = b) : (a != b) = false := by simp [h]
theorem bne_yes {a b : Int} (h : a ≠ b) : (a != b) = true := by simp [h]
theorem beq_yes {a b : Int} (h : a = b) : (a == b) = true := by simp [h]
theorem beq_no {a b : Int} (h : a ≠ b) : (a == b) = false := by simp [h]
theorem bne8 {a b : UInt8} (h : a ≠ b) : ((a.toNat : Int) != (b.toNat : Int)) = true := bne_yes (fun e => h (UInt8.toNat_inj.1 (Int.natCast_inj.1 e)))
theorem bne8_no {a b : UInt8} (h : a = b) : ((a.toNat : Int) != (b.toNat : Int)) = false := by simp [h]
def Keep (fp : List Nat) (w w' : World) : Prop := w'.os = w.os /\ w'.tape = w.tape /\ w'.output = w.output /\ w.heap.size <= w'.heap.size /\ ∀ j, j < w.heap.size -> j ∉ fp -> w'.heap[j]? = w.heap[j]?
def Fresh (w : World) (fp fp' : List Nat) : Prop := ∀ j ∈ fp', j ∈ fp \/ w.heap.size <= j
theorem Keep.refl (fp : List Nat) (w : World) : Keep fp w w := ⟨rfl, rfl, rfl, Nat.le_refl _, fun _ _ _ => rfl⟩
theorem Keep.size {fp : List Nat} {w w' : World} (h : Keep fp w w') : w.heap.size <= w'.heap.size := h.2.2.2.1
theorem Keep.block {fp : List Nat} {w w' : World} (h : Keep fp w w') {j : Nat} (hj : j < w.heap.size) (hn : j ∉ fp) : w'.heap[j]? = w.heap[j]? := h.2.2.2.2 j hj hn
theorem Keep.of_below {w w' : World} (h : Below w.heap.size w w') (fp : List Nat) : Keep fp w w' := ⟨h.os, h.tape, h.output, h.size, fun j hj _ => h.block j hj⟩
theorem Keep.of_grown {fp : List Nat} {w w' : World} {row : Option Nat} (h : w.grownBy w' row) (hr : ∀ g, row = some g -> g ∈ fp) : Keep fp w w' :=
 ⟨h.os, h.tape, h.output, h.size, fun j hj hn => h.block j hj (fun e => hn (hr j e.symm))⟩
theorem Keep.trans {fp fp1 : List Nat} {w w1 w2 : World} (h : Keep fp w w1) (k : Keep fp1 w1 w2) (hf : Fresh w fp fp1) : Keep fp w w2 :=
 ⟨k.1.trans h.1, k.2.1.trans h.2.1, k.2.2.1.trans h.2.2.1, Nat.le_trans h.size k.size, fun j hj hn => (k.block (Nat.lt_of_lt_of_le hj h.size) (fun e => (hf j e).elim hn (fun h1 => absurd hj (by omega)))).trans (h.block hj hn)⟩
theorem Keep.below {fp : List Nat} {w w' : World} {B : Nat} (h : Keep fp w w') (hf : ∀ j ∈ fp, B <= j) (hB : B <= w.heap.size) : Below B w w' :=
 ⟨h.1, h.2.1, h.2.2.1, h.size, fun j hj => h.block (by omega) (fun e => by have := hf j e; omega)⟩
theorem Keep.more {fp fp' : List Nat} {w w' : World} (h : Keep fp w w') (hf : ∀ j ∈ fp, j ∈ fp') : Keep fp' w w' := ⟨h.1, h.2.1, h.2.2.1, h.size, fun j hj hn => h.block hj (fun e => hn (hf j e))⟩
theorem Keep.set {fp : List Nat} {w w' : World} (h : Keep fp w w') {p : Addr} (hp : p.block ∈ fp \/ w.heap.size <= p.block) (u : Value) : Keep fp w (w'.setCell p u) :=
 ⟨h.1, h.2.1, h.2.2.1, by simpa [World.setCell] using h.size, fun j hj hn => (Below.heap_setCell w' p u j (by
   rintro rfl
   rcases hp with hp | hp
   · exact hn hp
   · omega)).trans (h.block hj hn)⟩
theorem Fresh.refl (w : World) (fp : List Nat) : Fresh w fp fp := fun _ h => .inl h
theorem Fresh.trans {w w1 : World} {fp fp1 fp2 : List Nat} (h : Fresh w fp fp1) (hs : w.heap.size <= w1.heap.size) (k : Fresh w1 fp1 fp2) : Fresh w fp fp2 := fun j hj => by
 rcases k j hj with h1 | h1
 · exact h j h1
 · exact .inr (by omega)
theorem Fresh.out {w : World} {fp fp1 : List Nat} {g : Nat} (h : Fresh w fp fp1) (hg : g < w.heap.size) (hn : g ∉ fp) : g ∉ fp1 := fun e => by
 rcases h g e with h1 | h1
 · exact hn h1
 · omega
theorem own_keep {w w' : World} {base : Nat} {e : TypeId} {size : Nat} {v : Value} {n : Nat} {xs : List Value} {fp : List Nat} (h : w.ownsRow base e size v n xs) (k : Keep fp w w') (hne : ∀ g, v.ownBlock = some g -> g ∉ fp) : w'.ownsRow base e size v n xs := by
 refine ⟨h.1, ?_⟩
 rcases h.2 with h | ⟨g, cap, cur, rfl, hg, hh, r⟩
 · exact .inl h
 · exact .inr ⟨g, cap, cur, rfl, hg, (k.block (lt_of_block hh) (hne g rfl)).trans hh, r⟩
theorem Box.keep {w w' : World} {g : Nat} {v : Value} {fp : List Nat} (h : Box w g v) (k : Keep fp w w') (hg : g ∉ fp) : Box w' g v := h.elim fun t hh => ⟨t, (k.block (lt_of_block hh) hg).trans hh⟩
def RdN (w : World) (fp : List Nat) (A : Option Addr) (xs : List Value) : Prop :=
 xs ≠ [] -> ∃ b off, A = some ⟨b, off, none⟩ /\ b < w.heap.size /\ b ∉ fp /\ ∀ i (h : i < xs.length), w.cell? ⟨b, off + i, none⟩ = some xs[i]
theorem RdN.rd {w : World} {fp : List Nat} {A : Option Addr} {xs : List Value} (h : RdN w fp A xs) : Rd w w.heap.size A xs := fun hne => by
 obtain ⟨b, off, rfl, hb, _, hc⟩ := h hne
 exact ⟨b, off, rfl, hb, hc⟩
theorem RdN.of {w : World} {fp : List Nat} {A : Option Addr} {xs : List Value} {B : Nat} (h : Rd w B A xs) (hf : ∀ j ∈ fp, B <= j) (hB : B <= w.heap.size) : RdN w fp A xs := fun hne => by
 obtain ⟨b, off, rfl, hb, hc⟩ := h hne
 exact ⟨b, off, rfl, by omega, fun e => by have := hf b e; omega, hc⟩
theorem RdN.keep {w w' : World} {fp fp' : List Nat} {A : Option Addr} {xs : List Value} (h : RdN w fp A xs) (k : Keep fp w w') (f : Fresh w fp fp') : RdN w' fp' A xs := fun hne => by
 obtain ⟨b, off, rfl, hb, hn, hc⟩ := h hne
 exact ⟨b, off, rfl, Nat.lt_of_lt_of_le hb k.size, f.out hb hn, fun i hi => (World.cell?_of_block (k.block hb hn)).trans (hc i hi)⟩
theorem RdN.on {w w' : World} {fp : List Nat} {A : Option Addr} {xs : List Value} (h : RdN w fp A xs) (b : Below w.heap.size w w') : RdN w' fp A xs := h.keep (Keep.of_below b fp) (Fresh.refl _ _)
theorem Rd.take {w : World} {B : Nat} {A : Option Addr} {xs : List Value} (h : Rd w B A xs) (k : Nat) : Rd w B A (xs.take k) := by
 intro hne
 obtain ⟨b, off, rfl, hb, hc⟩ := h (by rintro rfl; exact hne (by simp))
 exact ⟨b, off, rfl, hb, fun i hi => by rw [hc i (by rw [List.length_take] at hi; omega), List.getElem_take]⟩
theorem RdN.own {w w' : World} {e : TypeId} {A : Option Addr} {n c : Nat} {xs : List Value} {fp : List Nat} (h : w'.ownsRow w.heap.size e 1 (.slice A n c) n xs) (hf : ∀ j ∈ fp, j < w.heap.size) : RdN w' fp A xs := by
 intro hne
 rcases h.2 with ⟨hv, hn⟩ | ⟨g, cap, cur, hv, hg, hh, hnc, hcm, hcs, ht⟩
 · exact absurd (List.eq_nil_of_length_eq_zero (by have := h.1; omega)) hne
 · injection hv with hA _ _
   subst hA
   refine ⟨g, 0, rfl, lt_of_block hh, fun e => by have := hf g e; omega, fun i hi => ?_⟩
   have hl := h.1
   have := World.ownsRow.cellAt (j := i) h (by omega)
   rw [Nat.zero_add, this]; exact List.getElem?_eq_getElem hi
theorem own_lit (w : World) (e : TypeId) (cs : Array Value) (base n : Nat) (hb : base <= w.heap.size) (hn : cs.size = n) (hm : n <= maxLen) : (w.alloc (.cells cs e)).ownsRow base e 1 (.slice (some ⟨w.heap.size, 0, none⟩) n n) n cs.toList := by
 subst hn
 refine ⟨by simp, .inr ⟨w.heap.size, cs.size, cs, rfl, hb, heap_alloc_new w _, Nat.le_refl _, hm, by simp, ?_⟩⟩
 rw [Nat.mul_one]; exact List.take_of_length_le (by simp)
theorem Rd.drop {w : World} {B : Nat} {A : Option Addr} {xs : List Value} (h : Rd w B A xs) (k : Nat) : Rd w B (A.map (fun x => x.add k)) (xs.drop k) := by
 intro hne
 obtain ⟨b, off, rfl, hb, hc⟩ := h (by rintro rfl; exact hne (by simp))
 refine ⟨b, off + k, by simp [Addr.add_lit], hb, fun i hi => ?_⟩
 rw [List.length_drop] at hi
 rw [Nat.add_assoc, hc (k + i) (by omega), List.getElem_drop]
theorem own_cap {w : World} {base : Nat} {e : TypeId} {size n c : Nat} {A : Option Addr} {xs : List Value} (h : w.ownsRow base e size (.slice A n c) n xs) : n <= c /\ c <= maxLen := by
 rcases h.2 with ⟨hv, hn⟩ | ⟨g, cap, cur, hv, _, _, h1, h2, _⟩
 · injection hv with _ _ hc
   subst hc hn
   exact ⟨by omega, by unfold maxLen; omega⟩
 · injection hv with _ _ hc
   subst hc
   exact ⟨h1, h2⟩
theorem bset {B : Nat} {a w : World} (h : Below B a w) {b o : Nat} (hb : B <= b) (v : Value) : Below B a (w.setCell ⟨b, o, none⟩ v) := h.setCell (p := ⟨b, o, none⟩) hb v
theorem bset_new {w w' : World} (h : Below w.heap.size w w') (o : Nat) (v : Value) : Below w.heap.size w (w'.setCell ⟨w.heap.size, o, none⟩ v) := bset h (Nat.le_refl _) v
theorem ret_int {k : IntKind} {a b : Int} (h : a = b) : Ending.returned (.int k a) = .returned (.int k b) := by rw [h]
theorem ret_bool {a b : Bool} (h : a = b) : Ending.returned (.bool a) = .returned (.bool b) := by rw [h]
end Go.Proofs.YtchcmklelmlbgaaGreat
namespace Go.Proofs.YtchcmklelmlbgaaGreat
open Go.RowKit
set_option linter.unusedVariables false
def Blk (w : World) (g : Nat) (xs : List Value) : Prop := ∃ t, w.heap[g]? = some (.cells xs.toArray t (0, 0))
def arrV (xs : List Value) : Value := .agg xs.toArray
theorem arrV_cells (xs : List Value) : (arrV xs).cells = xs.toArray := rfl
theorem Blk.lt {w : World} {g : Nat} {xs : List Value} (h : Blk w g xs) : g < w.heap.size := h.elim fun _ h => lt_of_block h
theorem Blk.cell {w : World} {g : Nat} {xs : List Value} (h : Blk w g xs) {k : Nat} (hk : k < xs.length) : w.cell? ⟨g, k, none⟩ = some xs[k] := by
 obtain ⟨t, h⟩ := h
 rw [cell_of_row w g k _ _ _ h]; simp [hk]
theorem Blk.free {w : World} {g : Nat} {xs : List Value} (h : Blk w g xs) (k : Nat) : w.frozen? ⟨g, k, none⟩ = false := by
 obtain ⟨t, h⟩ := h
 exact frozen_of_row w g k _ _ h
theorem Blk.set {w : World} {g : Nat} {xs : List Value} (h : Blk w g xs) {k : Nat} (v : Value) : Blk (w.setCell ⟨g, k, none⟩ v) g (xs.set k v) := by
 obtain ⟨t, h⟩ := h
 refine ⟨t, ?_⟩
 rw [heap_setCell_same w g k _ t v h]
 simp
theorem Blk.other {w : World} {g b k : Nat} {xs : List Value} (h : Blk w g xs) (v : Value) (hn : g ≠ b) : Blk (w.setCell ⟨b, k, none⟩ v) g xs := by
 obtain ⟨t, h⟩ := h
 exact ⟨t, (heap_setCell_other w _ g v (by simpa using hn)).trans h⟩
theorem Blk.alloc {w : World} {g : Nat} {xs : List Value} (h : Blk w g xs) (o : Obj) : Blk (w.alloc o) g xs := by
 obtain ⟨t, hh⟩ := h
 exact ⟨t, (heap_alloc_old w o (lt_of_block hh)).trans hh⟩
theorem Blk.new (w : World) (xs : List Value) (t : TypeId) : Blk (w.alloc (.cells xs.toArray t)) w.heap.size xs := ⟨t, heap_alloc_new w _⟩
theorem Blk.on {w w' : World} {g : Nat} {xs : List Value} (h : Blk w g xs) (b : Below w.heap.size w w') : Blk w' g xs := by
 obtain ⟨t, hh⟩ := h
 exact ⟨t, (b.block g (lt_of_block hh)).trans hh⟩
theorem Blk.below {w w' : World} {g B : Nat} {xs : List Value} (h : Blk w g xs) (b : Below B w w') (hg : g < B) : Blk w' g xs := by
 obtain ⟨t, hh⟩ := h
 exact ⟨t, (b.block g hg).trans hh⟩
theorem Blk.drewN {w : World} {g : Nat} {xs : List Value} (h : Blk w g xs) (n : Nat) : Blk (w.drewN n) g xs := h
theorem Blk.grown {w w' : World} {g : Nat} {xs : List Value} {row : Option Nat} (h : Blk w g xs) (hg : w.grownBy w' row) (hne : some g ≠ row) : Blk w' g xs := by
 obtain ⟨t, hh⟩ := h
 exact ⟨t, (hg.block g (lt_of_block hh) hne).trans hh⟩
theorem Blk.setRow {w : World} {g : Nat} {xs ys : List Value} (h : Blk w g xs) : Blk (w.setRow g ys.toArray) g ys := by
 obtain ⟨t, h⟩ := h
 exact ⟨t, setRow_heap w g _ _ t _ h⟩
theorem Blk.setRow_other {w : World} {g b : Nat} {xs : List Value} {ys : Array Value} (h : Blk w g xs) (hn : g ≠ b) : Blk (w.setRow b ys) g xs := by
 obtain ⟨t, h⟩ := h
 exact ⟨t, (Go.setRow_other w b g ys hn).trans h⟩
theorem below_setRow {B : Nat} {a w : World} (h : Below B a w) {g : Nat} (hg : B <= g) (cs : Array Value) : Below B a (w.setRow g cs) :=
 ⟨h.os, h.tape, h.output, by simpa [World.setRow] using h.size, fun j hj => (Go.setRow_other w g j cs (by omega)).trans (h.block j hj)⟩
section
variable {P : Program}
theorem wpList_run {w w' : World} {ops : Array Oper} {rest : List Oper} {o : Oper} {a : Act} {Q : Exit -> Act -> World -> Prop} (hg : o.guard = none) (v : Value)
   (hrun : (execOp a.eval o).run P w = .ok (.value v) w') (h : wpList P ops Q rest (a.put o.dst v) w') : wpList P ops Q (o :: rest) a w := by
 refine wpList_plain hg fun K hK => ?_
 unfold Oper.wp
 rw [hrun]
 exact hK _ _ h
theorem wpList_alloc {w : World} {ops : Array Oper} {rest : List Oper} {o : Oper} {a : Act} {Q : Exit -> Act -> World -> Prop} (hg : o.guard = none) (t : TypeId) (ho : o.op = .alloc t) (xs : List Value)
   (hz : ∀ w, (zeroValue t).run P w = .ok (arrV xs) w)
   (h : wpList P ops Q rest (a.put o.dst (.pointer (some ⟨w.heap.size, 0, none⟩))) (w.alloc (.cells xs.toArray t))) : wpList P ops Q (o :: rest) a w := by
 refine wpList_run hg _ ?_ h
 unfold execOp
 simp only [ho]
 simp [Instr.alloc, hz, go_sem, arrV]
theorem wpList_box {w : World} {ops : Array Oper} {rest : List Oper} {o : Oper} {a : Act} {Q : Exit -> Act -> World -> Prop} (hg : o.guard = none) (t : TypeId) (x : Operand) (ho : o.op = .box t x) (xs : List Value)
   (hx : a.eval x = arrV xs)
   (h : wpList P ops Q rest (a.put o.dst (.pointer (some ⟨w.heap.size, 0, none⟩))) (w.alloc (.cells xs.toArray t))) : wpList P ops Q (o :: rest) a w := by
 refine wpList_run hg _ ?_ h
 unfold execOp
 simp only [ho, hx]
 simp [Instr.box, go_sem, arrV]
theorem wpList_loadA {w : World} {ops : Array Oper} {rest : List Oper} {o : Oper} {a : Act} {Q : Exit -> Act -> World -> Prop} (hg : o.guard = none) (t : TypeId) (x : Operand) (ho : o.op = .load t x)
   {g : Nat} (hx : a.eval x = .pointer (some ⟨g, 0, none⟩)) {xs : List Value} (hb : Blk w g xs) {n : Nat} {e : TypeId} (hu : P.underlying t = some (.array n e)) (hi : (P.info? t).map (·.size) = some xs.length)
   (h : wpList P ops Q rest (a.put o.dst (arrV xs)) w) : wpList P ops Q (o :: rest) a w := by
 obtain ⟨t', hb⟩ := hb
 refine wpList_run hg (arrV xs) ?_ h
 unfold execOp
 simp only [ho, hx]
 have := run_loadVar_row (P := P) w g t' t _ _ _ hb hu rfl (by simpa using hi)
 simp [Instr.loadAt, Instr.sureAddr, this, arrV]
theorem wpList_storeA {w : World} {ops : Array Oper} {rest : List Oper} {o : Oper} {a : Act} {Q : Exit -> Act -> World -> Prop} (hgd : o.guard = none) (t : TypeId) (x y : Operand) (ho : o.op = .store t x y)
   {g : Nat} (hx : a.eval x = .pointer (some ⟨g, 0, none⟩)) {xs ys : List Value} (hy : a.eval y = arrV ys) (hb : Blk w g xs) (hl : xs.length = ys.length) (h1 : ∀ v ∈ ys, v.oneCell' = true) (hi : (P.info? t).map (·.size) = some ys.length)
   (h : wpList P ops Q rest (a.put o.dst undef) (w.setRow g ys.toArray)) : wpList P ops Q (o :: rest) a w := by
 obtain ⟨t', hb⟩ := hb
 refine wpList_plain hgd fun K hK => ?_
 have := run_storeVar_row (P := P) w g t' t _ ys.toArray hb (by simpa using hi) (by simpa using hl) (by simpa using h1)
 unfold Oper.wp execOp
 simp only [ho, hx, hy]
 simp [Instr.storeAt, Instr.sureAddr, this, arrV]
 exact hK _ _ h
theorem setRow_grown (w : World) (g : Nat) (cs : Array Value) : w.grownBy (w.setRow g cs) (some g) :=
 ⟨rfl, rfl, rfl, by simp [World.setRow], fun k _ hk => Go.setRow_other w g k cs (fun e => hk (by rw [e]))⟩
theorem wpList_allocN {w : World} {ops : Array Oper} {rest : List Oper} {o : Oper} {a : Act} {Q : Exit -> Act -> World -> Prop} (hg : o.guard = none) (t : TypeId) (ho : o.op = .alloc t) (xs : List Value)
   (hz : ∀ w, (zeroValue t).run P w = .ok (arrV xs) w)
   (h : ∀ w1, Blk w1 w.heap.size xs -> Below w.heap.size w w1 -> w.heap.size < w1.heap.size -> wpList P ops Q rest (a.put o.dst (.pointer (some ⟨w.heap.size, 0, none⟩))) w1) : wpList P ops Q (o :: rest) a w :=
 wpList_alloc hg t ho xs hz (h _ (Blk.new w xs t) (b1alloc _ _) (by simp))
theorem wpList_storeN {w : World} {ops : Array Oper} {rest : List Oper} {o : Oper} {a : Act} {Q : Exit -> Act -> World -> Prop} (hgd : o.guard = none) (t : TypeId) (x y : Operand) (ho : o.op = .store t x y)
   {g : Nat} (hx : a.eval x = .pointer (some ⟨g, 0, none⟩)) {xs ys : List Value} (hy : a.eval y = arrV ys) (hb : Blk w g xs) (hl : xs.length = ys.length) (h1 : ∀ v ∈ ys, v.oneCell' = true) (hi : (P.info? t).map (·.size) = some ys.length)
   (h : ∀ w1, Blk w1 g ys -> w.grownBy w1 (some g) -> wpList P ops Q rest (a.put o.dst undef) w1) : wpList P ops Q (o :: rest) a w :=
 wpList_storeA hgd t x y ho hx hy hb hl h1 hi (h _ hb.setRow (setRow_grown _ _ _))
theorem below_row {B : Nat} {a w w1 : World} {g : Nat} (h : Below B a w) (hg : w.grownBy w1 (some g)) (hB : B <= g) (hs : B <= w.heap.size) : Below B a w1 :=
 h.grown hg hs (fun k e => by cases e; exact hB)
def splice (xs : List Value) (o : Nat) : List Value -> List Value
 | [] => xs
 | v :: r => splice (xs.set o v) (o + 1) r
theorem Blk.setCells {g : Nat} : ∀ (cs : List Value) (o : Nat) {w : World} {xs : List Value}, Blk w g xs -> Blk (w.setCells g o cs) g (splice xs o cs)
 | [], _, _, _, h => h
 | v :: r, o, _, _, h => Blk.setCells r (o + 1) (h.set v)
theorem setCells_grown (g : Nat) : ∀ (cs : List Value) (o : Nat) (w : World), w.grownBy (w.setCells g o cs) (some g)
 | [], _, w => ⟨rfl, rfl, rfl, Nat.le_refl _, fun _ _ _ => rfl⟩
 | v :: r, o, w => grown_trans (grown_set w ⟨g, o, none⟩ v) (setCells_grown g r (o + 1) _)
end
end Go.Proofs.YtchcmklelmlbgaaGreat
namespace Go.Proofs.YtchcmklelmlbgaaGreat
open Go.RowKit
set_option linter.unusedVariables false
theorem fill_set (off : Nat) (v : Value) (cells : Array Value) (h : off + v.cells.size <= cells.size) :
   (v.cells.zipIdx.foldl (fun cs (c, j) => cs.setIfInBounds (off + j) c) cells).toList = cells.toList.take off ++ v.cells.toList ++ cells.toList.drop (off + v.cells.size) := by
 have h0 : v.cells.zipIdx.foldl (fun cs (c, j) => cs.setIfInBounds (off + j) c) cells = (v.cells.toList.zipIdx 0).foldl (fun cs (x : Value × Nat) => cs.setIfInBounds (off + x.2) x.1) cells := by
   rw [<- Array.foldl_toList, Array.toList_zipIdx]
 rw [h0]
 obtain ⟨h1, h2⟩ := Great.foldl_set off v.cells.toList 0 cells
 apply List.ext_getElem?
 intro k
 rw [Array.getElem?_toList, h2 k]
 simp only [Nat.add_zero, Array.length_toList]
 by_cases ha : k < off
 · rw [if_neg (by omega), List.append_assoc, List.getElem?_append_left (by simp; omega), List.getElem?_take_of_lt ha, Array.getElem?_toList]
 · by_cases hb : k < off + v.cells.size
   · rw [if_pos ⟨by omega, by omega, by omega⟩, List.append_assoc, List.getElem?_append_right (by simp; omega), List.getElem?_append_left (by simp; omega)]
     simp only [List.length_take, Array.length_toList, Nat.min_eq_left (show off <= cells.size by omega)]
   · rw [if_neg (by omega), List.getElem?_append_right (by simp; omega), List.getElem?_drop]
     simp only [List.length_append, List.length_take, Array.length_toList, Nat.min_eq_left (show off <= cells.size by omega), Array.getElem?_toList]
     congr 1
     omega
theorem fill_one (place : Nat -> Option (Nat × Nat)) (cells : Array Value) (v : Value) (h0 : place 0 = some (0, v.cells.size)) (hs : cells.size = v.cells.size) : Instr.fill place cells [(0, v)] = some v.cells := by
 unfold Instr.fill
 simp only [h0]
 rw [if_neg (by simp; omega)]
 unfold Instr.fill
 congr 1
 apply Array.toList_inj.1
 rw [fill_set 0 v cells (by omega)]
 simp [hs]
theorem fill_two (place : Nat -> Option (Nat × Nat)) (cells : Array Value) (v0 v1 : Value) (h0 : place 0 = some (0, v0.cells.size)) (h1 : place 1 = some (v0.cells.size, v1.cells.size)) (hs : cells.size = v0.cells.size + v1.cells.size) :
   Instr.fill place cells [(0, v0), (1, v1)] = some (v0.cells ++ v1.cells) := by
 unfold Instr.fill
 simp only [h0]
 rw [if_neg (by simp; omega)]
 unfold Instr.fill
 simp only [h1]
 have hz : (v0.cells.zipIdx.foldl (fun cs (c, j) => cs.setIfInBounds (0 + j) c) cells).size = cells.size := by
   have := congrArg List.length (fill_set 0 v0 cells (by omega))
   simp only [Array.length_toList, List.length_append, List.length_take, List.length_drop] at this
   rw [this]; omega
 rw [if_neg (by rw [hz]; simp; omega)]
 unfold Instr.fill
 congr 1
 apply Array.toList_inj.1
 rw [fill_set v0.cells.size v1 _ (by rw [hz]; omega), fill_set 0 v0 cells (by omega)]
 simp only [List.take_zero, List.nil_append, Nat.zero_add, Array.toList_append]
 rw [List.take_append_of_le_length (by simp), List.take_of_length_le (by simp), List.drop_of_length_le (by simp; omega), List.append_nil]
theorem flat_len {α β : Type} (f : α -> List β) (m : Nat) : ∀ (l : List α), (∀ x ∈ l, (f x).length = m) -> (l.flatMap f).length = l.length * m
 | [], _ => by simp
 | x :: l, h => by
   rw [List.flatMap_cons, List.length_append, h x (by simp), flat_len f m l (fun y hy => h y (by simp [hy])), List.length_cons, Nat.succ_mul]; omega
theorem flat_at {α β : Type} (f : α -> List β) (m : Nat) : ∀ (l : List α), (∀ x ∈ l, (f x).length = m) -> ∀ (i j : Nat) (hi : i < l.length), j < m -> (l.flatMap f)[i * m + j]? = (f l[i])[j]?
 | [], _, i, j, hi, _ => absurd hi (by simp)
 | x :: l, h, 0, j, hi, hj => by
   rw [List.flatMap_cons, Nat.zero_mul, Nat.zero_add, List.getElem?_append_left (by rw [h x (by simp)]; exact hj)]; rfl
 | x :: l, h, i + 1, j, hi, hj => by
   rw [List.flatMap_cons, List.getElem?_append_right (by rw [h x (by simp), Nat.succ_mul]; omega), h x (by simp), Nat.succ_mul, show i * m + m + j - m = i * m + j by omega,
     flat_at f m l (fun y hy => h y (by simp [hy])) i j (by simpa using hi) hj]
   rfl
theorem splice_get : ∀ (ys xs : List Value) (o k : Nat), o + ys.length <= xs.length -> (splice xs o ys)[k]? = if o <= k /\ k < o + ys.length then ys[k - o]? else xs[k]?
 | [], xs, o, k, h => by rw [if_neg (by simp)]; rfl
 | y :: ys, xs, o, k, h => by
   show (splice (xs.set o y) (o + 1) ys)[k]? = _
   rw [List.length_cons] at h
   rw [splice_get ys _ (o + 1) k (by rw [List.length_set]; omega)]
   by_cases e : k = o
   · subst e
     rw [if_neg (by omega), if_pos (by simp), Nat.sub_self, List.getElem?_set_self (by omega)]; rfl
   · rw [List.getElem?_set_ne (Ne.symm e)]
     by_cases hk : o + 1 <= k /\ k < o + 1 + ys.length
     · rw [if_pos hk, if_pos (by rw [List.length_cons]; omega), show k - o = (k - (o + 1)) + 1 by omega, List.getElem?_cons_succ]
     · rw [if_neg hk, if_neg (by rw [List.length_cons]; omega)]
theorem splice_flat {α : Type} (f g : α -> List Value) (m : Nat) (l : List α) (hf : ∀ x ∈ l, (f x).length = m) (hg : ∀ x ∈ l, (g x).length = m) (i : Nat) (hi : i < l.length) (ys : List Value) (hy : ys.length = m) (he : g l[i] = ys) (ho : ∀ k (hk : k < l.length), k ≠ i -> g l[k] = f l[k]) :
   splice (l.flatMap f) (i * m) ys = l.flatMap g := by
 have hle : i * m + m <= l.length * m := by rw [<- Nat.succ_mul]; exact Nat.mul_le_mul_right _ hi
 have hlf := flat_len f m l hf
 have hlg := flat_len g m l hg
 apply List.ext_getElem?
 intro k
 rw [splice_get _ _ _ _ (by rw [hlf, hy]; exact hle)]
 by_cases hk : k < l.length * m
 · have hm : 0 < m := Nat.pos_of_ne_zero (fun e => by subst e; simp at hk)
   have hq : k / m < l.length := (Nat.div_lt_iff_lt_mul hm).2 hk
   have hr : k % m < m := Nat.mod_lt _ hm
   have hkd : k = k / m * m + k % m := by rw [Nat.mul_comm]; exact (Nat.div_add_mod k m).symm
   generalize k / m = q at hq hkd
   generalize k % m = r at hr hkd
   subst hkd
   rw [flat_at g m l hg q r hq hr]
   by_cases e : q = i
   · subst e
     rw [if_pos ⟨by omega, by rw [hy]; omega⟩, he]
     congr 1
     omega
   · rw [if_neg (by
       rw [hy]
       rintro ⟨h1, h2⟩
       rcases Nat.lt_or_gt_of_ne e with h | h
       · have : (q + 1) * m <= i * m := Nat.mul_le_mul_right _ h
         rw [Nat.succ_mul] at this; omega
       · have : (i + 1) * m <= q * m := Nat.mul_le_mul_right _ h
         rw [Nat.succ_mul] at this; omega), flat_at f m l hf q r hq hr, ho q hq e]
 · rw [if_neg (by rw [hy]; omega), List.getElem?_eq_none (by rw [hlf]; omega), List.getElem?_eq_none (by rw [hlg]; omega)]
theorem own_range {w : World} {base : Nat} {e : TypeId} {size n g c : Nat} {xs ys : List Value} {o : Nat} (h : w.ownsRow base e size (.slice (some ⟨g, 0, none⟩) n c) n xs) (hy : ∀ j, j < ys.length -> xs[o + j]? = ys[j]?) : w.rangeAt g o ys := fun j v hv => by
 have hj := (List.getElem?_eq_some_iff.1 hv).1
 have h1 := hy j hj
 rw [hv] at h1
 have hk := (List.getElem?_eq_some_iff.1 h1).1
 rw [World.ownsRow.cellAt h (o + j) (by have := h.1; omega)]
 exact h1
end Go.Proofs.YtchcmklelmlbgaaGreat
namespace Go.Proofs.YtchcmklelmlbgaaGreat.Disk
abbrev Wr := Nat × List UInt8
structure St where
 size : Nat
 pend : List Wr
 all : List Wr
 fuse : Int
 calls : Nat
 down : Bool
def zero512 : List UInt8 := List.replicate 512 0
theorem zero512_len : zero512.length = 512 := List.length_replicate ..
def kept (l : List Wr) (p : Nat) : List UInt8 := l.foldl (fun o w => if w.1 = p then w.2 else o) zero512
theorem kept_nil (p : Nat) : kept [] p = zero512 := rfl
theorem kept_snoc (l : List Wr) (w : Wr) (p : Nat) : kept (l ++ [w]) p = if w.1 = p then w.2 else kept l p := by simp [kept]
theorem fold_none (p : Nat) : ∀ (m : List Wr) (z : List UInt8), (∀ w ∈ m, w.1 ≠ p) -> m.foldl (fun o w => if w.1 = p then w.2 else o) z = z
 | [], z, _ => rfl
 | w :: m, z, h => by rw [List.foldl_cons, if_neg (h w (by simp)), fold_none p m z (fun x hx => h x (by simp [hx]))]
theorem kept_append (l m : List Wr) (p : Nat) (h : ∀ w ∈ m, w.1 ≠ p) : kept (l ++ m) p = kept l p := by
 unfold kept; rw [List.foldl_append, fold_none p m _ h]
def new (n : Nat) : St := ⟨n, [], [], -1, 0, false⟩
def burn (s : St) : St × Int :=
 if s.fuse = 0 then ({ s with calls := s.calls + 1, down := true }, 12)
 else if 0 < s.fuse then ({ s with calls := s.calls + 1, fuse := s.fuse - 1 }, 0)
 else ({ s with calls := s.calls + 1 }, 0)
def write (s : St) (p : Int) (b : List UInt8) : St × Int :=
 if s.down = true then (s, 12) else if p < 0 \/ (s.size : Int) <= p then (s, 2) else if b.length ≠ 512 then (s, 4)
 else burn { s with pend := s.pend ++ [(p.toNat, b)] }
def flush (s : St) : St × Int :=
 if s.down = true then (s, 12) else if (burn s).2 = 0 then ({ (burn s).1 with all := s.all ++ s.pend, pend := [] }, 0) else burn s
def read (s : St) (p : Int) : List UInt8 × Int :=
 if s.down = true then ([], 12) else if p < 0 \/ (s.size : Int) <= p then ([], 2) else (kept (s.all ++ s.pend) p.toNat, 0)
def keptAt (s : St) (p : Int) : List UInt8 := if p < 0 \/ (s.size : Int) <= p then [] else kept s.all p.toNat
def arm (s : St) (f : Int) : St := { s with fuse := max f (-1) }
def cutAt (a : Int) : Nat := (a % 513).toNat
def whole (keep : List Int) (i : Nat) : Bool := decide (0 < keep.length) && decide (keep.getD (i % keep.length) 0 % 2 = 1)
def fate (keep : List Int) (torn a : Int) (i : Nat) (w : Wr) (all : List Wr) : List Wr :=
 if (i : Int) = torn then all ++ [(w.1, w.2.take (cutAt a) ++ (kept all w.1).drop (cutAt a))] else if whole keep i = true then all ++ [w] else all
def fates (keep : List Int) (torn a : Int) : Nat -> List Wr -> List Wr -> List Wr
 | _, [], all => all
 | i, w :: r, all => fates keep torn a (i + 1) r (fate keep torn a i w all)
theorem fates_snoc (keep : List Int) (torn a : Int) : ∀ (m : List Wr) (i : Nat) (w : Wr) (all : List Wr), fates keep torn a i (m ++ [w]) all = fate keep torn a (i + m.length) w (fates keep torn a i m all)
 | [], i, w, all => rfl
 | x :: m, i, w, all => by
   show fates keep torn a (i + 1) (m ++ [w]) _ = _
   rw [fates_snoc keep torn a m (i + 1) w, List.length_cons, show i + 1 + m.length = i + (m.length + 1) by omega]
   rfl
def restart (s : St) (keep : List Int) (torn a : Int) : St := { s with all := fates keep torn a 0 s.pend s.all, pend := [], down := false, fuse := -1 }
def okW (n : Nat) (w : Wr) : Prop := w.1 < n /\ w.2.length = 512
structure ok (s : St) : Prop where
 size : 1 <= s.size /\ s.size <= 1024
 pend : ∀ w ∈ s.pend, okW s.size w
 all : ∀ w ∈ s.all, okW s.size w
 fuse : -1 <= s.fuse /\ s.fuse <= 9223372036854775807
theorem fold_len (p : Nat) : ∀ (l : List Wr) (z : List UInt8), z.length = 512 -> (∀ w ∈ l, w.2.length = 512) -> (l.foldl (fun o w => if w.1 = p then w.2 else o) z).length = 512
 | [], z, hz, _ => hz
 | w :: l, z, hz, h => by
   rw [List.foldl_cons]
   refine fold_len p l _ ?_ (fun x hx => h x (by simp [hx]))
   split
   · exact h w (by simp)
   · exact hz
theorem kept_len {l : List Wr} {n : Nat} (h : ∀ w ∈ l, okW n w) (p : Nat) : (kept l p).length = 512 := fold_len p l _ zero512_len (fun w hw => (h w hw).2)
theorem cutAt_le (a : Int) : cutAt a <= 512 := by unfold cutAt; omega
theorem ok_new {n : Nat} (h1 : 1 <= n) (h2 : n <= 1024) : ok (new n) := ⟨⟨h1, h2⟩, (by intro w hw; cases hw), (by intro w hw; cases hw), by unfold new; constructor <;> simp only [] <;> omega⟩
theorem ok_burn {s : St} (h : ok s) : ok (burn s).1 := by
 have hf := h.fuse
 unfold burn
 split
 · exact ⟨h.size, h.pend, h.all, hf⟩
 · split
   · exact ⟨h.size, h.pend, h.all, by constructor <;> (simp only []; omega)⟩
   · exact ⟨h.size, h.pend, h.all, hf⟩
theorem burn_lists (s : St) : (burn s).1.pend = s.pend /\ (burn s).1.all = s.all /\ (burn s).1.size = s.size := by
 unfold burn
 split
 · exact ⟨rfl, rfl, rfl⟩
 · split <;> exact ⟨rfl, rfl, rfl⟩
theorem burn_calls (s : St) : (burn s).1.calls = s.calls + 1 := by
 unfold burn
 split
 · rfl
 · split <;> rfl
theorem ok_arm {s : St} (h : ok s) {f : Int} (hf : f <= 9223372036854775807) : ok (arm s f) := ⟨h.size, h.pend, h.all, by unfold arm; constructor <;> (simp only []; omega)⟩
def St.sz (s : St) : Nat := s.pend.length + s.all.length + s.calls
theorem sz_burn (s : St) : (burn s).1.sz = s.sz + 1 := by
 unfold St.sz
 rw [burn_calls, (burn_lists s).1, (burn_lists s).2.1]; omega
theorem sz_write (s : St) (p : Int) (b : List UInt8) : (write s p b).1.sz <= s.sz + 2 := by
 unfold write
 split
 · exact Nat.le_add_right _ _
 · split
   · exact Nat.le_add_right _ _
   · split
     · exact Nat.le_add_right _ _
     · rw [sz_burn]; unfold St.sz; simp only [List.length_append, List.length_singleton]; omega
theorem sz_flush (s : St) : (flush s).1.sz <= s.sz + 1 := by
 unfold flush
 split
 · exact Nat.le_add_right _ _
 · split
   · have := burn_calls s
     unfold St.sz; simp only [List.length_append, List.length_nil]; omega
   · rw [sz_burn]; exact Nat.le_refl _
theorem fate_len (keep : List Int) (torn a : Int) (i : Nat) (w : Wr) (all : List Wr) : (fate keep torn a i w all).length <= all.length + 1 := by
 unfold fate
 split
 · simp
 · split <;> simp
theorem fates_len (keep : List Int) (torn a : Int) : ∀ (m : List Wr) (i : Nat) (all : List Wr), (fates keep torn a i m all).length <= all.length + m.length
 | [], _, all => by simp [fates]
 | w :: m, i, all => by
   have h1 := fates_len keep torn a m (i + 1) (fate keep torn a i w all)
   have h2 := fate_len keep torn a i w all
   show (fates keep torn a (i + 1) m _).length <= _
   rw [List.length_cons]; omega
theorem sz_restart (s : St) (keep : List Int) (torn a : Int) : (restart s keep torn a).sz <= s.sz := by
 have := fates_len keep torn a s.pend 0 s.all
 unfold St.sz restart; simp only [List.length_nil]; omega
end Go.Proofs.YtchcmklelmlbgaaGreat.Disk
namespace Go.Proofs.YtchcmklelmlbgaaGreat.Disk
open Go.RowKit
set_option linter.unusedVariables false
set_option maxRecDepth 100000
def BlkT (w : World) (b : Nat) (t : TypeId) (xs : List Value) : Prop := w.heap[b]? = some (.cells xs.toArray t (0, 0))
theorem keep_set (w : World) (g o : Nat) (u : Value) : Keep [g] w (w.setCell ⟨g, o, none⟩ u) := (Keep.refl _ _).set (.inl (by simp)) _
def wcells (x : Wr) : List Value := .int .i64 (x.1 : Int) :: x.2.map e8
def kcells (n : Nat) (all : List Wr) : List Value := (List.range n).flatMap fun p => (kept all p).map e8
def pcells (l : List Wr) : List Value := l.flatMap wcells
def Told (w : World) (fp : List Nat) (vk : Value) (l : List Wr) (acs : List Value) : Prop :=
 ∀ i (h : i < l.length), ∃ b c, acs[i * 2]? = some (.int .i64 (l[i].1 : Int)) /\ acs[i * 2 + 1]? = some (.slice (some ⟨b, 0, none⟩) 512 c) /\ BlkT w b 113 (l[i].2.map e8) /\ b ∈ fp /\ vk.ownBlock ≠ some b /\ 512 <= c /\ c <= maxLen
structure Lies (w : World) (g : Nat) (fp : List Nat) (s : St) (vk vp va : Value) (acs : List Value) : Prop where
 blk : w.heap[g]? = some (.cells #[vk, vp, va, .int .i64 s.fuse, .int .i64 (s.calls : Int), .bool s.down] 78 (0, 0))
 kept : w.ownsRow 0 113 512 vk s.size (kcells s.size s.all)
 pend : w.ownsRow 0 115 513 vp s.pend.length (pcells s.pend)
 all : w.ownsRow 0 161 2 va s.all.length acs
 told : Told w fp vk s.all acs
 inG : g ∈ fp
 inK : ∀ j, vk.ownBlock = some j -> j ∈ fp
 inP : ∀ j, vp.ownBlock = some j -> j ∈ fp
 inA : ∀ j, va.ownBlock = some j -> j ∈ fp
 lt : ∀ j ∈ fp, j < w.heap.size
 ok : ok s
def DAt (w : World) (g : Nat) (fp : List Nat) (s : St) : Prop := ∃ vk vp va acs, Lies w g fp s vk vp va acs
theorem own_type {w : World} {base : Nat} {e t : TypeId} {size n g : Nat} {v : Value} {xs : List Value} {cs : Array Value} {fr : Nat × Nat} (h : w.ownsRow base e size v n xs) (hg : w.heap[g]? = some (.cells cs t fr)) (hne : e ≠ t) : v.ownBlock ≠ some g := by
 rcases h.2 with ⟨rfl, _⟩ | ⟨k, cap, cur, rfl, _, hh, _⟩
 · simp [Value.ownBlock]
 · intro e2
   have : k = g := by simpa [Value.ownBlock] using e2
   subst this
   rw [hg] at hh
   injection hh with hh
   injection hh with h1 h2 h3
   exact hne h2.symm
theorem six {w : World} {g : Nat} {v0 v1 v2 v3 v4 v5 : Value} {t : TypeId} (h : w.heap[g]? = some (.cells #[v0, v1, v2, v3, v4, v5] t (0, 0))) :
   w.cell? ⟨g, 0, none⟩ = some v0 /\ w.cell? ⟨g, 1, none⟩ = some v1 /\ w.cell? ⟨g, 2, none⟩ = some v2 /\ w.cell? ⟨g, 3, none⟩ = some v3 /\ w.cell? ⟨g, 4, none⟩ = some v4 /\ w.cell? ⟨g, 5, none⟩ = some v5 /\ ∀ o, w.frozen? ⟨g, o, none⟩ = false := by
 refine ⟨?_, ?_, ?_, ?_, ?_, ?_, ?_⟩ <;> simp [World.cell?, World.frozen?, h]
theorem Lies.keep {w w' : World} {g : Nat} {fp fp' : List Nat} {s : St} {vk vp va : Value} {acs : List Value} (h : Lies w g fp s vk vp va acs) (k : Keep fp' w w') (hd : ∀ j ∈ fp, j ∉ fp') : Lies w' g fp s vk vp va acs :=
 ⟨(k.block (h.lt g h.inG) (hd g h.inG)).trans h.blk, own_keep h.kept k (fun j hj => hd j (h.inK j hj)), own_keep h.pend k (fun j hj => hd j (h.inP j hj)), own_keep h.all k (fun j hj => hd j (h.inA j hj)),
   fun i hi => by
     obtain ⟨b, c, h1, h2, h3, h4, h5⟩ := h.told i hi
     exact ⟨b, c, h1, h2, (k.block (h.lt b h4) (hd b h4)).trans h3, h4, h5⟩,
   h.inG, h.inK, h.inP, h.inA, fun j hj => Nat.lt_of_lt_of_le (h.lt j hj) k.size, h.ok⟩
theorem Lies.on {w w' : World} {g : Nat} {fp : List Nat} {s : St} {vk vp va : Value} {acs : List Value} (h : Lies w g fp s vk vp va acs) (b : Below w.heap.size w w') : Lies w' g fp s vk vp va acs := h.keep (Keep.of_below b []) (fun _ _ => by simp)
theorem Lies.turn {w w' : World} {g : Nat} {fp : List Nat} {s s' : St} {vk vp va : Value} {acs : List Value} (h : Lies w g fp s vk vp va acs) (k : Keep [g] w w')
   (hb : w'.heap[g]? = some (.cells #[vk, vp, va, .int .i64 s'.fuse, .int .i64 (s'.calls : Int), .bool s'.down] 78 (0, 0))) (h1 : s'.size = s.size) (h2 : s'.pend = s.pend) (h3 : s'.all = s.all) (h4 : Disk.ok s') : Lies w' g fp s' vk vp va acs := by
 have hK := own_type h.kept h.blk (by decide)
 have hP := own_type h.pend h.blk (by decide)
 have hA := own_type h.all h.blk (by decide)
 refine ⟨hb, ?_, ?_, ?_, ?_, h.inG, h.inK, h.inP, h.inA, fun j hj => Nat.lt_of_lt_of_le (h.lt j hj) k.size, h4⟩
 · rw [h1, h3]; exact own_keep h.kept k (fun j hj e => by rw [List.mem_singleton] at e; subst e; exact hK hj)
 · rw [h2]; exact own_keep h.pend k (fun j hj e => by rw [List.mem_singleton] at e; subst e; exact hP hj)
 · rw [h3]; exact own_keep h.all k (fun j hj e => by rw [List.mem_singleton] at e; subst e; exact hA hj)
 · rw [h3]
   intro i hi
   obtain ⟨b, c, h1, h2, h3, h4, h5⟩ := h.told i hi
   refine ⟨b, c, h1, h2, (k.block (h.lt b h4) ?_).trans h3, h4, h5⟩
   intro e
   rw [List.mem_singleton] at e
   subst e
   have := h.blk
   unfold BlkT at h3
   rw [h3] at this
   injection this with this
   injection this with e1 e2 e3
   exact absurd e2 (by decide)
theorem DAt.on {w w' : World} {g : Nat} {fp : List Nat} {s : St} (h : DAt w g fp s) (b : Below w.heap.size w w') : DAt w' g fp s := by
 obtain ⟨vk, vp, va, acs, h⟩ := h; exact ⟨vk, vp, va, acs, h.on b⟩
theorem DAt.keep {w w' : World} {g : Nat} {fp fp' : List Nat} {s : St} (h : DAt w g fp s) (k : Keep fp' w w') (hd : ∀ j ∈ fp, j ∉ fp') : DAt w' g fp s := by
 obtain ⟨vk, vp, va, acs, h⟩ := h; exact ⟨vk, vp, va, acs, h.keep k hd⟩
theorem DAt.lt {w : World} {g : Nat} {fp : List Nat} {s : St} (h : DAt w g fp s) : ∀ j ∈ fp, j < w.heap.size := by
 obtain ⟨vk, vp, va, acs, h⟩ := h; exact h.lt
theorem DAt.ok {w : World} {g : Nat} {fp : List Nat} {s : St} (h : DAt w g fp s) : Disk.ok s := by
 obtain ⟨vk, vp, va, acs, h⟩ := h; exact h.ok
def askF (s : St) (p : Int) : Int := if p < 0 \/ (s.size : Int) <= p then 2 else 0
set_option maxHeartbeats 400000 in
theorem asked_any (g : Nat) (fp : List Nat) (s : St) (p : Int) (w : World) (h : DAt w g fp s) :
   Calls Tryz.prog 100 #[.pointer (some ⟨g, 0, none⟩), .int .i64 p] w fun e w' => e = .returned (.int .i64 (askF s p)) /\ w = w' := by
 obtain ⟨vk, vp, va, acs, h⟩ := h
 obtain ⟨A, c, rfl⟩ := own_form h.kept
 obtain ⟨c0, _, _, _, _, _, fr⟩ := six h.blk
 by_cases h0 : p < 0
 · have he := Lib.hid (show askF s p = 2 from if_pos (.inl h0))
   clear h
   go_enter Tryz.func100, Tryz.ntmps100
   go_wp2
   go_ret
   exact ⟨ret_int he.out.symm, rfl⟩
 · by_cases h1 : (s.size : Int) <= p
   · have he := Lib.hid (show askF s p = 2 from if_pos (.inr h1))
     clear h
     go_enter Tryz.func100, Tryz.ntmps100
     go_wp2
     go_ret
     exact ⟨ret_int he.out.symm, rfl⟩
   · have he := Lib.hid (show askF s p = 0 from if_neg (by omega))
     clear h
     go_enter Tryz.func100, Tryz.ntmps100
     go_wp2
     go_ret
     exact ⟨ret_int he.out.symm, rfl⟩
theorem down_any (g : Nat) (fp : List Nat) (s : St) (w : World) (h : DAt w g fp s) : Calls Tryz.prog 31 #[.pointer (some ⟨g, 0, none⟩)] w fun e w' => e = .returned (.bool s.down) /\ w = w' := by
 obtain ⟨vk, vp, va, acs, h⟩ := h
 obtain ⟨_, _, _, _, _, c5, fr⟩ := six h.blk
 clear h
 go_enter Tryz.func31, Tryz.ntmps31
 go_wp2
 go_ret
 exact ⟨rfl, rfl⟩
theorem size_any (g : Nat) (fp : List Nat) (s : St) (w : World) (h : DAt w g fp s) : Calls Tryz.prog 68 #[.pointer (some ⟨g, 0, none⟩)] w fun e w' => e = .returned (.int .i64 (s.size : Int)) /\ w = w' := by
 obtain ⟨vk, vp, va, acs, h⟩ := h
 obtain ⟨A, c, rfl⟩ := own_form h.kept
 obtain ⟨c0, _, _, _, _, _, fr⟩ := six h.blk
 clear h
 go_enter Tryz.func68, Tryz.ntmps68
 go_wp2
 go_ret
 exact ⟨rfl, rfl⟩
set_option maxHeartbeats 400000 in
theorem burn_any (g : Nat) (fp : List Nat) (s : St) (vk vp va : Value) (acs : List Value) (w : World) (h : Lies w g fp s vk vp va acs) (hs : s.sz <= 1000000000) :
   Calls Tryz.prog 101 #[.pointer (some ⟨g, 0, none⟩)] w fun e w' => e = .returned (.int .i64 (burn s).2) /\ Lies w' g fp (burn s).1 vk vp va acs /\ Keep [g] w w' := by
 obtain ⟨_, _, _, c3, c4, c5, fr⟩ := six h.blk
 have hc : s.calls <= 1000000000 := by unfold St.sz at hs; omega
 have hf := h.ok.fuse
 have hbl := burn_lists s
 have hbo := ok_burn h.ok
 have fin : ∀ (w' : World) (r : Int), (burn s).2 = r -> Keep [g] w w' -> w'.heap[g]? = some (.cells #[vk, vp, va, .int .i64 (burn s).1.fuse, .int .i64 ((burn s).1.calls : Int), .bool (burn s).1.down] 78 (0, 0)) ->
     Ending.returned (.int .i64 r) = .returned (.int .i64 (burn s).2) /\ Lies w' g fp (burn s).1 vk vp va acs /\ Keep [g] w w' := fun w' r hr k hb =>
   ⟨by rw [hr], h.turn k hb hbl.2.2 hbl.1 hbl.2.1 hbo, k⟩
 have Hblk := Lib.hid h.blk
 have Fin := Lib.hid fin
 clear h fin hbl hbo
 by_cases h0 : s.fuse = 0
 · have hb := Lib.hid (show burn s = ({ s with calls := s.calls + 1, down := true }, 12) from if_pos h0)
   have t0 := beq_yes h0
   have H0 := Lib.hid h0
   clear h0
   go_enter Tryz.func101, Tryz.ntmps101
   go_wp2
   go_ret
   refine Fin.out _ _ (by rw [hb.out]) ((keep_set _ _ _ _).trans (keep_set _ _ _ _) (Fresh.refl _ _)) ?_
   rw [hb.out]
   simp [World.setCell, Array.getElem?_modify, Hblk.out]
 · by_cases h1 : 0 < s.fuse
   · have hb := Lib.hid (show burn s = ({ s with calls := s.calls + 1, fuse := s.fuse - 1 }, 0) by unfold burn; rw [if_neg h0, if_pos h1])
     have t0 := beq_no h0
     go_enter Tryz.func101, Tryz.ntmps101
     go_wp2
     go_ret
     refine Fin.out _ _ (by rw [hb.out]) ((keep_set _ _ _ _).trans (keep_set _ _ _ _) (Fresh.refl _ _)) ?_
     rw [hb.out]
     simp [World.setCell, Array.getElem?_modify, Hblk.out]
   · have hb := Lib.hid (show burn s = ({ s with calls := s.calls + 1 }, 0) by unfold burn; rw [if_neg h0, if_neg h1])
     have t0 := beq_no h0
     go_enter Tryz.func101, Tryz.ntmps101
     go_wp2
     go_ret
     refine Fin.out _ _ (by rw [hb.out]) (keep_set _ _ _ _) ?_
     rw [hb.out]
     simp [World.setCell, Array.getElem?_modify, Hblk.out]
end Go.Proofs.YtchcmklelmlbgaaGreat.Disk
namespace Go.Proofs.YtchcmklelmlbgaaGreat.Disk
open Go.RowKit
set_option linter.unusedVariables false
set_option maxRecDepth 100000
theorem wpList_boxT {P : Program} {w : World} {ops : Array Oper} {rest : List Oper} {o : Oper} {a : Act} {Q : Exit -> Act -> World -> Prop} (hg : o.guard = none) (t : TypeId) (x : Operand) (ho : o.op = .box t x) (xs : List Value)
   (hx : a.eval x = arrV xs)
   (h : ∀ w1, BlkT w1 w.heap.size t xs -> Below w.heap.size w w1 -> w.heap.size < w1.heap.size -> wpList P ops Q rest (a.put o.dst (.pointer (some ⟨w.heap.size, 0, none⟩))) w1) : wpList P ops Q (o :: rest) a w :=
 wpList_box hg t x ho xs hx (h _ (heap_alloc_new w _) (b1alloc _ _) (by simp))
theorem step_append_rd {P : Program} (w : World) {ops : Array Oper} {o : Oper} {a : Act} {K : Act -> World -> Prop} {Q : Exit -> Act -> World -> Prop} {E : Prop} (hgd : o.guard = none) (s x : Operand) (t : TypeId)
   (ho : o.op = .call { callee := .builtin .append, args := #[s, x], argTypes := #[t, t] })
   (base : Nat) (e : TypeId) (i : TypeInfo) (z : Value) (size bytes : Nat) (ht : P.underlying t = some (.slice e)) (hi : P.info? e = some i) (hz : i.zero = some z)
   (hsize : i.size = size) (hby : i.bytes = bytes) (hzs : z.cells.size = size) (hsz : 0 < size)
   (v : Value) (n : Nat) (xs : List Value) (hs : a.eval s = v) (hown : w.ownsRow base e size v n xs)
   (A : Option Addr) (m c : Nat) (news : List Value) (hx : a.eval x = .slice A m c) (hl : news.length = m * size) (hr : Rd w w.heap.size A news) (h1 : ∀ u ∈ news, u.oneCell' = true)
   (h63 : n + m <= maxLen) (hbytes : (n + m) * bytes <= 140737488355328) (hbase : base <= w.heap.size)
   (h : ∀ v' w', w'.ownsRow base e size v' (n + m) (xs ++ news) -> w.grownBy w' v.ownBlock -> (v'.ownBlock = v.ownBlock \/ v'.ownBlock = some w.heap.size) -> K (a.put o.dst v') w') :
   if Region.wanted o (yielded ops a.tmps) = true then Oper.wp P o a w K Q else E := by
 have hw : Region.wanted o (yielded ops a.tmps) = true := by simp [Region.wanted, hgd]
 rw [if_pos hw]
 exact wp_append_rd w s x t ho base e i z size bytes ht hi hz hsize hby hzs hsz v n xs hs hown w.heap.size A m c news hx hl hr h1 h63 hbytes hbase h
theorem szB : (Tryz.prog.info? 113).map (·.size) = some 512 := by kernel_rfl
theorem szW : (Tryz.prog.info? 115).map (·.size) = some 513 := by kernel_rfl
theorem infoWr : (Tryz.prog.info? 161).map (fun i => (i.zero, i.size, i.bytes)) = some (some (.agg #[.int .i64 0, .slice none 0 0]), 2, 32) := by kernel_rfl
theorem szBl {b : List UInt8} (h : b.length = 512) : (Tryz.prog.info? 113).map (·.size) = some (b.map e8).length := by rw [List.length_map, h]; exact szB
theorem own_there {w : World} {base : Nat} {e : TypeId} {size n g c : Nat} {xs : List Value} {o m : Nat} (h : w.ownsRow base e size (.slice (some ⟨g, 0, none⟩) n c) n xs) (hle : o + m <= n * size) : w.there g o m := fun j hj =>
 ⟨by rw [World.ownsRow.cellAt h (o + j) (by omega)]; have := h.1; rw [List.getElem?_eq_getElem (by omega)]; rfl, World.ownsRow.frozenAt h _⟩
theorem own_setCells {base : Nat} {e : TypeId} {size n g c : Nat} : ∀ (ys : List Value) (o : Nat) {w : World} {xs : List Value}, w.ownsRow base e size (.slice (some ⟨g, 0, none⟩) n c) n xs -> o + ys.length <= n * size -> (w.setCells g o ys).ownsRow base e size (.slice (some ⟨g, 0, none⟩) n c) n (splice xs o ys)
 | [], _, _, _, h, _ => h
 | y :: ys, o, _, _, h, hle => own_setCells ys (o + 1) (h.stored o y).1 (by rw [List.length_cons] at hle; omega)
theorem own_grown {w w' : World} {base : Nat} {e : TypeId} {size n : Nat} {v : Value} {xs : List Value} {row : Option Nat} (h : w.ownsRow base e size v n xs) (hg : w.grownBy w' row) (hne : ∀ k, v.ownBlock = some k -> row ≠ some k) : w'.ownsRow base e size v n xs := by
 refine ⟨h.1, ?_⟩
 rcases h.2 with h | ⟨k, cap, cur, rfl, hb, hh, r⟩
 · exact .inl h
 · exact .inr ⟨k, cap, cur, rfl, hb, (hg.block k (lt_of_block hh) (fun e => hne k rfl e.symm)).trans hh, r⟩
theorem own_blk {w : World} {base : Nat} {e : TypeId} {size n g c : Nat} {xs : List Value} (h : w.ownsRow base e size (.slice (some ⟨g, 0, none⟩) n c) n xs) : ∃ cs, w.heap[g]? = some (.cells cs e (0, 0)) := by
 rcases h.2 with ⟨h, _⟩ | ⟨k, cap, cur, hv, hb, hh, r⟩
 · simp at h
 · injection hv with h1 h2 h3
   injection h1 with h1
   injection h1 with h1
   subst h1
   exact ⟨cur, hh⟩
theorem grown_alloc_drew (w : World) (o : Obj) (r : Option Nat) : w.grownBy (w.alloc o).drew r := ⟨rfl, rfl, rfl, by show w.heap.size <= (w.alloc o).heap.size; simp, fun k hk _ => Below.heap_alloc w o k hk⟩
theorem at_alloc_drew {w : World} {o : Obj} {v' v : Value} (h : v'.ownBlock = v.ownBlock \/ v'.ownBlock = some (w.alloc o).drew.heap.size) : v'.ownBlock = v.ownBlock \/ v'.ownBlock = some (w.heap.size + 1) := h.imp id fun e => e.trans (by show some (w.alloc o).heap.size = _; simp)
theorem keep_fin {g gk g3 ck c3 p : Nat} {fp : List Nat} {s : St} {vp va : Value} {acs : List Value} {b : List UInt8} {w w1 w2 w3 : World} (h : Lies w g fp s (.slice (some ⟨gk, 0, none⟩) s.size ck) vp va acs)
   (bw1 : Below w.heap.size w w1) (hg2 : w1.grownBy w2 (some gk)) (hB2 : BlkT w2 w.heap.size 113 (b.map e8)) (hk2 : w2.ownsRow 0 113 512 (.slice (some ⟨gk, 0, none⟩) s.size ck) s.size (kcells s.size (s.all ++ [(p, b)])))
   (own3 : w3.ownsRow 0 161 2 (.slice (some ⟨g3, 0, none⟩) (s.all.length + 1) c3) (s.all.length + 1) (acs ++ [.int .i64 (p : Int), .slice (some ⟨w.heap.size, 0, none⟩) 512 512])) (hg3 : w2.grownBy w3 va.ownBlock)
   (hat : (Value.slice (some ⟨g3, 0, none⟩) (s.all.length + 1) c3).ownBlock = va.ownBlock \/ (Value.slice (some ⟨g3, 0, none⟩) (s.all.length + 1) c3).ownBlock = some (w2.heap.size + 1))
   (e3 : w3.heap[g]? = some (.cells #[.slice (some ⟨gk, 0, none⟩) s.size ck, vp, va, .int .i64 s.fuse, .int .i64 (s.calls : Int), .bool s.down] 78 (0, 0))) (hp : p < s.size) (hb : b.length = 512) :
   ∃ fp' va' acs', Lies (w3.setCell ⟨g, 2, none⟩ (.slice (some ⟨g3, 0, none⟩) (s.all.length + 1) c3)) g fp' { s with all := s.all ++ [(p, b)] } (.slice (some ⟨gk, 0, none⟩) s.size ck) vp va' acs' /\ Keep fp w (w3.setCell ⟨g, 2, none⟩ (.slice (some ⟨g3, 0, none⟩) (s.all.length + 1) c3)) /\ Fresh w fp fp' := by
 obtain ⟨v3, hv3⟩ : ∃ v3, v3 = Value.slice (some ⟨g3, 0, none⟩) (s.all.length + 1) c3 := ⟨_, rfl⟩
 have hv3b : v3.ownBlock = some g3 := by rw [hv3]; rfl
 rw [<- hv3] at own3 hat ⊢
 have hgk : gk ∈ fp := h.inK gk rfl
 have k1 : Keep fp w w1 := Keep.of_below bw1 fp
 have k2 : Keep fp w1 w2 := Keep.of_grown hg2 (fun j e => by injection e with e; subst e; exact hgk)
 have k3 : Keep fp w2 w3 := Keep.of_grown hg3 (fun j e => h.inA j e)
 have k4 : Keep fp w3 (w3.setCell ⟨g, 2, none⟩ v3) := (Keep.refl fp w3).set (.inl h.inG) _
 have k12 := k1.trans k2 (Fresh.refl _ _)
 have k13 := k12.trans k3 (Fresh.refl _ _)
 have k14 := k13.trans k4 (Fresh.refl _ _)
 obtain ⟨csk, hcsk⟩ := own_blk h.kept
 have hAk : va.ownBlock ≠ some gk := own_type h.all hcsk (by decide)
 have hPk : vp.ownBlock ≠ some gk := own_type h.pend hcsk (by decide)
 have hPg := own_type h.pend h.blk (by decide)
 have hAg := own_type h.all h.blk (by decide)
 have hKg := own_type h.kept h.blk (by decide)
 have hgkg : gk ≠ g := fun e => by rw [e] at hKg; exact hKg rfl
 have h3g := own_type own3 e3 (by decide)
 have hPA : ∀ j, vp.ownBlock = some j -> va.ownBlock ≠ some j := fun j hj => by
   rcases h.pend.2 with ⟨hv, _⟩ | ⟨q, cap, cur, hv, _, hh, _⟩
   · rw [hv] at hj; simp [Value.ownBlock] at hj
   · have : q = j := by rw [hv] at hj; simpa [Value.ownBlock] using hj
     subst this
     exact own_type h.all hh (by decide)
 have hblk : ∀ j, j < w.heap.size -> j ≠ gk -> va.ownBlock ≠ some j -> j ≠ g -> (w3.setCell ⟨g, 2, none⟩ v3).heap[j]? = w.heap[j]? := fun j hj h1 h2 h4 => by
   rw [heap_setCell_other w3 _ j v3 (by simpa using h4), hg3.block j (Nat.lt_of_lt_of_le hj k12.size) (fun e => h2 e.symm), hg2.block j (Nat.lt_of_lt_of_le hj k1.size) (fun e => h1 (by injection e)), bw1.block j hj]
 have hBsz : w.heap.size < w2.heap.size := lt_of_block hB2
 refine ⟨w.heap.size :: g3 :: fp, v3, acs ++ [.int .i64 (p : Int), .slice (some ⟨w.heap.size, 0, none⟩) 512 512], ⟨?_, ?_, ?_, ?_, ?_, by simp [h.inG], fun j hj => by simp [h.inK j hj], fun j hj => by simp [h.inP j hj], fun j hj => by rw [hv3b] at hj; injection hj with hj; simp [hj], ?_, ?_⟩, k14, ?_⟩
 · simp [World.setCell, Array.getElem?_modify, e3]
 · exact own_grown (own_grown hk2 hg3 (fun k hk e => by rw [e] at hAk; injection hk with hk; subst hk; exact hAk rfl)) (grown_set _ _ _) (fun k hk e => by injection hk with hk; injection e with e; exact hgkg (hk.trans e.symm))
 · exact own_grown (own_grown (own_grown (own_on h.pend bw1) hg2 (fun k hk e => hPk (by rw [hk, e]))) hg3 (fun k hk e => hPA k hk e)) (grown_set _ _ _) (fun k hk e => hPg (by rw [hk]; exact e.symm))
 · rw [List.length_append, List.length_singleton]
   exact own_grown own3 (grown_set _ _ _) (fun k hk e => h3g (by rw [hk]; exact e.symm))
 · intro i hi
   simp only [List.length_append, List.length_singleton] at hi
   have hal : acs.length = s.all.length * 2 := h.all.1
   by_cases hlt : i < s.all.length
   · obtain ⟨q, c, q1, q2, q3, q4, q5, q6, q7⟩ := h.told i hlt
     refine ⟨q, c, ?_, ?_, ?_, by simp [q4], q5, q6, q7⟩
     · simp only [List.getElem_append_left hlt]
       rw [List.getElem?_append_left (by omega)]; exact q1
     · rw [List.getElem?_append_left (by omega)]; exact q2
     · simp only [List.getElem_append_left hlt]
       refine (hblk q (h.lt q q4) (fun e => q5 (by rw [e]; rfl)) (own_type h.all q3 (by decide)) (fun e => ?_)).trans q3
       subst e
       have := h.blk
       unfold BlkT at q3
       rw [q3] at this
       injection this with this
       injection this with e1 e2 e3
       exact absurd e2 (by decide)
   · obtain rfl : i = s.all.length := by omega
     refine ⟨w.heap.size, 512, ?_, ?_, ?_, by simp, ?_, Nat.le_refl _, by unfold maxLen; omega⟩
     · rw [List.getElem?_append_right (by omega)]; simp [hal]
     · rw [List.getElem?_append_right (by omega)]; simp [hal, Nat.add_sub_cancel_left]
     · have he : (s.all ++ [(p, b)])[s.all.length]'(by simp) = (p, b) := by simp
       rw [he]
       refine (heap_setCell_other w3 _ w.heap.size v3 ?_).trans ((hg3.block w.heap.size hBsz (fun e => ?_)).trans hB2)
       · intro e; have := h.lt g h.inG; simp at e; omega
       · have := h.lt _ (h.inA _ e.symm); omega
     · intro e
       have := h.lt _ (h.inK _ e); omega
 · intro j hj
   simp only [List.mem_cons] at hj
   have hs4 : (w3.setCell ⟨g, 2, none⟩ v3).heap.size = w3.heap.size := by simp [World.setCell]
   rcases hj with rfl | rfl | hj
   · rw [hs4]; exact Nat.lt_of_lt_of_le hBsz k3.size
   · rw [hs4]; exact (own3.lt _ hv3b).2
   · exact Nat.lt_of_lt_of_le (h.lt j hj) k14.size
 · exact ⟨h.ok.size, h.ok.pend, fun x hx => by
     rcases List.mem_append.1 hx with hx | hx
     · exact h.ok.all x hx
     · rw [List.mem_singleton] at hx; subst hx; exact ⟨hp, hb⟩, h.ok.fuse⟩
 · intro j hj
   simp only [List.mem_cons] at hj
   rcases hj with rfl | rfl | hj
   · exact .inr (Nat.le_refl _)
   · rcases hat with e | e
     · rw [hv3b] at e; exact .inl (h.inA _ e.symm)
     · rw [hv3b] at e; injection e with e; exact .inr (by omega)
   · exact .inl hj
set_option maxHeartbeats 800000 in
theorem keep_any (g : Nat) (fp : List Nat) (s : St) (vk vp va : Value) (acs : List Value) (p : Nat) (b : List UInt8) (w : World) (h : Lies w g fp s vk vp va acs) (hs : s.sz <= 1000000000) (hp : p < s.size) (hb : b.length = 512) :
   Calls Tryz.prog 66 #[.pointer (some ⟨g, 0, none⟩), .int .i64 (p : Int), arrV (b.map e8)] w fun e w' => e = .returned (.tuple #[]) /\ ∃ fp' va' acs', Lies w' g fp' { s with all := s.all ++ [(p, b)] } vk vp va' acs' /\ Keep fp w w' /\ Fresh w fp fp' := by
 obtain ⟨gk, ck, rfl, _⟩ := own_some h.kept (by omega)
 obtain ⟨i0, hi0, hz0, hz1, hz2⟩ := info_parts infoWr
 have hxl : (b.map e8).length = 512 := by rw [List.length_map, hb]
 have hx1 := e8_one b
 have hszb := szBl hb
 have hub := Tryz.underlying113
 have hkc : splice (kcells s.size s.all) (p * 512) (b.map e8) = kcells s.size (s.all ++ [(p, b)]) :=
   splice_flat (fun q => (kept s.all q).map e8) (fun q => (kept (s.all ++ [(p, b)]) q).map e8) 512 (List.range s.size) (fun q _ => by rw [List.length_map, kept_len h.ok.all]) (fun q _ => by
     rw [List.length_map, kept_snoc]
     split
     · exact hb
     · exact kept_len h.ok.all q) p (by simpa using hp) (b.map e8) (by rw [List.length_map, hb]) (by simp only [List.getElem_range, kept_snoc, if_true]) (fun q hq hne => by
     simp only [List.getElem_range, kept_snoc]
     rw [if_neg (fun e => hne e.symm)])
 obtain ⟨xs, hxs⟩ : ∃ xs, xs = b.map e8 := ⟨_, rfl⟩
 rw [<- hxs] at hxl hx1 hszb hkc ⊢
 have Hxs := Lib.hid hxs
 have Hkc := Lib.hid hkc
 clear hxs hkc
 have hpI : (p : Int) < (s.size : Int) := by omega
 go_enter Tryz.func66, Tryz.ntmps66
 go_wp2_with ((with_reducible show wpList _ _ _ (⟨some 5, _, _, _, _, _⟩ :: _) _ _); refine wpList_boxT rfl _ _ rfl xs rfl ?_; intro w1 hB bw1 hs1)
 have h1 := h.on bw1
 obtain ⟨c0, c1, c2, c3, c4, c5, fr⟩ := six h1.blk
 go_frame
 have hgB : g ≠ w.heap.size := fun e => by have := h.lt g h.inG; omega
 have hkB : gk ≠ w.heap.size := fun e => by have := h.lt gk (h.inK gk rfl); omega
 have hgk : g ≠ gk := fun e => by
   have := own_type h.kept h.blk (by decide)
   rw [e] at this
   exact this rfl
 have hrB : w1.rangeAt w.heap.size 0 xs := fun j v hv => by
   rw [Nat.zero_add, cell_of_row _ _ _ _ _ _ hB]; simpa using hv
 have hle : p * 512 + 512 <= s.size * 512 := by rw [<- Nat.succ_mul]; exact Nat.mul_le_mul_right _ hp
 have hth : w1.there gk (p * 512) 512 := own_there h1.kept hle
 have hS2 : (w1.drew.setCells gk (p * 512) xs).cell? ⟨g, 0, none⟩ = some (.slice (some ⟨gk, 0, none⟩) s.size ck) /\ (w1.drew.setCells gk (p * 512) xs).rangeAt w.heap.size 0 xs /\ (w1.drew.setCells gk (p * 512) xs).there gk (p * 512) 512 :=
   ⟨(World.cell?_setCells_out gk xs (p * 512) w1.drew ⟨g, 0, none⟩ (fun e _ => absurd e hgk)).trans c0, World.rangeAt_setCells_apart (w := w1.drew) hrB gk _ xs (.inl (Ne.symm hkB)), World.there_setCells (w := w1.drew) hth gk _ xs⟩
 go_region_held3 (fun w' => w'.cell? ⟨g, 0, none⟩ = some (.slice (some ⟨gk, 0, none⟩) s.size ck) /\ w'.rangeAt w.heap.size 0 xs /\ w'.there gk (p * 512) 512) (first | exact ⟨c0, hrB, hth⟩ | exact hS2) (fail)
 have hk2 := own_setCells xs (p * 512) (w := w1.drew) h1.kept (by rw [hxl]; exact hle)
 rw [Hkc.out] at hk2
 have hg2 : w1.grownBy (w1.drew.setCells gk (p * 512) xs) (some gk) := grown_trans (show w1.grownBy w1.drew (some gk) from ⟨rfl, rfl, rfl, Nat.le_refl _, fun _ _ _ => rfl⟩) (setCells_grown gk xs (p * 512) w1.drew)
 have hB2 : BlkT (w1.drew.setCells gk (p * 512) xs) w.heap.size 113 xs := (hg2.block _ hs1 (fun e => hkB (by injection e with e; exact e.symm))).trans hB
 obtain ⟨w2, hw2⟩ : ∃ w2, w2 = w1.drew.setCells gk (p * 512) xs := ⟨_, rfl⟩
 rw [<- hw2] at hk2 hg2 hB2 ⊢
 clear hS2 hw2 hth hrB c0 c1 c2 c3 c4 c5 fr
 have hg2b := (hg2.block g (Nat.lt_of_lt_of_le (h.lt g h.inG) bw1.size) (fun e => hgk (by injection e))).trans h1.blk
 obtain ⟨c0, c1, c2, c3, c4, c5, fr⟩ := six hg2b
 go_wp2
 have hA2 := own_grown h1.all hg2 (fun k hk e => by
   injection e with e
   subst e
   obtain ⟨cs, hcs⟩ := own_blk h.kept
   exact own_type h.all hcs (by decide) hk)
 have hgl : g < w2.heap.size := lt_of_block hg2b
 have hgA : some g ≠ va.ownBlock := fun e => own_type h.all h.blk (by decide) e.symm
 have hBl : w.heap.size < w2.heap.size := lt_of_block hB2
 go_region_law ((refine step_append_rd _ (by rfl) _ _ _ (by rfl) 0 161 i0 _ 2 32 Tryz.underlying76 hi0 hz0 hz1 hz2 rfl (by omega) va s.all.length acs (by rfl) ?_ _ 1 1 [.int .i64 (p : Int), .slice (some ⟨w.heap.size, 0, none⟩) 512 512] (by rfl) (by rfl) ?_ (by simp [Value.oneCell']) (by simp only [maxLen]; unfold St.sz at hs; omega) (by unfold St.sz at hs; omega) (Nat.zero_le _) ?_); (· exact hA2.alloc _); (· exact Rd.lit _ _ _ _ _ rfl (by simp)); intro v3 w3 own3 hg3 hat3; obtain ⟨g3, c3', rfl, _⟩ := own_some own3 (by omega); have e3 := (hg3.block g (by simp; omega) hgA).trans ((Below.heap_alloc _ _ g hgl).trans hg2b); obtain ⟨_, _, d2, _, _, _, d7⟩ := six e3; have d8 := d7 2; have hg4 := grown_trans (grown_alloc_drew w2 _ va.ownBlock) hg3; have hat4 := at_alloc_drew hat3)
 all_goals
   have fin := Lib.hid (keep_fin h bw1 hg2 (Hxs.out ▸ hB2) hk2 own3 hg4 hat4 e3 hp hb)
   go_wp2
   go_end0
   exact ⟨rfl, fin.out⟩
end Go.Proofs.YtchcmklelmlbgaaGreat.Disk
namespace Go.Proofs.YtchcmklelmlbgaaGreat
open Go.RowKit
set_option linter.unusedVariables false
section
variable {P : Program} {ops : Array Oper} {md : Region.Mode} {C : Array Bool -> World -> Prop}
structure OkL (md : Region.Mode) (ops : Array Oper) (listed : Array Bool) : Prop where
 size : listed.size = ops.size
 closed : ∀ j oj, ops[j]? = some oj -> listed.getD j false = true -> ∀ e ∈ oj.after, Region.binds md e = true -> listed.getD e.on false = true
theorem OkL.set {i : Nat} {listed : Array Bool} (inv : OkL md ops listed) (hi : i ∈ Region.ready md ops listed) : OkL md ops (listed.setIfInBounds i true) := by
 obtain ⟨_, oi, hoi, hall⟩ := mem_ready.1 hi
 refine ⟨by simp [inv.size], fun j oj hj hl e he hb => ?_⟩
 by_cases hij : i = j
 · subst hij
   have : oj = oi := Option.some.inj (hj.symm.trans hoi)
   subst this
   exact getD_set_true (hall e he hb)
 · rw [getD_set_ne false hij] at hl
   exact getD_set_true (inv.closed j oj hj hl e he hb)
def idleI (md : Region.Mode) (ops : Array Oper) (C : Array Bool -> World -> Prop) (i : Nat) : Prop :=
 ∀ listed w, OkL md ops listed -> i ∈ Region.ready md ops listed -> C listed w -> C (listed.setIfInBounds i true) w
def YieldsI (P : Program) (md : Region.Mode) (ops : Array Oper) (C : Array Bool -> World -> Prop) (i : Nat) (o : Oper) (v : Value) (a : Act) : Prop :=
 (Region.wanted o (yielded ops a.tmps) = true /\ ∀ listed w, OkL md ops listed -> i ∈ Region.ready md ops listed -> C listed w ->
     match (execOp a.eval o).run P w with
     | .ok (.value u) w' => u = v /\ C (listed.setIfInBounds i true) w'
     | .ok .skip w' => v = undef /\ C (listed.setIfInBounds i true) w'
     | .ok (.enter f args) w' => Calls P f args w' (fun e w'' => e = .returned v /\ C (listed.setIfInBounds i true) w'')
     | _ => False) \/
 (Region.wanted o (yielded ops a.tmps) = false /\ v = undef /\ idleI md ops C i)
theorem YieldsI.of_same {i : Nat} {o : Oper} {v : Value} {a a' : Act} (hy : YieldsI P md ops C i o v a) (he : execOp a'.eval o = execOp a.eval o)
   (hw : Region.wanted o (yielded ops a'.tmps) = Region.wanted o (yielded ops a.tmps)) : YieldsI P md ops C i o v a' := by
 unfold YieldsI at *
 rw [he, hw]
 exact hy
def qOpI (P : Program) (md : Region.Mode) (ops : Array Oper) (C : Array Bool -> World -> Prop) (i : Nat) (K : Act -> Prop) (a : Act) : Prop :=
 ∃ o v, ops[i]? = some o /\ YieldsI P md ops C i o v a /\ K (a.put o.dst v)
theorem qOpI_mono {i : Nat} {a : Act} {K K' : Act -> Prop} (h : ∀ a, K a -> K' a) (hh : qOpI P md ops C i K a) : qOpI P md ops C i K' a :=
 let ⟨o, v, h1, h2, h3⟩ := hh
 ⟨o, v, h1, h2, h _ h3⟩
theorem wpOp_of_qOpI {i : Nat} {a : Act} {listed : Array Bool} {K : Act -> Prop} {K' : Act -> World -> Prop} {Q' : Exit -> Act -> World -> Prop} {w : World} (hL : OkL md ops listed) (hi : i ∈ Region.ready md ops listed) (hC : C listed w)
   (h : ∀ a w', C (listed.setIfInBounds i true) w' -> K a -> K' a w') (hh : qOpI P md ops C i K a) : wpOp P ops Q' i K' a w := by
 obtain ⟨o, v, ho, hy, hk⟩ := hh
 unfold wpOp
 simp only [ho]
 rcases hy with ⟨hw, hv⟩ | ⟨hw, rfl, hid⟩
 · rw [if_pos hw]
   refine .inl ?_
   have h3 := hv listed w hL hi hC
   unfold Oper.wp
   generalize (execOp a.eval o).run P w = r at *
   cases r with
   | ok n w' =>
     cases n <;> simp only [Oper.upon] at h3 ⊢
     case value u => obtain ⟨rfl, h4⟩ := h3; exact h _ _ h4 hk
     case skip => obtain ⟨rfl, h4⟩ := h3; exact h _ _ h4 hk
     case enter f args => exact h3.mono fun e w'' ⟨he, hw''⟩ => by subst he; exact h _ _ hw'' hk
   | halt x w' => simp only at h3
 · rw [if_neg (by rw [hw]; simp)]
   exact h _ _ (hid listed w hL hi hC) hk
theorem qOpI_put {i j : Nat} {oi oj : Oper} {v : Value} (hj : ops[j]? = some oj) (hap : oi.apart ops oj = true)
   (hsi : ∀ cs b, oi.op ≠ .select cs b) (hsj : ∀ cs b, oj.op ≠ .select cs b) {K : Act -> Prop} {a : Act}
   (hy : YieldsI P md ops C i oi v a) (h : qOpI P md ops C j K (a.put oi.dst v)) :
   qOpI P md ops C j (fun a' => YieldsI P md ops C i oi v a' /\ K (a'.put oi.dst v)) a := by
 obtain ⟨h1, h2, h3⟩ := Oper.apart_spec hap
 have keep : ∀ (a : Act), YieldsI P md ops C i oi v a -> ∀ u, YieldsI P md ops C i oi v (a.put oj.dst u) := fun a hy u =>
   hy.of_same (execOp_put oi hsi a oj.dst u h3) (wanted_put oi a oj.dst u h3)
 obtain ⟨o, u, ho, hyj, hk⟩ := h
 obtain rfl : o = oj := Option.some.inj (ho.symm.trans hj)
 exact ⟨o, u, hj, hyj.of_same (execOp_put o hsj a oi.dst v h1).symm (wanted_put o a oi.dst v h1).symm, keep a hy u, by rw [<- Act.put_comm a v u h2]; exact hk⟩
def wpAnyI (P : Program) (md : Region.Mode) (ops : Array Oper) (C : Array Bool -> World -> Prop) (F : Array Bool -> Prop) (Q : Act -> Prop) : Nat -> Array Bool -> Act -> Prop
 | 0, listed, a => Region.ready md ops listed = [] /\ F listed /\ Q a
 | fuel + 1, listed, a =>
   (Region.ready md ops listed = [] -> F listed /\ Q a) /\
   ∀ i ∈ Region.ready md ops listed, qOpI P md ops C i (wpAnyI P md ops C F Q fuel (listed.setIfInBounds i true)) a
theorem wpAny_of_I {F : Array Bool -> Prop} {Q : Act -> Prop} {Q' : Exit -> Act -> World -> Prop} (hQ : ∀ listed a w, F listed -> C listed w -> Q a -> Q' .normal a w) : ∀ (fuel : Nat) (listed : Array Bool) (a : Act) (w : World), OkL md ops listed -> C listed w ->
   wpAnyI P md ops C F Q fuel listed a -> wpAny P md ops Q' fuel listed a w
 | 0, _, _, _, _, hw, h => ⟨h.1, hQ _ _ _ h.2.1 hw h.2.2⟩
 | fuel + 1, _, _, _, hL, hw, h => ⟨fun h0 => hQ _ _ _ (h.1 h0).1 hw (h.1 h0).2, fun i hi => wpOp_of_qOpI hL hi hw (fun a' w' hw' => wpAny_of_I hQ fuel _ a' w' (hL.set hi) hw') (h.2 i hi)⟩
theorem wpAnyI_first {F : Array Bool -> Prop} {Q : Act -> Prop} {i : Nat} {oi : Oper} {v : Value} (hi : ops[i]? = some oi) (hsel : ∀ (j : Nat) (o : Oper) cs b, ops[j]? = some o -> o.op ≠ .select cs b) :
   ∀ (fuel : Nat) (listed : Array Bool) (a : Act),
     (∀ j oj, ops[j]? = some oj -> j ≠ i -> listed.getD j true = false -> (∀ e ∈ oj.after, Region.binds md e = true -> e.on ≠ i) -> oi.apart ops oj = true) ->
     i ∈ Region.ready md ops listed -> YieldsI P md ops C i oi v a ->
     wpAnyI P md ops C F Q fuel (listed.setIfInBounds i true) (a.put oi.dst v) -> wpAnyI P md ops C F Q (fuel + 1) listed a := by
 intro fuel
 induction fuel with
 | zero =>
   intro listed a _ hr hy H
   refine ⟨fun h => (by rw [h] at hr; cases hr), fun j hj => ?_⟩
   by_cases hji : j = i
   · subst hji; exact ⟨oi, v, hi, hy, H⟩
   · have := ready_mono hj hji
     rw [H.1] at this
     cases this
 | succ fuel ih =>
   intro listed a hfree hr hy H
   refine ⟨fun h => (by rw [h] at hr; cases hr), fun j hj => ?_⟩
   by_cases hji : j = i
   · subst hji; exact ⟨oi, v, hi, hy, H⟩
   · have h1 := H.2 j (ready_mono hj hji)
     obtain ⟨hjun, oj, hoj, hall⟩ := mem_ready.1 hj
     have hnot : ∀ e ∈ oj.after, Region.binds md e = true -> e.on ≠ i := fun e he hb heq => by
       have h1 := hall e he hb
       have h0 := (mem_ready.1 hr).1
       rw [heq] at h1
       rcases Nat.lt_or_ge i listed.size with h' | h'
       · simp [h'] at h0 h1; rw [h0] at h1; cases h1
       · simp [Array.getElem?_eq_none h'] at h1
     have h2 := qOpI_put hoj (hfree j oj hoj hji hjun hnot) (fun cs b => hsel i oi cs b hi) (fun cs b => hsel j oj cs b hoj) hy h1
     have hfree' : ∀ k ok, ops[k]? = some ok -> k ≠ i -> (listed.setIfInBounds j true).getD k true = false ->
         (∀ e ∈ ok.after, Region.binds md e = true -> e.on ≠ i) -> oi.apart ops ok = true := fun k ok hk hki hun hno => by
       refine hfree k ok hk hki ?_ hno
       by_cases hjk : j = k
       · subst hjk; exact hjun
       · rw [getD_set_ne true hjk] at hun; exact hun
     refine qOpI_mono (fun a' h3 => ih (listed.setIfInBounds j true) a' hfree' (ready_mono hr (Ne.symm hji)) h3.1 ?_) h2
     rw [Array.setIfInBounds_comm _ _ hji]
     exact h3.2
def wpLexI (P : Program) (md : Region.Mode) (ops : Array Oper) (C : Array Bool -> World -> Prop) (Q : Act -> Prop) : Nat -> List Oper -> Act -> Prop
 | _, [], a => Q a
 | k, o :: rest, a => ∃ v, YieldsI P md ops C k o v a /\ wpLexI P md ops C Q (k + 1) rest (a.put o.dst v)
def lexLast : List Nat -> Array Bool -> Array Bool
 | [], listed => listed
 | i :: is, listed => lexLast is (listed.setIfInBounds i true)
theorem wpAnyI_lex {F : Array Bool -> Prop} {Q : Act -> Prop} (hs : Region.noSelect ops = true) : ∀ (l : List Oper) (k : Nat) (listed : Array Bool) (a : Act), (∀ j, l[j]? = ops[k + j]?) ->
   Region.lexFrom md ops l.length k listed = true -> F (lexLast (List.range' k l.length) listed) -> wpLexI P md ops C Q k l a -> wpAnyI P md ops C F Q l.length listed a
 | [], _, _, _, _, hB, hF, h => ⟨by simpa [Region.lexFrom] using hB, hF, h⟩
 | o :: l, k, listed, a, hl, hB, hF, h => by
   have h0 : ops[k]? = some o := by simpa using (hl 0).symm
   simp only [List.length_cons, Region.lexFrom, Bool.and_eq_true] at hB
   obtain ⟨⟨hr, hf⟩, hB'⟩ := hB
   obtain ⟨v, hy, hK⟩ := h
   exact wpAnyI_first h0 (Region.noSelect_spec hs) l.length listed a (Region.free_spec h0 hf) (by simpa using hr) hy
     (wpAnyI_lex hs l (k + 1) _ _ (fun j => by have := hl (j + 1); simpa [Nat.add_assoc, Nat.add_comm 1 j] using this) hB' hF hK)
theorem wp_region_I {id : Nat} {F : Array Bool -> Prop} {Q : Exit -> Act -> World -> Prop} {a : Act} {w : World} (hm : P.follows .mixedOrders = true) (hB : Region.lexB .any ops = true) (hC : C (Array.replicate ops.size false) { w with drawn := w.drawn + 1 })
   (hF : F (lexLast (List.range' 0 ops.toList.length) (Array.replicate ops.size false)))
   (h : wpLexI P .any ops C (fun a' => ∀ listed w', F listed -> C listed w' -> Q .normal a' w') 0 ops.toList a) : (Code.region id ops true).wp P Q a w := by
 simp only [Region.lexB, Bool.and_eq_true] at hB
 have inv0 : OkL .any ops (Array.replicate ops.size false) :=
   ⟨by simp, fun j oj _ hl => (by rw [getD_replicate_false] at hl; cases hl)⟩
 refine wp_region_any hm (wpAny_of_I (C := C) (F := F) (Q := fun a' => ∀ listed w', F listed -> C listed w' -> Q .normal a' w') (fun _ _ w' hF hw' h => h _ w' hF hw') _ _ _ _ inv0 hC ?_)
 have := wpAnyI_lex (C := C) (F := F) (md := .any) hB.1 ops.toList 0 (Array.replicate ops.size false) a (by simp) (by simpa using hB.2) hF h
 simpa using this
end
def phase (chain : List Nat) (listed : Array Bool) : Nat := (chain.filter fun i => listed.getD i false).length
def descF (md : Region.Mode) (i : Nat) : List Oper -> Array Bool -> Array Bool
 | [], acc => acc
 | o :: rest, acc => descF md i rest (acc.push (o.after.any fun e => Region.binds md e && (e.on == i || acc.getD e.on false)))
def reach (md : Region.Mode) (ops : Array Oper) (_ : Nat) (k i : Nat) : Bool := (descF md i ops.toList #[]).getD k false
section
variable {ops : Array Oper} {md : Region.Mode}
theorem desc_listed {listed : Array Bool} (hL : OkL md ops listed) (i : Nat) : ∀ (l : List Oper) (acc : Array Bool), (∀ j, l[j]? = ops[acc.size + j]?) ->
   (∀ k, acc.getD k false = true -> (k ∈ Region.ready md ops listed \/ listed.getD k false = true) -> listed.getD i false = true) ->
   ∀ k, (descF md i l acc).getD k false = true -> (k ∈ Region.ready md ops listed \/ listed.getD k false = true) -> listed.getD i false = true
 | [], acc, _, h, k, hk, hr => h k hk hr
 | o :: rest, acc, hl, h, k, hk, hr => by
   refine desc_listed hL i rest _ (fun j => by have := hl (j + 1); simpa [Nat.add_assoc, Nat.add_comm 1 j] using this) (fun k' hk' hr' => ?_) k hk hr
   by_cases e : k' < acc.size
   · refine h k' ?_ hr'
     simpa [Array.getD, Array.getElem?_push, e, Nat.ne_of_lt e, show k' < acc.size + 1 by omega, Array.getElem_push] using hk'
   · by_cases e2 : k' = acc.size
     · subst e2
       have ho : ops[acc.size]? = some o := by simpa using (hl 0).symm
       have hv : (o.after.any fun e => Region.binds md e && (e.on == i || acc.getD e.on false)) = true := by
         simpa [Array.getD] using hk'
       obtain ⟨e, he, hb⟩ := Array.any_eq_true'.1 hv
       simp only [Bool.and_eq_true, Bool.or_eq_true, beq_iff_eq] at hb
       have hle : listed.getD e.on false = true := by
         rcases hr' with hr' | hr'
         · obtain ⟨_, o', ho', hall⟩ := mem_ready.1 hr'
           obtain rfl : o = o' := Option.some.inj (ho.symm.trans ho')
           exact hall e he hb.1
         · exact hL.closed _ o ho hr' e he hb.1
       rcases hb.2 with h1 | h1
       · rw [<- h1]; exact hle
       · exact h e.on h1 (.inr hle)
     · exfalso
       have : ¬ k' < acc.size + 1 := by omega
       simp [Array.getD, this] at hk'
theorem reach_listed {listed : Array Bool} (hL : OkL md ops listed) (f k i : Nat) (hk : k ∈ Region.ready md ops listed \/ listed.getD k false = true) (h : reach md ops f k i = true) : listed.getD i false = true :=
 desc_listed hL i ops.toList #[] (by simp) (fun k hk _ => by simp at hk) k h hk
theorem filter_le {p q : Nat -> Bool} (h : ∀ i, p i = true -> q i = true) : ∀ l : List Nat, (l.filter p).length <= (l.filter q).length
 | [] => by simp
 | i :: l => by
   have ih := filter_le h l
   rw [List.filter_cons, List.filter_cons]
   by_cases hp : p i = true
   · rw [if_pos hp, if_pos (h i hp), List.length_cons, List.length_cons]; omega
   · rw [if_neg hp]
     split
     · rw [List.length_cons]; omega
     · exact ih
theorem phase_ge {chain : List Nat} {listed : Array Bool} (hL : OkL md ops listed) {k f : Nat} (hk : k ∈ Region.ready md ops listed) : (chain.filter fun i => reach md ops f k i).length <= phase chain listed := by
 unfold phase
 exact filter_le (fun i h => reach_listed hL f k i (.inl hk) h) chain
theorem phase_set {chain : List Nat} {listed : Array Bool} {k : Nat} (h : chain.contains k = false) : phase chain (listed.setIfInBounds k true) = phase chain listed := by
 unfold phase
 congr 1
 refine List.filter_congr fun i hi => ?_
 have : k ≠ i := by rintro rfl; simp [hi] at h
 rw [getD_set_ne false this]
theorem ready_false {listed : Array Bool} {k : Nat} (hk : k ∈ Region.ready md ops listed) : listed.getD k false = false := getD_both (mem_ready.1 hk).1
theorem phase_eq {chain : List Nat} {listed : Array Bool} (hL : OkL md ops listed) {k f : Nat} (hk : k ∈ Region.ready md ops listed) (ht : ∀ c ∈ chain, c = k \/ reach md ops f k c = true \/ reach md ops f c k = true) :
   phase chain listed = (chain.filter fun i => reach md ops f k i).length := by
 unfold phase
 congr 1
 refine List.filter_congr fun c hc => ?_
 cases hr : reach md ops f k c with
 | true => exact reach_listed hL f k c (.inl hk) hr
 | false =>
   rcases ht c hc with rfl | h | h
   · exact ready_false hk
   · rw [hr] at h; cases h
   · cases hl : listed.getD c false with
     | false => rfl
     | true =>
       have := reach_listed hL f c k (.inr hl) h
       rw [ready_false hk] at this
       cases this
theorem phase_one {listed : Array Bool} {k : Nat} (hin : k < listed.size) (hun : listed.getD k false = false) : ∀ {chain : List Nat}, chain.Nodup -> k ∈ chain -> phase chain (listed.setIfInBounds k true) = phase chain listed + 1
 | [], _, h => by cases h
 | c :: l, hn, h => by
   have hn' := List.nodup_cons.1 hn
   unfold phase
   rw [List.filter_cons, List.filter_cons]
   by_cases e : c = k
   · subst e
     have h1 : (listed.setIfInBounds c true).getD c false = true := by simp [hin]
     have h2 : (l.filter fun i => (listed.setIfInBounds c true).getD i false) = l.filter fun i => listed.getD i false :=
       List.filter_congr fun i hi => getD_set_ne false (fun e => hn'.1 (by rw [e]; exact hi))
     rw [if_pos h1, if_neg (by rw [hun]; simp), h2]
     rfl
   · have hk : k ∈ l := by
       rcases List.mem_cons.1 h with h | h
       · exact absurd h.symm e
       · exact h
     have ih := phase_one hin hun hn'.2 hk
     unfold phase at ih
     rw [getD_set_ne false (Ne.symm e)]
     split
     · rw [List.length_cons, List.length_cons, ih]
     · exact ih
def ix : List Nat -> Nat -> Nat
 | [], _ => 0
 | i :: l, k => if i = k then 0 else ix l k + 1
def phB (md : Region.Mode) (ops : Array Oper) (f : Nat) (chain : List Nat) (lo : List (Nat × Nat)) : Bool :=
 decide chain.Nodup && chain.all (fun c => decide (c < ops.size) && chain.all (fun d => d == c || reach md ops f c d || reach md ops f d c) && (chain.filter fun i => reach md ops f c i).length == ix chain c) &&
   lo.all (fun kb => decide (kb.2 <= (chain.filter fun i => reach md ops f kb.1 i).length)) && phase chain (lexLast (List.range' 0 ops.toList.length) (Array.replicate ops.size false)) == chain.length
end
section
variable {P : Program} {ops : Array Oper} {Ph : Nat -> World -> Prop} {chain : List Nat} {lo : List (Nat × Nat)}
def phUpon (P : Program) (C' : World -> Prop) (v : Value) : Result Next -> Prop
 | .ok (.value u) w' => u = v /\ C' w'
 | .ok .skip w' => v = undef /\ C' w'
 | .ok (.enter f args) w' => Calls P f args w' fun e w'' => e = .returned v /\ C' w''
 | _ => False
@[go_sem] theorem phUpon_value (P : Program) (C' : World -> Prop) (v u : Value) (w' : World) : phUpon P C' v (.ok (.value u) w') = (u = v /\ C' w') := rfl
@[go_sem] theorem phUpon_skip (P : Program) (C' : World -> Prop) (v : Value) (w' : World) : phUpon P C' v (.ok .skip w') = (v = undef /\ C' w') := rfl
@[go_sem] theorem phUpon_enter (P : Program) (C' : World -> Prop) (v : Value) (f : FuncId) (args : Array Value) (w' : World) : phUpon P C' v (.ok (.enter f args) w') = Calls P f args w' fun e w'' => e = .returned v /\ C' w'' := rfl
end
end Go.Proofs.YtchcmklelmlbgaaGreat
namespace Go.Proofs.YtchcmklelmlbgaaGreat
open Go.RowKit
set_option linter.unusedVariables false
section
variable {ops : Array Oper} {md : Region.Mode}
def lkp2 : List (Nat × Nat × Nat) -> Nat -> Nat × Nat
 | [], _ => (0, 1000000)
 | (i, b) :: l, k => if i = k then b else lkp2 l k
def stB (md : Region.Mode) (ops : Array Oper) (f : Nat) (chain : List Nat) (lo : List (Nat × Nat × Nat)) : Bool :=
 phB md ops f chain [] && lo.all fun kb => decide (kb.2.1 <= (chain.filter fun i => reach md ops f kb.1 i).length) && decide ((chain.filter fun i => !reach md ops f i kb.1).length <= kb.2.2)
theorem phase_le {chain : List Nat} {listed : Array Bool} (hL : OkL md ops listed) {k f : Nat} (hk : k ∈ Region.ready md ops listed) : phase chain listed <= (chain.filter fun i => !reach md ops f i k).length := by
 unfold phase
 refine filter_le (fun i h => ?_) chain
 cases hr : reach md ops f i k with
 | false => rfl
 | true =>
   have := reach_listed hL f i k (.inr h) hr
   rw [ready_false hk] at this
   cases this
theorem lkp2_in {md : Region.Mode} {ops : Array Oper} {f : Nat} {chain : List Nat} {k : Nat} (hc : chain.length <= 1000000) : ∀ {lo : List (Nat × Nat × Nat)},
   (lo.all fun kb => decide (kb.2.1 <= (chain.filter fun i => reach md ops f kb.1 i).length) && decide ((chain.filter fun i => !reach md ops f i kb.1).length <= kb.2.2)) = true ->
   (lkp2 lo k).1 <= (chain.filter fun i => reach md ops f k i).length /\ (chain.filter fun i => !reach md ops f i k).length <= (lkp2 lo k).2
 | [], _ => ⟨Nat.zero_le _, Nat.le_trans (List.length_filter_le _ _) hc⟩
 | (i, b) :: l, h => by
   simp only [List.all_cons, Bool.and_eq_true, decide_eq_true_eq] at h
   unfold lkp2
   split
   · rename_i e; subst e; exact h.1
   · exact lkp2_in hc (by simpa using h.2)
end
section
variable {P : Program} {ops : Array Oper} {ws : List World} {chain : List Nat} {lo : List (Nat × Nat × Nat)}
def Bt (ws : List World) (b : Nat × Nat) (w : World) : Prop := ∃ p, b.1 <= p /\ p <= b.2 /\ ws[p]? = some w
def wpPs (P : Program) (ops : Array Oper) (ws : List World) (chain : List Nat) (lo : List (Nat × Nat × Nat)) (Q : Act -> Prop) : Nat -> List Oper -> Act -> Prop
 | _, [], a => Q a
 | k, o :: rest, a =>
   if Region.wanted o (yielded ops a.tmps) then
     if chain.contains k then ∃ v, (∀ w, ws[ix chain k]? = some w -> ∃ w', ws[ix chain k + 1]? = some w' /\ ((execOp a.eval o).run P w = .ok (.value v) w' \/ (v = undef /\ (execOp a.eval o).run P w = .ok .skip w'))) /\ wpPs P ops ws chain lo Q (k + 1) rest (a.put o.dst v)
     else ∃ v, (∀ w, Bt ws (lkp2 lo k) w -> (execOp a.eval o).run P w = .ok (.value v) w) /\ wpPs P ops ws chain lo Q (k + 1) rest (a.put o.dst v)
   else chain.contains k = false /\ wpPs P ops ws chain lo Q (k + 1) rest (a.put o.dst undef)
theorem wpPs_nil {Q : Act -> Prop} {a : Act} {k : Nat} (h : Q a) : wpPs P ops ws chain lo Q k [] a := h
theorem wpPs_read {Q : Act -> Prop} {a : Act} {o : Oper} {rest : List Oper} {k : Nat} {b : Nat × Nat} (hg : o.guard = none) (hc : chain.contains k = false) (hb : lkp2 lo k = b) (v : Value)
   (h : ∀ w, Bt ws b w -> (execOp a.eval o).run P w = .ok (.value v) w) (hK : wpPs P ops ws chain lo Q (k + 1) rest (a.put o.dst v)) : wpPs P ops ws chain lo Q k (o :: rest) a := by
 subst hb
 unfold wpPs
 rw [if_pos (by simp [Region.wanted, hg]), if_neg (by rw [hc]; simp)]
 exact ⟨v, h, hK⟩
theorem wpPs_turn {Q : Act -> Prop} {a : Act} {o : Oper} {rest : List Oper} {k i : Nat} (hg : o.guard = none) (hc : chain.contains k = true) (hi : ix chain k = i) (v : Value) (w w' : World) (hw : ws[i]? = some w) (hw' : ws[i + 1]? = some w')
   (h : (execOp a.eval o).run P w = .ok (.value v) w' \/ (v = undef /\ (execOp a.eval o).run P w = .ok .skip w')) (hK : wpPs P ops ws chain lo Q (k + 1) rest (a.put o.dst v)) : wpPs P ops ws chain lo Q k (o :: rest) a := by
 subst hi
 unfold wpPs
 rw [if_pos (by simp [Region.wanted, hg]), if_pos hc]
 refine ⟨v, fun u hu => ?_, hK⟩
 rw [hw] at hu
 injection hu with hu
 subst hu
 exact ⟨w', hw', h⟩
theorem lex_of_ps {f : Nat} {Q : Act -> Prop} (hl : chain.length <= 1000000) (hB : stB .any ops f chain lo = true) : ∀ (l : List Oper) (k : Nat) (a : Act), wpPs P ops ws chain lo Q k l a ->
   wpLexI P .any ops (fun listed w => ws[phase chain listed]? = some w) Q k l a
 | [], _, _, h => h
 | o :: rest, k, a, h => by
   have hB' := hB
   simp only [stB, phB, Bool.and_eq_true, decide_eq_true_eq, beq_iff_eq, List.all_eq_true, Bool.or_eq_true] at hB
   obtain ⟨⟨⟨⟨hnd, hch⟩, _⟩, hF⟩, hlo⟩ := hB
   unfold wpPs at h
   unfold wpLexI
   split at h
   · rename_i hw
     split at h
     · rename_i hc
       obtain ⟨v, h1, h2⟩ := h
       refine ⟨v, .inl ⟨hw, fun listed w hL hr hC => ?_⟩, lex_of_ps hl hB' rest (k + 1) _ h2⟩
       have hmem : k ∈ chain := by simpa using hc
       obtain ⟨⟨hlt, htot⟩, hix⟩ := hch k hmem
       have hp : phase chain listed = ix chain k := by
         rw [phase_eq hL hr (f := f) (fun c hcm => by
           rcases htot c hcm with (h | h) | h
           · exact .inl h
           · exact .inr (.inl h)
           · exact .inr (.inr h)), hix]
       have hp' := phase_one (by rw [hL.size]; exact hlt) (ready_false hr) hnd hmem
       obtain ⟨w', hw', h3⟩ := h1 w (by rw [<- hp]; exact hC)
       rw [<- hp, <- hp'] at hw'
       rcases h3 with h3 | ⟨rfl, h3⟩
       · rw [h3]; exact ⟨rfl, hw'⟩
       · rw [h3]; exact ⟨rfl, hw'⟩
     · rename_i hc
       obtain ⟨v, h1, h2⟩ := h
       refine ⟨v, .inl ⟨hw, fun listed w hL hr hC => ?_⟩, lex_of_ps hl hB' rest (k + 1) _ h2⟩
       have hps : phase chain (listed.setIfInBounds k true) = phase chain listed := phase_set (by simpa using hc)
       have hin := lkp2_in (f := f) (k := k) (md := .any) (ops := ops) hl (lo := lo) (by simpa [List.all_eq_true] using hlo)
       have h3 := h1 w ⟨_, Nat.le_trans hin.1 (phase_ge hL hr), Nat.le_trans (phase_le hL hr) hin.2, hC⟩
       rw [h3]
       refine ⟨rfl, ?_⟩
       show ws[phase chain (listed.setIfInBounds k true)]? = some w
       rw [hps]; exact hC
   · rename_i hw
     obtain ⟨hc, h2⟩ := h
     refine ⟨undef, .inr ⟨by simpa using hw, rfl, fun listed w hL hr hC => ?_⟩, lex_of_ps hl hB' rest (k + 1) _ h2⟩
     show ws[phase chain (listed.setIfInBounds k true)]? = some w
     rw [phase_set hc]; exact hC
theorem region_steps {id : Nat} {Q : Exit -> Act -> World -> Prop} {a : Act} {w w' : World} {l : List Oper} (f : Nat) (chain : List Nat) (lo : List (Nat × Nat × Nat)) (ws : List World) (hm : P.follows .mixedOrders = true) (hB : Region.lexB .any l.toArray = true) (hP : stB .any l.toArray f chain lo = true)
   (hl : chain.length <= 1000000) (hC : ws[0]? = some w.drew) (hE : ws[chain.length]? = some w')
   (h : wpPs P l.toArray ws chain lo (fun a' => Q .normal a' w') 0 l a) : (Code.region id l.toArray true).wp P Q a w := by
 have hF : phase chain (lexLast (List.range' 0 l.toArray.toList.length) (Array.replicate l.toArray.size false)) = chain.length := by
   simp only [stB, phB, Bool.and_eq_true, beq_iff_eq] at hP
   exact hP.1.2
 have h0 : phase chain (Array.replicate l.toArray.size false) = 0 := by
   unfold phase
   rw [List.length_eq_zero_iff, List.filter_eq_nil_iff]
   intro c _
   rw [getD_replicate_false]; simp
 refine wp_region_I (C := fun listed w => ws[phase chain listed]? = some w) (F := fun listed => phase chain listed = chain.length) hm hB (by rw [h0]; exact hC) hF ?_
 have h1 := lex_of_ps (P := P) (Q := fun a' => Q .normal a' w') hl hP l 0 a h
 have mono : ∀ (l' : List Oper) (k : Nat) (a : Act), wpLexI P .any l.toArray (fun listed w => ws[phase chain listed]? = some w) (fun a' => Q .normal a' w') k l' a ->
     wpLexI P .any l.toArray (fun listed w => ws[phase chain listed]? = some w) (fun a' => ∀ (listed : Array Bool) u, phase chain listed = chain.length -> ws[phase chain listed]? = some u -> Q .normal a' u) k l' a := by
   intro l'
   induction l' with
   | nil =>
     intro k a h listed u hF hu
     rw [hF, hE] at hu
     injection hu with hu
     subst hu
     exact h
   | cons o rest ih => intro k a h; obtain ⟨v, hy, h2⟩ := h; exact ⟨v, hy, ih _ _ h2⟩
 exact mono _ _ _ (by simpa using h1)
theorem wpPs_mid {Q : Act -> Prop} {a : Act} {o : Oper} {rest : List Oper} {k : Nat} {b : Nat × Nat} (hg : o.guard = none) (hc : chain.contains k = false) (hb : lkp2 lo k = b) (t : TypeId) (x : Operand) (ho : o.op = .load t x)
   (g off : Nat) (hx : a.eval x = .pointer (some ⟨g, off, none⟩)) (cs : List Value) (d : TypeDesc) (hr : ∀ w, Bt ws b w -> w.rangeAt g off cs) (hu : P.underlying t = some d) (hd : d.isRow = true) (hi : (P.info? t).map (·.size) = some cs.length)
   (hK : wpPs P ops ws chain lo Q (k + 1) rest (a.put o.dst (.agg cs.toArray))) : wpPs P ops ws chain lo Q k (o :: rest) a :=
 wpPs_read hg hc hb _ (fun w hw => by
   unfold execOp
   simp only [ho, hx, Instr.loadAt, Instr.sureAddr, Sem.run_bind, Sem.run_pure, Result.andThen_ok, run_loadVar_mid w g off t cs d (hr w hw) hu hd hi]) hK
theorem wpPs_build {Q : Act -> Prop} {a : Act} {o : Oper} {rest : List Oper} {k : Nat} {b : Nat × Nat} (hg : o.guard = none) (hc : chain.contains k = false) (hb : lkp2 lo k = b) (t : TypeId) (parts : Array (Nat × Operand)) (ho : o.op = .build t parts) (vs : List (Nat × Value))
   (hv : (parts.toList.map fun (x : Nat × Operand) => (x.1, a.eval x.2)) = vs) (v : Value) (h : ∀ w, (Instr.build t vs.toArray).run P w = .ok v w) (hK : wpPs P ops ws chain lo Q (k + 1) rest (a.put o.dst v)) : wpPs P ops ws chain lo Q k (o :: rest) a :=
 wpPs_read hg hc hb v (fun w _ => by
   unfold execOp
   simp only [ho, Sem.run_bind]
   have hp : (parts.map fun (i, x) => (i, a.eval x)) = vs.toArray := by
     rw [<- hv]; apply Array.toList_inj.1; rw [Array.toList_map]
   rw [hp, h w]
   rfl) hK
theorem wpPs_lit {Q : Act -> Prop} {a : Act} {o : Oper} {rest : List Oper} {k i : Nat} (hg : o.guard = none) (hc : chain.contains k = true) (hi : ix chain k = i) (t e : TypeId) (x : Operand) (ho : o.op = .buildSlice t 1 #[(0, x)]) (w : World) (cells : List Value) (hx : (a.eval x).cells = cells.toArray)
   (hw : ws[i]? = some w) (hw' : ws[i + 1]? = some (w.alloc (.cells cells.toArray e))) (ie : TypeInfo) (z : Value) (hu : P.underlying t = some (.slice e)) (hie : P.info? e = some ie) (hz : ie.zero = some z) (hs : ie.size = cells.length) (hsm : cells.length <= 1000000) (hpos : 0 < cells.length)
   (hK : wpPs P ops ws chain lo Q (k + 1) rest (a.put o.dst (.slice (some ⟨w.heap.size, 0, none⟩) 1 1))) : wpPs P ops ws chain lo Q k (o :: rest) a :=
 wpPs_turn hg hc hi _ w _ hw hw' (.inl (by
   unfold execOp
   have h := run_buildSlice (P := P) w t e 1 #[(0, a.eval x)] cells.toArray ie z hu hie hz (by omega) (by omega) (by
     rw [<- hx]
     refine fill_one _ _ _ (by simp [hx, hs]) (by simp [hx, hs]))
   simp only [ho, List.map_toArray, List.map_cons, List.map_nil, Sem.run_bind, h, Result.andThen_ok]
   rfl)) hK
theorem wpPs_append {Q : Act -> Prop} {a : Act} {o : Oper} {rest : List Oper} {k i : Nat} (hg : o.guard = none) (hc : chain.contains k = true) (hi : ix chain k = i) (s x : Operand) (t : TypeId) (ho : o.op = .call { callee := .builtin .append, args := #[s, x], argTypes := #[t, t] }) (w w' : World) (v0 v1 v : Value)
   (hs : a.eval s = v0) (hx : a.eval x = v1) (hw : ws[i]? = some w) (hw' : ws[i + 1]? = some w') (h : (Builtin.append_ #[t, t] o.type #[v0, v1]).run P w = .ok v w')
   (hK : wpPs P ops ws chain lo Q (k + 1) rest (a.put o.dst v)) : wpPs P ops ws chain lo Q k (o :: rest) a :=
 wpPs_turn hg hc hi v w w' hw hw' (.inl (by
   unfold execOp
   simp only [ho, resolve, invoke, builtin, Sem.run_bind, Sem.run_pure, Result.andThen_ok, List.map_toArray, List.map_cons, List.map_nil, hs, hx, h])) hK
end
end Go.Proofs.YtchcmklelmlbgaaGreat
namespace Go.Proofs.YtchcmklelmlbgaaGreat.Disk
open Go.RowKit
set_option linter.unusedVariables false
set_option maxRecDepth 100000
def Did (w : World) (g : Nat) (fp : List Nat) (r : St × Int) (e : Ending) (w' : World) : Prop := e = .returned (.int .i64 r.2) /\ ∃ fp', DAt w' g fp' r.1 /\ Keep fp w w' /\ Fresh w fp fp'
theorem Did.same {w : World} {g : Nat} {fp : List Nat} {r : St × Int} {f : Int} (h : DAt w g fp r.1) (hf : f = r.2) : Did w g fp r (.returned (.int .i64 f)) w := ⟨by rw [hf], fp, h, Keep.refl _ _, Fresh.refl _ _⟩
theorem wcells_len {x : Wr} (h : x.2.length = 512) : (wcells x).length = 513 := by simp [wcells, h]
theorem wcells_one (x : Wr) : ∀ v ∈ wcells x, v.oneCell' = true := by
 intro v hv
 simp only [wcells, List.mem_cons] at hv
 rcases hv with rfl | hv
 · rfl
 · exact e8_one _ v hv
theorem infoW : (Tryz.prog.info? 115).map (fun i => (i.zero, i.size, i.bytes)) = some (some (arrV (wcells (0, zero512))), 513, 520) := by kernel_rfl
theorem built_wait (p : Int) (b : List UInt8) (hb : b.length = 512) (w : World) : (Instr.build 115 #[(0, .int .i64 p), (1, .agg (b.map e8).toArray)]).run Tryz.prog w = .ok (arrV (.int .i64 p :: b.map e8)) w := by
 refine run_build w _ _ _ ?_
 have h1 : Tryz.prog.built 115 [(0, .int .i64 p), (1, .agg (b.map e8).toArray)] = Instr.fill ((#[(0, 1), (1, 512)] : Array (Nat × Nat))[·]?) (arrV (wcells (0, zero512))).cells [(0, .int .i64 p), (1, .agg (b.map e8).toArray)] := by kernel_rfl
 show Tryz.prog.built 115 [(0, .int .i64 p), (1, .agg (b.map e8).toArray)] = _
 rw [h1, fill_two _ _ _ _ (by rfl) (by simp [Value.cells, hb]) (by simp [Value.cells, arrV, wcells, zero512, hb])]
 simp [Value.cells]
theorem arrayAt_any (A : Option Addr) (c : Nat) (w : World) : (Instr.arrayAt 113 (.slice A 512 c)).run Tryz.prog w = .ok (.pointer A) w := by
 simp [Instr.arrayAt, run_underlying Tryz.underlying113, go_sem]
theorem push_fin {g g3 c3 : Nat} {fp : List Nat} {s : St} {vk vp va : Value} {acs : List Value} {x : Wr} {w w3 : World} (h : Lies w g fp s vk vp va acs)
   (own3 : w3.ownsRow 0 115 513 (.slice (some ⟨g3, 0, none⟩) (s.pend.length + 1) c3) (s.pend.length + 1) (pcells s.pend ++ wcells x)) (hg3 : w.grownBy w3 vp.ownBlock)
   (hat : (Value.slice (some ⟨g3, 0, none⟩) (s.pend.length + 1) c3).ownBlock = vp.ownBlock \/ (Value.slice (some ⟨g3, 0, none⟩) (s.pend.length + 1) c3).ownBlock = some (w.heap.size + 1)) (hx : okW s.size x) :
   ∃ fp', Lies (w3.setCell ⟨g, 1, none⟩ (.slice (some ⟨g3, 0, none⟩) (s.pend.length + 1) c3)) g fp' { s with pend := s.pend ++ [x] } vk (.slice (some ⟨g3, 0, none⟩) (s.pend.length + 1) c3) va acs /\ Keep fp w (w3.setCell ⟨g, 1, none⟩ (.slice (some ⟨g3, 0, none⟩) (s.pend.length + 1) c3)) /\ Fresh w fp fp' := by
 obtain ⟨v3, hv3⟩ : ∃ v3, v3 = Value.slice (some ⟨g3, 0, none⟩) (s.pend.length + 1) c3 := ⟨_, rfl⟩
 have hv3b : v3.ownBlock = some g3 := by rw [hv3]; rfl
 rw [<- hv3] at own3 hat ⊢
 have k3 : Keep fp w w3 := Keep.of_grown hg3 (fun j e => h.inP j e)
 have k34 : Keep fp w3 (w3.setCell ⟨g, 1, none⟩ v3) := (Keep.refl fp w3).set (.inl h.inG) _
 have k14 := k3.trans k34 (Fresh.refl _ _)
 have hPg := own_type h.pend h.blk (by decide)
 have hAg := own_type h.all h.blk (by decide)
 have hKg := own_type h.kept h.blk (by decide)
 have hgl := lt_of_block h.blk
 have e3 : w3.heap[g]? = _ := (hg3.block g hgl (fun e => hPg e.symm)).trans h.blk
 have h3g := own_type own3 e3 (by decide)
 have hown : ∀ {v : Value} {e : TypeId} {size n : Nat} {xs : List Value}, w.ownsRow 0 e size v n xs -> 115 ≠ e -> v.ownBlock ≠ some g -> (w3.setCell ⟨g, 1, none⟩ v3).ownsRow 0 e size v n xs := fun {v e size n xs} ho hne hng =>
   own_grown (own_grown ho hg3 (fun k hk e2 => by
     rcases ho.2 with ⟨hv, _⟩ | ⟨q, cap, cur, hv, _, hh, _⟩
     · rw [hv] at hk; simp [Value.ownBlock] at hk
     · have : q = k := by rw [hv] at hk; simpa [Value.ownBlock] using hk
       subst this
       exact own_type h.pend hh hne e2)) (grown_set _ _ _) (fun k hk e2 => hng (by rw [hk]; exact e2.symm))
 refine ⟨g3 :: fp, ⟨?_, hown h.kept (by decide) hKg, ?_, hown h.all (by decide) hAg, ?_, by simp [h.inG], fun j hj => by simp [h.inK j hj], fun j hj => by rw [hv3b] at hj; injection hj with hj; simp [hj], fun j hj => by simp [h.inA j hj], ?_, ?_⟩, k14, ?_⟩
 · simp [World.setCell, Array.getElem?_modify, e3]
 · have hpc : pcells (s.pend ++ [x]) = pcells s.pend ++ wcells x := by simp [pcells]
   rw [hpc]
   simp only [List.length_append, List.length_singleton]
   exact own_grown own3 (grown_set _ _ _) (fun k hk e => h3g (by rw [hk]; exact e.symm))
 · intro i hi
   obtain ⟨q, c, q1, q2, q3, q4, q5, q6, q7⟩ := h.told i hi
   refine ⟨q, c, q1, q2, ?_, by simp [q4], q5, q6, q7⟩
   refine (heap_setCell_other w3 _ q v3 ?_).trans ((hg3.block q (h.lt q q4) (fun e => own_type h.pend q3 (by decide) e.symm)).trans q3)
   intro e
   have e' : q = g := e
   subst e'
   have := h.blk
   unfold BlkT at q3
   rw [q3] at this
   injection this with this
   injection this with e1 e2 e3
   exact absurd e2 (by decide)
 · intro j hj
   simp only [List.mem_cons] at hj
   rcases hj with rfl | hj
   · have hs4 : (w3.setCell ⟨g, 1, none⟩ v3).heap.size = w3.heap.size := by simp [World.setCell]
     rw [hs4]; exact (own3.lt _ hv3b).2
   · exact Nat.lt_of_lt_of_le (h.lt j hj) k14.size
 · exact ⟨h.ok.size, fun y hy => by
     rcases List.mem_append.1 hy with hy | hy
     · exact h.ok.pend y hy
     · rw [List.mem_singleton] at hy; subst hy; exact hx, h.ok.all, h.ok.fuse⟩
 · intro j hj
   simp only [List.mem_cons] at hj
   rcases hj with rfl | hj
   · rcases hat with e | e
     · rw [hv3b] at e; exact .inl (h.inP _ e.symm)
     · rw [hv3b] at e; injection e with e; exact .inr (by omega)
   · exact .inl hj
end Go.Proofs.YtchcmklelmlbgaaGreat.Disk
namespace Go.Proofs.YtchcmklelmlbgaaGreat.Disk
open Go.RowKit
set_option linter.unusedVariables false
set_option maxRecDepth 100000
theorem heap6 {w : World} {g : Nat} {fp : List Nat} {s : St} {vk vp va : Value} {acs : List Value} (h : Lies w g fp s vk vp va acs) : w.cell? ⟨g, 1, none⟩ = some vp /\ w.frozen? ⟨g, 1, none⟩ = false /\ g < w.heap.size := by
 obtain ⟨_, c1, _, _, _, _, fr⟩ := six h.blk
 exact ⟨c1, fr 1, lt_of_block h.blk⟩
set_option maxHeartbeats 1000000 in
theorem write_any (g : Nat) (fp : List Nat) (s : St) (p : Int) (A : Option Addr) (n c : Nat) (b : List UInt8) (w : World) (h : DAt w g fp s) (hs : s.sz <= 999999999) (hn : n = b.length) (hr : RdN w fp A (b.map e8)) :
   Calls Tryz.prog 73 #[.pointer (some ⟨g, 0, none⟩), .int .i64 p, .slice A n c] w (Did w g fp (write s p b)) := by
 subst hn
 have hdn := Lib.hid (down_any g fp s w h)
 have has := Lib.hid (asked_any g fp s p w h)
 cases hd : s.down with
 | true =>
   have hw : write s p b = (s, 12) := by unfold write; rw [if_pos hd]
   rw [hw]
   rw [hd] at hdn
   clear hw hd
   go_enter Tryz.func73, Tryz.ntmps73
   go_wp2_with fail
   refine hdn.out.mono ?_
   rintro e w1 ⟨rfl, rfl⟩
   go_wp2
   go_ret
   exact Did.same h rfl
 | false =>
   rw [hd] at hdn
   by_cases hp : p < 0 \/ (s.size : Int) <= p
   · have hw : write s p b = (s, 2) := by unfold write; rw [if_neg (by simp [hd]), if_pos hp]
     have hf : askF s p = 2 := if_pos hp
     rw [hf] at has
     rw [hw]
     clear hw hd hp hf
     go_enter Tryz.func73, Tryz.ntmps73
     go_wp2_with fail
     refine hdn.out.mono ?_
     rintro e w1 ⟨rfl, rfl⟩
     go_wp2_with fail
     refine has.out.mono ?_
     rintro e w1 ⟨rfl, rfl⟩
     go_wp2
     go_ret
     exact Did.same h rfl
   · have hf : askF s p = 0 := if_neg hp
     rw [hf] at has
     by_cases hl : b.length = 512
     · have hw : write s p b = burn { s with pend := s.pend ++ [(p.toNat, b)] } := by unfold write; rw [if_neg (by simp [hd]), if_neg hp, if_neg (by omega)]
       rw [hw]
       obtain ⟨q, rfl⟩ : ∃ q : Nat, p = (q : Int) := ⟨p.toNat, by omega⟩
       rw [Int.toNat_natCast]
       have hx : okW s.size (q, b) := ⟨by show q < s.size; omega, hl⟩
       obtain ⟨vk, vp, va, acs, hL⟩ := h
       obtain ⟨c1, f1, hgl⟩ := heap6 hL
       obtain ⟨b0, off, rfl, hb0, hbn, hbc⟩ := hr (by intro e; have := congrArg List.length e; simp [hl] at this)
       have hrg : w.rangeAt b0 off (b.map e8) := fun j v hv => by
         obtain ⟨hj, rfl⟩ := List.getElem?_eq_some_iff.1 hv
         exact hbc j hj
       obtain ⟨i0, hi0, hz0, hz1, hz2⟩ := info_parts infoW
       obtain ⟨W1, hW1⟩ : ∃ W1, W1 = w.drew.alloc (.cells (wcells (q, b)).toArray 115) := ⟨_, rfl⟩
       have hrd1 : Rd W1 W1.heap.size (some ⟨w.heap.size, 0, none⟩) (wcells (q, b)) := by rw [hW1]; exact Rd.lit _ _ _ _ _ rfl (by simp)
       have hown1 : W1.ownsRow 0 115 513 vp s.pend.length (pcells s.pend) := by rw [hW1]; exact (show w.drew.ownsRow 0 115 513 vp s.pend.length (pcells s.pend) from hL.pend).alloc _
       obtain ⟨v3, w3, hrun, own3, hg3, hat3⟩ := run_append_rd (P := Tryz.prog) W1 0 75 75 115 i0 _ 513 520 Tryz.underlying75 hi0 hz0 hz1 hz2 rfl (by omega) vp s.pend.length _ hown1 W1.heap.size (some ⟨w.heap.size, 0, none⟩) 1 1 (wcells (q, b)) (by rw [wcells_len hl]) hrd1 (wcells_one _) (by simp only [maxLen]; unfold St.sz at hs; omega) (by unfold St.sz at hs; omega) (Nat.zero_le _)
       obtain ⟨g3, c3, rfl, _⟩ := own_some own3 (by omega)
       have hg3' : w.grownBy w3 vp.ownBlock := grown_trans (show w.grownBy W1 vp.ownBlock by rw [hW1]; exact grown_alloc_drew w _ _) hg3
       have hat3' := hat3.imp id (fun e => e.trans (show some W1.heap.size = some (w.heap.size + 1) by rw [hW1]; show some (w.alloc _).heap.size = _; simp))
       have hgP := own_type hL.pend hL.blk (by decide)
       have hc3 : w3.cell? ⟨g, 1, none⟩ = some vp := (World.cell?_of_block (hg3'.block g hgl (fun e => hgP e.symm))).trans c1
       have hf3 : w3.frozen? ⟨g, 1, none⟩ = false := (World.frozen?_of_block (hg3'.block g hgl (fun e => hgP e.symm))).trans f1
       have hc1 : W1.cell? ⟨g, 1, none⟩ = some vp := by rw [hW1]; exact (World.cell?_of_block (Below.heap_alloc w.drew _ g hgl)).trans c1
       have hfin := push_fin hL own3 hg3' hat3' hx
       have hread : ∀ w', Bt [w.drew, W1, w3, w3.setCell ⟨g, 1, none⟩ (.slice (some ⟨g3, 0, none⟩) (s.pend.length + 1) c3)] (0, 1) w' -> w'.cell? ⟨g, 1, none⟩ = some vp := by
         rintro w' ⟨k, _, hk, hw'⟩
         have hk1 : k <= 1 := hk
         match k, hk1 with
         | 0, _ => injection hw' with hw'; subst hw'; exact c1
         | 1, _ => injection hw' with hw'; subst hw'; exact hc1
       have hrange : ∀ w', Bt [w.drew, W1, w3, w3.setCell ⟨g, 1, none⟩ (.slice (some ⟨g3, 0, none⟩) (s.pend.length + 1) c3)] (0, 0) w' -> w'.rangeAt b0 off (b.map e8) := by
         rintro w' ⟨k, _, hk, hw'⟩
         have hk1 : k <= 0 := hk
         match k, hk1 with
         | 0, _ => injection hw' with hw'; subst hw'; exact hrg
       have hbuild := fun w => built_wait (q : Int) b hl w
       have harr : ∀ w, (Instr.arrayAt 113 (.slice (some ⟨b0, off, none⟩) b.length c)).run Tryz.prog w = .ok (.pointer (some ⟨b0, off, none⟩)) w := fun w => by rw [hl]; exact arrayAt_any _ c w
       have hszb := szBl hl
       have hub := Tryz.underlying113
       have hlI : ((b.length : Int) != 512) = false := by rw [bne_eq_false_iff_eq]; omega
       have Hl := Lib.hid hl
       have HW1 := Lib.hid hW1
       clear hw hd hp hf hl hW1 hrd1 hown1 hbc
       go_enter Tryz.func73, Tryz.ntmps73
       go_wp2_with fail
       refine hdn.out.mono ?_
       rintro e w1 ⟨rfl, rfl⟩
       go_wp2_with fail
       refine has.out.mono ?_
       rintro e w1 ⟨rfl, rfl⟩
       go_wp2
       refine region_steps 0 [10, 11, 14] [(4, (0, 1)), (8, (0, 0))] [w.drew, W1, w3, w3.setCell ⟨g, 1, none⟩ (.slice (some ⟨g3, 0, none⟩) (s.pend.length + 1) c3)] (by kernel_rfl) (by kernel_rfl) (by kernel_rfl) (by decide) rfl rfl ?_
       repeat (first
         | ((with_reducible show wpPs _ _ _ _ _ _ _ (⟨some 23, _, _, _, _, _⟩ :: _) _); refine wpPs_read rfl (by rfl) (by rfl) vp ?_ ?_; (· intro w' hw'; have hcw := hread w' hw'; go_simp); go_frame)
         | ((with_reducible show wpPs _ _ _ _ _ _ _ (⟨some 27, _, _, _, _, _⟩ :: _) _); refine wpPs_mid rfl (by rfl) (by rfl) _ _ rfl b0 off rfl (b.map e8) _ hrange hub rfl hszb ?_; go_frame)
         | ((with_reducible show wpPs _ _ _ _ _ _ _ (⟨some 28, _, _, _, _, _⟩ :: _) _); refine wpPs_build rfl (by rfl) (by rfl) _ _ rfl [(0, .int .i64 (q : Int)), (1, .agg (b.map e8).toArray)] rfl (arrV (.int .i64 (q : Int) :: b.map e8)) hbuild ?_; go_frame)
         | ((with_reducible show wpPs _ _ _ _ _ _ _ (⟨some 29, _, _, _, _, _⟩ :: _) _); refine wpPs_lit rfl (by rfl) (by rfl) _ 115 _ rfl w.drew (wcells (q, b)) rfl rfl (by rw [HW1.out]; rfl) i0 _ Tryz.underlying75 hi0 hz0 (by rw [hz1, wcells_len Hl.out]) (by rw [wcells_len Hl.out]; omega) (by rw [wcells_len Hl.out]; omega) ?_; go_frame)
         | ((with_reducible show wpPs _ _ _ _ _ _ _ (⟨some 30, _, _, _, _, _⟩ :: _) _); refine wpPs_append rfl (by rfl) (by rfl) _ _ _ rfl W1 w3 _ _ _ rfl rfl rfl rfl hrun ?_; go_frame)
         | ((with_reducible show wpPs _ _ _ _ _ _ _ (⟨none, .store _ (.tmp 32) _, _, _, _, _⟩ :: _) _); refine wpPs_turn rfl (by rfl) (by rfl) undef w3 _ rfl rfl ?_ ?_; (· first | (refine .inl ?_; go_simp; done) | (refine .inr ⟨rfl, ?_⟩; go_simp; done)); go_frame)
         | (refine wpPs_read rfl (by rfl) (by rfl) ?_ ?_ ?_; rotate_left; (· intro w' hw'; go_simp; exact rfl); go_frame))
       refine wpPs_nil ?_
       obtain ⟨fp1, hL1, k1, f1'⟩ := hfin
       obtain ⟨w4, hw4⟩ : ∃ w4, w4 = w3.setCell ⟨g, 1, none⟩ (.slice (some ⟨g3, 0, none⟩) (s.pend.length + 1) c3) := ⟨_, rfl⟩
       rw [<- hw4] at hL1 k1 ⊢
       clear hw4 hread hrange hrun own3 hg3 hat3 hg3' hat3' hc3 hf3 hc1 HW1
       go_wp2_with fail
       refine (burn_any g fp1 _ _ _ _ _ w4 hL1 (by unfold St.sz at hs ⊢; simp only [List.length_append, List.length_singleton]; omega)).mono ?_
       rintro e w5 ⟨rfl, hL2, k2⟩
       have fin := Lib.hid (show Did w g fp (burn { s with pend := s.pend ++ [(q, b)] }) _ w5 from ⟨rfl, fp1, ⟨_, _, _, _, hL2⟩, k1.trans (k2.more (by simp [hL1.inG])) f1', f1'⟩)
       clear hL1 hL2 k1 k2 f1'
       go_wp2
       go_ret
       exact fin.out
     · have hw : write s p b = (s, 4) := by unfold write; rw [if_neg (by simp [hd]), if_neg hp, if_pos hl]
       rw [hw]
       have hlI : ((b.length : Int) != 512) = true := by rw [bne_iff_ne]; omega
       clear hw hd hp hf
       go_enter Tryz.func73, Tryz.ntmps73
       go_wp2_with fail
       refine hdn.out.mono ?_
       rintro e w1 ⟨rfl, rfl⟩
       go_wp2_with fail
       refine has.out.mono ?_
       rintro e w1 ⟨rfl, rfl⟩
       go_wp2
       go_ret
       exact Did.same h rfl
end Go.Proofs.YtchcmklelmlbgaaGreat.Disk
namespace Go.Proofs.YtchcmklelmlbgaaGreat.Disk
open Go.RowKit
set_option linter.unusedVariables false
set_option maxRecDepth 100000
set_option maxHeartbeats 400000 in
theorem arm_any (g : Nat) (fp : List Nat) (s : St) (f : Int) (w : World) (h : DAt w g fp s) (h0 : -9223372036854775808 <= f) (h1 : f <= 9223372036854775807) :
   Calls Tryz.prog 30 #[.pointer (some ⟨g, 0, none⟩), .int .i64 f] w fun e w' => e = .returned (.tuple #[]) /\ DAt w' g fp (arm s f) /\ Keep [g] w w' := by
 obtain ⟨vk, vp, va, acs, hL⟩ := h
 obtain ⟨_, _, _, c3, c4, c5, fr⟩ := six hL.blk
 have hblk := Lib.hid hL.blk
 have fin : ∀ x : Int, x = max f (-1) -> DAt (w.setCell ⟨g, 3, none⟩ (.int .i64 x)) g fp (arm s f) /\ Keep [g] w (w.setCell ⟨g, 3, none⟩ (.int .i64 x)) := fun x hx =>
   ⟨⟨vk, vp, va, acs, hL.turn (keep_set _ _ _ _) (by subst hx; simp [World.setCell, Array.getElem?_modify, hblk.out, arm]) rfl rfl rfl (ok_arm hL.ok h1)⟩, keep_set _ _ _ _⟩
 have Fin := Lib.hid fin
 clear hL fin
 go_enter Tryz.func30, Tryz.ntmps30
 go_wp2
 go_end0
 exact ⟨rfl, Fin.out _ (by omega)⟩
def New8 (w w' : World) (l : List UInt8) (v : Value) : Prop := ∃ A c, v = .slice A l.length c /\ l.length <= c /\ c <= maxLen /\ (l.map e8 ≠ [] -> ∃ b off, A = some ⟨b, off, none⟩ /\ w.heap.size <= b /\ b < w'.heap.size /\ ∀ i (h : i < (l.map e8).length), w'.cell? ⟨b, off + i, none⟩ = some (l.map e8)[i])
theorem New8.nil (w w' : World) : New8 w w' [] (.slice none 0 0) := ⟨none, 0, rfl, Nat.le_refl _, by unfold maxLen; omega, fun h => absurd rfl h⟩
theorem New8.blk {w w' : World} {l : List UInt8} {b n : Nat} (hb : w.heap.size <= b) (h : Blk w' b (l.map e8)) (hn : l.length = n) (hm : l.length <= maxLen) : New8 w w' l (.slice (some ⟨b, 0, none⟩) n n) := by
 subst hn
 exact ⟨_, _, rfl, Nat.le_refl _, hm, fun _ => ⟨b, 0, rfl, hb, h.lt, fun i hi => by rw [Nat.zero_add]; exact h.cell hi⟩⟩
theorem New8.rdN {w w' : World} {l : List UInt8} {v : Value} (h : New8 w w' l v) {fp : List Nat} (hf : ∀ j ∈ fp, j < w.heap.size) : ∃ A c, v = .slice A l.length c /\ l.length <= c /\ c <= maxLen /\ RdN w' fp A (l.map e8) := by
 obtain ⟨A, c, rfl, h1, h2, h3⟩ := h
 refine ⟨A, c, rfl, h1, h2, fun hne => ?_⟩
 obtain ⟨b, off, rfl, hb, hlt, hc⟩ := h3 hne
 exact ⟨b, off, rfl, hlt, fun e => by have := hf b e; omega, hc⟩
theorem zeroB (w : World) : (zeroValue 113).run Tryz.prog w = .ok (arrV (zero512.map e8)) w := by kernel_rfl
set_option maxHeartbeats 800000 in
theorem kept_any (g : Nat) (fp : List Nat) (s : St) (p : Int) (w : World) (h : DAt w g fp s) :
   Calls Tryz.prog 126 #[.pointer (some ⟨g, 0, none⟩), .int .i64 p] w fun e w' => ∃ v, e = .returned v /\ New8 w w' (keptAt s p) v /\ Below w.heap.size w w' := by
 have has := Lib.hid (asked_any g fp s p w h)
 by_cases hp : p < 0 \/ (s.size : Int) <= p
 · have hw : keptAt s p = [] := if_pos hp
   have hf : askF s p = 2 := if_pos hp
   rw [hf] at has
   rw [hw]
   clear hw hp hf
   go_enter Tryz.func126, Tryz.ntmps126
   go_wp2_with fail
   refine has.out.mono ?_
   rintro e w1 ⟨rfl, rfl⟩
   go_wp2
   go_ret
   exact ⟨_, rfl, New8.nil _ _, Below.refl _ _⟩
 · have hf : askF s p = 0 := if_neg hp
   have hw : keptAt s p = kept s.all p.toNat := if_neg hp
   rw [hf] at has
   rw [hw]
   obtain ⟨q, rfl⟩ : ∃ q : Nat, p = (q : Int) := ⟨p.toNat, by omega⟩
   rw [Int.toNat_natCast]
   obtain ⟨vk, vp, va, acs, hL⟩ := h
   have hqs : q < s.size := by omega
   obtain ⟨gk, ck, rfl, _⟩ := own_some hL.kept (by omega)
   obtain ⟨c0, _, _, _, _, _, fr⟩ := six hL.blk
   have hkl := kept_len hL.ok.all q
   have hrg : w.rangeAt gk (q * 512) ((kept s.all q).map e8) := own_range hL.kept (fun j hj => by
     rw [List.length_map, hkl] at hj
     have := flat_at (fun x => (kept s.all x).map e8) 512 (List.range s.size) (fun x _ => by rw [List.length_map, kept_len hL.ok.all]) q j (by simpa using hqs) hj
     rw [List.getElem_range] at this
     exact this)
   obtain ⟨K, hK⟩ : ∃ K, K = kept s.all q := ⟨_, rfl⟩
   rw [<- hK] at hrg hkl ⊢
   have hszb := szBl hkl
   have hub := Tryz.underlying113
   have hqI : (q : Int) < (s.size : Int) := by omega
   have hsz0 : (Tryz.prog.info? 113).map (·.size) = some (K.map e8).length := hszb
   have Hkl := Lib.hid hkl
   clear hw hp hf hK hkl hL
   go_enter Tryz.func126, Tryz.ntmps126
   go_wp2_with fail
   refine has.out.mono ?_
   rintro e w1 ⟨rfl, rfl⟩
   go_wp2_with (first
     | ((with_reducible show wpList _ _ _ (⟨some 16, _, _, _, _, _⟩ :: _) _ _); refine wpList_load_mid rfl _ _ rfl gk (q * 512) rfl (K.map e8) _ hrg hub rfl hszb ?_)
     | ((with_reducible show wpList _ _ _ (⟨some 5, _, _, _, _, _⟩ :: _) _ _); refine wpList_allocN rfl _ rfl (zero512.map e8) zeroB ?_; intro w1 hb1 bw1 hs1)
     | ((with_reducible show wpList _ _ _ (⟨none, .store 113 (.tmp 5) _, _, _, _, _⟩ :: _) _ _); refine wpList_storeN rfl _ _ _ rfl rfl (ys := K.map e8) rfl hb1 (by rw [List.length_map, List.length_map, Hkl.out]; rfl) (e8_one _) hszb ?_; intro w2 hb2 hg2))
   go_ret
   exact ⟨_, rfl, New8.blk (Nat.le_refl _) hb2 Hkl.out (by rw [Hkl.out]; unfold maxLen; omega), below_row bw1 hg2 (Nat.le_refl _) bw1.size⟩
theorem infoB : (Tryz.prog.info? 113).map (fun i => (i.zero, i.size, i.bytes)) = some (some (arrV (zero512.map e8)), 512, 512) := by kernel_rfl
theorem made_flat (n : Nat) : (madeCells (arrV (zero512.map e8)).cells (n * 512)).toList = kcells n [] := by
 have h1 : kcells n [] = List.replicate (n * 512) (e8 0) := by
   rw [List.eq_replicate_iff]
   refine ⟨by rw [kcells, flat_len _ 512 _ (fun q _ => by rw [List.length_map, kept_nil, zero512_len]), List.length_range], fun v hv => ?_⟩
   obtain ⟨q, _, hq⟩ := List.mem_flatMap.1 hv
   obtain ⟨x, hx, rfl⟩ := List.mem_map.1 hq
   rw [kept_nil, zero512, List.mem_replicate] at hx
   rw [hx.2]
 rw [h1, List.eq_replicate_iff]
 refine ⟨by simp [madeCells], fun v hv => ?_⟩
 have hz : (arrV (zero512.map e8)).cells = (List.replicate 512 (e8 0)).toArray := by rw [arrV_cells, zero512, List.map_replicate]
 rw [hz] at hv
 simp only [madeCells, Array.toList_map, Array.toList_range, List.mem_map, List.mem_range] at hv
 obtain ⟨i, _, rfl⟩ := hv
 have : i % (List.replicate 512 (e8 0)).toArray.size < (List.replicate 512 (e8 0)).toArray.size := Nat.mod_lt _ (by simp)
 rw [getElem!_pos (List.replicate 512 (e8 0)).toArray _ this, List.getElem_toArray, List.getElem_replicate]
set_option maxHeartbeats 800000 in
theorem new_any (n : Int) (w : World) (h0 : -9223372036854775808 <= n) (h1 : n <= 9223372036854775807) :
   Calls Tryz.prog 11 #[.int .i64 n] w fun e w' => (if n < 1 \/ 1024 < n then e = .returned (.tuple #[.pointer none, .int .i64 2]) else ∃ g fp, e = .returned (.tuple #[.pointer (some ⟨g, 0, none⟩), .int .i64 0]) /\ DAt w' g fp (new n.toNat) /\ ∀ j ∈ fp, w.heap.size <= j) /\ Below w.heap.size w w' := by
 by_cases hb : n < 1 \/ 1024 < n
 · simp only [if_pos hb]
   by_cases ha : n < 1
   · clear hb
     go_enter Tryz.func11, Tryz.ntmps11
     go_wp2
     go_ret2
     exact ⟨rfl, Below.refl _ _⟩
   · have hc : 1024 < n := by omega
     clear hb
     go_enter Tryz.func11, Tryz.ntmps11
     go_wp2
     go_ret2
     exact ⟨rfl, Below.refl _ _⟩
 · simp only [if_neg hb]
   obtain ⟨m, rfl⟩ : ∃ m : Nat, n = (m : Int) := ⟨n.toNat, by omega⟩
   have ha : ¬ (m : Int) < 1 := fun h => hb (.inl h)
   have hc : ¬ 1024 < (m : Int) := fun h => hb (.inr h)
   obtain ⟨i0, hi0, hz0, hz1, hz2⟩ := info_parts infoB
   clear hb
   go_enter Tryz.func11, Tryz.ntmps11
   go_wp2_with ((with_reducible show wpList _ _ _ (⟨some 11, _, _, _, _, _⟩ :: _) _ _); refine wpList_make_full _ rfl _ _ _ rfl 0 113 i0 _ 512 Tryz.underlying74 hi0 hz0 hz1 _ _ _ _ m rfl rfl rfl rfl (by rw [hz2]; omega) (by simp only [maxLen]; omega) (Nat.zero_le _) ?_; intro w1 own1 hg1)
   go_ret2
   rw [made_flat] at own1
   have b1 : Below w.heap.size w w1 := (Below.refl _ _).grown hg1 (Nat.le_refl _) (by simp)
   have hgl : w.heap.size < w1.heap.size := (own1.lt _ rfl).2
   refine ⟨⟨w1.heap.size, rfl, [w1.heap.size, w.heap.size], ⟨_, _, _, [], ⟨heap_alloc_new w1 _, own1.alloc _, own_nil _ _ _ _, own_nil _ _ _ _, fun i hi => absurd hi (by simp [new]), by simp, fun j hj => ?_, fun j hj => ?_, fun j hj => ?_, ?_, ok_new (by omega) (by omega)⟩⟩, ?_⟩, bt b1 (b1alloc _ _)⟩
   · simp [Value.ownBlock] at hj; simp [hj]
   · simp [Value.ownBlock] at hj
   · simp [Value.ownBlock] at hj
   · intro j hj; simp at hj; rcases hj with rfl | rfl <;> simp <;> omega
   · intro j hj; simp at hj; rcases hj with rfl | rfl <;> omega
end Go.Proofs.YtchcmklelmlbgaaGreat.Disk
namespace Go.Proofs.YtchcmklelmlbgaaGreat.Disk
open Go.RowKit
set_option linter.unusedVariables false
set_option maxRecDepth 100000
theorem Lies.clear {w : World} {g : Nat} {fp : List Nat} {s : St} {vk vp va : Value} {acs : List Value} (h : Lies w g fp s vk vp va acs) : Lies (w.setCell ⟨g, 1, none⟩ (.slice none 0 0)) g fp { s with pend := [] } vk (.slice none 0 0) va acs /\ Keep [g] w (w.setCell ⟨g, 1, none⟩ (.slice none 0 0)) := by
 have k := keep_set w g 1 (.slice none 0 0)
 have hK := own_type h.kept h.blk (by decide)
 have hA := own_type h.all h.blk (by decide)
 refine ⟨⟨by simp [World.setCell, Array.getElem?_modify, h.blk], ?_, own_nil _ _ _ _, ?_, ?_, h.inG, h.inK, fun j hj => by simp [Value.ownBlock] at hj, h.inA, fun j hj => Nat.lt_of_lt_of_le (h.lt j hj) k.size, ⟨h.ok.size, (by intro x hx; cases hx), h.ok.all, h.ok.fuse⟩⟩, k⟩
 · exact own_keep h.kept k (fun j hj e => by rw [List.mem_singleton] at e; subst e; exact hK hj)
 · exact own_keep h.all k (fun j hj e => by rw [List.mem_singleton] at e; subst e; exact hA hj)
 · intro i hi
   obtain ⟨b, c, h1, h2, h3, h4, h5⟩ := h.told i hi
   refine ⟨b, c, h1, h2, (k.block (h.lt b h4) ?_).trans h3, h4, h5⟩
   intro e
   rw [List.mem_singleton] at e
   subst e
   have := h.blk
   unfold BlkT at h3
   rw [h3] at this
   injection this with this
   injection this with e1 e2 e3
   exact absurd e2 (by decide)
theorem pend_range {w : World} {g : Nat} {fp : List Nat} {s : St} {vk va : Value} {acs : List Value} {gp cp : Nat} (h : Lies w g fp s vk (.slice (some ⟨gp, 0, none⟩) s.pend.length cp) va acs) (k : Nat) (hk : k < s.pend.length) :
   w.rangeAt gp (k * 513) (wcells s.pend[k]) := own_range h.pend (fun j hj => by
 have hl := (h.ok.pend _ (List.getElem_mem hk)).2
 rw [wcells_len hl] at hj
 exact flat_at wcells 513 s.pend (fun x hx => wcells_len (h.ok.pend x hx).2) k j hk hj)
theorem zeroW (w : World) : (zeroValue 115).run Tryz.prog w = .ok (arrV (wcells (0, zero512))) w := by kernel_rfl
theorem wcells_szW {x : Wr} (h : x.2.length = 512) : (Tryz.prog.info? 115).map (·.size) = some (wcells x).length := by rw [wcells_len h]; exact szW
theorem blk_bytes {w : World} {b : Nat} {x : Wr} (h : Blk w b (wcells x)) : w.rangeAt b 1 (x.2.map e8) := fun j v hv => by
 obtain ⟨hj, rfl⟩ := List.getElem?_eq_some_iff.1 hv
 have := h.cell (k := 1 + j) (by simp [wcells]; simp at hj; omega)
 rw [this]
 simp only [wcells, Nat.add_comm 1 j, List.getElem_cons_succ]
def more (s : St) (k : Nat) : St := { s with all := s.all ++ s.pend.take k }
theorem more_zero (s : St) : more s 0 = s := by simp [more]
theorem more_succ (s : St) (k : Nat) (h : k < s.pend.length) : { more s k with all := (more s k).all ++ [(s.pend[k].1, s.pend[k].2)] } = more s (k + 1) := by
 simp only [more, List.append_assoc, List.take_succ_eq_append_getElem h]
theorem more_sz (s : St) (k : Nat) : (more s k).sz <= 2 * s.sz := by
 unfold St.sz more
 simp only [List.length_append, List.length_take]
 omega
set_option maxHeartbeats 2000000 in
theorem flush_any (g : Nat) (fp : List Nat) (s : St) (w : World) (h : DAt w g fp s) (hs : s.sz <= 100000000) : Calls Tryz.prog 75 #[.pointer (some ⟨g, 0, none⟩)] w (Did w g fp (flush s)) := by
 obtain ⟨vk, vp, va, acs, hL⟩ := h
 obtain ⟨_, _, _, _, _, c5, fr⟩ := six hL.blk
 cases hd : s.down with
 | true =>
   have hw : flush s = (s, 12) := by unfold flush; rw [if_pos hd]
   rw [hw]
   have fin := Lib.hid (show Did w g fp (s, 12) (.returned (.int .i64 12)) w from Did.same ⟨_, _, _, _, hL⟩ rfl)
   rw [hd] at c5
   clear hw hd hL
   go_enter Tryz.func75, Tryz.ntmps75
   go_wp2
   go_ret
   exact fin.out
 | false =>
   have hbu := burn_any g fp s vk vp va acs w hL (by omega)
   rw [hd] at c5
   by_cases hb : (burn s).2 = 0
   · have hw : flush s = ({ (burn s).1 with all := s.all ++ s.pend, pend := [] }, 0) := by unfold flush; rw [if_neg (by simp [hd]), if_pos hb]
     rw [hw]
     rw [hb] at hbu
     have Hbu := Lib.hid hbu
     obtain ⟨s1, hs1⟩ : ∃ s1, s1 = (burn s).1 := ⟨_, rfl⟩
     have hbl := burn_lists s
     have hsz1 : s1.sz <= 100000001 := by rw [hs1, sz_burn]; omega
     have hpb : s1.pend.length <= 100000001 := by unfold St.sz at hsz1; omega
     rw [<- hs1] at Hbu ⊢
     have hst : ({ s1 with all := s.all ++ s.pend, pend := [] } : St) = { more s1 s1.pend.length with pend := [] } := by
       rw [more, List.take_length, hs1, hbl.1, hbl.2.1]
     rw [hst]
     clear hw hd hb hbu hs1 hbl hst hs hL
     go_enter Tryz.func75, Tryz.ntmps75
     go_wp2_with fail
     refine Hbu.out.mono ?_
     rintro e w1 ⟨rfl, hL1, k1⟩
     obtain ⟨_, d1, _, _, _, _, fr1⟩ := six hL1.blk
     obtain ⟨Ap, cp, rfl⟩ := own_form hL1.pend
     go_wp2_with fail
     go_loopw [24] (fun i wr => ∃ k : Nat, k <= s1.pend.length /\ i = .int .i64 k /\ ∃ fpk vak acsk, Lies wr g fpk (more s1 k) vk (.slice Ap s1.pend.length cp) vak acsk /\ Keep fp w1 wr /\ Fresh w1 fp fpk) (fun i _ => s1.pend.length - (intOf i).toNat)
     case atStart => exact ⟨0, by omega, rfl, fp, va, acs, by rw [more_zero]; exact hL1, Keep.refl _ _, Fresh.refl _ _⟩
     case round =>
       obtain ⟨k, hk, rfl, fpk, vak, acsk, hLk, kk, fk⟩ := hrel
       by_cases hlt : k < s1.pend.length
       · obtain ⟨gp, cp', e0, _⟩ := own_some hLk.pend (by show 0 < s1.pend.length; omega)
         obtain ⟨rfl, _, rfl⟩ : Ap = some ⟨gp, 0, none⟩ /\ s1.pend.length = s1.pend.length /\ cp = cp' := by injection e0 with e1 e2 e3; exact ⟨e1, rfl, e3⟩
         have hrg := pend_range hLk k hlt
         have hms := Lib.hid (more_succ s1 k hlt)
         have hok := hLk.ok.pend _ (List.getElem_mem hlt)
         simp only [more] at hrg hok
         obtain ⟨x, hx⟩ : ∃ x, x = s1.pend[k] := ⟨_, rfl⟩
         rw [<- hx] at hrg hms hok
         have hszw := wcells_szW hok.2
         have huw := Tryz.underlying115
         have hub := Tryz.underlying113
         have hszb := szBl hok.2
         have hxl := wcells_len hok.2
         have hszm : (more s1 k).sz <= 1000000000 := by have := more_sz s1 k; omega
         have hpk : x.1 < (more s1 k).size := hok.1
         have hok2 := hok.2
         clear hx e0
         go_wp2_with (first
           | ((with_reducible show wpList _ _ _ (⟨some 27, _, _, _, _, _⟩ :: _) _ _); refine wpList_load_mid rfl _ _ rfl gp (k * 513) rfl (wcells x) _ hrg huw rfl hszw ?_)
           | ((with_reducible show wpList _ _ _ (⟨some 5, _, _, _, _, _⟩ :: _) _ _); refine wpList_allocN rfl _ rfl (wcells (0, zero512)) zeroW ?_; intro w2 hb2 bw2 hs2)
           | ((with_reducible show wpList _ _ _ (⟨none, .store 115 (.tmp 5) _, _, _, _, _⟩ :: _) _ _); refine wpList_storeN rfl _ _ _ rfl rfl (ys := wcells x) rfl hb2 (by rw [hxl, wcells_len (by rfl)]) (wcells_one _) hszw ?_; intro w3 hb3 hg3; have hq0 := hb3.cell (k := 0) (by rw [hxl]; omega); have hq1 := blk_bytes hb3)
           | ((with_reducible show wpList _ _ _ (⟨some 32, _, _, _, _, _⟩ :: _) _ _); refine wpList_load_mid rfl _ _ rfl wr.heap.size 1 rfl (x.2.map e8) _ hq1 hub rfl hszb ?_))
         have b3 := below_row bw2 hg3 (Nat.le_refl _) bw2.size
         refine (keep_any g fpk (more s1 k) vk _ vak acsk x.1 x.2 w3 (hLk.on b3) hszm hpk hok2).mono ?_
         rintro e w4 ⟨rfl, fp4, va4, acs4, hL4, k4, f4⟩
         rw [hms.out] at hL4
         have k5 := (kk.trans (Keep.of_below b3 fp) (Fresh.refl _ _)).trans k4 fk
         have f5 := fk.trans (Nat.le_trans kk.size b3.size) f4
         clear k4 f4 hb2 hb3 hg3 bw2 b3 hq0 hq1 hLk
         go_wp2
         go_roundw
         case rel => exact ⟨k + 1, by omega, by go_num, fp4, va4, acs4, hL4, k5, f5⟩
         case measure => simp [intOf]; omega
       · obtain rfl : k = s1.pend.length := by omega
         obtain ⟨_, e1, _, _, _, _, fr2⟩ := six hLk.blk
         have fr21 := fr2 1
         have hcl := hLk.clear
         have fin := Lib.hid (show Did w g fp ({ more s1 s1.pend.length with pend := [] }, 0) (.returned (.int .i64 0)) (wr.setCell ⟨g, 1, none⟩ (.slice none 0 0)) from
           ⟨rfl, fpk, ⟨_, _, _, _, hcl.1⟩, ((k1.more (fun j hj => by rw [List.mem_singleton] at hj; subst hj; exact hL1.inG)).trans kk (Fresh.refl _ _)).trans (hcl.2.more (fun j hj => by rw [List.mem_singleton] at hj; subst hj; exact hL1.inG)) (Fresh.refl _ _), fun j hj => (fk j hj).imp id (fun h => Nat.le_trans k1.size h)⟩)
         clear hcl hLk kk fk k1 hL1
         go_wp2
         go_ret
         exact fin.out
   · have hw : flush s = burn s := by unfold flush; rw [if_neg (by simp [hd]), if_neg hb]
     rw [hw]
     have hne := bne_yes hb
     have Hbu := Lib.hid hbu
     clear hw hd hb hbu hL
     go_enter Tryz.func75, Tryz.ntmps75
     go_wp2_with fail
     refine Hbu.out.mono ?_
     rintro e w1 ⟨rfl, hL1, k1⟩
     have fin := Lib.hid (show Did w g fp (burn s) _ w1 from ⟨rfl, fp, ⟨_, _, _, _, hL1⟩, k1.more (fun j hj => by rw [List.mem_singleton] at hj; subst hj; exact hL1.inG), Fresh.refl _ _⟩)
     clear hL1 k1
     go_wp2
     go_ret
     exact fin.out
end Go.Proofs.YtchcmklelmlbgaaGreat.Disk
namespace Go.Proofs.YtchcmklelmlbgaaGreat.Disk
open Go.RowKit
set_option linter.unusedVariables false
set_option maxRecDepth 100000
section
variable {P : Program} {ops : Array Oper} {ws : List World} {chain : List Nat} {lo : List (Nat × Nat × Nat)}
theorem wpPs_alloc {Q : Act -> Prop} {a : Act} {o : Oper} {rest : List Oper} {k i : Nat} (hg : o.guard = none) (hc : chain.contains k = true) (hi : ix chain k = i) (t : TypeId) (ho : o.op = .alloc t) (w : World) (xs : List Value) (hz : ∀ w, (zeroValue t).run P w = .ok (arrV xs) w)
   (hw : ws[i]? = some w) (hw' : ws[i + 1]? = some (w.alloc (.cells xs.toArray t))) (hK : wpPs P ops ws chain lo Q (k + 1) rest (a.put o.dst (.pointer (some ⟨w.heap.size, 0, none⟩)))) : wpPs P ops ws chain lo Q k (o :: rest) a :=
 wpPs_turn hg hc hi _ w _ hw hw' (.inl (by
   unfold execOp
   simp only [ho]
   simp [Instr.alloc, hz, go_sem, arrV])) hK
theorem wpPs_storeA {Q : Act -> Prop} {a : Act} {o : Oper} {rest : List Oper} {k i : Nat} (hg : o.guard = none) (hc : chain.contains k = true) (hi : ix chain k = i) (t : TypeId) (x y : Operand) (ho : o.op = .store t x y) (w : World) {g : Nat} (hx : a.eval x = .pointer (some ⟨g, 0, none⟩)) {xs ys : List Value} (hy : a.eval y = arrV ys)
   (hb : Blk w g xs) (hl : xs.length = ys.length) (h1 : ∀ v ∈ ys, v.oneCell' = true) (hsz : (P.info? t).map (·.size) = some ys.length)
   (hw : ws[i]? = some w) (hw' : ws[i + 1]? = some (w.setRow g ys.toArray)) (hd : o.dst = none) (hK : wpPs P ops ws chain lo Q (k + 1) rest a) : wpPs P ops ws chain lo Q k (o :: rest) a := by
 have h : ((execOp a.eval o).run P w = .ok (.value undef) (w.setRow g ys.toArray) \/ (undef = undef /\ (execOp a.eval o).run P w = .ok .skip (w.setRow g ys.toArray))) := by
   obtain ⟨t', hb⟩ := hb
   have := run_storeVar_row (P := P) w g t' t _ ys.toArray hb (by simpa using hsz) (by simpa using hl) (by simpa using h1)
   unfold execOp
   simp only [ho, hx, hy]
   first
     | (left; simp [Instr.storeAt, Instr.sureAddr, this, arrV]; done)
     | (right; refine ⟨by trivial, ?_⟩; simp [Instr.storeAt, Instr.sureAddr, this, arrV]; done)
 exact wpPs_turn hg hc hi undef w _ hw hw' h (by rw [hd]; exact hK)
theorem wpPs_copy {Q : Act -> Prop} {a : Act} {o : Oper} {rest : List Oper} {k i : Nat} (hg : o.guard = none) (hc : chain.contains k = true) (hi : ix chain k = i) (s x : Operand) (t t' : TypeId) (ho : o.op = .call { callee := .builtin .copy, args := #[s, x], argTypes := #[t, t'] }) (w w' : World) (v0 v1 v : Value)
   (hs : a.eval s = v0) (hx : a.eval x = v1) (hw : ws[i]? = some w) (hw' : ws[i + 1]? = some w') (h : (Builtin.copy_ #[t, t'] o.type #[v0, v1]).run P w = .ok v w')
   (hK : wpPs P ops ws chain lo Q (k + 1) rest (a.put o.dst v)) : wpPs P ops ws chain lo Q k (o :: rest) a :=
 wpPs_turn hg hc hi v w w' hw hw' (.inl (by
   unfold execOp
   simp only [ho, resolve, invoke, builtin, Sem.run_bind, Sem.run_pure, Result.andThen_ok, List.map_toArray, List.map_cons, List.map_nil, hs, hx, h])) hK
end
theorem i64_and1 (n : Int) : bits .and .i64 n 1 = n % 2 := by
 have h1 : (BitVec.ofInt 64 1).toNat = 2 ^ 1 - 1 := by decide
 have key : (BitVec.ofInt 64 n &&& BitVec.ofInt 64 1).toNat = (n % ((2 ^ 64 : Nat) : Int)).toNat % 2 ^ 1 := by
   rw [BitVec.toNat_and, BitVec.toNat_ofInt, h1, Nat.and_two_pow_sub_one_eq_mod]
 show IntKind.i64.wrap ((BitVec.ofInt 64 n &&& BitVec.ofInt 64 1).toNat : Nat) = n % 2
 rw [key, IntKind.wrap_i64]
 omega
abbrev eI (n : Int) : Value := .int .i64 n
set_option maxHeartbeats 400000 in
theorem whole_any (B : Nat) (keep : List Int) (A : Option Addr) (c i : Nat) (w : World) (hB : w.cell? ⟨B, 0, none⟩ = some (.slice A keep.length c)) (hr : Rd w w.heap.size A (keep.map eI)) (hk : keep.length <= 1000000) (hi : i <= 1000000000) :
   Calls Tryz.prog 65 #[.int .i64 (i : Int), .pointer (some ⟨B, 0, none⟩)] w fun e w' => e = .returned (.bool (whole keep i)) /\ Below w.heap.size w w' := by
 by_cases h0 : 0 < keep.length
 · have hm : i % keep.length < keep.length := Nat.mod_lt _ h0
   obtain ⟨b, off, rfl, hb, hc⟩ := hr.get (k := i % keep.length) (by simpa using hm)
   rw [List.getElem_map] at hc
   have hw : whole keep i = (keep[i % keep.length] % 2 == 1) := by
     unfold whole
     rw [decide_eq_true h0, Bool.true_and, List.getD_eq_getElem?_getD, List.getElem?_eq_getElem hm, Option.getD_some]
     rw [Bool.eq_iff_iff, decide_eq_true_eq, beq_iff_eq]
   rw [hw]
   obtain ⟨x, hx⟩ : ∃ x, x = keep[i % keep.length] := ⟨_, rfl⟩
   rw [<- hx] at hc ⊢
   have h0I : (0 : Int) < (keep.length : Int) := by omega
   have hmI : (i : Int) % (keep.length : Int) = ((i % keep.length : Nat) : Int) := by omega
   obtain ⟨j, hj⟩ : ∃ j, j = i % keep.length := ⟨_, rfl⟩
   rw [<- hj] at hc hmI hm
   have hjI : (j : Int) < (keep.length : Int) := by omega
   have hand := i64_and1 x
   clear hx hw hj
   go_enter Tryz.func65, Tryz.ntmps65
   go_wp2
   go_quiet (fail)
   go_wp2
   go_ret
   exact ⟨rfl, bdrew (Below.refl _ _) _⟩
 · have hw : whole keep i = false := by unfold whole; rw [decide_eq_false h0, Bool.false_and]
   rw [hw]
   obtain rfl : keep = [] := List.eq_nil_of_length_eq_zero (by omega)
   simp only [List.length_nil] at hB
   clear hw h0
   go_enter Tryz.func65, Tryz.ntmps65
   go_wp2
   go_quiet (fail)
   go_wp2
   go_ret
   exact ⟨rfl, by first | exact bdrew (Below.refl _ _) _ | exact (Below.refl _ _).drew⟩
end Go.Proofs.YtchcmklelmlbgaaGreat.Disk
namespace Go.Proofs.YtchcmklelmlbgaaGreat.Disk
open Go.RowKit
set_option linter.unusedVariables false
set_option maxRecDepth 100000
theorem splice_zero (xs ys : List Value) (h : ys.length <= xs.length) : splice xs 0 ys = ys ++ xs.drop ys.length := by
 apply List.ext_getElem?
 intro k
 rw [splice_get _ _ _ _ (by omega)]
 by_cases hk : k < ys.length
 · rw [if_pos ⟨by omega, by omega⟩, List.getElem?_append_left hk, Nat.sub_zero]
 · rw [if_neg (by omega), List.getElem?_append_right (by omega), List.getElem?_drop]
   congr 1; omega
def after (s : St) (keep : List Int) (torn a : Int) (k : Nat) : St := { s with all := fates keep torn a 0 (s.pend.take k) s.all }
theorem after_zero (s : St) (keep : List Int) (torn a : Int) : after s keep torn a 0 = s := by simp [after, fates]
theorem after_succ (s : St) (keep : List Int) (torn a : Int) (k : Nat) (h : k < s.pend.length) : after s keep torn a (k + 1) = { s with all := fate keep torn a k s.pend[k] (after s keep torn a k).all } := by
 simp only [after]
 rw [List.take_succ_eq_append_getElem h, fates_snoc, List.length_take, Nat.zero_add, Nat.min_eq_left (Nat.le_of_lt h)]
theorem after_sz (s : St) (keep : List Int) (torn a : Int) (k : Nat) : (after s keep torn a k).sz <= 2 * s.sz := by
 have := fates_len keep torn a (s.pend.take k) 0 s.all
 rw [List.length_take] at this
 unfold St.sz after
 simp only []
 omega
theorem cut_eq (a : Int) : ((a.tmod 513 + 513) % 513 : Int) = (cutAt a : Int) := by
 have h1 : a.tmod 513 % 513 = a % 513 := by
   have := Int.tmod_add_mul_tdiv a 513
   omega
 unfold cutAt
 omega
theorem tmod_lo (a : Int) : -513 < a.tmod 513 /\ a.tmod 513 < 513 := by
 have h1 : a.tmod 513 < 513 := Int.tmod_lt_of_pos a (by omega)
 have h2 : (-a).tmod 513 < 513 := Int.tmod_lt_of_pos (-a) (by omega)
 have h3 := Int.neg_tmod a 513
 omega
theorem Lies.reset {w : World} {g : Nat} {fp : List Nat} {s : St} {vk vp va : Value} {acs : List Value} (h : Lies w g fp s vk vp va acs) :
   Lies (((w.setCell ⟨g, 1, none⟩ (.slice none 0 0)).setCell ⟨g, 5, none⟩ (.bool false)).setCell ⟨g, 3, none⟩ (.int .i64 (-1))) g fp { s with pend := [], down := false, fuse := -1 } vk (.slice none 0 0) va acs /\
     Keep [g] w (((w.setCell ⟨g, 1, none⟩ (.slice none 0 0)).setCell ⟨g, 5, none⟩ (.bool false)).setCell ⟨g, 3, none⟩ (.int .i64 (-1))) := by
 obtain ⟨h1, k1⟩ := h.clear
 have k2 := (keep_set (w.setCell ⟨g, 1, none⟩ (.slice none 0 0)) g 5 (.bool false)).trans (keep_set _ g 3 (.int .i64 (-1))) (Fresh.refl _ _)
 exact ⟨h1.turn k2 (by simp [World.setCell, Array.getElem?_modify, h.blk]) rfl rfl rfl ⟨h1.ok.size, (by intro x hx; cases hx), h1.ok.all, by constructor <;> simp only [] <;> omega⟩, k1.trans k2 (Fresh.refl _ _)⟩
set_option maxHeartbeats 4000000 in
theorem restart_any (g : Nat) (fp : List Nat) (s : St) (keep : List Int) (A : Option Addr) (n c : Nat) (torn a : Int) (w : World) (h : DAt w g fp s) (hs : s.sz <= 100000000) (hn : n = keep.length) (hr : RdN w fp A (keep.map eI)) (hkl : keep.length <= 1000000)
   (ht0 : -9223372036854775808 <= torn) (ht1 : torn <= 9223372036854775807) (ha0 : -9223372036854775808 <= a) (ha1 : a <= 9223372036854775807) :
   Calls Tryz.prog 32 #[.pointer (some ⟨g, 0, none⟩), .slice A n c, .int .i64 torn, .int .i64 a] w fun e w' => e = .returned (.tuple #[]) /\ ∃ fp', DAt w' g fp' (restart s keep torn a) /\ Keep fp w w' /\ Fresh w fp fp' := by
 subst hn
 obtain ⟨vk, vp, va, acs, hL⟩ := h
 have hcut := cut_eq a
 obtain ⟨htm0, htm1⟩ := tmod_lo a
 have hcl := cutAt_le a
 obtain ⟨m, hm⟩ : ∃ m, m = cutAt a := ⟨_, rfl⟩
 rw [<- hm] at hcut hcl
 obtain ⟨z, hz⟩ : ∃ z, z = a.tmod 513 := ⟨_, rfl⟩
 have Hm := Lib.hid hm
 have Hz := Lib.hid hz
 have hend : after s keep torn a s.pend.length = { s with all := fates keep torn a 0 s.pend s.all } := by rw [after, List.take_length]
 have Hend := Lib.hid hend
 have hpl : s.pend.length <= 100000000 := by unfold St.sz at hs; omega
 have hL1 := hL.on (b1alloc w (.cells #[.slice A keep.length c] 66))
 obtain ⟨_, d1, _, _, _, _, _⟩ := six hL1.blk
 have hbx : (w.alloc (.cells #[.slice A keep.length c] 66)).heap[w.heap.size]? = some (.cells #[.slice A keep.length c] 66 (0, 0)) := heap_alloc_new w _
 have hr1 : RdN (w.alloc (.cells #[.slice A keep.length c] 66)) fp A (keep.map eI) := hr.on (b1alloc _ _)
 have k01 : Keep fp w (w.alloc (.cells #[.slice A keep.length c] 66)) := Keep.of_below (b1alloc _ _) fp
 obtain ⟨Ap, cp, rfl⟩ := own_form hL.pend
 clear hm hz hend
 go_enter Tryz.func32, Tryz.ntmps32
 go_wp2_with fail
 rw [hcut]
 clear d1
 obtain ⟨w1, hw1⟩ : ∃ w1, w1 = w.alloc (.cells #[.slice A keep.length c] 66) := ⟨_, rfl⟩
 rw [<- hw1] at hL1 hbx hr1 k01 ⊢
 have hwl : w.heap.size < w1.heap.size := lt_of_block hbx
 have hwf : w.heap.size ∉ fp := fun e => by have := hL.lt _ e; omega
 clear hw1 hL hr
 go_loopw [25] (fun i wr => ∃ k : Nat, k <= s.pend.length /\ i = .int .i64 k /\ ∃ fpk vak acsk, Lies wr g fpk (after s keep torn a k) vk (.slice Ap s.pend.length cp) vak acsk /\ Keep fp w1 wr /\ Fresh w1 fp fpk) (fun i _ => s.pend.length - (intOf i).toNat)
 case atStart => exact ⟨0, by omega, rfl, fp, va, acs, by rw [after_zero]; exact hL1, Keep.refl _ _, Fresh.refl _ _⟩
 case round =>
   obtain ⟨k, hk, rfl, fpk, vak, acsk, hLk, kk, fk⟩ := hrel
   by_cases hlt : k < s.pend.length
   · obtain ⟨gp, cp', e0, _⟩ := own_some hLk.pend (by show 0 < s.pend.length; omega)
     obtain ⟨rfl, _, rfl⟩ : Ap = some ⟨gp, 0, none⟩ /\ s.pend.length = s.pend.length /\ cp = cp' := by injection e0 with e1 e2 e3; exact ⟨e1, rfl, e3⟩
     have hrg := pend_range hLk k hlt
     have hms := after_succ s keep torn a k hlt
     have hok := hLk.ok.pend _ (List.getElem_mem hlt)
     simp only [after] at hrg hok
     have hokA := hLk.ok.all
     obtain ⟨x, hx⟩ : ∃ x, x = s.pend[k] := ⟨_, rfl⟩
     rw [<- hx] at hrg hms hok
     have hszw := wcells_szW hok.2
     have huw := Tryz.underlying115
     have hub := Tryz.underlying113
     have hszb := szBl hok.2
     have hxl := wcells_len hok.2
     have hszm : (after s keep torn a k).sz <= 1000000000 := by have := after_sz s keep torn a k; omega
     have hpk : x.1 < (after s keep torn a k).size := hok.1
     have hok2 := hok.2
     have hbxk : wr.heap[w.heap.size]? = some (.cells #[.slice A keep.length c] 66 (0, 0)) := (kk.block hwl hwf).trans hbx
     have hrk := hr1.keep kk fk
     clear hx e0
     by_cases hto : (k : Int) = torn
     · have hft : fate keep torn a k x (after s keep torn a k).all = (after s keep torn a k).all ++ [(x.1, x.2.take m ++ (kept (after s keep torn a k).all x.1).drop m)] := by rw [fate, if_pos hto, Hm.out]
       have hK := kept_len hokA x.1
       obtain ⟨K, hKd⟩ : ∃ K, K = kept (after s keep torn a k).all x.1 := ⟨_, rfl⟩
       rw [<- hKd] at hft hK
       rw [hft] at hms
       have tb := beq_yes hto
       have Hms := Lib.hid hms
       have Hto := Lib.hid hto
       obtain ⟨gk, ck, rfl, _⟩ := own_some hLk.kept (by omega)
       obtain ⟨c0, _, _, _, _, _, _⟩ := six hLk.blk
       have hgl : g < wr.heap.size := lt_of_block hLk.blk
       have hkr : wr.rangeAt gk (x.1 * 512) (K.map e8) := own_range hLk.kept (fun j hj => by
         rw [List.length_map, hK] at hj
         have := flat_at (fun y => (kept (after s keep torn a k).all y).map e8) 512 (List.range (after s keep torn a k).size) (fun y _ => by rw [List.length_map, kept_len hokA]) x.1 j (by simpa using hpk) hj
         rw [List.getElem_range] at this
         rw [hKd]
         exact this)
       have hszK := szBl hK
       have hKl : (K.map e8).length = 512 := by rw [List.length_map, hK]
       have hpI : (x.1 : Int) < ((after s keep torn a k).size : Int) := by omega
       have hpI' : (x.1 : Int) < (s.size : Int) := hpI
       clear hms hft hto hKd
       go_wp2_with (first
           | ((with_reducible show wpList _ _ _ (⟨some 29, _, _, _, _, _⟩ :: _) _ _); refine wpList_load_mid rfl _ _ rfl gp (k * 513) rfl (wcells x) _ hrg huw rfl hszw ?_)
           | ((with_reducible show wpList _ _ _ (⟨some 11, _, _, _, _, _⟩ :: _) _ _); refine wpList_allocN rfl _ rfl (wcells (0, zero512)) zeroW ?_; intro w2 hb2 bw2 hs2)
           | ((with_reducible show wpList _ _ _ (⟨none, .store 115 (.tmp 11) _, _, _, _, _⟩ :: _) _ _); refine wpList_storeN rfl _ _ _ rfl rfl (ys := wcells x) rfl hb2 (by rw [hxl, wcells_len (by rfl)]) (wcells_one _) hszw ?_; intro w3 hb3 hg3; have hq0 := hb3.cell (k := 0) (by rw [hxl]; omega); have hq1 := blk_bytes hb3; have b3 := below_row bw2 hg3 (Nat.le_refl _) bw2.size))
       have hgk3 : gk < wr.heap.size := by obtain ⟨cs, hcs⟩ := own_blk hLk.kept; exact lt_of_block hcs
       have d0 : w3.cell? ⟨g, 0, none⟩ = some (.slice (some ⟨gk, 0, none⟩) (after s keep torn a k).size ck) := (b3.cell (p := ⟨g, 0, none⟩) hgl).trans c0
       have dk : w3.rangeAt gk (x.1 * 512) (K.map e8) := fun j v hv => (b3.cell (p := ⟨gk, x.1 * 512 + j, none⟩) hgk3).trans (hkr j v hv)
       obtain ⟨W1, hW1⟩ : ∃ W1, W1 = w3.drew.alloc (.cells (zero512.map e8).toArray 113) := ⟨_, rfl⟩
       have hBl : wr.heap.size < w3.heap.size := hb3.lt
       have hread : ∀ w', Bt [w3.drew, W1, W1.setRow w3.heap.size (K.map e8).toArray] (0, 1) w' -> w'.cell? ⟨g, 0, none⟩ = some (.slice (some ⟨gk, 0, none⟩) (after s keep torn a k).size ck) /\ w'.cell? ⟨wr.heap.size, 0, none⟩ = some (.int .i64 (x.1 : Int)) /\ w'.rangeAt gk (x.1 * 512) (K.map e8) := by
         rintro w' ⟨q, _, hq, hw'⟩
         have hq1' : q <= 1 := hq
         match q, hq1' with
         | 0, _ => injection hw' with hw'; subst hw'; exact ⟨d0, hq0, dk⟩
         | 1, _ =>
           injection hw' with hw'
           subst hw'
           rw [hW1]
           have hB : ∀ p : Addr, p.block < w3.heap.size -> (w3.drew.alloc (.cells (zero512.map e8).toArray 113)).cell? p = w3.cell? p := fun p hp => World.cell?_of_block (Below.heap_alloc w3.drew _ p.block hp)
           exact ⟨(hB ⟨g, 0, none⟩ (Nat.lt_trans hgl hBl)).trans d0, (hB ⟨wr.heap.size, 0, none⟩ hBl).trans hq0, fun j v hv => (hB ⟨gk, x.1 * 512 + j, none⟩ (Nat.lt_trans hgk3 hBl)).trans (dk j v hv)⟩
       have hB1 : Blk W1 w3.heap.size (zero512.map e8) := by rw [hW1]; exact ⟨_, heap_alloc_new w3.drew _⟩
       have HW1 := Lib.hid hW1
       have bW1 : Below w3.heap.size w3 W1 := by rw [hW1]; exact ((Below.refl _ w3).drew).alloc (Nat.le_refl _) _
       clear hW1 d0 dk
       have hzl : (zero512.map e8).length = (K.map e8).length := by rw [hKl, List.length_map]; rfl
       refine region_steps 0 [8, 9] [(3, (0, 1)), (5, (0, 1)), (7, (0, 1))] [w3.drew, W1, W1.setRow w3.heap.size (K.map e8).toArray] (by kernel_rfl) (by kernel_rfl) (by kernel_rfl) (by decide) rfl rfl ?_
       repeat (first
         | ((with_reducible show wpPs _ _ _ _ _ _ _ (⟨some 37, _, _, _, _, _⟩ :: _) _); refine wpPs_read rfl (by rfl) (by rfl) (.slice (some ⟨gk, 0, none⟩) (after s keep torn a k).size ck) ?_ ?_; (· intro w' hw'; have hcw := (hread w' hw').1; go_simp); go_frame)
         | ((with_reducible show wpPs _ _ _ _ _ _ _ (⟨some 39, _, _, _, _, _⟩ :: _) _); refine wpPs_read rfl (by rfl) (by rfl) (.int .i64 (x.1 : Int)) ?_ ?_; (· intro w' hw'; have hcw := (hread w' hw').2.1; go_simp); go_frame)
         | ((with_reducible show wpPs _ _ _ _ _ _ _ (⟨some 41, _, _, _, _, _⟩ :: _) _); refine wpPs_mid rfl (by rfl) (by rfl) _ _ rfl gk (x.1 * 512) rfl (K.map e8) _ (fun w' hw' => (hread w' hw').2.2) hub rfl hszK ?_; go_frame)
         | ((with_reducible show wpPs _ _ _ _ _ _ _ (⟨some 12, _, _, _, _, _⟩ :: _) _); refine wpPs_alloc rfl (by rfl) (by rfl) _ rfl w3.drew (zero512.map e8) zeroB rfl (by rw [HW1.out]; rfl) ?_; go_frame)
         | ((with_reducible show wpPs _ _ _ _ _ _ _ (⟨none, .store _ (.tmp 12) _, _, _, _, _⟩ :: _) _); refine wpPs_storeA rfl (by rfl) (by rfl) _ _ _ rfl W1 rfl (ys := K.map e8) rfl hB1 hzl (e8_one _) hszK rfl rfl rfl ?_)
         | (refine wpPs_read rfl (by rfl) (by rfl) ?_ ?_ ?_; rotate_left; (· intro w' hw'; go_simp; exact rfl); go_frame))
       refine wpPs_nil ?_
       have hB5 : Blk (W1.setRow w3.heap.size (K.map e8).toArray) w3.heap.size (K.map e8) := hB1.setRow
       have b5 : Below w3.heap.size w3 (W1.setRow w3.heap.size (K.map e8).toArray) := below_setRow bW1 (Nat.le_refl _) _
       obtain ⟨w5, hw5⟩ : ∃ w5, w5 = W1.setRow w3.heap.size (K.map e8).toArray := ⟨_, rfl⟩
       rw [<- hw5] at hB5 b5 ⊢
       clear hread hw5 hB1 bW1 HW1
       have hb5 := hb3.on b5
       have hp0 := hb5.cell (k := 0) (by rw [hxl]; omega)
       have hp1 := blk_bytes hb5
       have b35 := bt b3 b5
       obtain ⟨cs, hcs⟩ : ∃ cs, cs = (x.2.take m).map e8 := ⟨_, rfl⟩
       have hcsl : cs.length = m := by rw [hcs, List.length_map, List.length_take]; omega
       have hcopy := fun ty => run_copy_cells (P := Tryz.prog) w5.drew 51 51 ty 5 w3.heap.size 0 m 512 ⟨wr.heap.size, 1, none⟩ 512 512 cs Tryz.underlying51 (by kernel_rfl) (by rw [hcsl]; show m = min 512 m; omega) (fun j v hv => by
         rw [Addr.add_lit]
         refine hp1 j v ?_
         rw [hcs, List.getElem?_map, List.getElem?_take] at hv
         rw [List.getElem?_map]
         split at hv
         · exact hv
         · simp at hv) (fun j hj => by rw [Nat.zero_add, show w5.drew.cell? ⟨w3.heap.size, j, none⟩ = _ from hB5.cell (k := j) (by rw [hKl]; omega)]; rfl) (fun j _ => hB5.free _) (by rw [hcs]; exact e8_one _)
       rw [hcsl] at hcopy
       have hcsl' : cs.length = m := hcsl
       have Hcopy := Lib.hid hcopy
       have hm0 : (0 : Int) <= (m : Int) := by omega
       have hm5 : (m : Int) <= 512 := by omega
       have Hcs := Lib.hid hcs
       clear hcopy hcs hcsl hb3 hb2 hg3 bw2 hs2 hq0 hq1
       go_wp2
       refine region_steps 0 [4] [] [w5.drew, w5.drew.setCells w3.heap.size 0 cs] (by kernel_rfl) (by kernel_rfl) (by kernel_rfl) (by decide) rfl rfl ?_
       repeat (first
         | ((with_reducible show wpPs _ _ _ _ _ _ _ (⟨some 46, _, _, _, _, _⟩ :: _) _); refine wpPs_copy rfl (by rfl) (by rfl) _ _ _ _ rfl w5.drew _ _ _ _ rfl rfl rfl rfl (Hcopy.out _) ?_; go_frame)
         | (refine wpPs_read rfl (by rfl) (by rfl) ?_ ?_ ?_; rotate_left; (· intro w' hw'; go_simp; exact rfl); go_frame))
       refine wpPs_nil ?_
       have hB6 : Blk (w5.drew.setCells w3.heap.size 0 cs) w3.heap.size ((x.2.take m ++ K.drop m).map e8) := by
         have h6 := Blk.setCells cs 0 (w := w5.drew) (hB5.drewN 1)
         rw [splice_zero _ _ (by rw [hcsl', hKl]; omega)] at h6
         rw [List.map_append, <- Hcs.out, List.map_drop]
         rw [hcsl'] at h6
         exact h6
       have g6 : w5.grownBy (w5.drew.setCells w3.heap.size 0 cs) (some w3.heap.size) := grown_trans (show w5.grownBy w5.drew (some w3.heap.size) from ⟨rfl, rfl, rfl, Nat.le_refl _, fun _ _ _ => rfl⟩) (setCells_grown w3.heap.size cs 0 w5.drew)
       have b6 : Below wr.heap.size wr (w5.drew.setCells w3.heap.size 0 cs) := below_row b35 g6 (Nat.le_of_lt hBl) b35.size
       have hp6 : (w5.drew.setCells w3.heap.size 0 cs).cell? ⟨wr.heap.size, 0, none⟩ = some (.int .i64 (x.1 : Int)) := (hb5.grown g6 (fun e => by injection e with e; omega)).cell (k := 0) (by rw [hxl]; omega)
       have hYl : (x.2.take m ++ K.drop m).length = 512 := by rw [List.length_append, List.length_take, List.length_drop]; omega
       obtain ⟨Y, hY⟩ : ∃ Y, Y = x.2.take m ++ K.drop m := ⟨_, rfl⟩
       obtain ⟨w6, hw6⟩ : ∃ w6, w6 = w5.drew.setCells w3.heap.size 0 cs := ⟨_, rfl⟩
       rw [<- hY] at hB6 hYl Hms
       rw [<- hw6] at hB6 b6 hp6 ⊢
       have hszY := szBl hYl
       clear hY hw6 hB5 b5 b35 g6 hb5 hp0 hp1 Hcopy
       go_wp2_with ((with_reducible show wpList _ _ _ (⟨some 50, _, _, _, _, _⟩ :: _) _ _); refine wpList_loadA rfl _ _ rfl rfl hB6 hub hszY ?_)
       refine (keep_any g fpk _ _ _ vak acsk x.1 Y w6 (hLk.on b6) hszm hpk hYl).mono ?_
       rintro e w7 ⟨rfl, fp4, va4, acs4, hL4, k4, f4⟩
       have k5 := (kk.trans (Keep.of_below b6 fp) (Fresh.refl _ _)).trans k4 fk
       have f5 := fk.trans (Nat.le_trans kk.size b6.size) f4
       clear k4 f4 hB6 b3 b6 hp6 hLk
       go_wp2
       go_roundw
       case rel => exact ⟨k + 1, by omega, by go_num, fp4, va4, acs4, by rw [Hms.out]; exact hL4, k5, f5⟩
       case measure => simp [intOf]; omega
     · have tb := beq_no hto
       cases hwh : whole keep k with
       | true =>
         have hft : fate keep torn a k x (after s keep torn a k).all = (after s keep torn a k).all ++ [x] := by rw [fate, if_neg hto, if_pos hwh]
         rw [hft] at hms
         have Hms := Lib.hid hms
         have hcall : ∀ wX, Below wr.heap.size wr wX -> Calls Tryz.prog 65 #[.int .i64 (k : Int), .pointer (some ⟨w.heap.size, 0, none⟩)] wX fun e w' => e = .returned (.bool true) /\ Below wX.heap.size wX w' := fun wX bX => by
           rw [<- hwh]
           exact whole_any w.heap.size keep A c k wX (by rw [World.cell?_of_block (bX.block _ (lt_of_block hbxk))]; exact cell_of_one hbxk) ((hrk.on bX).rd) hkl (by omega)
         have Hcall := Lib.hid hcall
         have Hto := Lib.hid hto
         clear hms hft hwh hcall hto
         go_wp2_with (first
           | ((with_reducible show wpList _ _ _ (⟨some 29, _, _, _, _, _⟩ :: _) _ _); refine wpList_load_mid rfl _ _ rfl gp (k * 513) rfl (wcells x) _ hrg huw rfl hszw ?_)
           | ((with_reducible show wpList _ _ _ (⟨some 11, _, _, _, _, _⟩ :: _) _ _); refine wpList_allocN rfl _ rfl (wcells (0, zero512)) zeroW ?_; intro w2 hb2 bw2 hs2)
           | ((with_reducible show wpList _ _ _ (⟨none, .store 115 (.tmp 11) _, _, _, _, _⟩ :: _) _ _); refine wpList_storeN rfl _ _ _ rfl rfl (ys := wcells x) rfl hb2 (by rw [hxl, wcells_len (by rfl)]) (wcells_one _) hszw ?_; intro w3 hb3 hg3; have hq0 := hb3.cell (k := 0) (by rw [hxl]; omega); have hq1 := blk_bytes hb3; have b3 := below_row bw2 hg3 (Nat.le_refl _) bw2.size))
         refine (Hcall.out _ b3).mono ?_
         rintro e w4 ⟨rfl, b4⟩
         have hb4 := hb3.on b4
         have hp0 := hb4.cell (k := 0) (by rw [hxl]; omega)
         have hp1 := blk_bytes hb4
         have b34 := bt b3 b4
         clear hq0 hq1 hb3 hb2 hg3 bw2 hs2
         go_wp2_with ((with_reducible show wpList _ _ _ (⟨some 60, _, _, _, _, _⟩ :: _) _ _); refine wpList_load_mid rfl _ _ rfl wr.heap.size 1 rfl (x.2.map e8) _ hp1 hub rfl hszb ?_)
         refine (keep_any g fpk _ vk _ vak acsk x.1 x.2 w4 (hLk.on b34) hszm hpk hok2).mono ?_
         rintro e w5 ⟨rfl, fp4, va4, acs4, hL4, k4, f4⟩
         have k5 := (kk.trans (Keep.of_below b34 fp) (Fresh.refl _ _)).trans k4 fk
         have f5 := fk.trans (Nat.le_trans kk.size b34.size) f4
         clear k4 f4 hb4 b3 b34 hp0 hp1 hLk
         go_wp2
         go_roundw
         case rel => exact ⟨k + 1, by omega, by go_num, fp4, va4, acs4, by rw [Hms.out]; exact hL4, k5, f5⟩
         case measure => simp [intOf]; omega
       | false =>
         have hft : fate keep torn a k x (after s keep torn a k).all = (after s keep torn a k).all := by rw [fate, if_neg hto, if_neg (by simp [hwh])]
         rw [hft] at hms
         have Hms := Lib.hid hms
         have hcall : ∀ wX, Below wr.heap.size wr wX -> Calls Tryz.prog 65 #[.int .i64 (k : Int), .pointer (some ⟨w.heap.size, 0, none⟩)] wX fun e w' => e = .returned (.bool false) /\ Below wX.heap.size wX w' := fun wX bX => by
           rw [<- hwh]
           exact whole_any w.heap.size keep A c k wX (by rw [World.cell?_of_block (bX.block _ (lt_of_block hbxk))]; exact cell_of_one hbxk) ((hrk.on bX).rd) hkl (by omega)
         have Hcall := Lib.hid hcall
         have Hto := Lib.hid hto
         clear hms hft hwh hcall hto
         go_wp2_with (first
           | ((with_reducible show wpList _ _ _ (⟨some 29, _, _, _, _, _⟩ :: _) _ _); refine wpList_load_mid rfl _ _ rfl gp (k * 513) rfl (wcells x) _ hrg huw rfl hszw ?_)
           | ((with_reducible show wpList _ _ _ (⟨some 11, _, _, _, _, _⟩ :: _) _ _); refine wpList_allocN rfl _ rfl (wcells (0, zero512)) zeroW ?_; intro w2 hb2 bw2 hs2)
           | ((with_reducible show wpList _ _ _ (⟨none, .store 115 (.tmp 11) _, _, _, _, _⟩ :: _) _ _); refine wpList_storeN rfl _ _ _ rfl rfl (ys := wcells x) rfl hb2 (by rw [hxl, wcells_len (by rfl)]) (wcells_one _) hszw ?_; intro w3 hb3 hg3; have hq0 := hb3.cell (k := 0) (by rw [hxl]; omega); have hq1 := blk_bytes hb3; have b3 := below_row bw2 hg3 (Nat.le_refl _) bw2.size))
         refine (Hcall.out _ b3).mono ?_
         rintro e w4 ⟨rfl, b4⟩
         have b34 := bt b3 b4
         have hL4 := hLk.on b34
         have k5 := kk.trans (Keep.of_below b34 fp) (Fresh.refl _ _)
         clear hq0 hq1 hb3 hb2 hg3 bw2 hs2
         go_wp2
         go_roundw
         case rel => exact ⟨k + 1, by omega, by go_num, fpk, vak, acsk, by rw [Hms.out]; exact hL4, k5, fk⟩
         case measure => simp [intOf]; omega
   · obtain rfl : k = s.pend.length := by omega
     obtain ⟨_, e1, _, e3, _, e5, fr2⟩ := six hLk.blk
     have fr21 := fr2 1
     have fr25 := fr2 5
     have fr23 := fr2 3
     have hrs := hLk.reset
     rw [Hend.out] at hrs
     have fin := Lib.hid (show ∃ fp', DAt (((wr.setCell ⟨g, 1, none⟩ (.slice none 0 0)).setCell ⟨g, 5, none⟩ (.bool false)).setCell ⟨g, 3, none⟩ (.int .i64 (-1))) g fp' (restart s keep torn a) /\ Keep fp w (((wr.setCell ⟨g, 1, none⟩ (.slice none 0 0)).setCell ⟨g, 5, none⟩ (.bool false)).setCell ⟨g, 3, none⟩ (.int .i64 (-1))) /\ Fresh w fp fp' from
       ⟨fpk, ⟨_, _, _, _, hrs.1⟩, (k01.trans kk (Fresh.refl _ _)).trans (hrs.2.more (fun j hj => by rw [List.mem_singleton] at hj; subst hj; exact hL1.inG)) (Fresh.refl _ _), fun j hj => (fk j hj).imp id (fun h => Nat.le_trans k01.size h)⟩)
     clear hrs hLk kk fk hL1
     go_wp2
     go_end0
     exact ⟨rfl, fin.out⟩
end Go.Proofs.YtchcmklelmlbgaaGreat.Disk
namespace Go.Proofs.YtchcmklelmlbgaaGreat.Sl
open Go.RowKit
set_option linter.unusedVariables false
set_option maxRecDepth 100000
theorem info8 : (Tryz.prog.info? 5).map (fun i => (i.zero, i.size, i.bytes)) = some (some (.int .u8 0), 1, 1) := by kernel_rfl
theorem own_empty (w : World) (e : TypeId) (base : Nat) (hb : base <= w.heap.size) : (w.alloc (.cells #[] e)).ownsRow base e 1 (.slice (some ⟨w.heap.size, 0, none⟩) 0 0) 0 [] :=
 ⟨by simp, .inr ⟨w.heap.size, 0, #[], rfl, hb, heap_alloc_new w _, by simp, by simp [maxLen], by simp, by simp⟩⟩
set_option maxHeartbeats 400000 in
theorem clone_any (A : Option Addr) (l : List UInt8) (n c : Nat) (w : World) (hn : n = l.length) (hr : Rd w w.heap.size A (l.map e8)) (hl : l.length <= 1000000000000) :
   Calls Tryz.prog 57 #[.slice A n c] w fun e w' => RetB 5 w l e w' := by
 subst hn
 obtain ⟨i0, hi0, hz0, hz1, hz2⟩ := info_parts info8
 cases A with
 | none =>
   obtain rfl : l = [] := by
     cases l with
     | nil => rfl
     | cons a l => obtain ⟨b, off, h, _⟩ := hr (by simp); cases h
   have heq := Lib.run_eql_slice_nil (P := Tryz.prog) w 51 5 none 0 c 0 0 Tryz.underlying51
   go_enter Tryz.func57, Tryz.ntmps57
   go_wp2
   go_ret
   exact ⟨none, 0, rfl, own_nil _ _ _ _, Below.refl _ _⟩
 | some a =>
   have heq := Lib.run_eql_slice_nil (P := Tryz.prog) w 51 5 (some a) l.length c 0 0 Tryz.underlying51
   go_enter Tryz.func57, Tryz.ntmps57
   go_wp2_with (at_builtin; refine wpList_append_rd _ rfl _ _ _ rfl w.heap.size 5 i0 _ 1 1 Tryz.underlying51 hi0 hz0 hz1 hz2 rfl (by omega) (.slice (some ⟨w.heap.size, 0, none⟩) 0 0) 0 [] rfl (own_empty w _ _ (Nat.le_refl _)) w.heap.size (some a) l.length c (l.map e8) rfl (by simp) (hr.below (b1alloc _ _)) (e8_one _) (by simp only [maxLen]; omega) (by omega) (by simp) ?_; intro v1 w1 hown1 hg1 hat1)
   go_ret
   exact RetB.mk hown1 (by simp) ((b1alloc _ _).grown hg1 (by simp) (fun k hk => by simp [Value.ownBlock] at hk; omega))
end Go.Proofs.YtchcmklelmlbgaaGreat.Sl
namespace Go.Proofs.YtchcmklelmlbgaaGreat.Disk
open Go.RowKit
set_option linter.unusedVariables false
set_option maxRecDepth 100000
theorem own_caps {w : World} {base : Nat} {e : TypeId} {size n c : Nat} {A : Option Addr} {xs : List Value} (h : w.ownsRow base e size (.slice A n c) n xs) : n <= c /\ c <= maxLen := by
 rcases h.2 with ⟨hv, _⟩ | ⟨g, cap, cur, hv, _, _, hnc, hcm, _⟩
 · injection hv with h1 h2 h3; subst h2 h3; exact ⟨Nat.le_refl _, by unfold maxLen; omega⟩
 · injection hv with h1 h2 h3; subst h3; exact ⟨hnc, hcm⟩
end Go.Proofs.YtchcmklelmlbgaaGreat.Disk
namespace Go.Proofs.YtchcmklelmlbgaaGreat.Disk
open Go.RowKit
set_option linter.unusedVariables false
set_option maxRecDepth 100000
theorem BlkT.blk {w : World} {g : Nat} {t : TypeId} {xs : List Value} (h : BlkT w g t xs) : Blk w g xs := ⟨t, h⟩
end Go.Proofs.YtchcmklelmlbgaaGreat.Disk
namespace Go.Proofs.YtchcmklelmlbgaaGreat.Ch
open Go.RowKit Go.Shelf
attribute [local go_sem] Oper.semAt_some
set_option linter.unusedVariables false
theorem wpListIn_append_rd {F : Fence} {n : Nat} {P : Program} (w : World) {ops : Array Oper} {rest : List Oper} {o : Oper} {a : Act} {Q : Exit -> Act -> World -> Prop} (hgd : o.guard = none) (s x : Operand) (t : TypeId)
   (ho : o.op = .call { callee := .builtin .append, args := #[s, x], argTypes := #[t, t] })
   (base : Nat) (e : TypeId) (i : TypeInfo) (z : Value) (size bytes : Nat) (ht : P.underlying t = some (.slice e)) (hi : P.info? e = some i) (hz : i.zero = some z)
   (hsize : i.size = size) (hby : i.bytes = bytes) (hzs : z.cells.size = size) (hsz : 0 < size)
   (v : Value) (k : Nat) (xs : List Value) (hs : a.eval s = v) (hown : w.ownsRow base e size v k xs)
   (B : Nat) (A : Option Addr) (m c : Nat) (news : List Value) (hx : a.eval x = .slice A m c) (hl : news.length = m * size) (hr : Rd w B A news) (h1 : ∀ u ∈ news, u.oneCell' = true)
   (h63 : k + m <= maxLen) (hbytes : (k + m) * bytes <= 140737488355328) (hbase : base <= w.heap.size)
   (h : ∀ v' w', w'.ownsRow base e size v' (k + m) (xs ++ news) -> w.grownBy w' v.ownBlock -> (v'.ownBlock = v.ownBlock \/ v'.ownBlock = some w.heap.size) -> wpListIn F n P ops Q rest (a.put o.dst v') w') : wpListIn F n P ops Q (o :: rest) a w := by
 obtain ⟨v', w', hrun, h2, h3, h4⟩ := run_append_rd (P := P) w base t o.type e i z size bytes ht hi hz hsize hby hzs hsz v k xs hown B A m c news hl hr h1 h63 hbytes hbase
 refine wpListIn_plain hgd fun K hK => ?_
 unfold Oper.wpIn
 refine ⟨by simp [Oper.about, ho, resolve, Target.leads, Sem.run_pure], ?_⟩
 rw [Oper.semAt_plain F _ _ (by rw [ho]; intro c hc'; cases hc')]
 simp [execOp, ho, resolve, invoke, builtin, hs, hx, hrun, Result.andThen]
 exact hK _ _ (h v' w' h2 h3 h4)
theorem keeps_below {W W' : World} (h : Below W.heap.size W W') : KeepsOthers W W' := KeepsOthers.of_grownBy (below_grown h none) (fun j o e => by cases e)
theorem keeps_row {W W' : World} {g : Nat} {xs : List Value} (h : W.grownBy W' (some g)) (hb : Blk W g xs) : KeepsOthers W W' := KeepsOthers.of_grownBy h (fun j o e ho => by
 cases e
 obtain ⟨t, ht⟩ := hb
 rw [ht] at ho
 cases ho
 rfl)
end Go.Proofs.YtchcmklelmlbgaaGreat.Ch
namespace Go.Proofs.YtchcmklelmlbgaaGreat.Disk
open Go.RowKit Go.Shelf
attribute [local go_sem] Oper.semAt_some
set_option linter.unusedVariables false
theorem wpListIn_load_mid {F : Fence} {n : Nat} {P : Program} {w : World} {ops : Array Oper} {rest : List Oper} {o : Oper} {a : Act} {Q : Exit -> Act -> World -> Prop} (hg : o.guard = none) (t : TypeId) (x : Operand) (ho : o.op = .load t x)
   (g off : Nat) (hx : a.eval x = .pointer (some ⟨g, off, none⟩)) (cs : List Value) (d : TypeDesc) (hc : w.rangeAt g off cs) (hu : P.underlying t = some d) (hd : d.isRow = true) (hi : (P.info? t).map (·.size) = some cs.length)
   (h : wpListIn F n P ops Q rest (a.put o.dst (.agg cs.toArray)) w) : wpListIn F n P ops Q (o :: rest) a w := by
 refine wpListIn_plain hg fun K hK => ?_
 unfold Oper.wpIn
 refine ⟨by simp [Oper.about, ho], ?_⟩
 rw [Oper.semAt_plain F _ _ (by rw [ho]; intro c hc'; cases hc')]
 simp [execOp, ho, hx, Instr.loadAt, Instr.sureAddr, run_loadVar_mid w g off t cs d hc hu hd hi]
 exact hK _ _ h
theorem wpListIn_allocT {F : Fence} {n : Nat} {P : Program} {w : World} {ops : Array Oper} {rest : List Oper} {o : Oper} {a : Act} {Q : Exit -> Act -> World -> Prop} (hg : o.guard = none) (t : TypeId) (ho : o.op = .alloc t) (xs : List Value)
   (hz : ∀ w, (zeroValue t).run P w = .ok (arrV xs) w)
   (h : ∀ w1, BlkT w1 w.heap.size t xs -> Below w.heap.size w w1 -> wpListIn F n P ops Q rest (a.put o.dst (.pointer (some ⟨w.heap.size, 0, none⟩))) w1) : wpListIn F n P ops Q (o :: rest) a w := by
 refine wpListIn_plain hg fun K hK => ?_
 unfold Oper.wpIn
 refine ⟨by simp [Oper.about, ho], ?_⟩
 rw [Oper.semAt_plain F _ _ (by rw [ho]; intro c hc'; cases hc')]
 simp [execOp, ho, Instr.alloc, hz, go_sem, arrV]
 exact hK _ _ (h _ (heap_alloc_new w _) (b1alloc _ _))
theorem wpListIn_storeT {F : Fence} {n : Nat} {P : Program} {w : World} {ops : Array Oper} {rest : List Oper} {o : Oper} {a : Act} {Q : Exit -> Act -> World -> Prop} (hgd : o.guard = none) (t : TypeId) (x y : Operand) (ho : o.op = .store t x y)
   {g : Nat} {t' : TypeId} (hx : a.eval x = .pointer (some ⟨g, 0, none⟩)) {xs ys : List Value} (hy : a.eval y = arrV ys) (hb : BlkT w g t' xs) (hl : xs.length = ys.length) (h1 : ∀ v ∈ ys, v.oneCell' = true) (hi : (P.info? t).map (·.size) = some ys.length)
   (h : ∀ w1, BlkT w1 g t' ys -> w.grownBy w1 (some g) -> wpListIn F n P ops Q rest (a.put o.dst undef) w1) : wpListIn F n P ops Q (o :: rest) a w := by
 have hb0 : w.heap[g]? = some (.cells xs.toArray t' (0, 0)) := hb
 refine wpListIn_plain hgd fun K hK => ?_
 have := run_storeVar_row (P := P) w g t' t _ ys.toArray hb0 (by simpa using hi) (by simpa using hl) (by simpa using h1)
 unfold Oper.wpIn
 refine ⟨by simp [Oper.about, ho], ?_⟩
 rw [Oper.semAt_plain F _ _ (by rw [ho]; intro c hc'; cases hc')]
 unfold arrV at hy
 simp [execOp, ho, hx, hy, Instr.storeAt, Instr.sureAddr, this]
 exact hK _ _ (h _ (setRow_heap w g _ _ t' _ hb0) (setRow_grown _ _ _))
theorem blkT_from {β : Type} {B : Nat} (b : Nat) (t : TypeId) (xs : List Value) : OwnFrom B (fun (_ : β) W => BlkT W b t xs) := fun s W W' row hs hg hr =>
 (hg.block b (lt_of_block hs) (fun e => by
   obtain ⟨_, o, ho, hc⟩ := hr b e.symm
   rw [show W.heap[b]? = _ from hs] at ho
   cases ho; cases hc)).trans hs
def bk (m k : Nat) (h : k < m) : Fin m := ⟨m - 1 - k, by omega⟩
def bkAll (m : Nat) : List (Fin m) := (List.finRange m).reverse
theorem bkAll_len (m : Nat) : (bkAll m).length = m := by simp [bkAll]
theorem bkAll_take {m k : Nat} (h : k < m) : (bkAll m).take (k + 1) = (bkAll m).take k ++ [bk m k h] := by
 rw [List.take_succ_eq_append_getElem (by rw [bkAll_len]; exact h)]
 congr 1
 simp only [bkAll, List.getElem_reverse, List.length_finRange, List.getElem_finRange, bk, Fin.cast_mk]
def encW (l : List Wr) (x : Fin l.length) : Array Value := #[.int .i64 (x.1 : Int), arrV (wcells l[x.1])]
set_option maxRecDepth 100000 in
set_option maxHeartbeats 1000000 in
theorem back1_in (n : Nat) (hn : 1 <= n) (n0 l Bs cp : Nat) (Ap : Option Addr) (pend : List Wr) (hp : ∀ x ∈ pend, x.2.length = 512) (hreach : pend.length <= 1000000000) (hBs0 : Bs < n0) (J Jx : List (Fin pend.length) -> World -> Prop)
   (hY : ∀ pre x W, J pre W -> pre.length < pend.length -> YieldAt Fence.wide (n - 1) Tryz.prog l (encW pend x) W fun e W' =>
     (e = .returned (.bool true) /\ J (pre ++ [x]) W' /\ Below n0 W W') \/ (e = .returned (.bool false) /\ Jx (pre ++ [x]) W'))
   (W : World) (hBs : W.cell? ⟨Bs, 0, none⟩ = some (.slice Ap pend.length cp)) (hAp : ∀ k (hk : k < pend.length), ∃ gp, Ap = some ⟨gp, 0, none⟩ /\ gp < n0 /\ W.rangeAt gp (k * 513) (wcells pend[k])) (h0 : J [] W) :
   CallsIn Fence.wide n Tryz.prog 136 #[.func (.yield l) #[] #[], .pointer (some ⟨Bs, 0, none⟩)] W fun e W' => (∃ v, e = .returned v) /\
     ((∃ ys, ys = bkAll pend.length /\ J ys W') \/ (∃ pre, (∃ k, k <= pend.length /\ pre = (bkAll pend.length).take k) /\ Jx pre W')) := by
 refine callsIn_of_wp Tryz.func136 rfl trivial ?_ rfl
 simp only [Tryz.ntmps136, List.size_toArray, List.length_cons, List.length_nil, Nat.reduceAdd, Nat.reduceSub, Array.replicate_succ, Array.replicate_zero, List.push_toArray, List.append_toArray, List.nil_append, List.cons_append]
 gi_wp2
 gi_loopw [3] (fun i wr => ∃ k : Nat, k <= pend.length /\ i = .int .i64 ((pend.length : Int) - 1 - (k : Int)) /\ J ((bkAll pend.length).take k) wr /\ Below n0 W wr)
   (fun i _ => (intOf i + 1).toNat)
 case atStart => exact ⟨0, Nat.zero_le _, by go_num, h0, Below.refl _ _⟩
 case round =>
   obtain ⟨k, hk, rfl, hJs, hB⟩ := hrel
   by_cases hlt : k < pend.length
   · have hle : pend.length - 1 - k < pend.length := by omega
     obtain ⟨gp, rfl, hgp, hr0⟩ := hAp (pend.length - 1 - k) hle
     have hcs : wr.cell? ⟨Bs, 0, none⟩ = some (.slice (some ⟨gp, 0, none⟩) pend.length cp) := (hB.cell (p := ⟨Bs, 0, none⟩) hBs0).trans hBs
     have hrg : wr.rangeAt gp ((pend.length - 1 - k) * 513) (wcells pend[pend.length - 1 - k]) := fun j v hv => (hB.cell (p := ⟨gp, _, none⟩) hgp).trans (hr0 j v hv)
     obtain ⟨fn, tmps, assign, body, hy, hR⟩ := hY ((bkAll pend.length).take k) (bk pend.length k hlt) wr hJs (by rw [List.length_take, bkAll_len]; omega)
     unfold encW bk arrV at hy
     obtain ⟨x, hx⟩ : ∃ x, x = pend[pend.length - 1 - k] := ⟨_, rfl⟩
     simp only [<- hx] at hy hrg
     have hszw := wcells_szW (hp x (by rw [hx]; exact List.getElem_mem _))
     have huw := Tryz.underlying115
     obtain ⟨j, hj⟩ : ∃ j, j = pend.length - 1 - k := ⟨_, rfl⟩
     rw [<- hj] at hy hrg hle
     have hjI : (pend.length : Int) - 1 - (k : Int) = (j : Int) := by omega
     rw [hjI]
     have Hj := Lib.hid hj
     have hjl : (j : Int) < (pend.length : Int) := by omega
     clear hx hr0 hj hjI hAp
     gi_wp2_with (refine wpListIn_load_mid rfl _ _ rfl gp (j * 513) rfl (wcells x) _ hrg huw rfl hszw ?_)
     refine hR.mono ?_
     rintro e W3 (⟨rfl, hJ3, hk3⟩ | ⟨rfl, hJx3⟩)
     · have H5 := Lib.hid (show (j : Int) - 1 = (pend.length : Int) - 1 - ((k + 1 : Nat) : Int) by have := Hj.out; omega)
       gi_wp2
       go_roundw
       case rel => exact ⟨k + 1, by omega, by rw [H5.out], by rw [bkAll_take hlt]; exact hJ3, hB.trans hk3⟩
       case measure => first | (simp [intOf]; done) | (simp [intOf]; have := Hj.out; omega)
     · gi_wp2
       refine bodyPost_ret (results_none rfl _ _ _) rfl ?_
       exact ⟨⟨_, rfl⟩, .inr ⟨_, ⟨k + 1, by omega, (bkAll_take hlt).symm⟩, hJx3⟩⟩
   · obtain rfl : k = pend.length := by omega
     have hneg : ¬ (0 : Int) <= (pend.length : Int) - 1 - (pend.length : Int) := by omega
     gi_wp2
     go_end0
     rw [List.take_of_length_le (by rw [bkAll_len]; exact Nat.le_refl _)] at hJs
     exact ⟨⟨_, rfl⟩, .inl (by first | exact hJs | exact ⟨_, rfl, hJs⟩)⟩
theorem back_stops (n : Nat) (hn : 1 <= n) (n0 Bs cp : Nat) (Ap : Option Addr) (pend : List Wr) (hp : ∀ x ∈ pend, x.2.length = 512) (hreach : pend.length <= 1000000000) (w : World) (hBs0 : Bs < n0) (hn0 : n0 <= w.heap.size) (hBs : w.cell? ⟨Bs, 0, none⟩ = some (.slice Ap pend.length cp))
   (hAp : ∀ k (hk : k < pend.length), ∃ gp, Ap = some ⟨gp, 0, none⟩ /\ gp < n0 /\ w.rangeAt gp (k * 513) (wcells pend[k])) :
   SeqStopsK Fence.wide n Tryz.prog 136 #[.pointer (some ⟨Bs, 0, none⟩)] (encW pend) (Below n0) (fun ys => ys = bkAll pend.length) (fun pre => ∃ k, k <= pend.length /\ pre = (bkAll pend.length).take k) pend.length w := fun l J Jx W hW hJ hJx hY h0 =>
 back1_in n hn n0 l Bs cp Ap pend hp hreach hBs0 J Jx hY W ((hW.cell (p := ⟨Bs, 0, none⟩) (by show Bs < _; omega)).trans hBs)
   (fun k hk => by
     obtain ⟨gp, h1, h2, h3⟩ := hAp k hk
     exact ⟨gp, h1, h2, fun j v hv => (hW.cell (p := ⟨gp, _, none⟩) (by show gp < _; omega)).trans (h3 j v hv)⟩) h0
set_option maxRecDepth 100000 in
set_option maxHeartbeats 400000 in
theorem backward_any (A : Option Addr) (n c : Nat) (w : World) :
   Calls Tryz.prog 125 #[.slice A n c] w fun e w' => e = .returned (.func (.func 136) #[] #[.pointer (some ⟨w.heap.size, 0, none⟩)]) /\
     w'.cell? ⟨w.heap.size, 0, none⟩ = some (.slice A n c) /\ Below w.heap.size w w' /\ w.heap.size < w'.heap.size := by
 go_enter Tryz.func125, Tryz.ntmps125
 go_wp2
 go_ret
 refine ⟨rfl, ?_, b1alloc _ _, ?_⟩
 all_goals simp
end Go.Proofs.YtchcmklelmlbgaaGreat.Disk
namespace Go.Proofs.YtchcmklelmlbgaaGreat.Disk
open Go.RowKit Go.Shelf Go.Proofs.YtchcmklelmlbgaaGreat.Ch
attribute [local go_sem] Oper.semAt_some
set_option linter.unusedVariables false
set_option maxRecDepth 100000
theorem kept_pend (all pend : List Wr) (p : Nat) (k : Nat) (hk : k < pend.length) (hp : pend[pend.length - 1 - k].1 = p) (hno : ∀ j, j < k -> ∀ (h : pend.length - 1 - j < pend.length), pend[pend.length - 1 - j].1 ≠ p) : kept (all ++ pend) p = pend[pend.length - 1 - k].2 := by
 obtain ⟨i, hi⟩ : ∃ i, i = pend.length - 1 - k := ⟨_, rfl⟩
 have hil : i < pend.length := by omega
 have hsplit : all ++ pend = (all ++ pend.take i ++ [pend[i]]) ++ pend.drop (i + 1) := by
   rw [List.append_assoc all, <- List.take_succ_eq_append_getElem hil, List.append_assoc, List.take_append_drop]
 rw [hsplit, kept_append _ _ _ (fun w hw => by
   obtain ⟨j, hj, rfl⟩ := List.getElem_of_mem hw
   rw [List.length_drop] at hj
   rw [List.getElem_drop]
   have := hno (k - 1 - j) (by omega) (by omega)
   have he : pend.length - 1 - (k - 1 - j) = i + 1 + j := by omega
   simp only [he] at this
   exact this), kept_snoc]
 subst hi
 rw [if_pos hp]
theorem kept_none (all pend : List Wr) (p : Nat) (hno : ∀ j, j < pend.length -> ∀ (h : pend.length - 1 - j < pend.length), pend[pend.length - 1 - j].1 ≠ p) : kept (all ++ pend) p = kept all p :=
 kept_append _ _ _ (fun w hw => by
   obtain ⟨j, hj, rfl⟩ := List.getElem_of_mem hw
   have := hno (pend.length - 1 - j) (by omega) (by omega)
   have he : pend.length - 1 - (pend.length - 1 - j) = j := by omega
   simp only [he] at this
   exact this)
def Told8 (w w' : World) (r : List UInt8 × Int) (e : Ending) : Prop := ∃ v, e = .returned (.tuple #[v, .int .i64 r.2]) /\ New8 w w' r.1 v /\ Below w.heap.size w w'
def Hit (X : World) (B : Nat) (q : Nat) (pend : List Wr) (pre : List (Fin pend.length)) : Prop :=
 ∃ (pre0 : List (Fin pend.length)) (x : Fin pend.length) (bx : Nat), pre = pre0 ++ [x] /\ (∀ y ∈ pre0, pend[y.1].1 ≠ q) /\ pend[x.1].1 = q /\ B <= bx /\
   (BlkT X (B + 1) 51 [.slice (some ⟨bx, 1, none⟩) 512 512] /\ BlkT X (B + 1 + 1) 29 [.int .i64 0] /\ BlkT X bx 115 (wcells pend[x.1]))
theorem hit_from {B0 B q : Nat} {pend : List Wr} : OwnFrom B0 (fun pre W => Hit W B q pend pre) := fun pre W W' row hs hg hr => by
 obtain ⟨pre0, x, bx, h1, h2, h3, h4, h5, h6, h7⟩ := hs
 exact ⟨pre0, x, bx, h1, h2, h3, h4, blkT_from (β := Unit) _ _ _ () W W' row h5 hg hr, blkT_from (β := Unit) _ _ _ () W W' row h6 hg hr, blkT_from (β := Unit) _ _ _ () W W' row h7 hg hr⟩
theorem new8_wait {w X : World} {bx : Nat} {x : Wr} (hbx : w.heap.size <= bx) (h : BlkT X bx 115 (wcells x)) (hl : x.2.length = 512) : New8 w X x.2 (.slice (some ⟨bx, 1, none⟩) 512 512) := by
 refine ⟨_, 512, by rw [hl], by omega, by unfold maxLen; omega, fun _ => ⟨bx, 1, rfl, hbx, lt_of_block h, fun i hi => ?_⟩⟩
 have := blk_bytes (BlkT.blk h) i (x.2.map e8)[i] (List.getElem?_eq_getElem hi)
 exact this
theorem New8.move {w w1 w2 w3 : World} {l : List UInt8} {v : Value} (h : New8 w1 w2 l v) (hs : w.heap.size <= w1.heap.size) (hk : ∀ b, w1.heap.size <= b -> b < w2.heap.size -> w3.heap[b]? = w2.heap[b]?) (hz : w2.heap.size <= w3.heap.size) : New8 w w3 l v := by
 obtain ⟨A, c, h0, h1, h2, h3⟩ := h
 refine ⟨A, c, h0, h1, h2, fun hne => ?_⟩
 obtain ⟨b, off, h4, h5, h6, h7⟩ := h3 hne
 exact ⟨b, off, h4, by omega, by omega, fun i hi => (World.cell?_of_block (hk b h5 h6)).trans (h7 i hi)⟩
theorem hit_kept (all pend : List Wr) (q k : Nat) (hk : k <= pend.length) (pre0 : List (Fin pend.length)) (x : Fin pend.length) (hpk : pre0 ++ [x] = (bkAll pend.length).take k) (hno : ∀ y ∈ pre0, pend[y.1].1 ≠ q) (hxq : pend[x.1].1 = q) :
   kept (all ++ pend) q = pend[x.1].2 := by
 cases k with
 | zero => simp at hpk
 | succ k =>
   have hkl : k < pend.length := hk
   rw [bkAll_take hkl] at hpk
   obtain ⟨rfl, hx⟩ := List.append_inj' hpk rfl
   obtain rfl : x = bk pend.length k hkl := by simpa using hx
   refine kept_pend all pend q k (by omega) hxq (fun j hj h => ?_)
   refine hno (bk pend.length j (by omega)) ?_
   have h1 : bk pend.length j (by omega) ∈ (bkAll pend.length).take (j + 1) := by rw [bkAll_take (by omega)]; simp
   have h2 : (bkAll pend.length).take (j + 1) = ((bkAll pend.length).take k).take (j + 1) := by rw [List.take_take, Nat.min_eq_left (by omega)]
   rw [h2] at h1
   exact List.mem_of_mem_take h1
set_option maxHeartbeats 2000000 in
theorem read_any (g : Nat) (fp : List Nat) (s : St) (p : Int) (w : World) (h : DAt w g fp s) (hs : s.sz <= 100000000) :
   Calls Tryz.prog 111 #[.pointer (some ⟨g, 0, none⟩), .int .i64 p] w fun e w' => Told8 w w' (read s p) e := by
 have hdn := fun W (hW : Below w.heap.size w W) => down_any g fp s W (h.on hW)
 have has := fun W (hW : Below w.heap.size w W) => asked_any g fp s p W (h.on hW)
 have bw3 := b3alloc w (.cells #[.int .i64 p] 3) (.cells #[.slice none 0 0] 51) (.cells #[.int .i64 0] 29)
 cases hd : s.down with
 | true =>
   have hw : read s p = ([], 12) := by unfold read; rw [if_pos hd]
   rw [hw]
   rw [hd] at hdn
   have Hdn := Lib.hid hdn
   clear hw hd has hdn
   go_enter Tryz.func111, Tryz.ntmps111
   go_wp2_with fail
   go_step3
   go_wp2_with fail
   refine (Hdn.out _ bw3).mono ?_
   rintro e w1 ⟨rfl, rfl⟩
   go_wp2
   rw [Exit.noGoto_ret]
   refine bodyPost_ret (v := .tuple #[.slice none 0 0, .int .i64 12]) (by simp [results, Tryz.results111, go_sem]) rfl ?_
   exact ⟨_, rfl, New8.nil _ _, b3alloc _ _ _ _⟩
 | false =>
   rw [hd] at hdn
   have Hdn := Lib.hid hdn
   by_cases hp : p < 0 \/ (s.size : Int) <= p
   · have hw : read s p = ([], 2) := by unfold read; rw [if_neg (by simp [hd]), if_pos hp]
     have hf : askF s p = 2 := if_pos hp
     rw [hw]
     rw [hf] at has
     have Has := Lib.hid has
     clear hw hd has hdn hp hf
     go_enter Tryz.func111, Tryz.ntmps111
     go_wp2_with fail
     go_step3
     go_wp2_with fail
     refine (Hdn.out _ bw3).mono ?_
     rintro e w1 ⟨rfl, rfl⟩
     go_wp2_with fail
     refine (Has.out _ bw3).mono ?_
     rintro e w1 ⟨rfl, rfl⟩
     go_wp2
     rw [Exit.noGoto_ret]
     refine bodyPost_ret (v := .tuple #[.slice none 0 0, .int .i64 2]) (by simp [results, Tryz.results111, go_sem]) rfl ?_
     exact ⟨_, rfl, New8.nil _ _, b3alloc _ _ _ _⟩
   · have hf : askF s p = 0 := if_neg hp
     have hw : read s p = (kept (s.all ++ s.pend) p.toNat, 0) := by unfold read; rw [if_neg (by simp [hd]), if_neg hp]
     rw [hw]
     rw [hf] at has
     have Has := Lib.hid has
     obtain ⟨q, rfl⟩ : ∃ q : Nat, p = (q : Int) := ⟨p.toNat, by omega⟩
     rw [Int.toNat_natCast]
     have hka := kept_any g fp s (q : Int)
     rw [show keptAt s (q : Int) = kept s.all q from by rw [keptAt, if_neg hp, Int.toNat_natCast]] at hka
     have Hka := Lib.hid hka
     obtain ⟨vk, vp, va, acs, hL⟩ := h
     obtain ⟨Ap, cp, rfl⟩ := own_form hL.pend
     have hL3 := hL.on bw3
     obtain ⟨_, d1, _, _, _, _, _⟩ := six hL3.blk
     have hpl : s.pend.length <= 100000000 := by unfold St.sz at hs; omega
     clear hw hd has hdn hp hf hka
     refine (callsIn_wide (n := 8)).1 ?_
     refine callsIn_of_wp_marks Tryz.func111 rfl trivial ?_ rfl
     simp only [Tryz.ntmps111, List.size_toArray, List.length_cons, List.length_nil, Nat.reduceAdd, Nat.reduceSub, Array.replicate_succ, Array.replicate_zero, List.push_toArray, List.append_toArray, List.nil_append, List.cons_append]
     gi_wp2_with fail
     refine wpIn_wide.2 (wp_scope_straight ((wpIn_wide (n := 8)).1 ?_))
     gi_wp2_with fail
     have e3 : (((w.alloc (.cells #[.int .i64 (q : Int)] 3)).alloc (.cells #[.slice none 0 0] 51)).alloc (.cells #[.int .i64 0] 29)).heap[w.heap.size]? = some (.cells #[.int .i64 (q : Int)] 3 (0, 0)) :=
       (Below.heap_alloc _ _ _ (by simp; omega)).trans ((Below.heap_alloc _ _ _ (by simp)).trans (heap_alloc_new w _))
     have e4 : (((w.alloc (.cells #[.int .i64 (q : Int)] 3)).alloc (.cells #[.slice none 0 0] 51)).alloc (.cells #[.int .i64 0] 29)).heap[w.heap.size + 1]? = some (.cells #[.slice none 0 0] 51 (0, 0)) :=
       (Below.heap_alloc _ _ _ (by simp)).trans (by have := heap_alloc_new (w.alloc (.cells #[.int .i64 (q : Int)] 3)) (.cells #[.slice none 0 0] 51); simpa using this)
     have e5 : (((w.alloc (.cells #[.int .i64 (q : Int)] 3)).alloc (.cells #[.slice none 0 0] 51)).alloc (.cells #[.int .i64 0] 29)).heap[w.heap.size + 1 + 1]? = some (.cells #[.int .i64 0] 29 (0, 0)) := by
       have := heap_alloc_new ((w.alloc (.cells #[.int .i64 (q : Int)] 3)).alloc (.cells #[.slice none 0 0] 51)) (.cells #[.int .i64 0] 29)
       simpa using this
     have hs3 : (((w.alloc (.cells #[.int .i64 (q : Int)] 3)).alloc (.cells #[.slice none 0 0] 51)).alloc (.cells #[.int .i64 0] 29)).heap.size = w.heap.size + 3 := by simp
     obtain ⟨w3, hw3⟩ : ∃ w3, w3 = ((w.alloc (.cells #[.int .i64 (q : Int)] 3)).alloc (.cells #[.slice none 0 0] 51)).alloc (.cells #[.int .i64 0] 29) := ⟨_, rfl⟩
     rw [<- hw3] at bw3 hL3 d1 e3 e4 e5 hs3 ⊢
     replace hs3 := Nat.le_of_eq hs3.symm
     clear hw3
     have c3 := cell_of_one e3
     refine ⟨trivial, (callsIn_wide.2 (Hdn.out _ bw3)).mono ?_⟩
     rintro e w1 ⟨rfl, rfl⟩
     gi_wp2_with fail
     refine ⟨trivial, (callsIn_wide.2 (Has.out _ bw3)).mono ?_⟩
     rintro e w1 ⟨rfl, rfl⟩
     gi_wp2_with fail
     refine wpIn_label ?_
     gi_wp2_with fail
     refine ⟨trivial, (callsIn_wide.2 (backward_any Ap s.pend.length cp _)).mono ?_⟩
     rintro e w6 ⟨rfl, cs6, b6, hs6⟩
     gi_wp2_with fail
     have hp512 : ∀ x ∈ s.pend, x.2.length = 512 := fun x hx => (hL3.ok.pend x hx).2
     have hAp : ∀ k (hk : k < s.pend.length), ∃ gp, Ap = some ⟨gp, 0, none⟩ /\ gp < w6.heap.size /\ w6.rangeAt gp (k * 513) (wcells s.pend[k]) := fun k hk => by
       obtain ⟨gp, cp', e0, _⟩ := own_some hL3.pend (by omega)
       obtain ⟨rfl, rfl⟩ : Ap = some ⟨gp, 0, none⟩ /\ cp = cp' := by injection e0 with e1 e2 e3; exact ⟨e1, e3⟩
       obtain ⟨cs, hcs⟩ := own_blk hL3.pend
       exact ⟨gp, rfl, Nat.lt_of_lt_of_le (lt_of_block hcs) b6.size, fun j v hv => (b6.cell (p := ⟨gp, _, none⟩) (lt_of_block hcs)).trans (pend_range hL3 k hk j v hv)⟩
     have hlt3 : w3.heap.size <= w6.heap.size := b6.size
     have f3 : BlkT w6 w.heap.size 3 [.int .i64 (q : Int)] := (b6.block _ (by omega)).trans e3
     have f4 : BlkT w6 (w.heap.size + 1) 51 [.slice none 0 0] := (b6.block _ (by omega)).trans e4
     have f5 : BlkT w6 (w.heap.size + 1 + 1) 29 [.int .i64 0] := (b6.block _ (by omega)).trans e5
     have hL6 := hL3.on b6
     have bw6 : Below w.heap.size w w6 := bt bw3 b6
     have HAp := Lib.hid hAp
     have h512 := Lib.hid hp512
     clear hAp hp512 d1 c3 e3 e4 e5 b6 hL3 bw3
     refine wpIn_rangeFunc_ownH (n := 8) rfl (by omega) (gf := 136) (lb := #[.pointer (some ⟨w3.heap.size, 0, none⟩)]) rfl trivial (enters_of Tryz.func136 (by kernel_rfl) rfl)
       (back_stops (8 - 1) (by omega) w6.heap.size w3.heap.size cp Ap s.pend h512.out (by omega) w6 hs6 (Nat.le_refl _) cs6 HAp.out) belowK_t (belowK_b (Nat.le_refl _)) (Below.refl _ _) (fun _ => rfl)
       (fun pre X => Below w6.heap.size w6 X /\ Hid (∀ y ∈ pre, s.pend[y.1].1 ≠ q))
       (fun c pre X => c = .ret /\ Hit X w.heap.size q s.pend pre /\ Below w.heap.size w X)
       (OwnFrom.and (ownFrom_below (Nat.le_refl _) (Nat.le_refl _)) (fun _ _ _ _ hs _ _ => hs))
       (fun c => OwnFrom.and (fun _ _ _ _ hs _ _ => hs) (OwnFrom.and hit_from (ownFrom_below (Nat.le_refl _) bw6.size)))
       ⟨Below.refl _ _, Lib.hid (fun y hy => by cases hy)⟩
       (fun x a' W => ∃ Bx, w6.heap.size <= Bx /\ BlkT W Bx 115 (wcells s.pend[x.1]) /\ a' = { tmps := #[.pointer (some ⟨g, 0, none⟩), .int .i64 (q : Int), undef, .pointer (some ⟨w.heap.size, 0, none⟩), .pointer (some ⟨w.heap.size + 1, 0, none⟩), .pointer (some ⟨w.heap.size + 1 + 1, 0, none⟩), .int .i64 0, undef, .pointer (some ⟨Bx, 0, none⟩),
         .pointer (some ⟨g, 0, none⟩), .bool false, .pointer (some ⟨g, 0, none⟩), .int .i64 (q : Int), .int .i64 0, .int .i64 0, .bool false, undef, .pointer (some ⟨g, 0, none⟩), .pointer (some ⟨g, 0, none⟩), .pointer (some ⟨g, 1, none⟩), .slice Ap s.pend.length cp, .func (.func 136) #[] #[.pointer (some ⟨w3.heap.size, 0, none⟩)],
         .int .i64 (x.1 : Int), .agg (wcells s.pend[x.1]).toArray, undef, undef, undef, undef, undef, undef, undef, undef, undef], defers := [] })
       (fun x a' _ X Y row hs hg hr => by obtain ⟨Bx, h1, h2, h3⟩ := hs; exact ⟨Bx, h1, blkT_from (β := Unit) Bx _ _ () X Y row h2 hg hr, h3⟩)
       ?assign ?body ?done ?stop
     case assign =>
       rintro l pre x X K ⟨bX, hno⟩ hK
       have hx2 := h512.out _ (List.getElem_mem x.2)
       obtain ⟨y, hy⟩ : ∃ y, y = s.pend[x.1] := ⟨_, rfl⟩
       rw [<- hy] at hx2 hK
       unfold encW arrV
       rw [<- hy]
       have hyl := wcells_len hx2
       have hszw := wcells_szW hx2
       have hzl : (wcells (0, zero512)).length = (wcells y).length := by rw [hyl, wcells_len (show ((0, zero512) : Wr).2.length = 512 from by simp [zero512])]
       have h1y : ∀ v ∈ wcells y, v.oneCell' = true := wcells_one _
       clear hy
       simp [List.zip_toArray, List.setIfInBounds_toArray]
       gi_wp2_with (first
         | (refine wpListIn_allocT rfl _ rfl (wcells (0, zero512)) zeroW ?_; intro X1 hb1 bX1)
         | (refine wpListIn_storeT rfl _ _ _ rfl rfl (ys := wcells y) rfl hb1 hzl h1y hszw ?_; intro X2 hb2 hg2))
       have b12 : Below X.heap.size X X2 := below_row bX1 hg2 (Nat.le_refl _) bX1.size
       exact hK _ _ ((keeps_below b12).from _) (b12.mono bX.size) ⟨bX.trans (b12.mono bX.size), hno⟩ ⟨X.heap.size, bX.size, hb2, rfl⟩
     case body =>
       rintro l pre x a' X hlw hlr ⟨bX, hno⟩ ⟨Bx, hBx, hb, rfl⟩ hpm
       obtain ⟨y, hy⟩ : ∃ y, y = s.pend[x.1] := ⟨_, rfl⟩
       have hx2 := h512.out _ (List.getElem_mem x.2)
       rw [<- hy] at hb hx2
       have hlB : Bx < X.heap.size := lt_of_block hb
       have hcx : X.cell? ⟨Bx, 0, none⟩ = some (.int .i64 (y.1 : Int)) := by
         have := hb.blk.cell (k := 0) (by simp [wcells])
         simpa [wcells] using this
       have hcq : X.cell? ⟨w.heap.size, 0, none⟩ = some (.int .i64 (q : Int)) := cell_of_one ((bX.block _ (by omega)).trans f3)
       have g4 : Boxed X (w.heap.size + 1) 51 (.slice none 0 0) := (bX.block _ (by omega)).trans f4
       have g5 : Boxed X (w.heap.size + 1 + 1) 29 (.int .i64 0) := (bX.block _ (by omega)).trans f5
       have bwX : Below w.heap.size w X := bw6.trans (bX.mono bw6.size)
       have Hy := Lib.hid hy
       simp only [<- hy]
       clear hy f3 f4 f5 HAp hL6 cs6
       by_cases hq : y.1 = q
       · have hnn : ((y.1 : Int) != (q : Int)) = false := by simp [hq]
         have hc4 := g4.cell
         have hv4 := g4.frozen
         have g5' := g5.other (B' := w.heap.size + 1) (by omega) (.slice (some ⟨Bx, 1, none⟩) 512 512)
         have hc5 := g5'.cell
         have hv5 := g5'.frozen
         have hb' : BlkT (X.setCell ⟨w.heap.size + 1, 0, none⟩ (.slice (some ⟨Bx, 1, none⟩) 512 512)) Bx 115 (wcells y) := ((grownBy_setCell' X (w.heap.size + 1) _).block Bx hlB (by simp; omega)).trans hb
         have hb'' : BlkT ((X.setCell ⟨w.heap.size + 1, 0, none⟩ (.slice (some ⟨Bx, 1, none⟩) 512 512)).setCell ⟨w.heap.size + 1 + 1, 0, none⟩ (.int .i64 0)) Bx 115 (wcells y) := ((grownBy_setCell' _ (w.heap.size + 1 + 1) _).block Bx (lt_of_block hb') (by simp; omega)).trans hb'
         have h4' := (g4.set (.slice (some ⟨Bx, 1, none⟩) 512 512)).other (B' := w.heap.size + 1 + 1) (by omega) (.int .i64 0)
         have h5' := g5'.set (.int .i64 0)
         have hk : KeepsOthers X ((X.setCell ⟨w.heap.size + 1, 0, none⟩ (.slice (some ⟨Bx, 1, none⟩) 512 512)).setCell ⟨w.heap.size + 1 + 1, 0, none⟩ (.int .i64 0)) :=
           (keeps_row (grownBy_setCell' X (w.heap.size + 1) _) (BlkT.blk g4)).trans (keeps_row (grownBy_setCell' _ (w.heap.size + 1 + 1) _) (BlkT.blk g5'))
         have hbw := (bwX.setCell (p := ⟨w.heap.size + 1, 0, none⟩) (by show w.heap.size <= w.heap.size + 1; omega) (.slice (some ⟨Bx, 1, none⟩) 512 512)).setCell (p := ⟨w.heap.size + 1 + 1, 0, none⟩) (by show w.heap.size <= w.heap.size + 1 + 1; omega) (.int .i64 0)
         gi_wp2_with fail
         refine ⟨hk.from _, rfl, ⟨pre, x, Bx, rfl, hno.out, by rw [<- Hy.out]; exact hq, by omega, h4', h5', by rw [<- Hy.out]; exact hb''⟩, hbw⟩
       · have hnn : ((y.1 : Int) != (q : Int)) = true := by simp; omega
         gi_wp2_with fail
         refine ⟨(keeps_below (Below.refl _ _)).from _, Below.refl _ _, bX, Lib.hid (fun z hz => ?_)⟩
         rcases List.mem_append.1 hz with hz | hz
         · exact hno.out z hz
         · obtain rfl := List.mem_singleton.1 hz
           rw [<- Hy.out]; exact hq
     case done =>
       rintro D ys X hD rfl ⟨bX, hno⟩ hKD
       have hDX : D < X.heap.size := lt_of_block hKD
       have hno2 : ∀ j, j < s.pend.length -> ∀ (h : s.pend.length - 1 - j < s.pend.length), s.pend[s.pend.length - 1 - j].1 ≠ q := fun j hj h => hno.out ⟨s.pend.length - 1 - j, h⟩ (by simp [bkAll])
       have Hkn := Lib.hid (kept_none s.all s.pend q hno2)
       have g4 : Boxed X (w.heap.size + 1) 51 (.slice none 0 0) := (bX.block _ (by omega)).trans f4
       have g5 : Boxed X (w.heap.size + 1 + 1) 29 (.int .i64 0) := (bX.block _ (by omega)).trans f5
       have hcq : X.cell? ⟨w.heap.size, 0, none⟩ = some (.int .i64 (q : Int)) := cell_of_one ((bX.block _ (by omega)).trans f3)
       have bwX : Below w.heap.size w X := bw6.trans (bX.mono bw6.size)
       have Dx : DAt X g fp s := ⟨_, _, _, _, hL6.on bX⟩
       have hwX : w6.heap.size <= X.heap.size := bX.size
       clear hno2 f3 f4 f5 HAp hL6 cs6 hno bX
       gi_wp2_with fail
       refine ⟨trivial, (callsIn_wide.2 (Hka.out _ Dx)).mono ?_⟩
       rintro e w8 ⟨v8, rfl, hn8, b8⟩
       have hn9 := hn8
       obtain ⟨A8, c8, rfl, _⟩ := hn9
       have h84 : Boxed w8 (w.heap.size + 1) 51 (.slice none 0 0) := (b8.block _ (by omega)).trans g4
       have h85 : Boxed w8 (w.heap.size + 1 + 1) 29 (.int .i64 0) := (b8.block _ (by omega)).trans g5
       have h8D : w8.heap[D]? = some (.deferred (some [])) := (b8.block _ hDX).trans hKD
       have bw8 : Below w.heap.size w w8 := bwX.trans (b8.mono bwX.size)
       have hsz8 : X.heap.size <= w8.heap.size := b8.size
       clear g4 g5 hcq Dx hKD b8 bwX
       have hc4 := h84.cell
       have hv4 := h84.frozen
       have g5' := h85.other (B' := w.heap.size + 1) (by omega) (.slice A8 (kept s.all q).length c8)
       have hc5 := g5'.cell
       have hv5 := g5'.frozen
       gi_wp2_with fail
       have s1 := grownBy_setCell' w8 (w.heap.size + 1) (.slice A8 (kept s.all q).length c8)
       obtain ⟨wa, hwa⟩ : ∃ wa, wa = w8.setCell ⟨w.heap.size + 1, 0, none⟩ (.slice A8 (kept s.all q).length c8) := ⟨_, rfl⟩
       have h94 : Boxed wa (w.heap.size + 1) 51 (.slice A8 (kept s.all q).length c8) := by rw [hwa]; exact h84.set _
       have hba : Below w.heap.size w wa := by rw [hwa]; exact bw8.setCell (p := ⟨w.heap.size + 1, 0, none⟩) (by show w.heap.size <= w.heap.size + 1; omega) _
       have hka : ∀ b, b ≠ w.heap.size + 1 -> b < w8.heap.size -> wa.heap[b]? = w8.heap[b]? := fun b hb hl => by rw [hwa]; exact s1.block b hl (by simp; omega)
       have hza : wa.heap.size = w8.heap.size := by rw [hwa]; simp
       rw [<- hwa] at g5' ⊢
       clear hwa s1 hc4 hv4 hc5 hv5 h84 h85
       have s2 := grownBy_setCell' wa (w.heap.size + 1 + 1) (.int .i64 0)
       obtain ⟨wb, hwb⟩ : ∃ wb, wb = wa.setCell ⟨w.heap.size + 1 + 1, 0, none⟩ (.int .i64 0) := ⟨_, rfl⟩
       have h95 : Boxed wb (w.heap.size + 1 + 1) 29 (.int .i64 0) := by rw [hwb]; exact g5'.set _
       have h96 : Boxed wb (w.heap.size + 1) 51 (.slice A8 (kept s.all q).length c8) := by rw [hwb]; exact h94.other (by omega) _
       have hbb : Below w.heap.size w wb := by rw [hwb]; exact hba.setCell (p := ⟨w.heap.size + 1 + 1, 0, none⟩) (by show w.heap.size <= w.heap.size + 1 + 1; omega) _
       have hkb : ∀ b, b ≠ w.heap.size + 1 -> b ≠ w.heap.size + 1 + 1 -> b < w8.heap.size -> wb.heap[b]? = w8.heap[b]? := fun b hb hb2 hl => by rw [hwb]; exact (s2.block b (by omega) (by simp; omega)).trans (hka b hb hl)
       have hzb : wb.heap.size = w8.heap.size := by rw [hwb]; simp [hza]
       rw [<- hwb]
       clear hwb s2 g5' h94 hba hka hza
       have hKb : wb.heap[D]? = some (.deferred (some [])) := (hkb D (by omega) (by omega) (by omega)).trans h8D
       have hc4 : ((wb.putObj D (.deferred none))).cell? ⟨w.heap.size + 1, 0, none⟩ = some (.slice A8 (kept s.all q).length c8) :=
         (World.cell?_of_block (World.putObj_heap_other (by dsimp only; omega))).trans h96.cell
       have hc5 : ((wb.putObj D (.deferred none))).cell? ⟨w.heap.size + 1 + 1, 0, none⟩ = some (.int .i64 0) :=
         (World.cell?_of_block (World.putObj_heap_other (by dsimp only; omega))).trans h95.cell
       rw [Exit.noGoto_ret]
       refine ⟨by simp, .inl ⟨_, _, rfl, run_takeDeferred hKb, ?_⟩⟩
       refine ⟨.tuple #[.slice A8 (kept s.all q).length c8, .int .i64 0], (by simp [results, Tryz.results111, go_sem, hc4, hc5]), ?_⟩
       refine ⟨_, rfl, ?_, hbb.trans (belowK_b (w := w) (Nat.le_refl _) _ D _ _ (by omega) hKb rfl rfl)⟩
       rw [Hkn.out]
       exact hn8.move (by omega) (fun b h1 h2 => (World.putObj_heap_other (by omega)).trans (hkb b (by omega) (by omega) h2)) (by simp; omega)
     case stop =>
       rintro D c pre X hD hpre ⟨rfl, hit, hB⟩ hKD
       obtain ⟨k, hk, hpk⟩ := hpre
       obtain ⟨pre0, x, bx, rfl, hno, hxq, hbx, h4, h5, hb⟩ := hit
       have Hkp := Lib.hid (hit_kept s.all s.pend q k hk pre0 x hpk hno hxq)
       have hc4 : ((X.putObj D (.deferred none))).cell? ⟨w.heap.size + 1, 0, none⟩ = some (.slice (some ⟨bx, 1, none⟩) 512 512) :=
         (World.cell?_of_block (World.putObj_heap_other (by dsimp only; omega))).trans (cell_of_one h4)
       have hc5 : ((X.putObj D (.deferred none))).cell? ⟨w.heap.size + 1 + 1, 0, none⟩ = some (.int .i64 0) :=
         (World.cell?_of_block (World.putObj_heap_other (by dsimp only; omega))).trans (cell_of_one h5)
       have hne : bx ≠ D := fun e => by
         rw [e] at hb
         rw [show X.heap[D]? = _ from hb] at hKD
         cases hKD
       have hb2 : BlkT (X.putObj D (.deferred none)) bx 115 (wcells s.pend[x.1]) := (World.putObj_heap_other hne).trans hb
       have hx2 := h512.out _ (List.getElem_mem x.2)
       clear hpk hno hb
       gi_wp2_with fail
       rw [Exit.noGoto_ret]
       refine ⟨by simp, .inl ⟨_, _, rfl, run_takeDeferred hKD, ?_⟩⟩
       refine ⟨.tuple #[.slice (some ⟨bx, 1, none⟩) 512 512, .int .i64 0], (by simp [results, Tryz.results111, go_sem, hc4, hc5]), ?_⟩
       refine ⟨_, rfl, ?_, hB.trans (belowK_b (w := w) (Nat.le_refl _) _ D _ _ (by omega) hKD rfl rfl)⟩
       rw [Hkp.out]
       exact new8_wait hbx hb2 hx2
end Go.Proofs.YtchcmklelmlbgaaGreat.Disk
namespace Go.Proofs.YtchcmklelmlbgaaGreat
open Go.RowKit
set_option linter.unusedVariables false
section
variable {P : Program}
theorem wpList_makeN {w : World} {ops : Array Oper} {rest : List Oper} {o : Oper} {a : Act} {Q : Exit -> Act -> World -> Prop} (hgd : o.guard = none) (t : TypeId) (x y : Operand) (ho : o.op = .makeSlice t x y)
   {e : TypeId} {i : TypeInfo} {k kl kc : IntKind} (ht : P.underlying t = some (.slice e)) (hi : P.info? e = some i) (hz : i.zero = some (.int k 0)) (hs : i.size = 1) (l c : Nat) {lz cz : Int} (hl : a.eval x = .int kl lz) (hlz : lz = (l : Int)) (hc : a.eval y = .int kc cz) (hcz : cz = (c : Int))
   (hlc : l <= c) (hb : i.bytes * c <= 281474976710656) (hm : c <= maxLen)
   (h : ∀ w1, w1.ownsRow w.heap.size e 1 (.slice (some ⟨w.heap.size, 0, none⟩) l c) l (List.replicate l (.int k 0)) -> Below w.heap.size w w1 -> w.heap.size < w1.heap.size ->
     wpList P ops Q rest (a.put o.dst (.slice (some ⟨w.heap.size, 0, none⟩) l c)) w1) : wpList P ops Q (o :: rest) a w := by
 subst hlz hcz
 have hb' : (i.bytes : Int) * (c : Int) <= 281474976710656 := by
   have h : ((i.bytes * c : Nat) : Int) <= 281474976710656 := by omega
   rwa [Int.natCast_mul] at h
 have hm' : (c : Int) <= 9223372036854775807 := by
   have h := hm
   simp [maxLen] at h
   omega
 have hr := run_make (P := P) w t e i _ ht hi hz kl kc l c (by omega) (by omega) hb' hm'
 simp only [Int.toNat_natCast] at hr
 refine wpList_run (w' := w.alloc (.cells (madeCells (Value.int k 0).cells (c * i.size)) e)) hgd (.slice (some ⟨w.heap.size, 0, none⟩) l c) ?_ (h _ ⟨by simp, .inr ⟨w.heap.size, c, _, rfl, Nat.le_refl _, heap_alloc_new w _, hlc, hm, ?_, ?_⟩⟩ (b1alloc _ _) (by simp))
 · unfold execOp
   simp only [ho, hl, hc]
   simp [hr]
 · rw [hs, size_madeCells]
 · rw [hs, made_int, List.take_replicate]
   congr 1
   omega
end
end Go.Proofs.YtchcmklelmlbgaaGreat
namespace Go.Proofs.YtchcmklelmlbgaaGreat.Num
def putL (n size : Nat) : List UInt8 := (List.range size).map fun j => UInt8.ofNat (n / 2 ^ (8 * (size - 1 - j)))
theorem putL_len (n size : Nat) : (putL n size).length = size := by simp [putL]
theorem putL_get (n size j : Nat) (h : j < (putL n size).length) : (putL n size)[j] = UInt8.ofNat (n / 2 ^ (8 * (size - 1 - j))) := by simp [putL]
theorem putL_take (n size j : Nat) (h : j < size) : (putL n size).take (j + 1) = (putL n size).take j ++ [UInt8.ofNat (n / 2 ^ (8 * (size - 1 - j)))] := by
 rw [List.take_succ_eq_append_getElem (by rw [putL_len]; exact h), putL_get]
theorem cell_of (n e : Nat) : ((UInt8.ofNat (n / 2 ^ e)).toNat : Int) = (n : Int) / 2 ^ e % 256 := by
 rw [UInt8.toNat_ofNat', Int.natCast_emod, Int.natCast_ediv, Int.natCast_pow]; rfl
def getN (l : List UInt8) : Nat := l.foldl (fun n c => n * 256 + c.toNat) 0
theorem getN_snoc (l : List UInt8) (c : UInt8) : getN (l ++ [c]) = getN l * 256 + c.toNat := by simp [getN]
theorem getN_take {l : List UInt8} {k : Nat} (h : k < l.length) : getN (l.take (k + 1)) = getN (l.take k) * 256 + l[k].toNat := by
 rw [List.take_succ_eq_append_getElem h, getN_snoc]
theorem getN_lt (l : List UInt8) : ∀ k, k <= l.length -> getN (l.take k) < 256 ^ k
 | 0, _ => by simp [getN]
 | k + 1, h => by
   rw [getN_take (by omega), Nat.pow_succ]
   have := getN_lt l k (by omega)
   have := l[k].toNat_lt
   omega
theorem getN_7 (l : List UInt8) (k : Nat) (hk : k <= l.length) (h : k <= 7) : getN (l.take k) < 72057594037927936 :=
 Nat.lt_of_lt_of_le (getN_lt l k hk) (Nat.pow_le_pow_right (by omega) h)
theorem putL_succ (n s : Nat) : putL n (s + 1) = putL (n / 256) s ++ [UInt8.ofNat n] := by
 unfold putL
 rw [List.range_succ, List.map_append]
 congr 1
 · apply List.map_congr_left
   intro j hj
   have hj' := List.mem_range.1 hj
   rw [Nat.div_div_eq_div_mul, show (256 : Nat) = 2 ^ 8 from rfl, <- Nat.pow_add]
   congr 3
   omega
 · simp
theorem getN_putL (n s : Nat) : getN (putL n s) = n % 256 ^ s := by
 induction s generalizing n with
 | zero => simp [putL, getN, Nat.mod_one]
 | succ s ih =>
   have h := Nat.mod_mul (x := n) (a := 256) (b := 256 ^ s)
   rw [putL_succ, getN_snoc, ih, UInt8.toNat_ofNat', show 256 ^ (s + 1) = 256 * 256 ^ s by rw [Nat.pow_succ, Nat.mul_comm], h, show (2 : Nat) ^ 8 = 256 from rfl]
   omega
end Go.Proofs.YtchcmklelmlbgaaGreat.Num
namespace Go.Proofs.YtchcmklelmlbgaaGreat.Sha
def kTab : List UInt32 := [
 0x428a2f98, 0x71374491, 0xb5c0fbcf, 0xe9b5dba5, 0x3956c25b, 0x59f111f1, 0x923f82a4, 0xab1c5ed5,
 0xd807aa98, 0x12835b01, 0x243185be, 0x550c7dc3, 0x72be5d74, 0x80deb1fe, 0x9bdc06a7, 0xc19bf174,
 0xe49b69c1, 0xefbe4786, 0x0fc19dc6, 0x240ca1cc, 0x2de92c6f, 0x4a7484aa, 0x5cb0a9dc, 0x76f988da,
 0x983e5152, 0xa831c66d, 0xb00327c8, 0xbf597fc7, 0xc6e00bf3, 0xd5a79147, 0x06ca6351, 0x14292967,
 0x27b70a85, 0x2e1b2138, 0x4d2c6dfc, 0x53380d13, 0x650a7354, 0x766a0abb, 0x81c2c92e, 0x92722c85,
 0xa2bfe8a1, 0xa81a664b, 0xc24b8b70, 0xc76c51a3, 0xd192e819, 0xd6990624, 0xf40e3585, 0x106aa070,
 0x19a4c116, 0x1e376c08, 0x2748774c, 0x34b0bcb5, 0x391c0cb3, 0x4ed8aa4a, 0x5b9cca4f, 0x682e6ff3,
 0x748f82ee, 0x78a5636f, 0x84c87814, 0x8cc70208, 0x90befffa, 0xa4506ceb, 0xbef9a3f7, 0xc67178f2]
def kAt (t : Nat) : UInt32 := kTab.getD t 0
def rot (x : UInt32) (n : Nat) : UInt32 := (x <<< (UInt32.ofNat (32 - n))) ||| (x >>> (UInt32.ofNat n))
def low (x : UInt32) : UInt32 := rot x 7 ^^^ rot x 18 ^^^ (x >>> 3)
def high (x : UInt32) : UInt32 := rot x 17 ^^^ rot x 19 ^^^ (x >>> 10)
def be32 (b : List UInt8) (t : Nat) : UInt32 := UInt32.ofNat (Num.getN ((b.drop (4 * t)).take 4))
def wnext (b : List UInt8) (l : List UInt32) : UInt32 :=
 if l.length < 16 then be32 b l.length else
   high (l.getD (l.length - 2) 0) + l.getD (l.length - 7) 0 + low (l.getD (l.length - 15) 0) + l.getD (l.length - 16) 0
def wl (b : List UInt8) : Nat -> List UInt32
 | 0 => []
 | k + 1 => wl b k ++ [wnext b (wl b k)]
structure H8 where
 a : UInt32
 b : UInt32
 c : UInt32
 d : UInt32
 e : UInt32
 f : UInt32
 g : UInt32
 h : UInt32
def H8.list (s : H8) : List UInt32 := [s.a, s.b, s.c, s.d, s.e, s.f, s.g, s.h]
def xOf (s : H8) (k w : UInt32) : UInt32 := s.h + (rot s.e 6 ^^^ rot s.e 11 ^^^ rot s.e 25) + (s.g ^^^ (s.e &&& (s.f ^^^ s.g))) + k + w
def yOf (s : H8) : UInt32 := (rot s.a 2 ^^^ rot s.a 13 ^^^ rot s.a 22) + (s.a &&& s.b ||| s.c &&& (s.a ||| s.b))
def round (s : H8) (k w : UInt32) : H8 := ⟨xOf s k w + yOf s, s.a, s.b, s.c, s.d + xOf s k w, s.e, s.f, s.g⟩
def rounds (w : List UInt32) (s : H8) : Nat -> H8
 | 0 => s
 | t + 1 => round (rounds w s t) (kAt t) (w.getD t 0)
def H8.add (s r : H8) : H8 := ⟨s.a + r.a, s.b + r.b, s.c + r.c, s.d + r.d, s.e + r.e, s.f + r.f, s.g + r.g, s.h + r.h⟩
def block (s : H8) (b : List UInt8) : H8 := if b.length = 64 then (rounds (wl b 64) s 64).add s else s
def first : H8 := ⟨0x6a09e667, 0xbb67ae85, 0x3c6ef372, 0xa54ff53a, 0x510e527f, 0x9b05688c, 0x1f83d9ab, 0x5be0cd19⟩
def padB (n : Nat) : List UInt8 := 128 :: List.replicate ((119 - n % 64) % 64) 0 ++ Num.putL (8 * n) 8
def blk (l : List UInt8) (k : Nat) : List UInt8 := (l.drop (64 * k)).take 64
def turned (l : List UInt8) : Nat -> H8
 | 0 => first
 | k + 1 => block (turned l k) (blk l k)
def out8 (s : H8) : List UInt8 := s.list.flatMap fun x => Num.putL x.toNat 4
def whole (l : List UInt8) : List UInt8 := l ++ padB l.length
def sum (l : List UInt8) : List UInt8 := out8 (turned (whole l) ((whole l).length / 64))
end Go.Proofs.YtchcmklelmlbgaaGreat.Sha
namespace Go.Proofs.YtchcmklelmlbgaaGreat.Mac
open Go.Proofs.YtchcmklelmlbgaaGreat.Sha (sum)
def padTo (l : List UInt8) (n : Nat) : List UInt8 := l.take n ++ List.replicate (n - l.length) 0
def key (k : List UInt8) : List UInt8 := padTo (if 64 < k.length then sum k else k) 64
def over (k : List UInt8) (c : UInt8) : List UInt8 := k.map fun x => x ^^^ c
def inner (k t : List UInt8) : List UInt8 := sum (over (key k) 0x36 ++ t)
def mac (k t : List UInt8) : List UInt8 := sum (over (key k) 0x5c ++ inner k t)
end Go.Proofs.YtchcmklelmlbgaaGreat.Mac
namespace Go.Proofs.YtchcmklelmlbgaaGreat.Kdf
open Go.Proofs.YtchcmklelmlbgaaGreat.Mac (mac)
def tag (k info : List UInt8) : Nat -> List UInt8
 | 0 => []
 | n + 1 => mac k (tag k info n ++ info ++ [UInt8.ofNat (n + 1)])
def tags (k info : List UInt8) : Nat -> List UInt8
 | 0 => []
 | n + 1 => tags k info n ++ tag k info (n + 1)
def many (size : Nat) : Nat := (size + 31) / 32
def expand (k info : List UInt8) (size : Nat) : List UInt8 := (tags k info (many size)).take size
def prefixB : List UInt8 := [111, 117, 98, 108, 105, 101, 116, 116, 101, 32]
def infoB (label : List UInt8) : List UInt8 := [0, 32, UInt8.ofNat (prefixB ++ label).length] ++ (prefixB ++ label)
def derive (k label : List UInt8) : List UInt8 := expand k (infoB label) 32
def chain (k label : List UInt8) : Nat -> List UInt8
 | 0 => k
 | n + 1 => derive (chain k label n) label
end Go.Proofs.YtchcmklelmlbgaaGreat.Kdf
namespace Go.Proofs.YtchcmklelmlbgaaGreat
open Go.RowKit
theorem run_conv_rd {P : Program} {w : World} {B : Nat} {A : Option Addr} {l : List UInt8} (src dst e : TypeId) (n c : Nat) (hn : n = l.length) (hs : P.underlying src = some (.slice e)) (he : P.underlying e = some (.int .u8)) (hd : P.underlying dst = some .string)
   (hr : Rd w B A (l.map e8)) : (convert src dst (.slice A n c)).run P w = .ok (.string ⟨l.toArray⟩) w := by
 subst hn
 cases A with
 | none =>
   have hl : l = [] := by
     cases l with
     | nil => rfl
     | cons a l => obtain ⟨b, off, h, _⟩ := hr (by simp); cases h
   subst hl
   simp [convert, run_underlying hs, run_underlying he, run_underlying hd, go_sem]
   rfl
 | some a =>
   refine run_convert_bytes_back w src dst e a c l hs he hd fun j hj => ?_
   obtain ⟨b, off, h, _, hc⟩ := hr (by intro h; simp at h; subst h; exact absurd hj (by simp))
   injection h with h
   subst h
   rw [Addr.add_lit, hc j (by simpa using hj), List.getElem_map]
end Go.Proofs.YtchcmklelmlbgaaGreat
namespace Go.Proofs.YtchcmklelmlbgaaGreat.R1
open Go.RowKit
set_option linter.unusedVariables false
set_option maxRecDepth 100000
def sameB (a b : List UInt8) : Bool := decide (a = b)
theorem sameB_self (a : List UInt8) : sameB a a = true := by simp [sameB]
theorem sameB_of {a b : List UInt8} (h : a = b) : sameB a b = true := by simp [sameB, h]
theorem sameB_len {a b : List UInt8} (h : a.length ≠ b.length) : sameB a b = false := by
 simp only [sameB, decide_eq_false_iff_not]; intro e; exact h (by rw [e])
theorem sameB_at {a b : List UInt8} {k : Nat} (ha : k < a.length) (hb : k < b.length) (h : a[k] ≠ b[k]) : sameB a b = false := by
 simp only [sameB, decide_eq_false_iff_not]; intro e; subst e; exact h rfl
theorem sameB_all {a b : List UInt8} (hl : a.length = b.length) (h : ∀ j (ha : j < a.length) (hb : j < b.length), a[j] = b[j]) : sameB a b = true :=
 sameB_of (List.ext_getElem hl h)
theorem agree_succ {l m : List UInt8} {k : Nat} (h : ∀ j (ha : j < l.length) (hb : j < m.length), j < k -> l[j] = m[j]) {h1 : k < l.length} {h2 : k < m.length} (he : l[k] = m[k]) :
   ∀ j (ha : j < l.length) (hb : j < m.length), j < k + 1 -> l[j] = m[j] := fun j ha hb hj => by
 rcases Nat.lt_or_ge j k with e | e
 · exact h j ha hb e
 · obtain rfl : j = k := by omega
   exact he
set_option maxHeartbeats 400000 in
theorem same_any (A B : Option Addr) (l m : List UInt8) (n o c d : Nat) (w : World) (hn : n = l.length) (ho : o = m.length) (ha : Rd w w.heap.size A (l.map e8)) (hb : Rd w w.heap.size B (m.map e8)) (hl : l.length <= 1000000000000) (hm : m.length <= 1000000000000) :
   Calls Tryz.prog 95 #[.slice A n c, .slice B o d] w fun e w' => e = .returned (.bool (sameB l m)) /\ Below w.heap.size w w' := by
 subst hn ho
 by_cases hlen : l.length = m.length
 · have hne := bne_no (congrArg (Nat.cast : Nat -> Int) hlen)
   have Hlen := Lib.hid hlen
   have hle : l.length <= m.length := by omega
   clear hlen
   go_enter Tryz.func95, Tryz.ntmps95
   go_wp2
   go_loopw [5] (fun i wr => ∃ k : Nat, k <= l.length /\ i = .int .i64 k /\ Hid (∀ j (ha : j < l.length) (hb : j < m.length), j < k -> l[j] = m[j]) /\ Below w.heap.size w wr) (fun i _ => l.length - (intOf i).toNat)
   case atStart => exact ⟨0, by omega, rfl, fun j _ _ h => absurd h (by omega), Below.refl _ _⟩
   case round =>
     obtain ⟨k, hk, rfl, heq, hbel⟩ := hrel
     by_cases hlt : k < l.length
     · obtain ⟨b, off, rfl, hbb, hc⟩ := (ha.below hbel).get (k := k) (by simpa using hlt)
       obtain ⟨b', off', rfl, hbb', hc'⟩ := (hb.below hbel).get (k := k) (by simp; omega)
       rw [List.getElem_map] at hc hc'
       have hlt' : k < m.length := by omega
       by_cases hx : l[k] = m[k]
       · have hx' := bne8_no hx
         have Hx := Lib.hid hx
         clear hx
         go_wp2
         go_quiet (fail)
         go_wp2
         go_roundw
         case rel => exact ⟨k + 1, by omega, by go_num, agree_succ heq.out Hx.out, by simpa using bdrew hbel _⟩
         case measure => simp [intOf]; omega
       · have hx' := bne8 hx
         have Hx := Lib.hid (sameB_at hlt hlt' hx)
         clear hx
         go_wp2
         go_quiet (fail)
         go_wp2
         go_ret
         exact ⟨ret_bool Hx.out.symm, bdrew hbel _⟩
     · have Hx := Lib.hid (sameB_all Hlen.out fun j h1 h2 => heq.out j h1 h2 (by omega))
       go_wp2
       go_ret
       exact ⟨ret_bool Hx.out.symm, hbel⟩
 · have hne := bne_yes (fun e => hlen (Int.natCast_inj.1 e))
   have Hx := Lib.hid (sameB_len hlen)
   clear hlen
   go_enter Tryz.func95, Tryz.ntmps95
   go_wp2
   go_ret
   exact ⟨ret_bool Hx.out.symm, Below.refl _ _⟩
end Go.Proofs.YtchcmklelmlbgaaGreat.R1
namespace Go.Proofs.YtchcmklelmlbgaaGreat.Mac
open Go.RowKit
set_option linter.unusedVariables false
set_option maxRecDepth 100000
theorem info8 : (Tryz.prog.info? 5).map (fun i => (i.zero, i.size, i.bytes)) = some (some (.int .u8 0), 1, 1) := by kernel_rfl
theorem size8 : (Tryz.prog.info? 5).map (·.size) = some 1 := by kernel_rfl
theorem splice_get : ∀ (cs xs : List Value) (o i : Nat), o + cs.length <= xs.length -> (splice xs o cs)[i]? = if o <= i /\ i < o + cs.length then cs[i - o]? else xs[i]?
 | [], xs, o, i, _ => by
   rw [splice, if_neg (by intro h; simp at h; omega)]
 | v :: r, xs, o, i, h => by
   simp only [List.length_cons] at h
   rw [splice, splice_get r (xs.set o v) (o + 1) i (by simp; omega)]
   by_cases h1 : o + 1 <= i /\ i < o + 1 + r.length
   · rw [if_pos h1, if_pos (by simp only [List.length_cons]; omega), show i - o = (i - (o + 1)) + 1 by omega, List.getElem?_cons_succ]
   · rw [if_neg h1]
     by_cases h2 : i = o
     · subst h2
       rw [if_pos (by simp only [List.length_cons]; omega), List.getElem?_set_self (by omega)]
       simp
     · rw [if_neg (by simp only [List.length_cons]; omega), List.getElem?_set_ne (by omega)]
theorem splice_front (xs cs : List Value) (h : cs.length <= xs.length) : splice xs 0 cs = cs ++ xs.drop cs.length := by
 apply List.ext_getElem?
 intro i
 rw [splice_get cs xs 0 i (by omega)]
 by_cases h1 : i < cs.length
 · rw [if_pos (by omega), List.getElem?_append_left h1]; simp
 · rw [if_neg (by omega), List.getElem?_append_right (by omega), List.getElem?_drop, show cs.length + (i - cs.length) = i by omega]
theorem own_setCells {base : Nat} {e : TypeId} {size g n cap : Nat} : ∀ (cs : List Value) (o : Nat) {w : World} {xs : List Value}, w.ownsRow base e size (.slice (some ⟨g, 0, none⟩) n cap) n xs -> (w.setCells g o cs).ownsRow base e size (.slice (some ⟨g, 0, none⟩) n cap) n (splice xs o cs)
 | [], _, _, _, h => h
 | v :: r, o, _, _, h => own_setCells r (o + 1) (World.ownsRow.stored h o v).1
section
variable {P : Program}
theorem wpList_copyO {w : World} {ops : Array Oper} {rest : List Oper} {o : Oper} {a : Act} {Q : Exit -> Act -> World -> Prop} (hgd : o.guard = none) (d s : Operand) (t t' : TypeId)
   (ho : o.op = .call { callee := .builtin .copy, args := #[d, s], argTypes := #[t, t'] }) {g n cap : Nat} {A : Option Addr} {sLen sCap : Nat} (hd : a.eval d = .slice (some ⟨g, 0, none⟩) n cap) (hs : a.eval s = .slice A sLen sCap)
   {e : TypeId} (hu : P.underlying t = some (.slice e)) (hi : (P.info? e).map (·.size) = some 1) {base : Nat} {xs : List Value} (hown : w.ownsRow base e 1 (.slice (some ⟨g, 0, none⟩) n cap) n xs)
   {B : Nat} {news : List Value} (hl : news.length = sLen) (hr : Rd w B A news) (h1 : ∀ v ∈ news, v.oneCell' = true)
   (h : ∀ w1 r, w1.ownsRow base e 1 (.slice (some ⟨g, 0, none⟩) n cap) n (news.take n ++ xs.drop (news.take n).length) -> w.grownBy w1 (some g) -> wpList P ops Q rest (a.put o.dst (.int .i64 r)) w1) : wpList P ops Q (o :: rest) a w := by
 have hxl : xs.length = n := by have := hown.1; omega
 refine wpList_plain hgd fun K hK => ?_
 by_cases h0 : Nat.min sLen n = 0
 · have hr := run_copy_none (P := P) w t t' o.type e (some ⟨g, 0, none⟩) A n cap sLen sCap hu hi h0
   unfold Oper.wp execOp
   simp only [ho, resolve, invoke, builtin, Sem.run_bind, Sem.run_pure, Result.andThen_ok, List.map_toArray, List.map_cons, List.map_nil, hd, hs, hr]
   have ht : news.take n = [] := by
     apply List.eq_nil_of_length_eq_zero
     rw [List.length_take, hl, Nat.min_comm]; exact h0
   refine hK _ _ (h _ _ ?_ ⟨rfl, rfl, rfl, Nat.le_refl _, fun _ _ _ => rfl⟩)
   rw [ht]; simpa using hown
 · have hne : news ≠ [] := by rintro rfl; simp at hl; subst hl; simp at h0
   obtain ⟨b, off, rfl, _, hc⟩ := hr hne
   have hcl : (news.take n).length = Nat.min sLen n := by rw [List.length_take, hl]; exact Nat.min_comm _ _
   have hle : (news.take n).length <= n := by rw [List.length_take]; omega
   have hr := run_copy_cells (P := P) w t t' o.type e g 0 n cap ⟨b, off, none⟩ sLen sCap (news.take n) hu hi hcl
     (fun j v hv => by
       obtain ⟨hj, rfl⟩ := List.getElem?_eq_some_iff.1 hv
       rw [List.length_take] at hj
       rw [Addr.add_lit, hc j (by omega), List.getElem_take])
     (fun j hj => by
       rw [Nat.zero_add, World.ownsRow.cellAt hown j (by omega), List.getElem?_eq_getElem (show j < xs.length by omega)]; simp)
     (fun j _ => by rw [Nat.zero_add]; exact World.ownsRow.frozenAt hown j) (fun v hv => h1 v (List.mem_of_mem_take hv))
   unfold Oper.wp execOp
   simp only [ho, resolve, invoke, builtin, Sem.run_bind, Sem.run_pure, Result.andThen_ok, List.map_toArray, List.map_cons, List.map_nil, hd, hs, hr]
   have := own_setCells (news.take n) 0 hown
   rw [splice_front _ _ (by omega)] at this
   exact hK _ _ (h _ _ this (setCells_grown g _ 0 w))
end
theorem padTo_cells (l : List UInt8) (s : Nat) : ((l.map e8).take s ++ (List.replicate s (.int .u8 0)).drop ((l.map e8).take s).length) = (padTo l s).map e8 := by
 unfold padTo
 rw [List.map_append, List.map_take, List.drop_replicate]
 congr 1
 rw [List.map_replicate]
 congr 1
 rw [List.length_take, List.length_map]; omega
set_option maxHeartbeats 400000 in
theorem npad_any (A : Option Addr) (l : List UInt8) (n c s : Nat) (z : Int) (hz : z = (s : Int)) (w : World) (hn : n = l.length) (h1 : 1 <= s) (h2 : s <= 65536) (hr : Rd w w.heap.size A (l.map e8)) :
   Calls Tryz.prog 123 #[.slice A n c, .int .i64 z] w fun e w' => RetB 5 w (padTo l s) e w' := by
 subst hn hz
 obtain ⟨i0, hi0, hz0, hz1, hz2⟩ := info_parts info8
 have h1' : ((s : Int) < 1) = False := by simp; omega
 have h2' : (65536 < (s : Int)) = False := by simp; omega
 go_enter Tryz.func123, Tryz.ntmps123
 go_wp2_with (first
   | ((with_reducible show wpList _ _ _ (⟨some 13, _, _, _, _, _⟩ :: _) _ _); refine wpList_makeN rfl _ _ _ rfl Tryz.underlying51 hi0 hz0 hz1 s s rfl rfl rfl rfl (Nat.le_refl _) (by rw [hz2]; omega) (by unfold maxLen; omega) ?_; intro w1 hown1 bw1 hs1)
   | ((with_reducible show wpList _ _ _ (⟨some 16, _, _, _, _, _⟩ :: _) _ _); refine wpList_copyO rfl _ _ _ _ rfl rfl rfl Tryz.underlying51 size8 hown1 (by simp) (hr.on bw1) (e8_one _) ?_; intro w2 r2 hown2 hg2)
   | fail)
 go_ret
 rw [padTo_cells] at hown2
 exact RetB.mk hown2 rfl (below_row bw1 hg2 (Nat.le_refl _) bw1.size)
set_option maxHeartbeats 400000 in
theorem equal_any (A B : Option Addr) (l m : List UInt8) (n o c d : Nat) (w : World) (hn : n = l.length) (ho : o = m.length) (hr : Rd w w.heap.size A (l.map e8)) (hs : Rd w w.heap.size B (m.map e8)) :
   Calls Tryz.prog 130 #[.slice A n c, .slice B o d] w fun e w' => e = .returned (.bool (R1.sameB l m)) /\ w = w' := by
 subst hn ho
 have h1 := run_conv_rd (P := Tryz.prog) 51 9 5 l.length c rfl Tryz.underlying51 Tryz.underlying5 Tryz.underlying9 hr
 have h2 := run_conv_rd (P := Tryz.prog) 51 9 5 m.length d rfl Tryz.underlying51 Tryz.underlying5 Tryz.underlying9 hs
 go_enter Tryz.func130, Tryz.ntmps130
 go_wp2
 go_ret
 exact ⟨ret_bool (by unfold R1.sameB; by_cases h : l = m <;> simp [h]), rfl⟩
end Go.Proofs.YtchcmklelmlbgaaGreat.Mac
namespace Go.Proofs.YtchcmklelmlbgaaGreat.Num
open Go.RowKit
set_option linter.unusedVariables false
set_option maxRecDepth 100000
theorem info8 : (Tryz.prog.info? 5).map (fun i => (i.zero, i.size, i.bytes)) = some (some (.int .u8 0), 1, 1) := by kernel_rfl
set_option maxHeartbeats 400000 in
theorem put_any (n : UInt64) (m : Int) (hm : m = (n.toNat : Int)) (s : Nat) (z : Int) (hz : z = (s : Int)) (hs : 1 <= s) (hs8 : s <= 8) (w : World) :
   Calls Tryz.prog 108 #[.int .u64 m, .int .i64 z] w fun e w' => RetB 5 w (putL n.toNat s) e w' := by
 subst hm hz
 obtain ⟨i0, hi0, hz0, hz1, hz2⟩ := info_parts info8
 have hn0 : (0 : Int) <= (n.toNat : Int) := by omega
 have hn1 : (n.toNat : Int) <= 18446744073709551615 := by have := n.toNat_lt; omega
 go_enter Tryz.func108, Tryz.ntmps108
 go_wp2
 go_step3
 go_wp2
 go_step3
 go_wp2
 go_loopw [4, 5] (fun v i wr => ∃ k : Nat, k <= s /\ i = .int .i64 ((s : Int) - 1 - (k : Int)) /\ wr.ownsRow w.heap.size 5 1 v k (((putL n.toNat s).take k).map e8) /\ Below w.heap.size w wr) (fun _ i _ => (intOf i + 1).toNat)
 case atStart => exact ⟨0, by omega, by go_num, by simpa using own_nil _ _ _ _, Below.refl _ _⟩
 case round =>
   obtain ⟨k, hk, rfl, hown, hbel⟩ := hrel
   by_cases hlt : k < s
   · have hcell := Lib.hid (cell_of n.toNat (8 * (s - 1 - k)))
     go_wp2_with (at_builtin; refine wpList_append_rd _ rfl _ _ _ rfl w.heap.size 5 i0 _ 1 1 Tryz.underlying51 hi0 hz0 hz1 hz2 rfl (by omega) _ k _ rfl (hown.alloc _) _ _ 1 1 [.int .u8 ((n.toNat : Int) / 2 ^ (8 * (s - 1 - k)) % 256)] rfl rfl (Rd.lit wr _ _ _ (wr.heap.size + 1) rfl (by omega)) (one_int _ _) (by simp only [maxLen]; omega) (by omega) (le_alloc hbel.size _) ?_; intro v1 w1 hown1 hg1 hat1)
     go_roundw
     case rel => exact ⟨k + 1, by omega, by go_num, by rw [putL_take _ _ _ hlt, List.map_append, List.map_singleton]; unfold e8; rw [hcell.out]; exact hown1, (hbel.alloc hbel.size _).grown hg1 (by have := hbel.size; simp; omega) (fun g hg => own_block hown hg)⟩
     case measure => simp [intOf]; omega
   · obtain rfl : k = s := by omega
     rw [List.take_of_length_le (by rw [putL_len]; omega)] at hown
     go_wp2
     rw [Exit.noGoto_ret]
     go_ret
     exact RetB.mk hown rfl hbel
theorem or_byte {n c : Nat} (hn : n < 72057594037927936) (hc : c < 256) : bits .or .u64 ((n : Int) * 256) (c : Int) = ((n * 256 + c : Nat) : Int) := by
 have h := u64_or_nat (n * 256) c (by omega) (by omega)
 have h2 : n * 256 ||| c = n * 256 + c := by
   have := Nat.shiftLeft_add_eq_or_of_lt (i := 8) (a := n) (b := c) (by omega)
   rw [Nat.shiftLeft_eq, show (2 : Nat) ^ 8 = 256 from rfl] at this
   omega
 rw [h2] at h
 rw [show ((n : Int) * 256) = ((n * 256 : Nat) : Int) by omega]
 exact h
set_option maxHeartbeats 400000 in
theorem get_any (A : Option Addr) (l : List UInt8) (n cap : Nat) (B : Nat) (w : World) (hn : n = l.length) (hr : Rd w B A (l.map e8)) (h1 : 1 <= l.length) (h8 : l.length <= 8) :
   Calls Tryz.prog 118 #[.slice A n cap] w fun e w' => e = .returned (.tuple #[.int .u64 (getN l : Int), .int .i64 0]) /\ w = w' := by
 subst hn
 have hne := beq_no (show (l.length : Int) ≠ 0 by omega)
 go_enter Tryz.func118, Tryz.ntmps118
 go_wp2
 go_loop [2, 5, 16] (fun n _ i => ∃ k : Nat, k <= l.length /\ i = .int .i64 k /\ n = .int .u64 (getN (l.take k) : Int)) (fun _ _ i => l.length - (intOf i).toNat)
 case atStart => exact ⟨0, by omega, rfl, rfl⟩
 case round =>
   obtain ⟨k, hk, rfl, rfl⟩ := hrel
   by_cases hlt : k < l.length
   · obtain ⟨b, off, rfl, hbb, hc⟩ := hr.get (k := k) (by simpa using hlt)
     rw [List.getElem_map] at hc
     have hb := getN_7 l k hk (by omega)
     have hc0 : (0 : Int) <= (l[k].toNat : Int) := by omega
     have hc1 : (l[k].toNat : Int) <= 255 := by have := l[k].toNat_lt; omega
     have hv := Lib.hid (show bits .or .u64 ((getN (l.take k) : Int) * 256) (l[k].toNat : Int) = (getN (l.take (k + 1)) : Int) by rw [or_byte hb (by omega), getN_take hlt])
     go_wp2
     go_round
     case rel => exact ⟨k + 1, by omega, by go_num, by rw [hv.out]⟩
     case measure => simp [intOf]; omega
   · obtain rfl : k = l.length := by omega
     have ht := Lib.hid (show getN (l.take l.length) = getN l by rw [List.take_length])
     go_wp2
     go_ret2
     exact ⟨by rw [<- ht.out]; rfl, rfl⟩
end Go.Proofs.YtchcmklelmlbgaaGreat.Num
namespace Go.Proofs.YtchcmklelmlbgaaGreat.Sec
open Go.Proofs.YtchcmklelmlbgaaGreat.Num (putL getN putL_len)
open Go.Proofs.YtchcmklelmlbgaaGreat.Mac (padTo)
structure X where
 kind : Int
 life : UInt64
 seq : Int
 gen : UInt64
 body : List UInt8
def rightF (p : Int) (x : X) : Int := if x.kind < 1 \/ 5 < x.kind \/ p < 0 \/ 1023 < p \/ x.seq < 0 \/ 1073741824 < x.seq then 2 else if 479 < x.body.length then 6 else 0
theorem right_of {p : Int} {x : X} (h : rightF p x = 0) : 1 <= x.kind /\ x.kind <= 5 /\ 0 <= p /\ p <= 1023 /\ 0 <= x.seq /\ x.seq <= 1073741824 /\ x.body.length <= 479 := by
 unfold rightF at h
 split at h
 · cases h
 · split at h
   · cases h
   · omega
theorem right_2 {p : Int} {x : X} (h : x.kind < 1 \/ 5 < x.kind \/ p < 0 \/ 1023 < p \/ x.seq < 0 \/ 1073741824 < x.seq) : rightF p x = 2 := if_pos h
theorem right_6 {p : Int} {x : X} (h : ¬ (x.kind < 1 \/ 5 < x.kind \/ p < 0 \/ 1023 < p \/ x.seq < 0 \/ 1073741824 < x.seq)) (hb : 479 < x.body.length) : rightF p x = 6 := by unfold rightF; rw [if_neg h, if_pos hb]
theorem right_0 {p : Int} {x : X} (h : ¬ (x.kind < 1 \/ 5 < x.kind \/ p < 0 \/ 1023 < p \/ x.seq < 0 \/ 1073741824 < x.seq)) (hb : ¬ 479 < x.body.length) : rightF p x = 0 := by unfold rightF; rw [if_neg h, if_neg hb]
def head (p : Int) (x : X) : List UInt8 := putL x.kind.toNat 1 ++ putL p.toNat 2 ++ putL x.life.toNat 8 ++ putL x.seq.toNat 4 ++ putL x.gen.toNat 8 ++ putL x.body.length 2
theorem head_len (p : Int) (x : X) : (head p x).length = 25 := by simp [head, putL_len]
def text (p : Int) (x : X) : List UInt8 := padTo (head p x ++ x.body) 504
theorem padTo_len (l : List UInt8) (n : Nat) : (padTo l n).length = n := by unfold padTo; simp; omega
theorem text_len (p : Int) (x : X) : (text p x).length = 504 := padTo_len _ _
def zero512 : List UInt8 := List.replicate 512 0
def blankB (b : List UInt8) : Bool := decide (b = zero512)
def cut (b : List UInt8) (i n : Nat) : List UInt8 := (b.drop i).take n
def lenB (b : List UInt8) : Nat := getN (cut b 23 2)
def ofB (b : List UInt8) : X := ⟨(getN (cut b 0 1) : Int), UInt64.ofNat (getN (cut b 3 8)), (getN (cut b 11 4) : Int), UInt64.ofNat (getN (cut b 15 8)), cut b 25 (lenB b)⟩
theorem cut_len {b : List UInt8} {i n : Nat} (h : i + n <= b.length) : (cut b i n).length = n := by simp [cut]; omega
def reads (p : Int) (b : List UInt8) : Option X := if lenB b <= 479 /\ rightF p (ofB b) = 0 /\ text p (ofB b) = b then some (ofB b) else none
theorem cut_take (b : List UInt8) (i n m : Nat) (h : i + n <= m) : cut (b.take m) i n = cut b i n := by
 unfold cut
 rw [List.drop_take, List.take_take, Nat.min_eq_left (by omega)]
theorem ofB_take {b : List UInt8} {m : Nat} (hm : 504 <= m) (h : lenB b <= 479) : ofB (b.take m) = ofB b := by
 have h2 : lenB (b.take m) = lenB b := by unfold lenB; rw [cut_take _ _ _ _ (by omega)]
 unfold ofB
 rw [h2, cut_take _ _ _ _ (by omega), cut_take _ _ _ _ (by omega), cut_take _ _ _ _ (by omega), cut_take _ _ _ _ (by omega), cut_take _ _ _ _ (by omega)]
theorem lenB_take {b : List UInt8} {m : Nat} (hm : 504 <= m) : lenB (b.take m) = lenB b := by unfold lenB; rw [cut_take _ _ _ _ (by omega)]
end Go.Proofs.YtchcmklelmlbgaaGreat.Sec
namespace Go.Proofs.YtchcmklelmlbgaaGreat.Crc
end Go.Proofs.YtchcmklelmlbgaaGreat.Crc
namespace Go.Proofs.YtchcmklelmlbgaaGreat.Crc
open Go.RowKit
end Go.Proofs.YtchcmklelmlbgaaGreat.Crc
namespace Go.Proofs.YtchcmklelmlbgaaGreat.Crc
open Go.RowKit
set_option linter.unusedVariables false
theorem wide (x : UInt32) : (x.toNat : Int) = ((x.toUInt64).toNat : Int) := by simp
end Go.Proofs.YtchcmklelmlbgaaGreat.Crc
