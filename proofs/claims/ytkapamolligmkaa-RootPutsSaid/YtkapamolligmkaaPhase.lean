/- A region that draws its order, of reads and of a chain of calls that write, one waiting for the other: one walk in the order of the text serves every order. The class of worlds hangs on how many of the chain's calls are over. -/
import Derived.StillTail
import Derived.Deep.Quiet
import Derived.Deep.QuietTactic
import Derived.BigQuiet
namespace Go.Proofs.Ytkapamolligmkaa
open Go.RowKit
set_option linter.unusedVariables false

section
variable {P : Program} {ops : Array Oper} {md : Region.Mode} {C : Array Bool → World → Prop}

structure OkL (md : Region.Mode) (ops : Array Oper) (listed : Array Bool) : Prop where
  size : listed.size = ops.size
  closed : ∀ j oj, ops[j]? = some oj → listed.getD j false = true → ∀ e ∈ oj.after, Region.binds md e = true → listed.getD e.on false = true
theorem OkL.set {i : Nat} {listed : Array Bool} (inv : OkL md ops listed) (hi : i ∈ Region.ready md ops listed) : OkL md ops (listed.setIfInBounds i true) := by
  obtain ⟨_, oi, hoi, hall⟩ := mem_ready.1 hi
  refine ⟨by simp [inv.size], fun j oj hj hl e he hb => ?_⟩
  by_cases hij : i = j
  · subst hij
    have : oj = oi := Option.some.inj (hj.symm.trans hoi)
    subst this
    exact getD_set_true (hall e he hb)
  · rw [getD_set_ne false hij] at hl
    exact getD_set_true (inv.closed j oj hj hl e he hb)

/-- one value, whenever it comes up -/
def quietI (P : Program) (md : Region.Mode) (ops : Array Oper) (C : Array Bool → World → Prop) (i : Nat) (o : Oper) (a : Act) (v : Value) : Prop :=
  ∀ listed w, OkL md ops listed → i ∈ Region.ready md ops listed → C listed w → o.quietAt P a (C (listed.setIfInBounds i true)) w v
/-- as quietAt, the world that it got being of the class behind it too -/
def quietW (P : Program) (md : Region.Mode) (ops : Array Oper) (C : Array Bool → World → Prop) (i : Nat) (o : Oper) (a : Act) (v : Value) : Prop :=
  ∀ listed w, OkL md ops listed → i ∈ Region.ready md ops listed → C listed w → o.wp P a w (fun a' w' => a' = a.put o.dst v ∧ C (listed.setIfInBounds i true) w') (fun _ _ _ => False)
def idleI (md : Region.Mode) (ops : Array Oper) (C : Array Bool → World → Prop) (i : Nat) : Prop :=
  ∀ listed w, OkL md ops listed → i ∈ Region.ready md ops listed → C listed w → C (listed.setIfInBounds i true) w

def YieldsI (P : Program) (md : Region.Mode) (ops : Array Oper) (C : Array Bool → World → Prop) (i : Nat) (o : Oper) (v : Value) (a : Act) : Prop :=
  (Region.wanted o (yielded ops a.tmps) = true ∧ ∀ listed w, OkL md ops listed → i ∈ Region.ready md ops listed → C listed w → 
      match (execOp a.eval o).run P w with
      | .ok (.value u) w' => u = v ∧ C (listed.setIfInBounds i true) w'
      | .ok .skip w' => v = undef ∧ C (listed.setIfInBounds i true) w'
      | .ok (.enter f args) w' => Calls P f args w' (fun e w'' => e = .returned v ∧ C (listed.setIfInBounds i true) w'')
      | _ => False) ∨
  (Region.wanted o (yielded ops a.tmps) = false ∧ v = undef ∧ idleI md ops C i)

theorem YieldsI.of_same {i : Nat} {o : Oper} {v : Value} {a a' : Act} (hy : YieldsI P md ops C i o v a) (he : execOp a'.eval o = execOp a.eval o)
    (hw : Region.wanted o (yielded ops a'.tmps) = Region.wanted o (yielded ops a.tmps)) : YieldsI P md ops C i o v a' := by
  unfold YieldsI at *
  rw [he, hw]
  exact hy

def qOpI (P : Program) (md : Region.Mode) (ops : Array Oper) (C : Array Bool → World → Prop) (i : Nat) (K : Act → Prop) (a : Act) : Prop :=
  ∃ o v, ops[i]? = some o ∧ YieldsI P md ops C i o v a ∧ K (a.put o.dst v)

theorem qOpI_mono {i : Nat} {a : Act} {K K' : Act → Prop} (h : ∀ a, K a → K' a) (hh : qOpI P md ops C i K a) : qOpI P md ops C i K' a :=
  let ⟨o, v, h1, h2, h3⟩ := hh
  ⟨o, v, h1, h2, h _ h3⟩

theorem wpOp_of_qOpI {i : Nat} {a : Act} {listed : Array Bool} {K : Act → Prop} {K' : Act → World → Prop} {Q' : Exit → Act → World → Prop} {w : World} (hL : OkL md ops listed) (hi : i ∈ Region.ready md ops listed) (hC : C listed w)
    (h : ∀ a w', C (listed.setIfInBounds i true) w' → K a → K' a w') (hh : qOpI P md ops C i K a) : wpOp P ops Q' i K' a w := by
  obtain ⟨o, v, ho, hy, hk⟩ := hh
  unfold wpOp
  simp only [ho]
  rcases hy with ⟨hw, hv⟩ | ⟨hw, rfl, hid⟩
  · rw [if_pos hw]
    refine .inl ?_
    have h3 := hv listed w hL hi hC
    unfold Oper.wp
    generalize (execOp a.eval o).run P w = r at *
    cases r with
    | ok n w' =>
      cases n <;> simp only [Oper.upon] at h3 ⊢
      case value u => obtain ⟨rfl, h4⟩ := h3; exact h _ _ h4 hk
      case skip => obtain ⟨rfl, h4⟩ := h3; exact h _ _ h4 hk
      case enter f args => exact h3.mono fun e w'' ⟨he, hw''⟩ => by subst he; exact h _ _ hw'' hk
    | halt x w' => simp only at h3
  · rw [if_neg (by rw [hw]; simp)]
    exact h _ _ (hid listed w hL hi hC) hk

theorem qOpI_put {i j : Nat} {oi oj : Oper} {v : Value} (hj : ops[j]? = some oj) (hap : oi.apart ops oj = true)
    (hsi : ∀ cs b, oi.op ≠ .select cs b) (hsj : ∀ cs b, oj.op ≠ .select cs b) {K : Act → Prop} {a : Act}
    (hy : YieldsI P md ops C i oi v a) (h : qOpI P md ops C j K (a.put oi.dst v)) :
    qOpI P md ops C j (fun a' => YieldsI P md ops C i oi v a' ∧ K (a'.put oi.dst v)) a := by
  obtain ⟨h1, h2, h3⟩ := Oper.apart_spec hap
  have keep : ∀ (a : Act), YieldsI P md ops C i oi v a → ∀ u, YieldsI P md ops C i oi v (a.put oj.dst u) := fun a hy u =>
    hy.of_same (execOp_put oi hsi a oj.dst u h3) (wanted_put oi a oj.dst u h3)
  obtain ⟨o, u, ho, hyj, hk⟩ := h
  obtain rfl : o = oj := Option.some.inj (ho.symm.trans hj)
  exact ⟨o, u, hj, hyj.of_same (execOp_put o hsj a oi.dst v h1).symm (wanted_put o a oi.dst v h1).symm, keep a hy u, by rw [← Act.put_comm a v u h2]; exact hk⟩

def wpAnyI (P : Program) (md : Region.Mode) (ops : Array Oper) (C : Array Bool → World → Prop) (F : Array Bool → Prop) (Q : Act → Prop) : Nat → Array Bool → Act → Prop
  | 0, listed, a => Region.ready md ops listed = [] ∧ F listed ∧ Q a
  | fuel + 1, listed, a =>
    (Region.ready md ops listed = [] → F listed ∧ Q a) ∧
    ∀ i ∈ Region.ready md ops listed, qOpI P md ops C i (wpAnyI P md ops C F Q fuel (listed.setIfInBounds i true)) a

theorem wpAny_of_I {F : Array Bool → Prop} {Q : Act → Prop} {Q' : Exit → Act → World → Prop} (hQ : ∀ listed a w, F listed → C listed w → Q a → Q' .normal a w) : ∀ (fuel : Nat) (listed : Array Bool) (a : Act) (w : World), OkL md ops listed → C listed w →
    wpAnyI P md ops C F Q fuel listed a → wpAny P md ops Q' fuel listed a w
  | 0, _, _, _, _, hw, h => ⟨h.1, hQ _ _ _ h.2.1 hw h.2.2⟩
  | fuel + 1, _, _, _, hL, hw, h => ⟨fun h0 => hQ _ _ _ (h.1 h0).1 hw (h.1 h0).2, fun i hi => wpOp_of_qOpI hL hi hw (fun a' w' hw' => wpAny_of_I hQ fuel _ a' w' (hL.set hi) hw') (h.2 i hi)⟩

theorem wpAnyI_first {F : Array Bool → Prop} {Q : Act → Prop} {i : Nat} {oi : Oper} {v : Value} (hi : ops[i]? = some oi) (hsel : ∀ (j : Nat) (o : Oper) cs b, ops[j]? = some o → o.op ≠ .select cs b) :
    ∀ (fuel : Nat) (listed : Array Bool) (a : Act),
      (∀ j oj, ops[j]? = some oj → j ≠ i → listed.getD j true = false → (∀ e ∈ oj.after, Region.binds md e = true → e.on ≠ i) → oi.apart ops oj = true) →
      i ∈ Region.ready md ops listed → YieldsI P md ops C i oi v a →
      wpAnyI P md ops C F Q fuel (listed.setIfInBounds i true) (a.put oi.dst v) → wpAnyI P md ops C F Q (fuel + 1) listed a := by
  intro fuel
  induction fuel with
  | zero =>
    intro listed a _ hr hy H
    refine ⟨fun h => (by rw [h] at hr; cases hr), fun j hj => ?_⟩
    by_cases hji : j = i
    · subst hji; exact ⟨oi, v, hi, hy, H⟩
    · have := ready_mono hj hji
      rw [H.1] at this
      cases this
  | succ fuel ih =>
    intro listed a hfree hr hy H
    refine ⟨fun h => (by rw [h] at hr; cases hr), fun j hj => ?_⟩
    by_cases hji : j = i
    · subst hji; exact ⟨oi, v, hi, hy, H⟩
    · have h1 := H.2 j (ready_mono hj hji)
      obtain ⟨hjun, oj, hoj, hall⟩ := mem_ready.1 hj
      have hnot : ∀ e ∈ oj.after, Region.binds md e = true → e.on ≠ i := fun e he hb heq => by
        have h1 := hall e he hb
        have h0 := (mem_ready.1 hr).1
        rw [heq] at h1
        rcases Nat.lt_or_ge i listed.size with h' | h'
        · simp [h'] at h0 h1; rw [h0] at h1; cases h1
        · simp [Array.getElem?_eq_none h'] at h1
      have h2 := qOpI_put hoj (hfree j oj hoj hji hjun hnot) (fun cs b => hsel i oi cs b hi) (fun cs b => hsel j oj cs b hoj) hy h1
      have hfree' : ∀ k ok, ops[k]? = some ok → k ≠ i → (listed.setIfInBounds j true).getD k true = false →
          (∀ e ∈ ok.after, Region.binds md e = true → e.on ≠ i) → oi.apart ops ok = true := fun k ok hk hki hun hno => by
        refine hfree k ok hk hki ?_ hno
        by_cases hjk : j = k
        · subst hjk; exact hjun
        · rw [getD_set_ne true hjk] at hun; exact hun
      refine qOpI_mono (fun a' h3 => ih (listed.setIfInBounds j true) a' hfree' (ready_mono hr (Ne.symm hji)) h3.1 ?_) h2
      rw [Array.setIfInBounds_comm _ _ hji]
      exact h3.2

def wpLexI (P : Program) (md : Region.Mode) (ops : Array Oper) (C : Array Bool → World → Prop) (Q : Act → Prop) : Nat → List Oper → Act → Prop
  | _, [], a => Q a
  | k, o :: rest, a => ∃ v, YieldsI P md ops C k o v a ∧ wpLexI P md ops C Q (k + 1) rest (a.put o.dst v)

def lexLast : List Nat → Array Bool → Array Bool
  | [], listed => listed
  | i :: is, listed => lexLast is (listed.setIfInBounds i true)

theorem wpAnyI_lex {F : Array Bool → Prop} {Q : Act → Prop} (hs : Region.noSelect ops = true) : ∀ (l : List Oper) (k : Nat) (listed : Array Bool) (a : Act), (∀ j, l[j]? = ops[k + j]?) →
    Region.lexFrom md ops l.length k listed = true → F (lexLast (List.range' k l.length) listed) → wpLexI P md ops C Q k l a → wpAnyI P md ops C F Q l.length listed a
  | [], _, _, _, _, hB, hF, h => ⟨by simpa [Region.lexFrom] using hB, hF, h⟩
  | o :: l, k, listed, a, hl, hB, hF, h => by
    have h0 : ops[k]? = some o := by simpa using (hl 0).symm
    simp only [List.length_cons, Region.lexFrom, Bool.and_eq_true] at hB
    obtain ⟨⟨hr, hf⟩, hB'⟩ := hB
    obtain ⟨v, hy, hK⟩ := h
    exact wpAnyI_first h0 (Region.noSelect_spec hs) l.length listed a (Region.free_spec h0 hf) (by simpa using hr) hy
      (wpAnyI_lex hs l (k + 1) _ _ (fun j => by have := hl (j + 1); simpa [Nat.add_assoc, Nat.add_comm 1 j] using this) hB' hF hK)

theorem wp_region_I {id : Nat} {F : Array Bool → Prop} {Q : Exit → Act → World → Prop} {a : Act} {w : World} (hm : P.follows .mixedOrders = true) (hB : Region.lexB .any ops = true) (hC : C (Array.replicate ops.size false) { w with drawn := w.drawn + 1 })
    (hF : F (lexLast (List.range' 0 ops.toList.length) (Array.replicate ops.size false)))
    (h : wpLexI P .any ops C (fun a' => ∀ listed w', F listed → C listed w' → Q .normal a' w') 0 ops.toList a) : (Code.region id ops true).wp P Q a w := by
  simp only [Region.lexB, Bool.and_eq_true] at hB
  have inv0 : OkL .any ops (Array.replicate ops.size false) :=
    ⟨by simp, fun j oj _ hl => (by rw [getD_replicate_false] at hl; cases hl)⟩
  refine wp_region_any hm (wpAny_of_I (C := C) (F := F) (Q := fun a' => ∀ listed w', F listed → C listed w' → Q .normal a' w') (fun _ _ w' hF hw' h => h _ w' hF hw') _ _ _ _ inv0 hC ?_)
  have := wpAnyI_lex (C := C) (F := F) (md := .any) hB.1 ops.toList 0 (Array.replicate ops.size false) a (by simp) (by simpa using hB.2) hF h
  simpa using this
end

/-! ### how many of a chain are over -/
def phase (chain : List Nat) (listed : Array Bool) : Nat := (chain.filter fun i => listed.getD i false).length
def descF (md : Region.Mode) (i : Nat) : List Oper → Array Bool → Array Bool
  | [], acc => acc
  | o :: rest, acc => descF md i rest (acc.push (o.after.any fun e => Region.binds md e && (e.on == i || acc.getD e.on false)))
/-- does k wait for i, through others or not? -/
def reach (md : Region.Mode) (ops : Array Oper) (_ : Nat) (k i : Nat) : Bool := (descF md i ops.toList #[]).getD k false
section
variable {ops : Array Oper} {md : Region.Mode}
theorem desc_listed {listed : Array Bool} (hL : OkL md ops listed) (i : Nat) : ∀ (l : List Oper) (acc : Array Bool), (∀ j, l[j]? = ops[acc.size + j]?) →
    (∀ k, acc.getD k false = true → (k ∈ Region.ready md ops listed ∨ listed.getD k false = true) → listed.getD i false = true) →
    ∀ k, (descF md i l acc).getD k false = true → (k ∈ Region.ready md ops listed ∨ listed.getD k false = true) → listed.getD i false = true
  | [], acc, _, h, k, hk, hr => h k hk hr
  | o :: rest, acc, hl, h, k, hk, hr => by
    refine desc_listed hL i rest _ (fun j => by have := hl (j + 1); simpa [Nat.add_assoc, Nat.add_comm 1 j] using this) (fun k' hk' hr' => ?_) k hk hr
    by_cases e : k' < acc.size
    · refine h k' ?_ hr'
      simpa [Array.getD, Array.getElem?_push, e, Nat.ne_of_lt e, show k' < acc.size + 1 by omega, Array.getElem_push] using hk'
    · by_cases e2 : k' = acc.size
      · subst e2
        have ho : ops[acc.size]? = some o := by simpa using (hl 0).symm
        have hv : (o.after.any fun e => Region.binds md e && (e.on == i || acc.getD e.on false)) = true := by
          simpa [Array.getD] using hk'
        obtain ⟨e, he, hb⟩ := Array.any_eq_true'.1 hv
        simp only [Bool.and_eq_true, Bool.or_eq_true, beq_iff_eq] at hb
        have hle : listed.getD e.on false = true := by
          rcases hr' with hr' | hr'
          · obtain ⟨_, o', ho', hall⟩ := mem_ready.1 hr'
            obtain rfl : o = o' := Option.some.inj (ho.symm.trans ho')
            exact hall e he hb.1
          · exact hL.closed _ o ho hr' e he hb.1
        rcases hb.2 with h1 | h1
        · rw [← h1]; exact hle
        · exact h e.on h1 (.inr hle)
      · exfalso
        have : ¬ k' < acc.size + 1 := by omega
        simp [Array.getD, this] at hk'
theorem reach_listed {listed : Array Bool} (hL : OkL md ops listed) (f k i : Nat) (hk : k ∈ Region.ready md ops listed ∨ listed.getD k false = true) (h : reach md ops f k i = true) : listed.getD i false = true :=
  desc_listed hL i ops.toList #[] (by simp) (fun k hk _ => by simp at hk) k h hk
theorem filter_le {p q : Nat → Bool} (h : ∀ i, p i = true → q i = true) : ∀ l : List Nat, (l.filter p).length ≤ (l.filter q).length
  | [] => by simp
  | i :: l => by
    have ih := filter_le h l
    rw [List.filter_cons, List.filter_cons]
    by_cases hp : p i = true
    · rw [if_pos hp, if_pos (h i hp), List.length_cons, List.length_cons]; omega
    · rw [if_neg hp]
      split
      · rw [List.length_cons]; omega
      · exact ih
theorem phase_ge {chain : List Nat} {listed : Array Bool} (hL : OkL md ops listed) {k f : Nat} (hk : k ∈ Region.ready md ops listed) : (chain.filter fun i => reach md ops f k i).length ≤ phase chain listed := by
  unfold phase
  exact filter_le (fun i h => reach_listed hL f k i (.inl hk) h) chain
theorem phase_set {chain : List Nat} {listed : Array Bool} {k : Nat} (h : chain.contains k = false) : phase chain (listed.setIfInBounds k true) = phase chain listed := by
  unfold phase
  congr 1
  refine List.filter_congr fun i hi => ?_
  have : k ≠ i := by rintro rfl; simp [hi] at h
  rw [getD_set_ne false this]
theorem ready_false {listed : Array Bool} {k : Nat} (hk : k ∈ Region.ready md ops listed) : listed.getD k false = false := getD_both (mem_ready.1 hk).1
theorem phase_eq {chain : List Nat} {listed : Array Bool} (hL : OkL md ops listed) {k f : Nat} (hk : k ∈ Region.ready md ops listed) (ht : ∀ c ∈ chain, c = k ∨ reach md ops f k c = true ∨ reach md ops f c k = true) :
    phase chain listed = (chain.filter fun i => reach md ops f k i).length := by
  unfold phase
  congr 1
  refine List.filter_congr fun c hc => ?_
  cases hr : reach md ops f k c with
  | true => exact reach_listed hL f k c (.inl hk) hr
  | false =>
    rcases ht c hc with rfl | h | h
    · exact ready_false hk
    · rw [hr] at h; cases h
    · cases hl : listed.getD c false with
      | false => rfl
      | true =>
        have := reach_listed hL f c k (.inr hl) h
        rw [ready_false hk] at this
        cases this
theorem phase_one {listed : Array Bool} {k : Nat} (hin : k < listed.size) (hun : listed.getD k false = false) : ∀ {chain : List Nat}, chain.Nodup → k ∈ chain → phase chain (listed.setIfInBounds k true) = phase chain listed + 1
  | [], _, h => by cases h
  | c :: l, hn, h => by
    have hn' := List.nodup_cons.1 hn
    unfold phase
    rw [List.filter_cons, List.filter_cons]
    by_cases e : c = k
    · subst e
      have h1 : (listed.setIfInBounds c true).getD c false = true := by simp [hin]
      have h2 : (l.filter fun i => (listed.setIfInBounds c true).getD i false) = l.filter fun i => listed.getD i false :=
        List.filter_congr fun i hi => getD_set_ne false (fun e => hn'.1 (by rw [e]; exact hi))
      rw [if_pos h1, if_neg (by rw [hun]; simp), h2]
      rfl
    · have hk : k ∈ l := by
        rcases List.mem_cons.1 h with h | h
        · exact absurd h.symm e
        · exact h
      have ih := phase_one hin hun hn'.2 hk
      unfold phase at ih
      rw [getD_set_ne false (Ne.symm e)]
      split
      · rw [List.length_cons, List.length_cons, ih]
      · exact ih

def ix : List Nat → Nat → Nat
  | [], _ => 0
  | i :: l, k => if i = k then 0 else ix l k + 1
def lkp : List (Nat × Nat) → Nat → Nat
  | [], _ => 0
  | (i, b) :: l, k => if i = k then b else lkp l k
def phB (md : Region.Mode) (ops : Array Oper) (f : Nat) (chain : List Nat) (lo : List (Nat × Nat)) : Bool :=
  decide chain.Nodup && chain.all (fun c => decide (c < ops.size) && chain.all (fun d => d == c || reach md ops f c d || reach md ops f d c) && (chain.filter fun i => reach md ops f c i).length == ix chain c) &&
    lo.all (fun kb => decide (kb.2 ≤ (chain.filter fun i => reach md ops f kb.1 i).length)) && phase chain (lexLast (List.range' 0 ops.toList.length) (Array.replicate ops.size false)) == chain.length
theorem lkp_le {md : Region.Mode} {ops : Array Oper} {f : Nat} {chain : List Nat} {k : Nat} : ∀ {lo : List (Nat × Nat)}, lo.all (fun kb => decide (kb.2 ≤ (chain.filter fun i => reach md ops f kb.1 i).length)) = true → lkp lo k ≤ (chain.filter fun i => reach md ops f k i).length
  | [], _ => Nat.zero_le _
  | (i, b) :: l, h => by
    simp only [List.all_cons, Bool.and_eq_true, decide_eq_true_eq] at h
    unfold lkp
    split
    · rename_i e; subst e; exact h.1
    · exact lkp_le h.2
end

section
variable {P : Program} {ops : Array Oper} {Ph : Nat → World → Prop} {chain : List Nat} {lo : List (Nat × Nat)}
def Cl (Ph : Nat → World → Prop) (b : Nat) (w : World) : Prop := ∃ p, b ≤ p ∧ Ph p w
def phUpon (P : Program) (C' : World → Prop) (v : Value) : Result Next → Prop
  | .ok (.value u) w' => u = v ∧ C' w'
  | .ok .skip w' => v = undef ∧ C' w'
  | .ok (.enter f args) w' => Calls P f args w' fun e w'' => e = .returned v ∧ C' w''
  | _ => False
/-- the walk in the order of the text -/
def wpPh (P : Program) (ops : Array Oper) (Ph : Nat → World → Prop) (chain : List Nat) (lo : List (Nat × Nat)) (Q : Act → Prop) : Nat → List Oper → Act → Prop
  | _, [], a => Q a
  | k, o :: rest, a =>
    if Region.wanted o (yielded ops a.tmps) then
      if chain.contains k then ∃ v, (∀ w, Ph (ix chain k) w → phUpon P (Ph (ix chain k + 1)) v ((execOp a.eval o).run P w)) ∧ wpPh P ops Ph chain lo Q (k + 1) rest (a.put o.dst v)
      else ∃ v, (∀ w, Cl Ph (lkp lo k) w → o.quietAt P a (fun w'' => ∀ p, Ph p w → Ph p w'') w v) ∧ wpPh P ops Ph chain lo Q (k + 1) rest (a.put o.dst v)
    else chain.contains k = false ∧ wpPh P ops Ph chain lo Q (k + 1) rest (a.put o.dst undef)
@[go_sem] theorem phUpon_value (P : Program) (C' : World → Prop) (v u : Value) (w' : World) : phUpon P C' v (.ok (.value u) w') = (u = v ∧ C' w') := rfl
@[go_sem] theorem phUpon_skip (P : Program) (C' : World → Prop) (v : Value) (w' : World) : phUpon P C' v (.ok .skip w') = (v = undef ∧ C' w') := rfl
@[go_sem] theorem phUpon_enter (P : Program) (C' : World → Prop) (v : Value) (f : FuncId) (args : Array Value) (w' : World) : phUpon P C' v (.ok (.enter f args) w') = Calls P f args w' fun e w'' => e = .returned v ∧ C' w'' := rfl
theorem wpPh_nil {Q : Act → Prop} {a : Act} {k : Nat} (h : Q a) : wpPh P ops Ph chain lo Q k [] a := h
theorem wpPh_read {Q : Act → Prop} {a : Act} {o : Oper} {rest : List Oper} {k b : Nat} (hc : chain.contains k = false) (hb : lkp lo k = b)
    (h : ∀ K : Act → Prop, (∀ a, wpPh P ops Ph chain lo Q (k + 1) rest a → K a) → if Region.wanted o (yielded ops a.tmps) then ∃ v, (∀ w, Cl Ph b w → o.quietAt P a (fun w'' => ∀ p, Ph p w → Ph p w'') w v) ∧ K (a.put o.dst v) else K (a.put o.dst undef)) :
    wpPh P ops Ph chain lo Q k (o :: rest) a := by
  have h := h _ (fun _ h => h)
  unfold wpPh
  split
  · rename_i hw
    rw [if_pos hw, ← hb] at h
    rw [if_neg (by rw [hc]; simp)]
    exact h
  · rename_i hw
    rw [if_neg hw] at h
    exact ⟨hc, h⟩
theorem wpPh_call {Q : Act → Prop} {a : Act} {o : Oper} {rest : List Oper} {k i : Nat} (hc : chain.contains k = true) (hi : ix chain k = i)
    (h : ∀ K : Act → Prop, (∀ a, wpPh P ops Ph chain lo Q (k + 1) rest a → K a) → if Region.wanted o (yielded ops a.tmps) then ∃ v, (∀ w, Ph i w → phUpon P (Ph (i + 1)) v ((execOp a.eval o).run P w)) ∧ K (a.put o.dst v) else False) :
    wpPh P ops Ph chain lo Q k (o :: rest) a := by
  have h := h _ (fun _ h => h)
  unfold wpPh
  split at h
  · rename_i hw
    rw [if_pos hw, if_pos hc, hi]
    exact h
  · exact h.elim

theorem lex_of_ph {f : Nat} {Q : Act → Prop} (hB : phB .any ops f chain lo = true) : ∀ (l : List Oper) (k : Nat) (a : Act), wpPh P ops Ph chain lo Q k l a →
    wpLexI P .any ops (fun listed w => Ph (phase chain listed) w) Q k l a
  | [], _, _, h => h
  | o :: rest, k, a, h => by
    simp only [phB, Bool.and_eq_true, decide_eq_true_eq, beq_iff_eq, List.all_eq_true, Bool.or_eq_true] at hB
    obtain ⟨⟨⟨hnd, hch⟩, hlo⟩, hF⟩ := hB
    have hB' : phB .any ops f chain lo = true := by
      simp only [phB, Bool.and_eq_true, decide_eq_true_eq, beq_iff_eq, List.all_eq_true, Bool.or_eq_true]
      exact ⟨⟨⟨hnd, hch⟩, hlo⟩, hF⟩
    unfold wpPh at h
    unfold wpLexI
    split at h
    · rename_i hw
      split at h
      · rename_i hc
        obtain ⟨v, h1, h2⟩ := h
        refine ⟨v, .inl ⟨hw, fun listed w hL hr hC => ?_⟩, lex_of_ph hB' rest (k + 1) _ h2⟩
        have hmem : k ∈ chain := by simpa using hc
        obtain ⟨⟨hlt, htot⟩, hix⟩ := hch k hmem
        have hp : phase chain listed = ix chain k := by
          rw [phase_eq hL hr (f := f) (fun c hcm => by
            rcases htot c hcm with (h | h) | h
            · exact .inl h
            · exact .inr (.inl h)
            · exact .inr (.inr h)), hix]
        have hp' := phase_one (by rw [hL.size]; exact hlt) (ready_false hr) hnd hmem
        have h3 := h1 w (by rw [← hp]; exact hC)
        rw [← hp, ← hp'] at h3
        generalize (execOp a.eval o).run P w = r at *
        unfold phUpon at h3
        exact h3
      · rename_i hc
        obtain ⟨v, h1, h2⟩ := h
        refine ⟨v, .inl ⟨hw, fun listed w hL hr hC => ?_⟩, lex_of_ph hB' rest (k + 1) _ h2⟩
        have hps : phase chain (listed.setIfInBounds k true) = phase chain listed := phase_set (by simpa using hc)
        have hge : lkp lo k ≤ phase chain listed := Nat.le_trans (lkp_le (f := f) (by simpa using hlo)) (phase_ge hL hr)
        have h3 := h1 w ⟨_, hge, hC⟩
        dsimp only at hC ⊢
        rw [hps]
        unfold Oper.quietAt at h3
        generalize (execOp a.eval o).run P w = r at *
        cases r with
        | ok n w' =>
          cases n <;> simp only [Oper.quietUpon] at h3 ⊢
          case value u => obtain ⟨rfl, rfl⟩ := h3; exact ⟨rfl, hC⟩
          case skip => obtain ⟨rfl, rfl⟩ := h3; exact ⟨rfl, hC⟩
          case enter g args => obtain ⟨rfl, h4⟩ := h3; exact h4.mono fun e w'' ⟨he, hw''⟩ => ⟨he, hw'' _ hC⟩
        | halt x w' => exact h3
    · rename_i hw
      obtain ⟨hc, h2⟩ := h
      refine ⟨undef, .inr ⟨by simpa using hw, rfl, fun listed w hL hr hC => ?_⟩, lex_of_ph hB' rest (k + 1) _ h2⟩
      show Ph (phase chain (listed.setIfInBounds k true)) w
      rw [phase_set hc]; exact hC

theorem region_phase {id : Nat} {Q : Exit → Act → World → Prop} {a : Act} {w : World} {l : List Oper} (f : Nat) (chain : List Nat) (lo : List (Nat × Nat)) (Ph : Nat → World → Prop) (hm : P.follows .mixedOrders = true) (hB : Region.lexB .any l.toArray = true) (hP : phB .any l.toArray f chain lo = true)
    (hC : Ph 0 { w with drawn := w.drawn + 1 })
    (h : wpPh P l.toArray Ph chain lo (fun a' => ∀ w', Ph chain.length w' → Q .normal a' w') 0 l a) : (Code.region id l.toArray true).wp P Q a w := by
  have hF : phase chain (lexLast (List.range' 0 l.toArray.toList.length) (Array.replicate l.toArray.size false)) = chain.length := by
    simp only [phB, Bool.and_eq_true, beq_iff_eq] at hP
    exact hP.2
  have h0 : phase chain (Array.replicate l.toArray.size false) = 0 := by
    unfold phase
    rw [List.length_eq_zero_iff, List.filter_eq_nil_iff]
    intro c _
    rw [getD_replicate_false]; simp
  refine wp_region_I (C := fun listed w => Ph (phase chain listed) w) (F := fun listed => phase chain listed = chain.length) hm hB (by rw [h0]; exact hC) hF ?_
  have h1 := lex_of_ph (P := P) (Q := fun a' => ∀ w', Ph chain.length w' → Q .normal a' w') hP l 0 a h
  have mono : ∀ (l' : List Oper) (k : Nat) (a : Act), wpLexI P .any l.toArray (fun listed w => Ph (phase chain listed) w) (fun a' => ∀ w', Ph chain.length w' → Q .normal a' w') k l' a →
      wpLexI P .any l.toArray (fun listed w => Ph (phase chain listed) w) (fun a' => ∀ (listed : Array Bool) w', phase chain listed = chain.length → Ph (phase chain listed) w' → Q .normal a' w') k l' a := by
    intro l'
    induction l' with
    | nil => intro k a h listed w' hF hC; rw [hF] at hC; exact h w' hC
    | cons o rest ih => intro k a h; obtain ⟨v, hy, h2⟩ := h; exact ⟨v, hy, ih _ _ h2⟩
  exact mono _ _ _ (by simpa using h1)
def Two (A B : World → Prop) : Nat → World → Prop
  | 0 => A
  | _ + 1 => B
end
end Go.Proofs.Ytkapamolligmkaa
