/- A region that draws its order, in which what turns the world comes in one order alone: the worlds are written out ahead, one behind the other; each read has bounds on how many turns are over. One walk in the order of the text serves every order. -/
import Derived.Test.YtkapamolligmkaaPhase
import Derived.Test.YtkapamolligmkaaBase
import Derived.Test.YtkapamolligmkaaBig
namespace Go.Proofs.Ytkapamolligmkaa
open Go.RowKit
set_option linter.unusedVariables false

section
variable {ops : Array Oper} {md : Region.Mode}
def lkp2 : List (Nat × Nat × Nat) → Nat → Nat × Nat
  | [], _ => (0, 1000000)
  | (i, b) :: l, k => if i = k then b else lkp2 l k
def stB (md : Region.Mode) (ops : Array Oper) (f : Nat) (chain : List Nat) (lo : List (Nat × Nat × Nat)) : Bool :=
  phB md ops f chain [] && lo.all fun kb => decide (kb.2.1 ≤ (chain.filter fun i => reach md ops f kb.1 i).length) && decide ((chain.filter fun i => !reach md ops f i kb.1).length ≤ kb.2.2)
theorem phase_le {chain : List Nat} {listed : Array Bool} (hL : OkL md ops listed) {k f : Nat} (hk : k ∈ Region.ready md ops listed) : phase chain listed ≤ (chain.filter fun i => !reach md ops f i k).length := by
  unfold phase
  refine filter_le (fun i h => ?_) chain
  cases hr : reach md ops f i k with
  | false => rfl
  | true =>
    have := reach_listed hL f i k (.inr h) hr
    rw [ready_false hk] at this
    cases this
theorem chain_le (chain : List Nat) (listed : Array Bool) : phase chain listed ≤ chain.length := List.length_filter_le _ _
theorem lkp2_in {md : Region.Mode} {ops : Array Oper} {f : Nat} {chain : List Nat} {k : Nat} (hc : chain.length ≤ 1000000) : ∀ {lo : List (Nat × Nat × Nat)},
    (lo.all fun kb => decide (kb.2.1 ≤ (chain.filter fun i => reach md ops f kb.1 i).length) && decide ((chain.filter fun i => !reach md ops f i kb.1).length ≤ kb.2.2)) = true →
    (lkp2 lo k).1 ≤ (chain.filter fun i => reach md ops f k i).length ∧ (chain.filter fun i => !reach md ops f i k).length ≤ (lkp2 lo k).2
  | [], _ => ⟨Nat.zero_le _, Nat.le_trans (List.length_filter_le _ _) hc⟩
  | (i, b) :: l, h => by
    simp only [List.all_cons, Bool.and_eq_true, decide_eq_true_eq] at h
    unfold lkp2
    split
    · rename_i e; subst e; exact h.1
    · exact lkp2_in hc (by simpa using h.2)
end

section
variable {P : Program} {ops : Array Oper} {ws : List World} {chain : List Nat} {lo : List (Nat × Nat × Nat)}
/-- the world is one of those, between two numbers -/
def Bt (ws : List World) (b : Nat × Nat) (w : World) : Prop := ∃ p, b.1 ≤ p ∧ p ≤ b.2 ∧ ws[p]? = some w
/-- the walk in the order of the text -/
def wpPs (P : Program) (ops : Array Oper) (ws : List World) (chain : List Nat) (lo : List (Nat × Nat × Nat)) (Q : Act → Prop) : Nat → List Oper → Act → Prop
  | _, [], a => Q a
  | k, o :: rest, a =>
    if Region.wanted o (yielded ops a.tmps) then
      if chain.contains k then ∃ v, (∀ w, ws[ix chain k]? = some w → ∃ w', ws[ix chain k + 1]? = some w' ∧ ((execOp a.eval o).run P w = .ok (.value v) w' ∨ (v = undef ∧ (execOp a.eval o).run P w = .ok .skip w'))) ∧ wpPs P ops ws chain lo Q (k + 1) rest (a.put o.dst v)
      else ∃ v, (∀ w, Bt ws (lkp2 lo k) w → (execOp a.eval o).run P w = .ok (.value v) w) ∧ wpPs P ops ws chain lo Q (k + 1) rest (a.put o.dst v)
    else chain.contains k = false ∧ wpPs P ops ws chain lo Q (k + 1) rest (a.put o.dst undef)
theorem wpPs_nil {Q : Act → Prop} {a : Act} {k : Nat} (h : Q a) : wpPs P ops ws chain lo Q k [] a := h
/-- an operation that reads, or makes a value alone -/
theorem wpPs_read {Q : Act → Prop} {a : Act} {o : Oper} {rest : List Oper} {k : Nat} {b : Nat × Nat} (hg : o.guard = none) (hc : chain.contains k = false) (hb : lkp2 lo k = b) (v : Value)
    (h : ∀ w, Bt ws b w → (execOp a.eval o).run P w = .ok (.value v) w) (hK : wpPs P ops ws chain lo Q (k + 1) rest (a.put o.dst v)) : wpPs P ops ws chain lo Q k (o :: rest) a := by
  subst hb
  unfold wpPs
  rw [if_pos (by simp [Region.wanted, hg]), if_neg (by rw [hc]; simp)]
  exact ⟨v, h, hK⟩
/-- an operation that turns the world -/
theorem wpPs_turn {Q : Act → Prop} {a : Act} {o : Oper} {rest : List Oper} {k i : Nat} (hg : o.guard = none) (hc : chain.contains k = true) (hi : ix chain k = i) (v : Value) (w w' : World) (hw : ws[i]? = some w) (hw' : ws[i + 1]? = some w')
    (h : (execOp a.eval o).run P w = .ok (.value v) w' ∨ (v = undef ∧ (execOp a.eval o).run P w = .ok .skip w')) (hK : wpPs P ops ws chain lo Q (k + 1) rest (a.put o.dst v)) : wpPs P ops ws chain lo Q k (o :: rest) a := by
  subst hi
  unfold wpPs
  rw [if_pos (by simp [Region.wanted, hg]), if_pos hc]
  refine ⟨v, fun u hu => ?_, hK⟩
  rw [hw] at hu
  injection hu with hu
  subst hu
  exact ⟨w', hw', h⟩
theorem lex_of_ps {f : Nat} {Q : Act → Prop} (hl : chain.length ≤ 1000000) (hB : stB .any ops f chain lo = true) : ∀ (l : List Oper) (k : Nat) (a : Act), wpPs P ops ws chain lo Q k l a →
    wpLexI P .any ops (fun listed w => ws[phase chain listed]? = some w) Q k l a
  | [], _, _, h => h
  | o :: rest, k, a, h => by
    have hB' := hB
    simp only [stB, phB, Bool.and_eq_true, decide_eq_true_eq, beq_iff_eq, List.all_eq_true, Bool.or_eq_true] at hB
    obtain ⟨⟨⟨⟨hnd, hch⟩, _⟩, hF⟩, hlo⟩ := hB
    unfold wpPs at h
    unfold wpLexI
    split at h
    · rename_i hw
      split at h
      · rename_i hc
        obtain ⟨v, h1, h2⟩ := h
        refine ⟨v, .inl ⟨hw, fun listed w hL hr hC => ?_⟩, lex_of_ps hl hB' rest (k + 1) _ h2⟩
        have hmem : k ∈ chain := by simpa using hc
        obtain ⟨⟨hlt, htot⟩, hix⟩ := hch k hmem
        have hp : phase chain listed = ix chain k := by
          rw [phase_eq hL hr (f := f) (fun c hcm => by
            rcases htot c hcm with (h | h) | h
            · exact .inl h
            · exact .inr (.inl h)
            · exact .inr (.inr h)), hix]
        have hp' := phase_one (by rw [hL.size]; exact hlt) (ready_false hr) hnd hmem
        obtain ⟨w', hw', h3⟩ := h1 w (by rw [← hp]; exact hC)
        rw [← hp, ← hp'] at hw'
        rcases h3 with h3 | ⟨rfl, h3⟩
        · rw [h3]; exact ⟨rfl, hw'⟩
        · rw [h3]; exact ⟨rfl, hw'⟩
      · rename_i hc
        obtain ⟨v, h1, h2⟩ := h
        refine ⟨v, .inl ⟨hw, fun listed w hL hr hC => ?_⟩, lex_of_ps hl hB' rest (k + 1) _ h2⟩
        have hps : phase chain (listed.setIfInBounds k true) = phase chain listed := phase_set (by simpa using hc)
        have hin := lkp2_in (f := f) (k := k) (md := .any) (ops := ops) hl (lo := lo) (by simpa [List.all_eq_true] using hlo)
        have h3 := h1 w ⟨_, Nat.le_trans hin.1 (phase_ge hL hr), Nat.le_trans (phase_le hL hr) hin.2, hC⟩
        rw [h3]
        refine ⟨rfl, ?_⟩
        show ws[phase chain (listed.setIfInBounds k true)]? = some w
        rw [hps]; exact hC
    · rename_i hw
      obtain ⟨hc, h2⟩ := h
      refine ⟨undef, .inr ⟨by simpa using hw, rfl, fun listed w hL hr hC => ?_⟩, lex_of_ps hl hB' rest (k + 1) _ h2⟩
      show ws[phase chain (listed.setIfInBounds k true)]? = some w
      rw [phase_set hc]; exact hC
theorem region_steps {id : Nat} {Q : Exit → Act → World → Prop} {a : Act} {w w' : World} {l : List Oper} (f : Nat) (chain : List Nat) (lo : List (Nat × Nat × Nat)) (ws : List World) (hm : P.follows .mixedOrders = true) (hB : Region.lexB .any l.toArray = true) (hP : stB .any l.toArray f chain lo = true)
    (hl : chain.length ≤ 1000000) (hC : ws[0]? = some w.drew) (hE : ws[chain.length]? = some w')
    (h : wpPs P l.toArray ws chain lo (fun a' => Q .normal a' w') 0 l a) : (Code.region id l.toArray true).wp P Q a w := by
  have hF : phase chain (lexLast (List.range' 0 l.toArray.toList.length) (Array.replicate l.toArray.size false)) = chain.length := by
    simp only [stB, phB, Bool.and_eq_true, beq_iff_eq] at hP
    exact hP.1.2
  have h0 : phase chain (Array.replicate l.toArray.size false) = 0 := by
    unfold phase
    rw [List.length_eq_zero_iff, List.filter_eq_nil_iff]
    intro c _
    rw [getD_replicate_false]; simp
  refine wp_region_I (C := fun listed w => ws[phase chain listed]? = some w) (F := fun listed => phase chain listed = chain.length) hm hB (by rw [h0]; exact hC) hF ?_
  have h1 := lex_of_ps (P := P) (Q := fun a' => Q .normal a' w') hl hP l 0 a h
  have mono : ∀ (l' : List Oper) (k : Nat) (a : Act), wpLexI P .any l.toArray (fun listed w => ws[phase chain listed]? = some w) (fun a' => Q .normal a' w') k l' a →
      wpLexI P .any l.toArray (fun listed w => ws[phase chain listed]? = some w) (fun a' => ∀ (listed : Array Bool) u, phase chain listed = chain.length → ws[phase chain listed]? = some u → Q .normal a' u) k l' a := by
    intro l'
    induction l' with
    | nil =>
      intro k a h listed u hF hu
      rw [hF, hE] at hu
      injection hu with hu
      subst hu
      exact h
    | cons o rest ih => intro k a h; obtain ⟨v, hy, h2⟩ := h; exact ⟨v, hy, ih _ _ h2⟩
  exact mono _ _ _ (by simpa using h1)
/-- a load of a great value -/
theorem wpPs_mid {Q : Act → Prop} {a : Act} {o : Oper} {rest : List Oper} {k : Nat} {b : Nat × Nat} (hg : o.guard = none) (hc : chain.contains k = false) (hb : lkp2 lo k = b) (t : TypeId) (x : Operand) (ho : o.op = .load t x)
    (g off : Nat) (hx : a.eval x = .pointer (some ⟨g, off, none⟩)) (cs : List Value) (d : TypeDesc) (hr : ∀ w, Bt ws b w → w.rangeAt g off cs) (hu : P.underlying t = some d) (hd : d.isRow = true) (hi : (P.info? t).map (·.size) = some cs.length)
    (hK : wpPs P ops ws chain lo Q (k + 1) rest (a.put o.dst (.agg cs.toArray))) : wpPs P ops ws chain lo Q k (o :: rest) a :=
  wpPs_read hg hc hb _ (fun w hw => by
    unfold execOp
    simp only [ho, hx, Instr.loadAt, Instr.sureAddr, Sem.run_bind, Sem.run_pure, Result.andThen_ok, run_loadVar_mid w g off t cs d (hr w hw) hu hd hi]) hK
/-- a literal, by its run -/
theorem wpPs_build {Q : Act → Prop} {a : Act} {o : Oper} {rest : List Oper} {k : Nat} {b : Nat × Nat} (hg : o.guard = none) (hc : chain.contains k = false) (hb : lkp2 lo k = b) (t : TypeId) (parts : Array (Nat × Operand)) (ho : o.op = .build t parts) (vs : List (Nat × Value))
    (hv : (parts.toList.map fun (x : Nat × Operand) => (x.1, a.eval x.2)) = vs) (v : Value) (h : ∀ w, (Instr.build t vs.toArray).run P w = .ok v w) (hK : wpPs P ops ws chain lo Q (k + 1) rest (a.put o.dst v)) : wpPs P ops ws chain lo Q k (o :: rest) a :=
  wpPs_read hg hc hb v (fun w _ => by
    unfold execOp
    simp only [ho, Sem.run_bind]
    have hp : (parts.map fun (i, x) => (i, a.eval x)) = vs.toArray := by
      rw [← hv]; apply Array.toList_inj.1; rw [Array.toList_map]
    rw [hp, h w]
    rfl) hK
/-- a slice literal of one element -/
theorem wpPs_lit {Q : Act → Prop} {a : Act} {o : Oper} {rest : List Oper} {k i : Nat} (hg : o.guard = none) (hc : chain.contains k = true) (hi : ix chain k = i) (t e : TypeId) (x : Operand) (ho : o.op = .buildSlice t 1 #[(0, x)]) (w : World) (cells : List Value) (hx : (a.eval x).cells = cells.toArray)
    (hw : ws[i]? = some w) (hw' : ws[i + 1]? = some (w.alloc (.cells cells.toArray e))) (ie : TypeInfo) (z : Value) (hu : P.underlying t = some (.slice e)) (hie : P.info? e = some ie) (hz : ie.zero = some z) (hs : ie.size = cells.length) (hsm : cells.length ≤ 1000000) (hpos : 0 < cells.length)
    (hK : wpPs P ops ws chain lo Q (k + 1) rest (a.put o.dst (.slice (some ⟨w.heap.size, 0, none⟩) 1 1))) : wpPs P ops ws chain lo Q k (o :: rest) a :=
  wpPs_turn hg hc hi _ w _ hw hw' (.inl (by
    unfold execOp
    have h := run_buildSlice (P := P) w t e 1 #[(0, a.eval x)] cells.toArray ie z hu hie hz (by omega) (by omega) (by
      rw [← hx]
      refine fill_one _ _ _ (by simp [hx, hs]) (by simp [hx, hs]))
    simp only [ho, List.map_toArray, List.map_cons, List.map_nil, Sem.run_bind, h, Result.andThen_ok]
    rfl)) hK
/-- append, by its run -/
theorem wpPs_append {Q : Act → Prop} {a : Act} {o : Oper} {rest : List Oper} {k i : Nat} (hg : o.guard = none) (hc : chain.contains k = true) (hi : ix chain k = i) (s x : Operand) (t : TypeId) (ho : o.op = .call { callee := .builtin .append, args := #[s, x], argTypes := #[t, t] }) (w w' : World) (v0 v1 v : Value)
    (hs : a.eval s = v0) (hx : a.eval x = v1) (hw : ws[i]? = some w) (hw' : ws[i + 1]? = some w') (h : (Builtin.append_ #[t, t] o.type #[v0, v1]).run P w = .ok v w')
    (hK : wpPs P ops ws chain lo Q (k + 1) rest (a.put o.dst v)) : wpPs P ops ws chain lo Q k (o :: rest) a :=
  wpPs_turn hg hc hi v w w' hw hw' (.inl (by
    unfold execOp
    simp only [ho, resolve, invoke, builtin, Sem.run_bind, Sem.run_pure, Result.andThen_ok, List.map_toArray, List.map_cons, List.map_nil, hs, hx, h])) hK
end
end Go.Proofs.Ytkapamolligmkaa
