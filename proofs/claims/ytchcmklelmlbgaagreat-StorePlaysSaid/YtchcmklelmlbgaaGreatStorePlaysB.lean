/- Texts of this claim, joined: StepsQ, Disk3Q, Disk4Q, Disk5Q, Disk6Q, Disk7Q, Disk8Q, Disk9Q, Disk10Q, ChunkQ, BackQ, DiskRQ, Sec2Q, Sec3Q, Sec4Q, Sec5Q, Sec6Q. -/
import Derived.Test.YtchcmklelmlbgaaGreatStorePlaysA
import Derived.Outline
import Derived.Laws.IdiomCopy
import Derived.Test.YtchcmklelmlbgaaGreatRows
import Derived.RangeFuncNested
import Derived.RangeFuncBound
import Derived.RangeFuncCalls
import Derived.RangeFuncLeaves
import Derived.RangeFuncBox
import Derived.Shelf.Abstract
import Derived.Shelf.RegionOpen
import Derived.WalkKit
import Derived.OwnWalkIn
import Derived.TacticsInMore
import Derived.LoopNIn
import Derived.LoopIn
import Derived.Sort.QuietIn
import Derived.BigFrameIn
import Derived.WalkMore
import Derived.ScopeJumps
import Derived.Deep.RegionHeld3
import Derived.Deep.RegionWith
/- A region that draws its order, in which what turns the world comes in one order alone: the worlds are written out ahead, one behind the other; each read has bounds on how many turns are over. One walk in the order of the text serves every order. -/
namespace Go.Proofs.YtchcmklelmlbgaaGreat
open Go.RowKit
set_option linter.unusedVariables false

section
variable {ops : Array Oper} {md : Region.Mode}
def lkp2 : List (Nat × Nat × Nat) → Nat → Nat × Nat
  | [], _ => (0, 1000000)
  | (i, b) :: l, k => if i = k then b else lkp2 l k
def stB (md : Region.Mode) (ops : Array Oper) (f : Nat) (chain : List Nat) (lo : List (Nat × Nat × Nat)) : Bool :=
  phB md ops f chain [] && lo.all fun kb => decide (kb.2.1 ≤ (chain.filter fun i => reach md ops f kb.1 i).length) && decide ((chain.filter fun i => !reach md ops f i kb.1).length ≤ kb.2.2)
theorem phase_le {chain : List Nat} {listed : Array Bool} (hL : OkL md ops listed) {k f : Nat} (hk : k ∈ Region.ready md ops listed) : phase chain listed ≤ (chain.filter fun i => !reach md ops f i k).length := by
  unfold phase
  refine filter_le (fun i h => ?_) chain
  cases hr : reach md ops f i k with
  | false => rfl
  | true =>
    have := reach_listed hL f i k (.inr h) hr
    rw [ready_false hk] at this
    cases this
theorem lkp2_in {md : Region.Mode} {ops : Array Oper} {f : Nat} {chain : List Nat} {k : Nat} (hc : chain.length ≤ 1000000) : ∀ {lo : List (Nat × Nat × Nat)},
    (lo.all fun kb => decide (kb.2.1 ≤ (chain.filter fun i => reach md ops f kb.1 i).length) && decide ((chain.filter fun i => !reach md ops f i kb.1).length ≤ kb.2.2)) = true →
    (lkp2 lo k).1 ≤ (chain.filter fun i => reach md ops f k i).length ∧ (chain.filter fun i => !reach md ops f i k).length ≤ (lkp2 lo k).2
  | [], _ => ⟨Nat.zero_le _, Nat.le_trans (List.length_filter_le _ _) hc⟩
  | (i, b) :: l, h => by
    simp only [List.all_cons, Bool.and_eq_true, decide_eq_true_eq] at h
    unfold lkp2
    split
    · rename_i e; subst e; exact h.1
    · exact lkp2_in hc (by simpa using h.2)
end

section
variable {P : Program} {ops : Array Oper} {ws : List World} {chain : List Nat} {lo : List (Nat × Nat × Nat)}
/-- the world is one of those, between two numbers -/
def Bt (ws : List World) (b : Nat × Nat) (w : World) : Prop := ∃ p, b.1 ≤ p ∧ p ≤ b.2 ∧ ws[p]? = some w
/-- the walk in the order of the text -/
def wpPs (P : Program) (ops : Array Oper) (ws : List World) (chain : List Nat) (lo : List (Nat × Nat × Nat)) (Q : Act → Prop) : Nat → List Oper → Act → Prop
  | _, [], a => Q a
  | k, o :: rest, a =>
    if Region.wanted o (yielded ops a.tmps) then
      if chain.contains k then ∃ v, (∀ w, ws[ix chain k]? = some w → ∃ w', ws[ix chain k + 1]? = some w' ∧ ((execOp a.eval o).run P w = .ok (.value v) w' ∨ (v = undef ∧ (execOp a.eval o).run P w = .ok .skip w'))) ∧ wpPs P ops ws chain lo Q (k + 1) rest (a.put o.dst v)
      else ∃ v, (∀ w, Bt ws (lkp2 lo k) w → (execOp a.eval o).run P w = .ok (.value v) w) ∧ wpPs P ops ws chain lo Q (k + 1) rest (a.put o.dst v)
    else chain.contains k = false ∧ wpPs P ops ws chain lo Q (k + 1) rest (a.put o.dst undef)
theorem wpPs_nil {Q : Act → Prop} {a : Act} {k : Nat} (h : Q a) : wpPs P ops ws chain lo Q k [] a := h
/-- an operation that reads, or makes a value alone -/
theorem wpPs_read {Q : Act → Prop} {a : Act} {o : Oper} {rest : List Oper} {k : Nat} {b : Nat × Nat} (hg : o.guard = none) (hc : chain.contains k = false) (hb : lkp2 lo k = b) (v : Value)
    (h : ∀ w, Bt ws b w → (execOp a.eval o).run P w = .ok (.value v) w) (hK : wpPs P ops ws chain lo Q (k + 1) rest (a.put o.dst v)) : wpPs P ops ws chain lo Q k (o :: rest) a := by
  subst hb
  unfold wpPs
  rw [if_pos (by simp [Region.wanted, hg]), if_neg (by rw [hc]; simp)]
  exact ⟨v, h, hK⟩
/-- an operation that turns the world -/
theorem wpPs_turn {Q : Act → Prop} {a : Act} {o : Oper} {rest : List Oper} {k i : Nat} (hg : o.guard = none) (hc : chain.contains k = true) (hi : ix chain k = i) (v : Value) (w w' : World) (hw : ws[i]? = some w) (hw' : ws[i + 1]? = some w')
    (h : (execOp a.eval o).run P w = .ok (.value v) w' ∨ (v = undef ∧ (execOp a.eval o).run P w = .ok .skip w')) (hK : wpPs P ops ws chain lo Q (k + 1) rest (a.put o.dst v)) : wpPs P ops ws chain lo Q k (o :: rest) a := by
  subst hi
  unfold wpPs
  rw [if_pos (by simp [Region.wanted, hg]), if_pos hc]
  refine ⟨v, fun u hu => ?_, hK⟩
  rw [hw] at hu
  injection hu with hu
  subst hu
  exact ⟨w', hw', h⟩
theorem lex_of_ps {f : Nat} {Q : Act → Prop} (hl : chain.length ≤ 1000000) (hB : stB .any ops f chain lo = true) : ∀ (l : List Oper) (k : Nat) (a : Act), wpPs P ops ws chain lo Q k l a →
    wpLexI P .any ops (fun listed w => ws[phase chain listed]? = some w) Q k l a
  | [], _, _, h => h
  | o :: rest, k, a, h => by
    have hB' := hB
    simp only [stB, phB, Bool.and_eq_true, decide_eq_true_eq, beq_iff_eq, List.all_eq_true, Bool.or_eq_true] at hB
    obtain ⟨⟨⟨⟨hnd, hch⟩, _⟩, hF⟩, hlo⟩ := hB
    unfold wpPs at h
    unfold wpLexI
    split at h
    · rename_i hw
      split at h
      · rename_i hc
        obtain ⟨v, h1, h2⟩ := h
        refine ⟨v, .inl ⟨hw, fun listed w hL hr hC => ?_⟩, lex_of_ps hl hB' rest (k + 1) _ h2⟩
        have hmem : k ∈ chain := by simpa using hc
        obtain ⟨⟨hlt, htot⟩, hix⟩ := hch k hmem
        have hp : phase chain listed = ix chain k := by
          rw [phase_eq hL hr (f := f) (fun c hcm => by
            rcases htot c hcm with (h | h) | h
            · exact .inl h
            · exact .inr (.inl h)
            · exact .inr (.inr h)), hix]
        have hp' := phase_one (by rw [hL.size]; exact hlt) (ready_false hr) hnd hmem
        obtain ⟨w', hw', h3⟩ := h1 w (by rw [← hp]; exact hC)
        rw [← hp, ← hp'] at hw'
        rcases h3 with h3 | ⟨rfl, h3⟩
        · rw [h3]; exact ⟨rfl, hw'⟩
        · rw [h3]; exact ⟨rfl, hw'⟩
      · rename_i hc
        obtain ⟨v, h1, h2⟩ := h
        refine ⟨v, .inl ⟨hw, fun listed w hL hr hC => ?_⟩, lex_of_ps hl hB' rest (k + 1) _ h2⟩
        have hps : phase chain (listed.setIfInBounds k true) = phase chain listed := phase_set (by simpa using hc)
        have hin := lkp2_in (f := f) (k := k) (md := .any) (ops := ops) hl (lo := lo) (by simpa [List.all_eq_true] using hlo)
        have h3 := h1 w ⟨_, Nat.le_trans hin.1 (phase_ge hL hr), Nat.le_trans (phase_le hL hr) hin.2, hC⟩
        rw [h3]
        refine ⟨rfl, ?_⟩
        show ws[phase chain (listed.setIfInBounds k true)]? = some w
        rw [hps]; exact hC
    · rename_i hw
      obtain ⟨hc, h2⟩ := h
      refine ⟨undef, .inr ⟨by simpa using hw, rfl, fun listed w hL hr hC => ?_⟩, lex_of_ps hl hB' rest (k + 1) _ h2⟩
      show ws[phase chain (listed.setIfInBounds k true)]? = some w
      rw [phase_set hc]; exact hC
theorem region_steps {id : Nat} {Q : Exit → Act → World → Prop} {a : Act} {w w' : World} {l : List Oper} (f : Nat) (chain : List Nat) (lo : List (Nat × Nat × Nat)) (ws : List World) (hm : P.follows .mixedOrders = true) (hB : Region.lexB .any l.toArray = true) (hP : stB .any l.toArray f chain lo = true)
    (hl : chain.length ≤ 1000000) (hC : ws[0]? = some w.drew) (hE : ws[chain.length]? = some w')
    (h : wpPs P l.toArray ws chain lo (fun a' => Q .normal a' w') 0 l a) : (Code.region id l.toArray true).wp P Q a w := by
  have hF : phase chain (lexLast (List.range' 0 l.toArray.toList.length) (Array.replicate l.toArray.size false)) = chain.length := by
    simp only [stB, phB, Bool.and_eq_true, beq_iff_eq] at hP
    exact hP.1.2
  have h0 : phase chain (Array.replicate l.toArray.size false) = 0 := by
    unfold phase
    rw [List.length_eq_zero_iff, List.filter_eq_nil_iff]
    intro c _
    rw [getD_replicate_false]; simp
  refine wp_region_I (C := fun listed w => ws[phase chain listed]? = some w) (F := fun listed => phase chain listed = chain.length) hm hB (by rw [h0]; exact hC) hF ?_
  have h1 := lex_of_ps (P := P) (Q := fun a' => Q .normal a' w') hl hP l 0 a h
  have mono : ∀ (l' : List Oper) (k : Nat) (a : Act), wpLexI P .any l.toArray (fun listed w => ws[phase chain listed]? = some w) (fun a' => Q .normal a' w') k l' a →
      wpLexI P .any l.toArray (fun listed w => ws[phase chain listed]? = some w) (fun a' => ∀ (listed : Array Bool) u, phase chain listed = chain.length → ws[phase chain listed]? = some u → Q .normal a' u) k l' a := by
    intro l'
    induction l' with
    | nil =>
      intro k a h listed u hF hu
      rw [hF, hE] at hu
      injection hu with hu
      subst hu
      exact h
    | cons o rest ih => intro k a h; obtain ⟨v, hy, h2⟩ := h; exact ⟨v, hy, ih _ _ h2⟩
  exact mono _ _ _ (by simpa using h1)
/-- a load of a great value -/
theorem wpPs_mid {Q : Act → Prop} {a : Act} {o : Oper} {rest : List Oper} {k : Nat} {b : Nat × Nat} (hg : o.guard = none) (hc : chain.contains k = false) (hb : lkp2 lo k = b) (t : TypeId) (x : Operand) (ho : o.op = .load t x)
    (g off : Nat) (hx : a.eval x = .pointer (some ⟨g, off, none⟩)) (cs : List Value) (d : TypeDesc) (hr : ∀ w, Bt ws b w → w.rangeAt g off cs) (hu : P.underlying t = some d) (hd : d.isRow = true) (hi : (P.info? t).map (·.size) = some cs.length)
    (hK : wpPs P ops ws chain lo Q (k + 1) rest (a.put o.dst (.agg cs.toArray))) : wpPs P ops ws chain lo Q k (o :: rest) a :=
  wpPs_read hg hc hb _ (fun w hw => by
    unfold execOp
    simp only [ho, hx, Instr.loadAt, Instr.sureAddr, Sem.run_bind, Sem.run_pure, Result.andThen_ok, run_loadVar_mid w g off t cs d (hr w hw) hu hd hi]) hK
/-- a literal, by its run -/
theorem wpPs_build {Q : Act → Prop} {a : Act} {o : Oper} {rest : List Oper} {k : Nat} {b : Nat × Nat} (hg : o.guard = none) (hc : chain.contains k = false) (hb : lkp2 lo k = b) (t : TypeId) (parts : Array (Nat × Operand)) (ho : o.op = .build t parts) (vs : List (Nat × Value))
    (hv : (parts.toList.map fun (x : Nat × Operand) => (x.1, a.eval x.2)) = vs) (v : Value) (h : ∀ w, (Instr.build t vs.toArray).run P w = .ok v w) (hK : wpPs P ops ws chain lo Q (k + 1) rest (a.put o.dst v)) : wpPs P ops ws chain lo Q k (o :: rest) a :=
  wpPs_read hg hc hb v (fun w _ => by
    unfold execOp
    simp only [ho, Sem.run_bind]
    have hp : (parts.map fun (i, x) => (i, a.eval x)) = vs.toArray := by
      rw [← hv]; apply Array.toList_inj.1; rw [Array.toList_map]
    rw [hp, h w]
    rfl) hK
/-- a slice literal of one element -/
theorem wpPs_lit {Q : Act → Prop} {a : Act} {o : Oper} {rest : List Oper} {k i : Nat} (hg : o.guard = none) (hc : chain.contains k = true) (hi : ix chain k = i) (t e : TypeId) (x : Operand) (ho : o.op = .buildSlice t 1 #[(0, x)]) (w : World) (cells : List Value) (hx : (a.eval x).cells = cells.toArray)
    (hw : ws[i]? = some w) (hw' : ws[i + 1]? = some (w.alloc (.cells cells.toArray e))) (ie : TypeInfo) (z : Value) (hu : P.underlying t = some (.slice e)) (hie : P.info? e = some ie) (hz : ie.zero = some z) (hs : ie.size = cells.length) (hsm : cells.length ≤ 1000000) (hpos : 0 < cells.length)
    (hK : wpPs P ops ws chain lo Q (k + 1) rest (a.put o.dst (.slice (some ⟨w.heap.size, 0, none⟩) 1 1))) : wpPs P ops ws chain lo Q k (o :: rest) a :=
  wpPs_turn hg hc hi _ w _ hw hw' (.inl (by
    unfold execOp
    have h := run_buildSlice (P := P) w t e 1 #[(0, a.eval x)] cells.toArray ie z hu hie hz (by omega) (by omega) (by
      rw [← hx]
      refine fill_one _ _ _ (by simp [hx, hs]) (by simp [hx, hs]))
    simp only [ho, List.map_toArray, List.map_cons, List.map_nil, Sem.run_bind, h, Result.andThen_ok]
    rfl)) hK
/-- append, by its run -/
theorem wpPs_append {Q : Act → Prop} {a : Act} {o : Oper} {rest : List Oper} {k i : Nat} (hg : o.guard = none) (hc : chain.contains k = true) (hi : ix chain k = i) (s x : Operand) (t : TypeId) (ho : o.op = .call { callee := .builtin .append, args := #[s, x], argTypes := #[t, t] }) (w w' : World) (v0 v1 v : Value)
    (hs : a.eval s = v0) (hx : a.eval x = v1) (hw : ws[i]? = some w) (hw' : ws[i + 1]? = some w') (h : (Builtin.append_ #[t, t] o.type #[v0, v1]).run P w = .ok v w')
    (hK : wpPs P ops ws chain lo Q (k + 1) rest (a.put o.dst v)) : wpPs P ops ws chain lo Q k (o :: rest) a :=
  wpPs_turn hg hc hi v w w' hw hw' (.inl (by
    unfold execOp
    simp only [ho, resolve, invoke, builtin, Sem.run_bind, Sem.run_pure, Result.andThen_ok, List.map_toArray, List.map_cons, List.map_nil, hs, hx, h])) hK
end
end Go.Proofs.YtchcmklelmlbgaaGreat

/- The walk of disk.Write. -/
namespace Go.Proofs.YtchcmklelmlbgaaGreat.Disk
open Go.RowKit
set_option linter.unusedVariables false
set_option maxRecDepth 100000

/-- what a method does that tells a fault -/
def Did (w : World) (g : Nat) (fp : List Nat) (r : St × Int) (e : Ending) (w' : World) : Prop := e = .returned (.int .i64 r.2) ∧ ∃ fp', DAt w' g fp' r.1 ∧ Keep fp w w' ∧ Fresh w fp fp'
theorem Did.same {w : World} {g : Nat} {fp : List Nat} {r : St × Int} {f : Int} (h : DAt w g fp r.1) (hf : f = r.2) : Did w g fp r (.returned (.int .i64 f)) w := ⟨by rw [hf], fp, h, Keep.refl _ _, Fresh.refl _ _⟩
theorem wcells_len {x : Wr} (h : x.2.length = 512) : (wcells x).length = 513 := by simp [wcells, h]
theorem wcells_one (x : Wr) : ∀ v ∈ wcells x, v.oneCell' = true := by
  intro v hv
  simp only [wcells, List.mem_cons] at hv
  rcases hv with rfl | hv
  · rfl
  · exact e8_one _ v hv
theorem infoW : (Tryz.prog.info? 115).map (fun i => (i.zero, i.size, i.bytes)) = some (some (arrV (wcells (0, zero512))), 513, 520) := by kernel_rfl
theorem built_wait (p : Int) (b : List UInt8) (hb : b.length = 512) (w : World) : (Instr.build 115 #[(0, .int .i64 p), (1, .agg (b.map e8).toArray)]).run Tryz.prog w = .ok (arrV (.int .i64 p :: b.map e8)) w := by
  refine run_build w _ _ _ ?_
  have h1 : Tryz.prog.built 115 [(0, .int .i64 p), (1, .agg (b.map e8).toArray)] = Instr.fill ((#[(0, 1), (1, 512)] : Array (Nat × Nat))[·]?) (arrV (wcells (0, zero512))).cells [(0, .int .i64 p), (1, .agg (b.map e8).toArray)] := by kernel_rfl
  show Tryz.prog.built 115 [(0, .int .i64 p), (1, .agg (b.map e8).toArray)] = _
  rw [h1, fill_two _ _ _ _ (by rfl) (by simp [Value.cells, hb]) (by simp [Value.cells, arrV, wcells, zero512, hb])]
  simp [Value.cells]
theorem arrayAt_any (A : Option Addr) (c : Nat) (w : World) : (Instr.arrayAt 113 (.slice A 512 c)).run Tryz.prog w = .ok (.pointer A) w := by
  simp [Instr.arrayAt, run_underlying Tryz.underlying113, go_sem]
/-- a pending write more -/
theorem push_fin {g g3 c3 : Nat} {fp : List Nat} {s : St} {vk vp va : Value} {acs : List Value} {x : Wr} {w w3 : World} (h : Lies w g fp s vk vp va acs)
    (own3 : w3.ownsRow 0 115 513 (.slice (some ⟨g3, 0, none⟩) (s.pend.length + 1) c3) (s.pend.length + 1) (pcells s.pend ++ wcells x)) (hg3 : w.grownBy w3 vp.ownBlock)
    (hat : (Value.slice (some ⟨g3, 0, none⟩) (s.pend.length + 1) c3).ownBlock = vp.ownBlock ∨ (Value.slice (some ⟨g3, 0, none⟩) (s.pend.length + 1) c3).ownBlock = some (w.heap.size + 1)) (hx : okW s.size x) :
    ∃ fp', Lies (w3.setCell ⟨g, 1, none⟩ (.slice (some ⟨g3, 0, none⟩) (s.pend.length + 1) c3)) g fp' { s with pend := s.pend ++ [x] } vk (.slice (some ⟨g3, 0, none⟩) (s.pend.length + 1) c3) va acs ∧ Keep fp w (w3.setCell ⟨g, 1, none⟩ (.slice (some ⟨g3, 0, none⟩) (s.pend.length + 1) c3)) ∧ Fresh w fp fp' := by
  obtain ⟨v3, hv3⟩ : ∃ v3, v3 = Value.slice (some ⟨g3, 0, none⟩) (s.pend.length + 1) c3 := ⟨_, rfl⟩
  have hv3b : v3.ownBlock = some g3 := by rw [hv3]; rfl
  rw [← hv3] at own3 hat ⊢
  have k3 : Keep fp w w3 := Keep.of_grown hg3 (fun j e => h.inP j e)
  have k34 : Keep fp w3 (w3.setCell ⟨g, 1, none⟩ v3) := (Keep.refl fp w3).set (.inl h.inG) _
  have k14 := k3.trans k34 (Fresh.refl _ _)
  have hPg := own_type h.pend h.blk (by decide)
  have hAg := own_type h.all h.blk (by decide)
  have hKg := own_type h.kept h.blk (by decide)
  have hgl := lt_of_block h.blk
  have e3 : w3.heap[g]? = _ := (hg3.block g hgl (fun e => hPg e.symm)).trans h.blk
  have h3g := own_type own3 e3 (by decide)
  have hown : ∀ {v : Value} {e : TypeId} {size n : Nat} {xs : List Value}, w.ownsRow 0 e size v n xs → 115 ≠ e → v.ownBlock ≠ some g → (w3.setCell ⟨g, 1, none⟩ v3).ownsRow 0 e size v n xs := fun {v e size n xs} ho hne hng =>
    own_grown (own_grown ho hg3 (fun k hk e2 => by
      rcases ho.2 with ⟨hv, _⟩ | ⟨q, cap, cur, hv, _, hh, _⟩
      · rw [hv] at hk; simp [Value.ownBlock] at hk
      · have : q = k := by rw [hv] at hk; simpa [Value.ownBlock] using hk
        subst this
        exact own_type h.pend hh hne e2)) (grown_set _ _ _) (fun k hk e2 => hng (by rw [hk]; exact e2.symm))
  refine ⟨g3 :: fp, ⟨?_, hown h.kept (by decide) hKg, ?_, hown h.all (by decide) hAg, ?_, by simp [h.inG], fun j hj => by simp [h.inK j hj], fun j hj => by rw [hv3b] at hj; injection hj with hj; simp [hj], fun j hj => by simp [h.inA j hj], ?_, ?_⟩, k14, ?_⟩
  · simp [World.setCell, Array.getElem?_modify, e3]
  · have hpc : pcells (s.pend ++ [x]) = pcells s.pend ++ wcells x := by simp [pcells]
    rw [hpc]
    simp only [List.length_append, List.length_singleton]
    exact own_grown own3 (grown_set _ _ _) (fun k hk e => h3g (by rw [hk]; exact e.symm))
  · intro i hi
    obtain ⟨q, c, q1, q2, q3, q4, q5, q6, q7⟩ := h.told i hi
    refine ⟨q, c, q1, q2, ?_, by simp [q4], q5, q6, q7⟩
    refine (heap_setCell_other w3 _ q v3 ?_).trans ((hg3.block q (h.lt q q4) (fun e => own_type h.pend q3 (by decide) e.symm)).trans q3)
    intro e
    have e' : q = g := e
    subst e'
    have := h.blk
    unfold BlkT at q3
    rw [q3] at this
    injection this with this
    injection this with e1 e2 e3
    exact absurd e2 (by decide)
  · intro j hj
    simp only [List.mem_cons] at hj
    rcases hj with rfl | hj
    · have hs4 : (w3.setCell ⟨g, 1, none⟩ v3).heap.size = w3.heap.size := by simp [World.setCell]
      rw [hs4]; exact (own3.lt _ hv3b).2
    · exact Nat.lt_of_lt_of_le (h.lt j hj) k14.size
  · exact ⟨h.ok.size, fun y hy => by
      rcases List.mem_append.1 hy with hy | hy
      · exact h.ok.pend y hy
      · rw [List.mem_singleton] at hy; subst hy; exact hx, h.ok.all, h.ok.fuse⟩
  · intro j hj
    simp only [List.mem_cons] at hj
    rcases hj with rfl | hj
    · rcases hat with e | e
      · rw [hv3b] at e; exact .inl (h.inP _ e.symm)
      · rw [hv3b] at e; injection e with e; exact .inr (by omega)
    · exact .inl hj
end Go.Proofs.YtchcmklelmlbgaaGreat.Disk

/- The walk of disk.Write, and of disk.Put. -/
namespace Go.Proofs.YtchcmklelmlbgaaGreat.Disk
open Go.RowKit
set_option linter.unusedVariables false
set_option maxRecDepth 100000

theorem heap6 {w : World} {g : Nat} {fp : List Nat} {s : St} {vk vp va : Value} {acs : List Value} (h : Lies w g fp s vk vp va acs) : w.cell? ⟨g, 1, none⟩ = some vp ∧ w.frozen? ⟨g, 1, none⟩ = false ∧ g < w.heap.size := by
  obtain ⟨_, c1, _, _, _, _, fr⟩ := six h.blk
  exact ⟨c1, fr 1, lt_of_block h.blk⟩
set_option maxHeartbeats 1000000 in
theorem write_any (g : Nat) (fp : List Nat) (s : St) (p : Int) (A : Option Addr) (n c : Nat) (b : List UInt8) (w : World) (h : DAt w g fp s) (hs : s.sz ≤ 999999999) (hn : n = b.length) (hr : RdN w fp A (b.map e8)) :
    Calls Tryz.prog 73 #[.pointer (some ⟨g, 0, none⟩), .int .i64 p, .slice A n c] w (Did w g fp (write s p b)) := by
  subst hn
  have hdn := Lib.hid (down_any g fp s w h)
  have has := Lib.hid (asked_any g fp s p w h)
  cases hd : s.down with
  | true =>
    have hw : write s p b = (s, 12) := by unfold write; rw [if_pos hd]
    rw [hw]
    rw [hd] at hdn
    clear hw hd
    go_enter Tryz.func73, Tryz.ntmps73
    go_wp2_with fail
    refine hdn.out.mono ?_
    rintro e w1 ⟨rfl, rfl⟩
    go_wp2
    go_ret
    exact Did.same h rfl
  | false =>
    rw [hd] at hdn
    by_cases hp : p < 0 ∨ (s.size : Int) ≤ p
    · have hw : write s p b = (s, 2) := by unfold write; rw [if_neg (by simp [hd]), if_pos hp]
      have hf : askF s p = 2 := if_pos hp
      rw [hf] at has
      rw [hw]
      clear hw hd hp hf
      go_enter Tryz.func73, Tryz.ntmps73
      go_wp2_with fail
      refine hdn.out.mono ?_
      rintro e w1 ⟨rfl, rfl⟩
      go_wp2_with fail
      refine has.out.mono ?_
      rintro e w1 ⟨rfl, rfl⟩
      go_wp2
      go_ret
      exact Did.same h rfl
    · have hf : askF s p = 0 := if_neg hp
      rw [hf] at has
      by_cases hl : b.length = 512
      · have hw : write s p b = burn { s with pend := s.pend ++ [(p.toNat, b)] } := by unfold write; rw [if_neg (by simp [hd]), if_neg hp, if_neg (by omega)]
        rw [hw]
        obtain ⟨q, rfl⟩ : ∃ q : Nat, p = (q : Int) := ⟨p.toNat, by omega⟩
        rw [Int.toNat_natCast]
        have hx : okW s.size (q, b) := ⟨by show q < s.size; omega, hl⟩
        obtain ⟨vk, vp, va, acs, hL⟩ := h
        obtain ⟨c1, f1, hgl⟩ := heap6 hL
        obtain ⟨b0, off, rfl, hb0, hbn, hbc⟩ := hr (by intro e; have := congrArg List.length e; simp [hl] at this)
        have hrg : w.rangeAt b0 off (b.map e8) := fun j v hv => by
          obtain ⟨hj, rfl⟩ := List.getElem?_eq_some_iff.1 hv
          exact hbc j hj
        obtain ⟨i0, hi0, hz0, hz1, hz2⟩ := info_parts infoW
        obtain ⟨W1, hW1⟩ : ∃ W1, W1 = w.drew.alloc (.cells (wcells (q, b)).toArray 115) := ⟨_, rfl⟩
        have hrd1 : Rd W1 W1.heap.size (some ⟨w.heap.size, 0, none⟩) (wcells (q, b)) := by rw [hW1]; exact Rd.lit _ _ _ _ _ rfl (by simp)
        have hown1 : W1.ownsRow 0 115 513 vp s.pend.length (pcells s.pend) := by rw [hW1]; exact (show w.drew.ownsRow 0 115 513 vp s.pend.length (pcells s.pend) from hL.pend).alloc _
        obtain ⟨v3, w3, hrun, own3, hg3, hat3⟩ := run_append_rd (P := Tryz.prog) W1 0 75 75 115 i0 _ 513 520 Tryz.underlying75 hi0 hz0 hz1 hz2 rfl (by omega) vp s.pend.length _ hown1 W1.heap.size (some ⟨w.heap.size, 0, none⟩) 1 1 (wcells (q, b)) (by rw [wcells_len hl]) hrd1 (wcells_one _) (by simp only [maxLen]; unfold St.sz at hs; omega) (by unfold St.sz at hs; omega) (Nat.zero_le _)
        obtain ⟨g3, c3, rfl, _⟩ := own_some own3 (by omega)
        have hg3' : w.grownBy w3 vp.ownBlock := grown_trans (show w.grownBy W1 vp.ownBlock by rw [hW1]; exact grown_alloc_drew w _ _) hg3
        have hat3' := hat3.imp id (fun e => e.trans (show some W1.heap.size = some (w.heap.size + 1) by rw [hW1]; show some (w.alloc _).heap.size = _; simp))
        have hgP := own_type hL.pend hL.blk (by decide)
        have hc3 : w3.cell? ⟨g, 1, none⟩ = some vp := (World.cell?_of_block (hg3'.block g hgl (fun e => hgP e.symm))).trans c1
        have hf3 : w3.frozen? ⟨g, 1, none⟩ = false := (World.frozen?_of_block (hg3'.block g hgl (fun e => hgP e.symm))).trans f1
        have hc1 : W1.cell? ⟨g, 1, none⟩ = some vp := by rw [hW1]; exact (World.cell?_of_block (Below.heap_alloc w.drew _ g hgl)).trans c1
        have hfin := push_fin hL own3 hg3' hat3' hx
        have hread : ∀ w', Bt [w.drew, W1, w3, w3.setCell ⟨g, 1, none⟩ (.slice (some ⟨g3, 0, none⟩) (s.pend.length + 1) c3)] (0, 1) w' → w'.cell? ⟨g, 1, none⟩ = some vp := by
          rintro w' ⟨k, _, hk, hw'⟩
          have hk1 : k ≤ 1 := hk
          match k, hk1 with
          | 0, _ => injection hw' with hw'; subst hw'; exact c1
          | 1, _ => injection hw' with hw'; subst hw'; exact hc1
        have hrange : ∀ w', Bt [w.drew, W1, w3, w3.setCell ⟨g, 1, none⟩ (.slice (some ⟨g3, 0, none⟩) (s.pend.length + 1) c3)] (0, 0) w' → w'.rangeAt b0 off (b.map e8) := by
          rintro w' ⟨k, _, hk, hw'⟩
          have hk1 : k ≤ 0 := hk
          match k, hk1 with
          | 0, _ => injection hw' with hw'; subst hw'; exact hrg
        have hbuild := fun w => built_wait (q : Int) b hl w
        have harr : ∀ w, (Instr.arrayAt 113 (.slice (some ⟨b0, off, none⟩) b.length c)).run Tryz.prog w = .ok (.pointer (some ⟨b0, off, none⟩)) w := fun w => by rw [hl]; exact arrayAt_any _ c w
        have hszb := szBl hl
        have hub := Tryz.underlying113
        have hlI : ((b.length : Int) != 512) = false := by rw [bne_eq_false_iff_eq]; omega
        have Hl := Lib.hid hl
        have HW1 := Lib.hid hW1
        clear hw hd hp hf hl hW1 hrd1 hown1 hbc
        go_enter Tryz.func73, Tryz.ntmps73
        go_wp2_with fail
        refine hdn.out.mono ?_
        rintro e w1 ⟨rfl, rfl⟩
        go_wp2_with fail
        refine has.out.mono ?_
        rintro e w1 ⟨rfl, rfl⟩
        go_wp2
        refine region_steps 0 [10, 11, 14] [(4, (0, 1)), (8, (0, 0))] [w.drew, W1, w3, w3.setCell ⟨g, 1, none⟩ (.slice (some ⟨g3, 0, none⟩) (s.pend.length + 1) c3)] (by kernel_rfl) (by kernel_rfl) (by kernel_rfl) (by decide) rfl rfl ?_
        repeat (first
          | ((with_reducible show wpPs _ _ _ _ _ _ _ (⟨some 23, _, _, _, _, _⟩ :: _) _); refine wpPs_read rfl (by rfl) (by rfl) vp ?_ ?_; (· intro w' hw'; have hcw := hread w' hw'; go_simp); go_frame)
          | ((with_reducible show wpPs _ _ _ _ _ _ _ (⟨some 27, _, _, _, _, _⟩ :: _) _); refine wpPs_mid rfl (by rfl) (by rfl) _ _ rfl b0 off rfl (b.map e8) _ hrange hub rfl hszb ?_; go_frame)
          | ((with_reducible show wpPs _ _ _ _ _ _ _ (⟨some 28, _, _, _, _, _⟩ :: _) _); refine wpPs_build rfl (by rfl) (by rfl) _ _ rfl [(0, .int .i64 (q : Int)), (1, .agg (b.map e8).toArray)] rfl (arrV (.int .i64 (q : Int) :: b.map e8)) hbuild ?_; go_frame)
          | ((with_reducible show wpPs _ _ _ _ _ _ _ (⟨some 29, _, _, _, _, _⟩ :: _) _); refine wpPs_lit rfl (by rfl) (by rfl) _ 115 _ rfl w.drew (wcells (q, b)) rfl rfl (by rw [HW1.out]; rfl) i0 _ Tryz.underlying75 hi0 hz0 (by rw [hz1, wcells_len Hl.out]) (by rw [wcells_len Hl.out]; omega) (by rw [wcells_len Hl.out]; omega) ?_; go_frame)
          | ((with_reducible show wpPs _ _ _ _ _ _ _ (⟨some 30, _, _, _, _, _⟩ :: _) _); refine wpPs_append rfl (by rfl) (by rfl) _ _ _ rfl W1 w3 _ _ _ rfl rfl rfl rfl hrun ?_; go_frame)
          | ((with_reducible show wpPs _ _ _ _ _ _ _ (⟨none, .store _ (.tmp 32) _, _, _, _, _⟩ :: _) _); refine wpPs_turn rfl (by rfl) (by rfl) undef w3 _ rfl rfl ?_ ?_; (· first | (refine .inl ?_; go_simp; done) | (refine .inr ⟨rfl, ?_⟩; go_simp; done)); go_frame)
          | (refine wpPs_read rfl (by rfl) (by rfl) ?_ ?_ ?_; rotate_left; (· intro w' hw'; go_simp; exact rfl); go_frame))
        refine wpPs_nil ?_
        obtain ⟨fp1, hL1, k1, f1'⟩ := hfin
        obtain ⟨w4, hw4⟩ : ∃ w4, w4 = w3.setCell ⟨g, 1, none⟩ (.slice (some ⟨g3, 0, none⟩) (s.pend.length + 1) c3) := ⟨_, rfl⟩
        rw [← hw4] at hL1 k1 ⊢
        clear hw4 hread hrange hrun own3 hg3 hat3 hg3' hat3' hc3 hf3 hc1 HW1
        go_wp2_with fail
        refine (burn_any g fp1 _ _ _ _ _ w4 hL1 (by unfold St.sz at hs ⊢; simp only [List.length_append, List.length_singleton]; omega)).mono ?_
        rintro e w5 ⟨rfl, hL2, k2⟩
        have fin := Lib.hid (show Did w g fp (burn { s with pend := s.pend ++ [(q, b)] }) _ w5 from ⟨rfl, fp1, ⟨_, _, _, _, hL2⟩, k1.trans (k2.more (by simp [hL1.inG])) f1', f1'⟩)
        clear hL1 hL2 k1 k2 f1'
        go_wp2
        go_ret
        exact fin.out
      · have hw : write s p b = (s, 4) := by unfold write; rw [if_neg (by simp [hd]), if_neg hp, if_pos hl]
        rw [hw]
        have hlI : ((b.length : Int) != 512) = true := by rw [bne_iff_ne]; omega
        clear hw hd hp hf
        go_enter Tryz.func73, Tryz.ntmps73
        go_wp2_with fail
        refine hdn.out.mono ?_
        rintro e w1 ⟨rfl, rfl⟩
        go_wp2_with fail
        refine has.out.mono ?_
        rintro e w1 ⟨rfl, rfl⟩
        go_wp2
        go_ret
        exact Did.same h rfl
end Go.Proofs.YtchcmklelmlbgaaGreat.Disk

/- The walks of disk.Put, Flush, Kept, Arm, New. -/
namespace Go.Proofs.YtchcmklelmlbgaaGreat.Disk
open Go.RowKit
set_option linter.unusedVariables false
set_option maxRecDepth 100000




























































/-- a new slice of bytes comes back -/
def New8 (w w' : World) (l : List UInt8) (v : Value) : Prop := ∃ A c, v = .slice A l.length c ∧ l.length ≤ c ∧ c ≤ maxLen ∧ (l.map e8 ≠ [] → ∃ b off, A = some ⟨b, off, none⟩ ∧ w.heap.size ≤ b ∧ b < w'.heap.size ∧ ∀ i (h : i < (l.map e8).length), w'.cell? ⟨b, off + i, none⟩ = some (l.map e8)[i])
theorem New8.nil (w w' : World) : New8 w w' [] (.slice none 0 0) := ⟨none, 0, rfl, Nat.le_refl _, by unfold maxLen; omega, fun h => absurd rfl h⟩
theorem New8.blk {w w' : World} {l : List UInt8} {b n : Nat} (hb : w.heap.size ≤ b) (h : Blk w' b (l.map e8)) (hn : l.length = n) (hm : l.length ≤ maxLen) : New8 w w' l (.slice (some ⟨b, 0, none⟩) n n) := by
  subst hn
  exact ⟨_, _, rfl, Nat.le_refl _, hm, fun _ => ⟨b, 0, rfl, hb, h.lt, fun i hi => by rw [Nat.zero_add]; exact h.cell hi⟩⟩
theorem New8.rdN {w w' : World} {l : List UInt8} {v : Value} (h : New8 w w' l v) {fp : List Nat} (hf : ∀ j ∈ fp, j < w.heap.size) : ∃ A c, v = .slice A l.length c ∧ l.length ≤ c ∧ c ≤ maxLen ∧ RdN w' fp A (l.map e8) := by
  obtain ⟨A, c, rfl, h1, h2, h3⟩ := h
  refine ⟨A, c, rfl, h1, h2, fun hne => ?_⟩
  obtain ⟨b, off, rfl, hb, hlt, hc⟩ := h3 hne
  exact ⟨b, off, rfl, hlt, fun e => by have := hf b e; omega, hc⟩
theorem zeroB (w : World) : (zeroValue 113).run Tryz.prog w = .ok (arrV (zero512.map e8)) w := by kernel_rfl
set_option maxHeartbeats 800000 in
theorem kept_any (g : Nat) (fp : List Nat) (s : St) (p : Int) (w : World) (h : DAt w g fp s) :
    Calls Tryz.prog 126 #[.pointer (some ⟨g, 0, none⟩), .int .i64 p] w fun e w' => ∃ v, e = .returned v ∧ New8 w w' (keptAt s p) v ∧ Below w.heap.size w w' := by
  have has := Lib.hid (asked_any g fp s p w h)
  by_cases hp : p < 0 ∨ (s.size : Int) ≤ p
  · have hw : keptAt s p = [] := if_pos hp
    have hf : askF s p = 2 := if_pos hp
    rw [hf] at has
    rw [hw]
    clear hw hp hf
    go_enter Tryz.func126, Tryz.ntmps126
    go_wp2_with fail
    refine has.out.mono ?_
    rintro e w1 ⟨rfl, rfl⟩
    go_wp2
    go_ret
    exact ⟨_, rfl, New8.nil _ _, Below.refl _ _⟩
  · have hf : askF s p = 0 := if_neg hp
    have hw : keptAt s p = kept s.all p.toNat := if_neg hp
    rw [hf] at has
    rw [hw]
    obtain ⟨q, rfl⟩ : ∃ q : Nat, p = (q : Int) := ⟨p.toNat, by omega⟩
    rw [Int.toNat_natCast]
    obtain ⟨vk, vp, va, acs, hL⟩ := h
    have hqs : q < s.size := by omega
    obtain ⟨gk, ck, rfl, _⟩ := own_some hL.kept (by omega)
    obtain ⟨c0, _, _, _, _, _, fr⟩ := six hL.blk
    have hkl := kept_len hL.ok.all q
    have hrg : w.rangeAt gk (q * 512) ((kept s.all q).map e8) := own_range hL.kept (fun j hj => by
      rw [List.length_map, hkl] at hj
      have := flat_at (fun x => (kept s.all x).map e8) 512 (List.range s.size) (fun x _ => by rw [List.length_map, kept_len hL.ok.all]) q j (by simpa using hqs) hj
      rw [List.getElem_range] at this
      exact this)
    obtain ⟨K, hK⟩ : ∃ K, K = kept s.all q := ⟨_, rfl⟩
    rw [← hK] at hrg hkl ⊢
    have hszb := szBl hkl
    have hub := Tryz.underlying113
    have hqI : (q : Int) < (s.size : Int) := by omega
    have hsz0 : (Tryz.prog.info? 113).map (·.size) = some (K.map e8).length := hszb
    have Hkl := Lib.hid hkl
    clear hw hp hf hK hkl hL
    go_enter Tryz.func126, Tryz.ntmps126
    go_wp2_with fail
    refine has.out.mono ?_
    rintro e w1 ⟨rfl, rfl⟩
    go_wp2_with (first
      | ((with_reducible show wpList _ _ _ (⟨some 16, _, _, _, _, _⟩ :: _) _ _); refine wpList_load_mid rfl _ _ rfl gk (q * 512) rfl (K.map e8) _ hrg hub rfl hszb ?_)
      | ((with_reducible show wpList _ _ _ (⟨some 5, _, _, _, _, _⟩ :: _) _ _); refine wpList_allocN rfl _ rfl (zero512.map e8) zeroB ?_; intro w1 hb1 bw1 hs1)
      | ((with_reducible show wpList _ _ _ (⟨none, .store 113 (.tmp 5) _, _, _, _, _⟩ :: _) _ _); refine wpList_storeN rfl _ _ _ rfl rfl (ys := K.map e8) rfl hb1 (by rw [List.length_map, List.length_map, Hkl.out]; rfl) (e8_one _) hszb ?_; intro w2 hb2 hg2))
    go_ret
    exact ⟨_, rfl, New8.blk (Nat.le_refl _) hb2 Hkl.out (by rw [Hkl.out]; unfold maxLen; omega), below_row bw1 hg2 (Nat.le_refl _) bw1.size⟩
theorem infoB : (Tryz.prog.info? 113).map (fun i => (i.zero, i.size, i.bytes)) = some (some (arrV (zero512.map e8)), 512, 512) := by kernel_rfl
theorem made_flat (n : Nat) : (madeCells (arrV (zero512.map e8)).cells (n * 512)).toList = kcells n [] := by
  have h1 : kcells n [] = List.replicate (n * 512) (e8 0) := by
    rw [List.eq_replicate_iff]
    refine ⟨by rw [kcells, flat_len _ 512 _ (fun q _ => by rw [List.length_map, kept_nil, zero512_len]), List.length_range], fun v hv => ?_⟩
    obtain ⟨q, _, hq⟩ := List.mem_flatMap.1 hv
    obtain ⟨x, hx, rfl⟩ := List.mem_map.1 hq
    rw [kept_nil, zero512, List.mem_replicate] at hx
    rw [hx.2]
  rw [h1, List.eq_replicate_iff]
  refine ⟨by simp [madeCells], fun v hv => ?_⟩
  have hz : (arrV (zero512.map e8)).cells = (List.replicate 512 (e8 0)).toArray := by rw [arrV_cells, zero512, List.map_replicate]
  rw [hz] at hv
  simp only [madeCells, Array.toList_map, Array.toList_range, List.mem_map, List.mem_range] at hv
  obtain ⟨i, _, rfl⟩ := hv
  have : i % (List.replicate 512 (e8 0)).toArray.size < (List.replicate 512 (e8 0)).toArray.size := Nat.mod_lt _ (by simp)
  rw [getElem!_pos (List.replicate 512 (e8 0)).toArray _ this, List.getElem_toArray, List.getElem_replicate]
set_option maxHeartbeats 800000 in
theorem new_any (n : Int) (w : World) (h0 : -9223372036854775808 ≤ n) (h1 : n ≤ 9223372036854775807) :
    Calls Tryz.prog 11 #[.int .i64 n] w fun e w' => (if n < 1 ∨ 1024 < n then e = .returned (.tuple #[.pointer none, .int .i64 2]) else ∃ g fp, e = .returned (.tuple #[.pointer (some ⟨g, 0, none⟩), .int .i64 0]) ∧ DAt w' g fp (new n.toNat) ∧ ∀ j ∈ fp, w.heap.size ≤ j) ∧ Below w.heap.size w w' := by
  by_cases hb : n < 1 ∨ 1024 < n
  · simp only [if_pos hb]
    by_cases ha : n < 1
    · clear hb
      go_enter Tryz.func11, Tryz.ntmps11
      go_wp2
      go_ret2
      exact ⟨rfl, Below.refl _ _⟩
    · have hc : 1024 < n := by omega
      clear hb
      go_enter Tryz.func11, Tryz.ntmps11
      go_wp2
      go_ret2
      exact ⟨rfl, Below.refl _ _⟩
  · simp only [if_neg hb]
    obtain ⟨m, rfl⟩ : ∃ m : Nat, n = (m : Int) := ⟨n.toNat, by omega⟩
    have ha : ¬ (m : Int) < 1 := fun h => hb (.inl h)
    have hc : ¬ 1024 < (m : Int) := fun h => hb (.inr h)
    obtain ⟨i0, hi0, hz0, hz1, hz2⟩ := info_parts infoB
    clear hb
    go_enter Tryz.func11, Tryz.ntmps11
    go_wp2_with ((with_reducible show wpList _ _ _ (⟨some 11, _, _, _, _, _⟩ :: _) _ _); refine wpList_make_full _ rfl _ _ _ rfl 0 113 i0 _ 512 Tryz.underlying74 hi0 hz0 hz1 _ _ _ _ m rfl rfl rfl rfl (by rw [hz2]; omega) (by simp only [maxLen]; omega) (Nat.zero_le _) ?_; intro w1 own1 hg1)
    go_ret2
    rw [made_flat] at own1
    have b1 : Below w.heap.size w w1 := (Below.refl _ _).grown hg1 (Nat.le_refl _) (by simp)
    have hgl : w.heap.size < w1.heap.size := (own1.lt _ rfl).2
    refine ⟨⟨w1.heap.size, rfl, [w1.heap.size, w.heap.size], ⟨_, _, _, [], ⟨heap_alloc_new w1 _, own1.alloc _, own_nil _ _ _ _, own_nil _ _ _ _, fun i hi => absurd hi (by simp [new]), by simp, fun j hj => ?_, fun j hj => ?_, fun j hj => ?_, ?_, ok_new (by omega) (by omega)⟩⟩, ?_⟩, bt b1 (b1alloc _ _)⟩
    · simp [Value.ownBlock] at hj; simp [hj]
    · simp [Value.ownBlock] at hj
    · simp [Value.ownBlock] at hj
    · intro j hj; simp at hj; rcases hj with rfl | rfl <;> simp <;> omega
    · intro j hj; simp at hj; rcases hj with rfl | rfl <;> omega
end Go.Proofs.YtchcmklelmlbgaaGreat.Disk

/- The walk of disk.Flush. -/
namespace Go.Proofs.YtchcmklelmlbgaaGreat.Disk
open Go.RowKit
set_option linter.unusedVariables false
set_option maxRecDepth 100000

theorem Lies.clear {w : World} {g : Nat} {fp : List Nat} {s : St} {vk vp va : Value} {acs : List Value} (h : Lies w g fp s vk vp va acs) : Lies (w.setCell ⟨g, 1, none⟩ (.slice none 0 0)) g fp { s with pend := [] } vk (.slice none 0 0) va acs ∧ Keep [g] w (w.setCell ⟨g, 1, none⟩ (.slice none 0 0)) := by
  have k := keep_set w g 1 (.slice none 0 0)
  have hK := own_type h.kept h.blk (by decide)
  have hA := own_type h.all h.blk (by decide)
  refine ⟨⟨by simp [World.setCell, Array.getElem?_modify, h.blk], ?_, own_nil _ _ _ _, ?_, ?_, h.inG, h.inK, fun j hj => by simp [Value.ownBlock] at hj, h.inA, fun j hj => Nat.lt_of_lt_of_le (h.lt j hj) k.size, ⟨h.ok.size, (by intro x hx; cases hx), h.ok.all, h.ok.fuse⟩⟩, k⟩
  · exact own_keep h.kept k (fun j hj e => by rw [List.mem_singleton] at e; subst e; exact hK hj)
  · exact own_keep h.all k (fun j hj e => by rw [List.mem_singleton] at e; subst e; exact hA hj)
  · intro i hi
    obtain ⟨b, c, h1, h2, h3, h4, h5⟩ := h.told i hi
    refine ⟨b, c, h1, h2, (k.block (h.lt b h4) ?_).trans h3, h4, h5⟩
    intro e
    rw [List.mem_singleton] at e
    subst e
    have := h.blk
    unfold BlkT at h3
    rw [h3] at this
    injection this with this
    injection this with e1 e2 e3
    exact absurd e2 (by decide)
theorem pend_range {w : World} {g : Nat} {fp : List Nat} {s : St} {vk va : Value} {acs : List Value} {gp cp : Nat} (h : Lies w g fp s vk (.slice (some ⟨gp, 0, none⟩) s.pend.length cp) va acs) (k : Nat) (hk : k < s.pend.length) :
    w.rangeAt gp (k * 513) (wcells s.pend[k]) := own_range h.pend (fun j hj => by
  have hl := (h.ok.pend _ (List.getElem_mem hk)).2
  rw [wcells_len hl] at hj
  exact flat_at wcells 513 s.pend (fun x hx => wcells_len (h.ok.pend x hx).2) k j hk hj)
theorem zeroW (w : World) : (zeroValue 115).run Tryz.prog w = .ok (arrV (wcells (0, zero512))) w := by kernel_rfl
theorem wcells_szW {x : Wr} (h : x.2.length = 512) : (Tryz.prog.info? 115).map (·.size) = some (wcells x).length := by rw [wcells_len h]; exact szW
theorem blk_bytes {w : World} {b : Nat} {x : Wr} (h : Blk w b (wcells x)) : w.rangeAt b 1 (x.2.map e8) := fun j v hv => by
  obtain ⟨hj, rfl⟩ := List.getElem?_eq_some_iff.1 hv
  have := h.cell (k := 1 + j) (by simp [wcells]; simp at hj; omega)
  rw [this]
  simp only [wcells, Nat.add_comm 1 j, List.getElem_cons_succ]
/-- a disk that keeps more of what is pending -/
def more (s : St) (k : Nat) : St := { s with all := s.all ++ s.pend.take k }
theorem more_zero (s : St) : more s 0 = s := by simp [more]
theorem more_succ (s : St) (k : Nat) (h : k < s.pend.length) : { more s k with all := (more s k).all ++ [(s.pend[k].1, s.pend[k].2)] } = more s (k + 1) := by
  simp only [more, List.append_assoc, List.take_succ_eq_append_getElem h]
theorem more_sz (s : St) (k : Nat) : (more s k).sz ≤ 2 * s.sz := by
  unfold St.sz more
  simp only [List.length_append, List.length_take]
  omega
set_option maxHeartbeats 2000000 in
theorem flush_any (g : Nat) (fp : List Nat) (s : St) (w : World) (h : DAt w g fp s) (hs : s.sz ≤ 100000000) : Calls Tryz.prog 75 #[.pointer (some ⟨g, 0, none⟩)] w (Did w g fp (flush s)) := by
  obtain ⟨vk, vp, va, acs, hL⟩ := h
  obtain ⟨_, _, _, _, _, c5, fr⟩ := six hL.blk
  cases hd : s.down with
  | true =>
    have hw : flush s = (s, 12) := by unfold flush; rw [if_pos hd]
    rw [hw]
    have fin := Lib.hid (show Did w g fp (s, 12) (.returned (.int .i64 12)) w from Did.same ⟨_, _, _, _, hL⟩ rfl)
    rw [hd] at c5
    clear hw hd hL
    go_enter Tryz.func75, Tryz.ntmps75
    go_wp2
    go_ret
    exact fin.out
  | false =>
    have hbu := burn_any g fp s vk vp va acs w hL (by omega)
    rw [hd] at c5
    by_cases hb : (burn s).2 = 0
    · have hw : flush s = ({ (burn s).1 with all := s.all ++ s.pend, pend := [] }, 0) := by unfold flush; rw [if_neg (by simp [hd]), if_pos hb]
      rw [hw]
      rw [hb] at hbu
      have Hbu := Lib.hid hbu
      obtain ⟨s1, hs1⟩ : ∃ s1, s1 = (burn s).1 := ⟨_, rfl⟩
      have hbl := burn_lists s
      have hsz1 : s1.sz ≤ 100000001 := by rw [hs1, sz_burn]; omega
      have hpb : s1.pend.length ≤ 100000001 := by unfold St.sz at hsz1; omega
      rw [← hs1] at Hbu ⊢
      have hst : ({ s1 with all := s.all ++ s.pend, pend := [] } : St) = { more s1 s1.pend.length with pend := [] } := by
        rw [more, List.take_length, hs1, hbl.1, hbl.2.1]
      rw [hst]
      clear hw hd hb hbu hs1 hbl hst hs hL
      go_enter Tryz.func75, Tryz.ntmps75
      go_wp2_with fail
      refine Hbu.out.mono ?_
      rintro e w1 ⟨rfl, hL1, k1⟩
      obtain ⟨_, d1, _, _, _, _, fr1⟩ := six hL1.blk
      obtain ⟨Ap, cp, rfl⟩ := own_form hL1.pend
      go_wp2_with fail
      go_loopw [24] (fun i wr => ∃ k : Nat, k ≤ s1.pend.length ∧ i = .int .i64 k ∧ ∃ fpk vak acsk, Lies wr g fpk (more s1 k) vk (.slice Ap s1.pend.length cp) vak acsk ∧ Keep fp w1 wr ∧ Fresh w1 fp fpk) (fun i _ => s1.pend.length - (intOf i).toNat)
      case atStart => exact ⟨0, by omega, rfl, fp, va, acs, by rw [more_zero]; exact hL1, Keep.refl _ _, Fresh.refl _ _⟩
      case round =>
        obtain ⟨k, hk, rfl, fpk, vak, acsk, hLk, kk, fk⟩ := hrel
        by_cases hlt : k < s1.pend.length
        · obtain ⟨gp, cp', e0, _⟩ := own_some hLk.pend (by show 0 < s1.pend.length; omega)
          obtain ⟨rfl, _, rfl⟩ : Ap = some ⟨gp, 0, none⟩ ∧ s1.pend.length = s1.pend.length ∧ cp = cp' := by injection e0 with e1 e2 e3; exact ⟨e1, rfl, e3⟩
          have hrg := pend_range hLk k hlt
          have hms := Lib.hid (more_succ s1 k hlt)
          have hok := hLk.ok.pend _ (List.getElem_mem hlt)
          simp only [more] at hrg hok
          obtain ⟨x, hx⟩ : ∃ x, x = s1.pend[k] := ⟨_, rfl⟩
          rw [← hx] at hrg hms hok
          have hszw := wcells_szW hok.2
          have huw := Tryz.underlying115
          have hub := Tryz.underlying113
          have hszb := szBl hok.2
          have hxl := wcells_len hok.2
          have hszm : (more s1 k).sz ≤ 1000000000 := by have := more_sz s1 k; omega
          have hpk : x.1 < (more s1 k).size := hok.1
          have hok2 := hok.2
          clear hx e0
          go_wp2_with (first
            | ((with_reducible show wpList _ _ _ (⟨some 27, _, _, _, _, _⟩ :: _) _ _); refine wpList_load_mid rfl _ _ rfl gp (k * 513) rfl (wcells x) _ hrg huw rfl hszw ?_)
            | ((with_reducible show wpList _ _ _ (⟨some 5, _, _, _, _, _⟩ :: _) _ _); refine wpList_allocN rfl _ rfl (wcells (0, zero512)) zeroW ?_; intro w2 hb2 bw2 hs2)
            | ((with_reducible show wpList _ _ _ (⟨none, .store 115 (.tmp 5) _, _, _, _, _⟩ :: _) _ _); refine wpList_storeN rfl _ _ _ rfl rfl (ys := wcells x) rfl hb2 (by rw [hxl, wcells_len (by rfl)]) (wcells_one _) hszw ?_; intro w3 hb3 hg3; have hq0 := hb3.cell (k := 0) (by rw [hxl]; omega); have hq1 := blk_bytes hb3)
            | ((with_reducible show wpList _ _ _ (⟨some 32, _, _, _, _, _⟩ :: _) _ _); refine wpList_load_mid rfl _ _ rfl wr.heap.size 1 rfl (x.2.map e8) _ hq1 hub rfl hszb ?_))
          have b3 := below_row bw2 hg3 (Nat.le_refl _) bw2.size
          refine (keep_any g fpk (more s1 k) vk _ vak acsk x.1 x.2 w3 (hLk.on b3) hszm hpk hok2).mono ?_
          rintro e w4 ⟨rfl, fp4, va4, acs4, hL4, k4, f4⟩
          rw [hms.out] at hL4
          have k5 := (kk.trans (Keep.of_below b3 fp) (Fresh.refl _ _)).trans k4 fk
          have f5 := fk.trans (Nat.le_trans kk.size b3.size) f4
          clear k4 f4 hb2 hb3 hg3 bw2 b3 hq0 hq1 hLk
          go_wp2
          go_roundw
          case rel => exact ⟨k + 1, by omega, by go_num, fp4, va4, acs4, hL4, k5, f5⟩
          case measure => simp [intOf]; omega
        · obtain rfl : k = s1.pend.length := by omega
          obtain ⟨_, e1, _, _, _, _, fr2⟩ := six hLk.blk
          have fr21 := fr2 1
          have hcl := hLk.clear
          have fin := Lib.hid (show Did w g fp ({ more s1 s1.pend.length with pend := [] }, 0) (.returned (.int .i64 0)) (wr.setCell ⟨g, 1, none⟩ (.slice none 0 0)) from
            ⟨rfl, fpk, ⟨_, _, _, _, hcl.1⟩, ((k1.more (fun j hj => by rw [List.mem_singleton] at hj; subst hj; exact hL1.inG)).trans kk (Fresh.refl _ _)).trans (hcl.2.more (fun j hj => by rw [List.mem_singleton] at hj; subst hj; exact hL1.inG)) (Fresh.refl _ _), fun j hj => (fk j hj).imp id (fun h => Nat.le_trans k1.size h)⟩)
          clear hcl hLk kk fk k1 hL1
          go_wp2
          go_ret
          exact fin.out
    · have hw : flush s = burn s := by unfold flush; rw [if_neg (by simp [hd]), if_neg hb]
      rw [hw]
      have hne := bne_yes hb
      have Hbu := Lib.hid hbu
      clear hw hd hb hbu hL
      go_enter Tryz.func75, Tryz.ntmps75
      go_wp2_with fail
      refine Hbu.out.mono ?_
      rintro e w1 ⟨rfl, hL1, k1⟩
      have fin := Lib.hid (show Did w g fp (burn s) _ w1 from ⟨rfl, fp, ⟨_, _, _, _, hL1⟩, k1.more (fun j hj => by rw [List.mem_singleton] at hj; subst hj; exact hL1.inG), Fresh.refl _ _⟩)
      clear hL1 k1
      go_wp2
      go_ret
      exact fin.out
end Go.Proofs.YtchcmklelmlbgaaGreat.Disk

/- The walk of disk.Restart. -/
namespace Go.Proofs.YtchcmklelmlbgaaGreat.Disk
open Go.RowKit
set_option linter.unusedVariables false
set_option maxRecDepth 100000

section
variable {P : Program} {ops : Array Oper} {ws : List World} {chain : List Nat} {lo : List (Nat × Nat × Nat)}
end
end Go.Proofs.YtchcmklelmlbgaaGreat.Disk

/- The walk of disk.Restart. -/
namespace Go.Proofs.YtchcmklelmlbgaaGreat.Disk
open Go.RowKit
set_option linter.unusedVariables false
set_option maxRecDepth 100000

/-- a disk whose first pending writes have met their fates -/
def after (s : St) (keep : List Int) (torn a : Int) (k : Nat) : St := { s with all := fates keep torn a 0 (s.pend.take k) s.all }
end Go.Proofs.YtchcmklelmlbgaaGreat.Disk

/- The walks of disk.History and disk.Pending. -/
namespace Go.Proofs.YtchcmklelmlbgaaGreat.Disk
open Go.RowKit
set_option linter.unusedVariables false
set_option maxRecDepth 100000

/-- an element of a new slice of writes: a place, and a slice of bytes that lie in a block of their own -/
def Ent (w : World) (n0 : Nat) (x : Wr) (u0 u1 : Value) : Prop := u0 = .int .i64 (x.1 : Int) ∧ ∃ b off c cs t, u1 = .slice (some ⟨b, off, none⟩) x.2.length c ∧ n0 ≤ b ∧ x.2.length ≤ c ∧ c ≤ maxLen ∧ w.heap[b]? = some (.cells cs t (0, 0)) ∧ 161 ≠ t ∧ w.rangeAt b off (x.2.map e8)
def Ents (w : World) (n0 : Nat) (l : List Wr) (acs : List Value) : Prop := ∀ i (h : i < l.length), ∃ u0 u1, acs[i * 2]? = some u0 ∧ acs[i * 2 + 1]? = some u1 ∧ Ent w n0 l[i] u0 u1
theorem Ent.turn {w w' : World} {n0 : Nat} {x : Wr} {u0 u1 : Value} (h : Ent w n0 x u0 u1) (hb : ∀ (j : Nat) (cs : Array Value) (t : TypeId), w.heap[j]? = some (Obj.cells cs t (0, 0)) → 161 ≠ t → w'.heap[j]? = w.heap[j]?) : Ent w' n0 x u0 u1 := by
  obtain ⟨rfl, b, off, c, cs, t, h1, h2, h3, h4, h5, h6, h7⟩ := h
  exact ⟨rfl, b, off, c, cs, t, h1, h2, h3, h4, (hb b cs t h5 h6).trans h5, h6, fun j v hv => (World.cell?_of_block (hb b cs t h5 h6)).trans (h7 j v hv)⟩
theorem Ents.turn {w w' : World} {n0 : Nat} {l : List Wr} {acs : List Value} (h : Ents w n0 l acs) (hb : ∀ (j : Nat) (cs : Array Value) (t : TypeId), w.heap[j]? = some (Obj.cells cs t (0, 0)) → 161 ≠ t → w'.heap[j]? = w.heap[j]?) : Ents w' n0 l acs := fun i hi => by
  obtain ⟨u0, u1, h1, h2, h3⟩ := h i hi
  exact ⟨u0, u1, h1, h2, h3.turn hb⟩
theorem Ents.on {w w' : World} {n0 : Nat} {l : List Wr} {acs : List Value} (h : Ents w n0 l acs) (b : Below w.heap.size w w') : Ents w' n0 l acs := h.turn fun j cs t hj _ => b.block j (lt_of_block hj)
theorem Ents.grown {w w' : World} {n0 n base : Nat} {l : List Wr} {acs : List Value} {v : Value} {xs : List Value} (h : Ents w n0 l acs) (ho : w.ownsRow base 161 2 v n xs) (hg : w.grownBy w' v.ownBlock) : Ents w' n0 l acs :=
  h.turn fun j cs t hj ht => hg.block j (lt_of_block hj) (fun e => own_type ho hj ht e.symm)
theorem Ent.on {w w' : World} {n0 : Nat} {x : Wr} {u0 u1 : Value} (h : Ent w n0 x u0 u1) (b : Below w.heap.size w w') : Ent w' n0 x u0 u1 := h.turn fun j cs t hj _ => b.block j (lt_of_block hj)
theorem Ent.grown {w w' : World} {n0 n base : Nat} {x : Wr} {u0 u1 : Value} {v : Value} {xs : List Value} (h : Ent w n0 x u0 u1) (ho : w.ownsRow base 161 2 v n xs) (hg : w.grownBy w' v.ownBlock) : Ent w' n0 x u0 u1 :=
  h.turn fun j cs t hj ht => hg.block j (lt_of_block hj) (fun e => own_type ho hj ht e.symm)
theorem Ents.snoc {w : World} {n0 : Nat} {l : List Wr} {acs : List Value} {x : Wr} {u0 u1 : Value} (h : Ents w n0 l acs) (hl : acs.length = l.length * 2) (hx : Ent w n0 x u0 u1) : Ents w n0 (l ++ [x]) (acs ++ [u0, u1]) := fun i hi => by
  simp only [List.length_append, List.length_singleton] at hi
  by_cases e : i < l.length
  · obtain ⟨v0, v1, h1, h2, h3⟩ := h i e
    exact ⟨v0, v1, by rw [List.getElem?_append_left (by omega)]; exact h1, by rw [List.getElem?_append_left (by omega)]; exact h2, by simp only [List.getElem_append_left e]; exact h3⟩
  · obtain rfl : i = l.length := by omega
    exact ⟨u0, u1, by rw [List.getElem?_append_right (by omega)]; simp [hl], by rw [List.getElem?_append_right (by omega)]; simp [hl, Nat.add_sub_cancel_left], by simpa using hx⟩
theorem Ent.own {w3 : World} {n0 base : Nat} {x : Wr} {A : Option Addr} {c : Nat} (h : w3.ownsRow base 5 1 (.slice A x.2.length c) x.2.length (x.2.map e8)) (hl : x.2.length = 512) (hb : n0 ≤ base) (hc : x.2.length ≤ c) (hcm : c ≤ maxLen) : Ent w3 n0 x (.int .i64 (x.1 : Int)) (.slice A x.2.length c) := by
  obtain ⟨g3, c3, e, hg⟩ := own_some h (by omega)
  injection e with e1 e2 e3
  subst e1 e3
  obtain ⟨cs, hcs⟩ := own_blk h
  exact ⟨rfl, g3, 0, c, cs, 5, rfl, by omega, hc, hcm, hcs, by decide, own_range h (fun j hj => by rw [Nat.zero_add])⟩
theorem own_caps {w : World} {base : Nat} {e : TypeId} {size n c : Nat} {A : Option Addr} {xs : List Value} (h : w.ownsRow base e size (.slice A n c) n xs) : n ≤ c ∧ c ≤ maxLen := by
  rcases h.2 with ⟨hv, _⟩ | ⟨g, cap, cur, hv, _, _, hnc, hcm, _⟩
  · injection hv with h1 h2 h3; subst h2 h3; exact ⟨Nat.le_refl _, by unfold maxLen; omega⟩
  · injection hv with h1 h2 h3; subst h3; exact ⟨hnc, hcm⟩
end Go.Proofs.YtchcmklelmlbgaaGreat.Disk

/- The walk of disk.Pending. -/
namespace Go.Proofs.YtchcmklelmlbgaaGreat.Disk
open Go.RowKit
set_option linter.unusedVariables false
set_option maxRecDepth 100000

theorem BlkT.blk {w : World} {g : Nat} {t : TypeId} {xs : List Value} (h : BlkT w g t xs) : Blk w g xs := ⟨t, h⟩
end Go.Proofs.YtchcmklelmlbgaaGreat.Disk

/- The library's slices.Chunk at bytes, blocks of 64: its iterator's contract for rows of whole blocks; a caller's side. -/
namespace Go.Proofs.YtchcmklelmlbgaaGreat.Ch
open Go.RowKit Go.Shelf
attribute [local go_sem] Oper.semAt_some
set_option linter.unusedVariables false

theorem wpListIn_append_rd {F : Fence} {n : Nat} {P : Program} (w : World) {ops : Array Oper} {rest : List Oper} {o : Oper} {a : Act} {Q : Exit → Act → World → Prop} (hgd : o.guard = none) (s x : Operand) (t : TypeId)
    (ho : o.op = .call { callee := .builtin .append, args := #[s, x], argTypes := #[t, t] })
    (base : Nat) (e : TypeId) (i : TypeInfo) (z : Value) (size bytes : Nat) (ht : P.underlying t = some (.slice e)) (hi : P.info? e = some i) (hz : i.zero = some z)
    (hsize : i.size = size) (hby : i.bytes = bytes) (hzs : z.cells.size = size) (hsz : 0 < size)
    (v : Value) (k : Nat) (xs : List Value) (hs : a.eval s = v) (hown : w.ownsRow base e size v k xs)
    (B : Nat) (A : Option Addr) (m c : Nat) (news : List Value) (hx : a.eval x = .slice A m c) (hl : news.length = m * size) (hr : Rd w B A news) (h1 : ∀ u ∈ news, u.oneCell' = true)
    (h63 : k + m ≤ maxLen) (hbytes : (k + m) * bytes ≤ 140737488355328) (hbase : base ≤ w.heap.size)
    (h : ∀ v' w', w'.ownsRow base e size v' (k + m) (xs ++ news) → w.grownBy w' v.ownBlock → (v'.ownBlock = v.ownBlock ∨ v'.ownBlock = some w.heap.size) → wpListIn F n P ops Q rest (a.put o.dst v') w') : wpListIn F n P ops Q (o :: rest) a w := by
  obtain ⟨v', w', hrun, h2, h3, h4⟩ := run_append_rd (P := P) w base t o.type e i z size bytes ht hi hz hsize hby hzs hsz v k xs hown B A m c news hl hr h1 h63 hbytes hbase
  refine wpListIn_plain hgd fun K hK => ?_
  unfold Oper.wpIn
  refine ⟨by simp [Oper.about, ho, resolve, Target.leads, Sem.run_pure], ?_⟩
  rw [Oper.semAt_plain F _ _ (by rw [ho]; intro c hc'; cases hc')]
  simp [execOp, ho, resolve, invoke, builtin, hs, hx, hrun, Result.andThen]
  exact hK _ _ (h v' w' h2 h3 h4)
/-- all blocks below n but one lie as they lay -/
def KpX (g n : Nat) (W W' : World) : Prop := W.heap.size ≤ W'.heap.size ∧ ∀ j, j < n → j ≠ g → W'.heap[j]? = W.heap[j]?
theorem KpX.refl (g n : Nat) (W : World) : KpX g n W W := ⟨Nat.le_refl _, fun _ _ _ => rfl⟩
theorem KpX.trans {g n : Nat} {A B C : World} (h : KpX g n A B) (k : KpX g n B C) : KpX g n A C := ⟨Nat.le_trans h.1 k.1, fun j hj hn => (k.2 j hj hn).trans (h.2 j hj hn)⟩
theorem KpX.cell {g n : Nat} {W W' : World} (h : KpX g n W W') {b : Nat} (hb : b < n) (hn : b ≠ g) (o : Nat) : W'.cell? ⟨b, o, none⟩ = W.cell? ⟨b, o, none⟩ := World.cell?_of_block (h.2 b hb hn)
theorem KpX.turn {g n : Nat} (W : World) (l : Nat) (o' : Obj) (hl : n ≤ l) : KpX g n W (W.putObj l o') := ⟨(grownBy_putObj' W l o').size, fun j hj _ => World.putObj_heap_other (by omega)⟩
theorem KpX.of_below {g n : Nat} {W W' : World} (h : Below W.heap.size W W') (hn : n ≤ W.heap.size) : KpX g n W W' := ⟨h.size, fun j hj _ => h.block j (by omega)⟩
theorem keeps_below {W W' : World} (h : Below W.heap.size W W') : KeepsOthers W W' := KeepsOthers.of_grownBy (below_grown h none) (fun j o e => by cases e)
theorem keeps_row {W W' : World} {g : Nat} {xs : List Value} (h : W.grownBy W' (some g)) (hb : Blk W g xs) : KeepsOthers W W' := KeepsOthers.of_grownBy h (fun j o e ho => by
  cases e
  obtain ⟨t, ht⟩ := hb
  rw [ht] at ho
  cases ho
  rfl)
end Go.Proofs.YtchcmklelmlbgaaGreat.Ch

/- The library's slices.Backward at pending writes: its iterator's contract. -/
namespace Go.Proofs.YtchcmklelmlbgaaGreat.Disk
open Go.RowKit Go.Shelf
attribute [local go_sem] Oper.semAt_some
set_option linter.unusedVariables false

theorem wpListIn_load_mid {F : Fence} {n : Nat} {P : Program} {w : World} {ops : Array Oper} {rest : List Oper} {o : Oper} {a : Act} {Q : Exit → Act → World → Prop} (hg : o.guard = none) (t : TypeId) (x : Operand) (ho : o.op = .load t x)
    (g off : Nat) (hx : a.eval x = .pointer (some ⟨g, off, none⟩)) (cs : List Value) (d : TypeDesc) (hc : w.rangeAt g off cs) (hu : P.underlying t = some d) (hd : d.isRow = true) (hi : (P.info? t).map (·.size) = some cs.length)
    (h : wpListIn F n P ops Q rest (a.put o.dst (.agg cs.toArray)) w) : wpListIn F n P ops Q (o :: rest) a w := by
  refine wpListIn_plain hg fun K hK => ?_
  unfold Oper.wpIn
  refine ⟨by simp [Oper.about, ho], ?_⟩
  rw [Oper.semAt_plain F _ _ (by rw [ho]; intro c hc'; cases hc')]
  simp [execOp, ho, hx, Instr.loadAt, Instr.sureAddr, run_loadVar_mid w g off t cs d hc hu hd hi]
  exact hK _ _ h
theorem wpListIn_allocT {F : Fence} {n : Nat} {P : Program} {w : World} {ops : Array Oper} {rest : List Oper} {o : Oper} {a : Act} {Q : Exit → Act → World → Prop} (hg : o.guard = none) (t : TypeId) (ho : o.op = .alloc t) (xs : List Value)
    (hz : ∀ w, (zeroValue t).run P w = .ok (arrV xs) w)
    (h : ∀ w1, BlkT w1 w.heap.size t xs → Below w.heap.size w w1 → wpListIn F n P ops Q rest (a.put o.dst (.pointer (some ⟨w.heap.size, 0, none⟩))) w1) : wpListIn F n P ops Q (o :: rest) a w := by
  refine wpListIn_plain hg fun K hK => ?_
  unfold Oper.wpIn
  refine ⟨by simp [Oper.about, ho], ?_⟩
  rw [Oper.semAt_plain F _ _ (by rw [ho]; intro c hc'; cases hc')]
  simp [execOp, ho, Instr.alloc, hz, go_sem, arrV]
  exact hK _ _ (h _ (heap_alloc_new w _) (b1alloc _ _))
theorem wpListIn_storeT {F : Fence} {n : Nat} {P : Program} {w : World} {ops : Array Oper} {rest : List Oper} {o : Oper} {a : Act} {Q : Exit → Act → World → Prop} (hgd : o.guard = none) (t : TypeId) (x y : Operand) (ho : o.op = .store t x y)
    {g : Nat} {t' : TypeId} (hx : a.eval x = .pointer (some ⟨g, 0, none⟩)) {xs ys : List Value} (hy : a.eval y = arrV ys) (hb : BlkT w g t' xs) (hl : xs.length = ys.length) (h1 : ∀ v ∈ ys, v.oneCell' = true) (hi : (P.info? t).map (·.size) = some ys.length)
    (h : ∀ w1, BlkT w1 g t' ys → w.grownBy w1 (some g) → wpListIn F n P ops Q rest (a.put o.dst undef) w1) : wpListIn F n P ops Q (o :: rest) a w := by
  have hb0 : w.heap[g]? = some (.cells xs.toArray t' (0, 0)) := hb
  refine wpListIn_plain hgd fun K hK => ?_
  have := run_storeVar_row (P := P) w g t' t _ ys.toArray hb0 (by simpa using hi) (by simpa using hl) (by simpa using h1)
  unfold Oper.wpIn
  refine ⟨by simp [Oper.about, ho], ?_⟩
  rw [Oper.semAt_plain F _ _ (by rw [ho]; intro c hc'; cases hc')]
  unfold arrV at hy
  simp [execOp, ho, hx, hy, Instr.storeAt, Instr.sureAddr, this]
  exact hK _ _ (h _ (setRow_heap w g _ _ t' _ hb0) (setRow_grown _ _ _))
/-- a block of cells stays, whatever is turned that is no cells -/
theorem blkT_from {β : Type} {B : Nat} (b : Nat) (t : TypeId) (xs : List Value) : OwnFrom B (fun (_ : β) W => BlkT W b t xs) := fun s W W' row hs hg hr =>
  (hg.block b (lt_of_block hs) (fun e => by
    obtain ⟨_, o, ho, hc⟩ := hr b e.symm
    rw [show W.heap[b]? = _ from hs] at ho
    cases ho; cases hc)).trans hs
/-- the k-th but last -/
def bk (m k : Nat) (h : k < m) : Fin m := ⟨m - 1 - k, by omega⟩
def bkAll (m : Nat) : List (Fin m) := (List.finRange m).reverse
theorem bkAll_len (m : Nat) : (bkAll m).length = m := by simp [bkAll]
theorem bkAll_take {m k : Nat} (h : k < m) : (bkAll m).take (k + 1) = (bkAll m).take k ++ [bk m k h] := by
  rw [List.take_succ_eq_append_getElem (by rw [bkAll_len]; exact h)]
  congr 1
  simp only [bkAll, List.getElem_reverse, List.length_finRange, List.getElem_finRange, bk, Fin.cast_mk]
def encW (l : List Wr) (x : Fin l.length) : Array Value := #[.int .i64 (x.1 : Int), arrV (wcells l[x.1])]
set_option maxRecDepth 100000 in
set_option maxHeartbeats 1000000 in
theorem back1_in (n : Nat) (hn : 1 ≤ n) (n0 l Bs cp : Nat) (Ap : Option Addr) (pend : List Wr) (hp : ∀ x ∈ pend, x.2.length = 512) (hreach : pend.length ≤ 1000000000) (hBs0 : Bs < n0) (J Jx : List (Fin pend.length) → World → Prop)
    (hY : ∀ pre x W, J pre W → pre.length < pend.length → YieldAt Fence.wide (n - 1) Tryz.prog l (encW pend x) W fun e W' =>
      (e = .returned (.bool true) ∧ J (pre ++ [x]) W' ∧ Below n0 W W') ∨ (e = .returned (.bool false) ∧ Jx (pre ++ [x]) W'))
    (W : World) (hBs : W.cell? ⟨Bs, 0, none⟩ = some (.slice Ap pend.length cp)) (hAp : ∀ k (hk : k < pend.length), ∃ gp, Ap = some ⟨gp, 0, none⟩ ∧ gp < n0 ∧ W.rangeAt gp (k * 513) (wcells pend[k])) (h0 : J [] W) :
    CallsIn Fence.wide n Tryz.prog 136 #[.func (.yield l) #[] #[], .pointer (some ⟨Bs, 0, none⟩)] W fun e W' => (∃ v, e = .returned v) ∧
      ((∃ ys, ys = bkAll pend.length ∧ J ys W') ∨ (∃ pre, (∃ k, k ≤ pend.length ∧ pre = (bkAll pend.length).take k) ∧ Jx pre W')) := by
  refine callsIn_of_wp Tryz.func136 rfl trivial ?_ rfl
  simp only [Tryz.ntmps136, List.size_toArray, List.length_cons, List.length_nil, Nat.reduceAdd, Nat.reduceSub, Array.replicate_succ, Array.replicate_zero, List.push_toArray, List.append_toArray, List.nil_append, List.cons_append]
  gi_wp2
  gi_loopw [3] (fun i wr => ∃ k : Nat, k ≤ pend.length ∧ i = .int .i64 ((pend.length : Int) - 1 - (k : Int)) ∧ J ((bkAll pend.length).take k) wr ∧ Below n0 W wr)
    (fun i _ => (intOf i + 1).toNat)
  case atStart => exact ⟨0, Nat.zero_le _, by go_num, h0, Below.refl _ _⟩
  case round =>
    obtain ⟨k, hk, rfl, hJs, hB⟩ := hrel
    by_cases hlt : k < pend.length
    · have hle : pend.length - 1 - k < pend.length := by omega
      obtain ⟨gp, rfl, hgp, hr0⟩ := hAp (pend.length - 1 - k) hle
      have hcs : wr.cell? ⟨Bs, 0, none⟩ = some (.slice (some ⟨gp, 0, none⟩) pend.length cp) := (hB.cell (p := ⟨Bs, 0, none⟩) hBs0).trans hBs
      have hrg : wr.rangeAt gp ((pend.length - 1 - k) * 513) (wcells pend[pend.length - 1 - k]) := fun j v hv => (hB.cell (p := ⟨gp, _, none⟩) hgp).trans (hr0 j v hv)
      obtain ⟨fn, tmps, assign, body, hy, hR⟩ := hY ((bkAll pend.length).take k) (bk pend.length k hlt) wr hJs (by rw [List.length_take, bkAll_len]; omega)
      unfold encW bk arrV at hy
      obtain ⟨x, hx⟩ : ∃ x, x = pend[pend.length - 1 - k] := ⟨_, rfl⟩
      simp only [← hx] at hy hrg
      have hszw := wcells_szW (hp x (by rw [hx]; exact List.getElem_mem _))
      have huw := Tryz.underlying115
      obtain ⟨j, hj⟩ : ∃ j, j = pend.length - 1 - k := ⟨_, rfl⟩
      rw [← hj] at hy hrg hle
      have hjI : (pend.length : Int) - 1 - (k : Int) = (j : Int) := by omega
      rw [hjI]
      have Hj := Lib.hid hj
      have hjl : (j : Int) < (pend.length : Int) := by omega
      clear hx hr0 hj hjI hAp
      gi_wp2_with (refine wpListIn_load_mid rfl _ _ rfl gp (j * 513) rfl (wcells x) _ hrg huw rfl hszw ?_)
      refine hR.mono ?_
      rintro e W3 (⟨rfl, hJ3, hk3⟩ | ⟨rfl, hJx3⟩)
      · have H5 := Lib.hid (show (j : Int) - 1 = (pend.length : Int) - 1 - ((k + 1 : Nat) : Int) by have := Hj.out; omega)
        gi_wp2
        go_roundw
        case rel => exact ⟨k + 1, by omega, by rw [H5.out], by rw [bkAll_take hlt]; exact hJ3, hB.trans hk3⟩
        case measure => first | (simp [intOf]; done) | (simp [intOf]; have := Hj.out; omega)
      · gi_wp2
        refine bodyPost_ret (results_none rfl _ _ _) rfl ?_
        exact ⟨⟨_, rfl⟩, .inr ⟨_, ⟨k + 1, by omega, (bkAll_take hlt).symm⟩, hJx3⟩⟩
    · obtain rfl : k = pend.length := by omega
      have hneg : ¬ (0 : Int) ≤ (pend.length : Int) - 1 - (pend.length : Int) := by omega
      gi_wp2
      go_end0
      rw [List.take_of_length_le (by rw [bkAll_len]; exact Nat.le_refl _)] at hJs
      exact ⟨⟨_, rfl⟩, .inl (by first | exact hJs | exact ⟨_, rfl, hJs⟩)⟩
theorem back_stops (n : Nat) (hn : 1 ≤ n) (n0 Bs cp : Nat) (Ap : Option Addr) (pend : List Wr) (hp : ∀ x ∈ pend, x.2.length = 512) (hreach : pend.length ≤ 1000000000) (w : World) (hBs0 : Bs < n0) (hn0 : n0 ≤ w.heap.size) (hBs : w.cell? ⟨Bs, 0, none⟩ = some (.slice Ap pend.length cp))
    (hAp : ∀ k (hk : k < pend.length), ∃ gp, Ap = some ⟨gp, 0, none⟩ ∧ gp < n0 ∧ w.rangeAt gp (k * 513) (wcells pend[k])) :
    SeqStopsK Fence.wide n Tryz.prog 136 #[.pointer (some ⟨Bs, 0, none⟩)] (encW pend) (Below n0) (fun ys => ys = bkAll pend.length) (fun pre => ∃ k, k ≤ pend.length ∧ pre = (bkAll pend.length).take k) pend.length w := fun l J Jx W hW hJ hJx hY h0 =>
  back1_in n hn n0 l Bs cp Ap pend hp hreach hBs0 J Jx hY W ((hW.cell (p := ⟨Bs, 0, none⟩) (by show Bs < _; omega)).trans hBs)
    (fun k hk => by
      obtain ⟨gp, h1, h2, h3⟩ := hAp k hk
      exact ⟨gp, h1, h2, fun j v hv => (hW.cell (p := ⟨gp, _, none⟩) (by show gp < _; omega)).trans (h3 j v hv)⟩) h0
set_option maxRecDepth 100000 in
set_option maxHeartbeats 400000 in
theorem backward_any (A : Option Addr) (n c : Nat) (w : World) :
    Calls Tryz.prog 125 #[.slice A n c] w fun e w' => e = .returned (.func (.func 136) #[] #[.pointer (some ⟨w.heap.size, 0, none⟩)]) ∧
      w'.cell? ⟨w.heap.size, 0, none⟩ = some (.slice A n c) ∧ Below w.heap.size w w' ∧ w.heap.size < w'.heap.size := by
  go_enter Tryz.func125, Tryz.ntmps125
  go_wp2
  go_ret
  refine ⟨rfl, ?_, b1alloc _ _, ?_⟩
  all_goals simp
end Go.Proofs.YtchcmklelmlbgaaGreat.Disk

/- The walk of disk.Read. -/
namespace Go.Proofs.YtchcmklelmlbgaaGreat.Disk
open Go.RowKit Go.Shelf Go.Proofs.YtchcmklelmlbgaaGreat.Ch
attribute [local go_sem] Oper.semAt_some
set_option linter.unusedVariables false
set_option maxRecDepth 100000

/-- what is read: the newest pending write of the place, else what is kept -/
theorem kept_pend (all pend : List Wr) (p : Nat) (k : Nat) (hk : k < pend.length) (hp : pend[pend.length - 1 - k].1 = p) (hno : ∀ j, j < k → ∀ (h : pend.length - 1 - j < pend.length), pend[pend.length - 1 - j].1 ≠ p) : kept (all ++ pend) p = pend[pend.length - 1 - k].2 := by
  obtain ⟨i, hi⟩ : ∃ i, i = pend.length - 1 - k := ⟨_, rfl⟩
  have hil : i < pend.length := by omega
  have hsplit : all ++ pend = (all ++ pend.take i ++ [pend[i]]) ++ pend.drop (i + 1) := by
    rw [List.append_assoc all, ← List.take_succ_eq_append_getElem hil, List.append_assoc, List.take_append_drop]
  rw [hsplit, kept_append _ _ _ (fun w hw => by
    obtain ⟨j, hj, rfl⟩ := List.getElem_of_mem hw
    rw [List.length_drop] at hj
    rw [List.getElem_drop]
    have := hno (k - 1 - j) (by omega) (by omega)
    have he : pend.length - 1 - (k - 1 - j) = i + 1 + j := by omega
    simp only [he] at this
    exact this), kept_snoc]
  subst hi
  rw [if_pos hp]
theorem kept_none (all pend : List Wr) (p : Nat) (hno : ∀ j, j < pend.length → ∀ (h : pend.length - 1 - j < pend.length), pend[pend.length - 1 - j].1 ≠ p) : kept (all ++ pend) p = kept all p :=
  kept_append _ _ _ (fun w hw => by
    obtain ⟨j, hj, rfl⟩ := List.getElem_of_mem hw
    have := hno (pend.length - 1 - j) (by omega) (by omega)
    have he : pend.length - 1 - (pend.length - 1 - j) = j := by omega
    simp only [he] at this
    exact this)
/-- what Read tells -/
def Told8 (w w' : World) (r : List UInt8 × Int) (e : Ending) : Prop := ∃ v, e = .returned (.tuple #[v, .int .i64 r.2]) ∧ New8 w w' r.1 v ∧ Below w.heap.size w w'
/-- the walk stopped at the newest write of the place: its row lies in a block of its own, the results in their cells -/
def Hit (X : World) (B : Nat) (q : Nat) (pend : List Wr) (pre : List (Fin pend.length)) : Prop :=
  ∃ (pre0 : List (Fin pend.length)) (x : Fin pend.length) (bx : Nat), pre = pre0 ++ [x] ∧ (∀ y ∈ pre0, pend[y.1].1 ≠ q) ∧ pend[x.1].1 = q ∧ B ≤ bx ∧
    (BlkT X (B + 1) 51 [.slice (some ⟨bx, 1, none⟩) 512 512] ∧ BlkT X (B + 1 + 1) 29 [.int .i64 0] ∧ BlkT X bx 115 (wcells pend[x.1]))
theorem hit_from {B0 B q : Nat} {pend : List Wr} : OwnFrom B0 (fun pre W => Hit W B q pend pre) := fun pre W W' row hs hg hr => by
  obtain ⟨pre0, x, bx, h1, h2, h3, h4, h5, h6, h7⟩ := hs
  exact ⟨pre0, x, bx, h1, h2, h3, h4, blkT_from (β := Unit) _ _ _ () W W' row h5 hg hr, blkT_from (β := Unit) _ _ _ () W W' row h6 hg hr, blkT_from (β := Unit) _ _ _ () W W' row h7 hg hr⟩
theorem new8_wait {w X : World} {bx : Nat} {x : Wr} (hbx : w.heap.size ≤ bx) (h : BlkT X bx 115 (wcells x)) (hl : x.2.length = 512) : New8 w X x.2 (.slice (some ⟨bx, 1, none⟩) 512 512) := by
  refine ⟨_, 512, by rw [hl], by omega, by unfold maxLen; omega, fun _ => ⟨bx, 1, rfl, hbx, lt_of_block h, fun i hi => ?_⟩⟩
  have := blk_bytes (BlkT.blk h) i (x.2.map e8)[i] (List.getElem?_eq_getElem hi)
  exact this
theorem New8.move {w w1 w2 w3 : World} {l : List UInt8} {v : Value} (h : New8 w1 w2 l v) (hs : w.heap.size ≤ w1.heap.size) (hk : ∀ b, w1.heap.size ≤ b → b < w2.heap.size → w3.heap[b]? = w2.heap[b]?) (hz : w2.heap.size ≤ w3.heap.size) : New8 w w3 l v := by
  obtain ⟨A, c, h0, h1, h2, h3⟩ := h
  refine ⟨A, c, h0, h1, h2, fun hne => ?_⟩
  obtain ⟨b, off, h4, h5, h6, h7⟩ := h3 hne
  exact ⟨b, off, h4, by omega, by omega, fun i hi => (World.cell?_of_block (hk b h5 h6)).trans (h7 i hi)⟩
theorem hit_kept (all pend : List Wr) (q k : Nat) (hk : k ≤ pend.length) (pre0 : List (Fin pend.length)) (x : Fin pend.length) (hpk : pre0 ++ [x] = (bkAll pend.length).take k) (hno : ∀ y ∈ pre0, pend[y.1].1 ≠ q) (hxq : pend[x.1].1 = q) :
    kept (all ++ pend) q = pend[x.1].2 := by
  cases k with
  | zero => simp at hpk
  | succ k =>
    have hkl : k < pend.length := hk
    rw [bkAll_take hkl] at hpk
    obtain ⟨rfl, hx⟩ := List.append_inj' hpk rfl
    obtain rfl : x = bk pend.length k hkl := by simpa using hx
    refine kept_pend all pend q k (by omega) hxq (fun j hj h => ?_)
    refine hno (bk pend.length j (by omega)) ?_
    have h1 : bk pend.length j (by omega) ∈ (bkAll pend.length).take (j + 1) := by rw [bkAll_take (by omega)]; simp
    have h2 : (bkAll pend.length).take (j + 1) = ((bkAll pend.length).take k).take (j + 1) := by rw [List.take_take, Nat.min_eq_left (by omega)]
    rw [h2] at h1
    exact List.mem_of_mem_take h1
set_option maxHeartbeats 2000000 in
theorem read_any (g : Nat) (fp : List Nat) (s : St) (p : Int) (w : World) (h : DAt w g fp s) (hs : s.sz ≤ 100000000) :
    Calls Tryz.prog 111 #[.pointer (some ⟨g, 0, none⟩), .int .i64 p] w fun e w' => Told8 w w' (read s p) e := by
  have hdn := fun W (hW : Below w.heap.size w W) => down_any g fp s W (h.on hW)
  have has := fun W (hW : Below w.heap.size w W) => asked_any g fp s p W (h.on hW)
  have bw3 := b3alloc w (.cells #[.int .i64 p] 3) (.cells #[.slice none 0 0] 51) (.cells #[.int .i64 0] 29)
  cases hd : s.down with
  | true =>
    have hw : read s p = ([], 12) := by unfold read; rw [if_pos hd]
    rw [hw]
    rw [hd] at hdn
    have Hdn := Lib.hid hdn
    clear hw hd has hdn
    go_enter Tryz.func111, Tryz.ntmps111
    go_wp2_with fail
    go_step3
    go_wp2_with fail
    refine (Hdn.out _ bw3).mono ?_
    rintro e w1 ⟨rfl, rfl⟩
    go_wp2
    rw [Exit.noGoto_ret]
    refine bodyPost_ret (v := .tuple #[.slice none 0 0, .int .i64 12]) (by simp [results, Tryz.results111, go_sem]) rfl ?_
    exact ⟨_, rfl, New8.nil _ _, b3alloc _ _ _ _⟩
  | false =>
    rw [hd] at hdn
    have Hdn := Lib.hid hdn
    by_cases hp : p < 0 ∨ (s.size : Int) ≤ p
    · have hw : read s p = ([], 2) := by unfold read; rw [if_neg (by simp [hd]), if_pos hp]
      have hf : askF s p = 2 := if_pos hp
      rw [hw]
      rw [hf] at has
      have Has := Lib.hid has
      clear hw hd has hdn hp hf
      go_enter Tryz.func111, Tryz.ntmps111
      go_wp2_with fail
      go_step3
      go_wp2_with fail
      refine (Hdn.out _ bw3).mono ?_
      rintro e w1 ⟨rfl, rfl⟩
      go_wp2_with fail
      refine (Has.out _ bw3).mono ?_
      rintro e w1 ⟨rfl, rfl⟩
      go_wp2
      rw [Exit.noGoto_ret]
      refine bodyPost_ret (v := .tuple #[.slice none 0 0, .int .i64 2]) (by simp [results, Tryz.results111, go_sem]) rfl ?_
      exact ⟨_, rfl, New8.nil _ _, b3alloc _ _ _ _⟩
    · have hf : askF s p = 0 := if_neg hp
      have hw : read s p = (kept (s.all ++ s.pend) p.toNat, 0) := by unfold read; rw [if_neg (by simp [hd]), if_neg hp]
      rw [hw]
      rw [hf] at has
      have Has := Lib.hid has
      obtain ⟨q, rfl⟩ : ∃ q : Nat, p = (q : Int) := ⟨p.toNat, by omega⟩
      rw [Int.toNat_natCast]
      have hka := kept_any g fp s (q : Int)
      rw [show keptAt s (q : Int) = kept s.all q from by rw [keptAt, if_neg hp, Int.toNat_natCast]] at hka
      have Hka := Lib.hid hka
      obtain ⟨vk, vp, va, acs, hL⟩ := h
      obtain ⟨Ap, cp, rfl⟩ := own_form hL.pend
      have hL3 := hL.on bw3
      obtain ⟨_, d1, _, _, _, _, _⟩ := six hL3.blk
      have hpl : s.pend.length ≤ 100000000 := by unfold St.sz at hs; omega
      clear hw hd has hdn hp hf hka
      refine (callsIn_wide (n := 8)).1 ?_
      refine callsIn_of_wp_marks Tryz.func111 rfl trivial ?_ rfl
      simp only [Tryz.ntmps111, List.size_toArray, List.length_cons, List.length_nil, Nat.reduceAdd, Nat.reduceSub, Array.replicate_succ, Array.replicate_zero, List.push_toArray, List.append_toArray, List.nil_append, List.cons_append]
      gi_wp2_with fail
      refine wpIn_wide.2 (wp_scope_straight ((wpIn_wide (n := 8)).1 ?_))
      gi_wp2_with fail
      have e3 : (((w.alloc (.cells #[.int .i64 (q : Int)] 3)).alloc (.cells #[.slice none 0 0] 51)).alloc (.cells #[.int .i64 0] 29)).heap[w.heap.size]? = some (.cells #[.int .i64 (q : Int)] 3 (0, 0)) :=
        (Below.heap_alloc _ _ _ (by simp; omega)).trans ((Below.heap_alloc _ _ _ (by simp)).trans (heap_alloc_new w _))
      have e4 : (((w.alloc (.cells #[.int .i64 (q : Int)] 3)).alloc (.cells #[.slice none 0 0] 51)).alloc (.cells #[.int .i64 0] 29)).heap[w.heap.size + 1]? = some (.cells #[.slice none 0 0] 51 (0, 0)) :=
        (Below.heap_alloc _ _ _ (by simp)).trans (by have := heap_alloc_new (w.alloc (.cells #[.int .i64 (q : Int)] 3)) (.cells #[.slice none 0 0] 51); simpa using this)
      have e5 : (((w.alloc (.cells #[.int .i64 (q : Int)] 3)).alloc (.cells #[.slice none 0 0] 51)).alloc (.cells #[.int .i64 0] 29)).heap[w.heap.size + 1 + 1]? = some (.cells #[.int .i64 0] 29 (0, 0)) := by
        have := heap_alloc_new ((w.alloc (.cells #[.int .i64 (q : Int)] 3)).alloc (.cells #[.slice none 0 0] 51)) (.cells #[.int .i64 0] 29)
        simpa using this
      have hs3 : (((w.alloc (.cells #[.int .i64 (q : Int)] 3)).alloc (.cells #[.slice none 0 0] 51)).alloc (.cells #[.int .i64 0] 29)).heap.size = w.heap.size + 3 := by simp
      obtain ⟨w3, hw3⟩ : ∃ w3, w3 = ((w.alloc (.cells #[.int .i64 (q : Int)] 3)).alloc (.cells #[.slice none 0 0] 51)).alloc (.cells #[.int .i64 0] 29) := ⟨_, rfl⟩
      rw [← hw3] at bw3 hL3 d1 e3 e4 e5 hs3 ⊢
      replace hs3 := Nat.le_of_eq hs3.symm
      clear hw3
      have c3 := cell_of_one e3
      refine ⟨trivial, (callsIn_wide.2 (Hdn.out _ bw3)).mono ?_⟩
      rintro e w1 ⟨rfl, rfl⟩
      gi_wp2_with fail
      refine ⟨trivial, (callsIn_wide.2 (Has.out _ bw3)).mono ?_⟩
      rintro e w1 ⟨rfl, rfl⟩
      gi_wp2_with fail
      refine wpIn_label ?_
      gi_wp2_with fail
      refine ⟨trivial, (callsIn_wide.2 (backward_any Ap s.pend.length cp _)).mono ?_⟩
      rintro e w6 ⟨rfl, cs6, b6, hs6⟩
      gi_wp2_with fail
      have hp512 : ∀ x ∈ s.pend, x.2.length = 512 := fun x hx => (hL3.ok.pend x hx).2
      have hAp : ∀ k (hk : k < s.pend.length), ∃ gp, Ap = some ⟨gp, 0, none⟩ ∧ gp < w6.heap.size ∧ w6.rangeAt gp (k * 513) (wcells s.pend[k]) := fun k hk => by
        obtain ⟨gp, cp', e0, _⟩ := own_some hL3.pend (by omega)
        obtain ⟨rfl, rfl⟩ : Ap = some ⟨gp, 0, none⟩ ∧ cp = cp' := by injection e0 with e1 e2 e3; exact ⟨e1, e3⟩
        obtain ⟨cs, hcs⟩ := own_blk hL3.pend
        exact ⟨gp, rfl, Nat.lt_of_lt_of_le (lt_of_block hcs) b6.size, fun j v hv => (b6.cell (p := ⟨gp, _, none⟩) (lt_of_block hcs)).trans (pend_range hL3 k hk j v hv)⟩
      have hlt3 : w3.heap.size ≤ w6.heap.size := b6.size
      have f3 : BlkT w6 w.heap.size 3 [.int .i64 (q : Int)] := (b6.block _ (by omega)).trans e3
      have f4 : BlkT w6 (w.heap.size + 1) 51 [.slice none 0 0] := (b6.block _ (by omega)).trans e4
      have f5 : BlkT w6 (w.heap.size + 1 + 1) 29 [.int .i64 0] := (b6.block _ (by omega)).trans e5
      have hL6 := hL3.on b6
      have bw6 : Below w.heap.size w w6 := bt bw3 b6
      have HAp := Lib.hid hAp
      have h512 := Lib.hid hp512
      clear hAp hp512 d1 c3 e3 e4 e5 b6 hL3 bw3
      refine wpIn_rangeFunc_ownH (n := 8) rfl (by omega) (gf := 136) (lb := #[.pointer (some ⟨w3.heap.size, 0, none⟩)]) rfl trivial (enters_of Tryz.func136 (by kernel_rfl) rfl)
        (back_stops (8 - 1) (by omega) w6.heap.size w3.heap.size cp Ap s.pend h512.out (by omega) w6 hs6 (Nat.le_refl _) cs6 HAp.out) belowK_t (belowK_b (Nat.le_refl _)) (Below.refl _ _) (fun _ => rfl)
        (fun pre X => Below w6.heap.size w6 X ∧ Hid (∀ y ∈ pre, s.pend[y.1].1 ≠ q))
        (fun c pre X => c = .ret ∧ Hit X w.heap.size q s.pend pre ∧ Below w.heap.size w X)
        (OwnFrom.and (ownFrom_below (Nat.le_refl _) (Nat.le_refl _)) (fun _ _ _ _ hs _ _ => hs))
        (fun c => OwnFrom.and (fun _ _ _ _ hs _ _ => hs) (OwnFrom.and hit_from (ownFrom_below (Nat.le_refl _) bw6.size)))
        ⟨Below.refl _ _, Lib.hid (fun y hy => by cases hy)⟩
        (fun x a' W => ∃ Bx, w6.heap.size ≤ Bx ∧ BlkT W Bx 115 (wcells s.pend[x.1]) ∧ a' = { tmps := #[.pointer (some ⟨g, 0, none⟩), .int .i64 (q : Int), undef, .pointer (some ⟨w.heap.size, 0, none⟩), .pointer (some ⟨w.heap.size + 1, 0, none⟩), .pointer (some ⟨w.heap.size + 1 + 1, 0, none⟩), .int .i64 0, undef, .pointer (some ⟨Bx, 0, none⟩),
          .pointer (some ⟨g, 0, none⟩), .bool false, .pointer (some ⟨g, 0, none⟩), .int .i64 (q : Int), .int .i64 0, .int .i64 0, .bool false, undef, .pointer (some ⟨g, 0, none⟩), .pointer (some ⟨g, 0, none⟩), .pointer (some ⟨g, 1, none⟩), .slice Ap s.pend.length cp, .func (.func 136) #[] #[.pointer (some ⟨w3.heap.size, 0, none⟩)],
          .int .i64 (x.1 : Int), .agg (wcells s.pend[x.1]).toArray, undef, undef, undef, undef, undef, undef, undef, undef, undef], defers := [] })
        (fun x a' _ X Y row hs hg hr => by obtain ⟨Bx, h1, h2, h3⟩ := hs; exact ⟨Bx, h1, blkT_from (β := Unit) Bx _ _ () X Y row h2 hg hr, h3⟩)
        ?assign ?body ?done ?stop
      case assign =>
        rintro l pre x X K ⟨bX, hno⟩ hK
        have hx2 := h512.out _ (List.getElem_mem x.2)
        obtain ⟨y, hy⟩ : ∃ y, y = s.pend[x.1] := ⟨_, rfl⟩
        rw [← hy] at hx2 hK
        unfold encW arrV
        rw [← hy]
        have hyl := wcells_len hx2
        have hszw := wcells_szW hx2
        have hzl : (wcells (0, zero512)).length = (wcells y).length := by rw [hyl, wcells_len (show ((0, zero512) : Wr).2.length = 512 from by simp [zero512])]
        have h1y : ∀ v ∈ wcells y, v.oneCell' = true := wcells_one _
        clear hy
        simp [List.zip_toArray, List.setIfInBounds_toArray]
        gi_wp2_with (first
          | (refine wpListIn_allocT rfl _ rfl (wcells (0, zero512)) zeroW ?_; intro X1 hb1 bX1)
          | (refine wpListIn_storeT rfl _ _ _ rfl rfl (ys := wcells y) rfl hb1 hzl h1y hszw ?_; intro X2 hb2 hg2))
        have b12 : Below X.heap.size X X2 := below_row bX1 hg2 (Nat.le_refl _) bX1.size
        exact hK _ _ ((keeps_below b12).from _) (b12.mono bX.size) ⟨bX.trans (b12.mono bX.size), hno⟩ ⟨X.heap.size, bX.size, hb2, rfl⟩
      case body =>
        rintro l pre x a' X hlw hlr ⟨bX, hno⟩ ⟨Bx, hBx, hb, rfl⟩ hpm
        obtain ⟨y, hy⟩ : ∃ y, y = s.pend[x.1] := ⟨_, rfl⟩
        have hx2 := h512.out _ (List.getElem_mem x.2)
        rw [← hy] at hb hx2
        have hlB : Bx < X.heap.size := lt_of_block hb
        have hcx : X.cell? ⟨Bx, 0, none⟩ = some (.int .i64 (y.1 : Int)) := by
          have := hb.blk.cell (k := 0) (by simp [wcells])
          simpa [wcells] using this
        have hcq : X.cell? ⟨w.heap.size, 0, none⟩ = some (.int .i64 (q : Int)) := cell_of_one ((bX.block _ (by omega)).trans f3)
        have g4 : Boxed X (w.heap.size + 1) 51 (.slice none 0 0) := (bX.block _ (by omega)).trans f4
        have g5 : Boxed X (w.heap.size + 1 + 1) 29 (.int .i64 0) := (bX.block _ (by omega)).trans f5
        have bwX : Below w.heap.size w X := bw6.trans (bX.mono bw6.size)
        have Hy := Lib.hid hy
        simp only [← hy]
        clear hy f3 f4 f5 HAp hL6 cs6
        by_cases hq : y.1 = q
        · have hnn : ((y.1 : Int) != (q : Int)) = false := by simp [hq]
          have hc4 := g4.cell
          have hv4 := g4.frozen
          have g5' := g5.other (B' := w.heap.size + 1) (by omega) (.slice (some ⟨Bx, 1, none⟩) 512 512)
          have hc5 := g5'.cell
          have hv5 := g5'.frozen
          have hb' : BlkT (X.setCell ⟨w.heap.size + 1, 0, none⟩ (.slice (some ⟨Bx, 1, none⟩) 512 512)) Bx 115 (wcells y) := ((grownBy_setCell' X (w.heap.size + 1) _).block Bx hlB (by simp; omega)).trans hb
          have hb'' : BlkT ((X.setCell ⟨w.heap.size + 1, 0, none⟩ (.slice (some ⟨Bx, 1, none⟩) 512 512)).setCell ⟨w.heap.size + 1 + 1, 0, none⟩ (.int .i64 0)) Bx 115 (wcells y) := ((grownBy_setCell' _ (w.heap.size + 1 + 1) _).block Bx (lt_of_block hb') (by simp; omega)).trans hb'
          have h4' := (g4.set (.slice (some ⟨Bx, 1, none⟩) 512 512)).other (B' := w.heap.size + 1 + 1) (by omega) (.int .i64 0)
          have h5' := g5'.set (.int .i64 0)
          have hk : KeepsOthers X ((X.setCell ⟨w.heap.size + 1, 0, none⟩ (.slice (some ⟨Bx, 1, none⟩) 512 512)).setCell ⟨w.heap.size + 1 + 1, 0, none⟩ (.int .i64 0)) :=
            (keeps_row (grownBy_setCell' X (w.heap.size + 1) _) (BlkT.blk g4)).trans (keeps_row (grownBy_setCell' _ (w.heap.size + 1 + 1) _) (BlkT.blk g5'))
          have hbw := (bwX.setCell (p := ⟨w.heap.size + 1, 0, none⟩) (by show w.heap.size ≤ w.heap.size + 1; omega) (.slice (some ⟨Bx, 1, none⟩) 512 512)).setCell (p := ⟨w.heap.size + 1 + 1, 0, none⟩) (by show w.heap.size ≤ w.heap.size + 1 + 1; omega) (.int .i64 0)
          gi_wp2_with fail
          refine ⟨hk.from _, rfl, ⟨pre, x, Bx, rfl, hno.out, by rw [← Hy.out]; exact hq, by omega, h4', h5', by rw [← Hy.out]; exact hb''⟩, hbw⟩
        · have hnn : ((y.1 : Int) != (q : Int)) = true := by simp; omega
          gi_wp2_with fail
          refine ⟨(keeps_below (Below.refl _ _)).from _, Below.refl _ _, bX, Lib.hid (fun z hz => ?_)⟩
          rcases List.mem_append.1 hz with hz | hz
          · exact hno.out z hz
          · obtain rfl := List.mem_singleton.1 hz
            rw [← Hy.out]; exact hq
      case done =>
        rintro D ys X hD rfl ⟨bX, hno⟩ hKD
        have hDX : D < X.heap.size := lt_of_block hKD
        have hno2 : ∀ j, j < s.pend.length → ∀ (h : s.pend.length - 1 - j < s.pend.length), s.pend[s.pend.length - 1 - j].1 ≠ q := fun j hj h => hno.out ⟨s.pend.length - 1 - j, h⟩ (by simp [bkAll])
        have Hkn := Lib.hid (kept_none s.all s.pend q hno2)
        have g4 : Boxed X (w.heap.size + 1) 51 (.slice none 0 0) := (bX.block _ (by omega)).trans f4
        have g5 : Boxed X (w.heap.size + 1 + 1) 29 (.int .i64 0) := (bX.block _ (by omega)).trans f5
        have hcq : X.cell? ⟨w.heap.size, 0, none⟩ = some (.int .i64 (q : Int)) := cell_of_one ((bX.block _ (by omega)).trans f3)
        have bwX : Below w.heap.size w X := bw6.trans (bX.mono bw6.size)
        have Dx : DAt X g fp s := ⟨_, _, _, _, hL6.on bX⟩
        have hwX : w6.heap.size ≤ X.heap.size := bX.size
        clear hno2 f3 f4 f5 HAp hL6 cs6 hno bX
        gi_wp2_with fail
        refine ⟨trivial, (callsIn_wide.2 (Hka.out _ Dx)).mono ?_⟩
        rintro e w8 ⟨v8, rfl, hn8, b8⟩
        have hn9 := hn8
        obtain ⟨A8, c8, rfl, _⟩ := hn9
        have h84 : Boxed w8 (w.heap.size + 1) 51 (.slice none 0 0) := (b8.block _ (by omega)).trans g4
        have h85 : Boxed w8 (w.heap.size + 1 + 1) 29 (.int .i64 0) := (b8.block _ (by omega)).trans g5
        have h8D : w8.heap[D]? = some (.deferred (some [])) := (b8.block _ hDX).trans hKD
        have bw8 : Below w.heap.size w w8 := bwX.trans (b8.mono bwX.size)
        have hsz8 : X.heap.size ≤ w8.heap.size := b8.size
        clear g4 g5 hcq Dx hKD b8 bwX
        have hc4 := h84.cell
        have hv4 := h84.frozen
        have g5' := h85.other (B' := w.heap.size + 1) (by omega) (.slice A8 (kept s.all q).length c8)
        have hc5 := g5'.cell
        have hv5 := g5'.frozen
        gi_wp2_with fail
        have s1 := grownBy_setCell' w8 (w.heap.size + 1) (.slice A8 (kept s.all q).length c8)
        obtain ⟨wa, hwa⟩ : ∃ wa, wa = w8.setCell ⟨w.heap.size + 1, 0, none⟩ (.slice A8 (kept s.all q).length c8) := ⟨_, rfl⟩
        have h94 : Boxed wa (w.heap.size + 1) 51 (.slice A8 (kept s.all q).length c8) := by rw [hwa]; exact h84.set _
        have hba : Below w.heap.size w wa := by rw [hwa]; exact bw8.setCell (p := ⟨w.heap.size + 1, 0, none⟩) (by show w.heap.size ≤ w.heap.size + 1; omega) _
        have hka : ∀ b, b ≠ w.heap.size + 1 → b < w8.heap.size → wa.heap[b]? = w8.heap[b]? := fun b hb hl => by rw [hwa]; exact s1.block b hl (by simp; omega)
        have hza : wa.heap.size = w8.heap.size := by rw [hwa]; simp
        rw [← hwa] at g5' ⊢
        clear hwa s1 hc4 hv4 hc5 hv5 h84 h85
        have s2 := grownBy_setCell' wa (w.heap.size + 1 + 1) (.int .i64 0)
        obtain ⟨wb, hwb⟩ : ∃ wb, wb = wa.setCell ⟨w.heap.size + 1 + 1, 0, none⟩ (.int .i64 0) := ⟨_, rfl⟩
        have h95 : Boxed wb (w.heap.size + 1 + 1) 29 (.int .i64 0) := by rw [hwb]; exact g5'.set _
        have h96 : Boxed wb (w.heap.size + 1) 51 (.slice A8 (kept s.all q).length c8) := by rw [hwb]; exact h94.other (by omega) _
        have hbb : Below w.heap.size w wb := by rw [hwb]; exact hba.setCell (p := ⟨w.heap.size + 1 + 1, 0, none⟩) (by show w.heap.size ≤ w.heap.size + 1 + 1; omega) _
        have hkb : ∀ b, b ≠ w.heap.size + 1 → b ≠ w.heap.size + 1 + 1 → b < w8.heap.size → wb.heap[b]? = w8.heap[b]? := fun b hb hb2 hl => by rw [hwb]; exact (s2.block b (by omega) (by simp; omega)).trans (hka b hb hl)
        have hzb : wb.heap.size = w8.heap.size := by rw [hwb]; simp [hza]
        rw [← hwb]
        clear hwb s2 g5' h94 hba hka hza
        have hKb : wb.heap[D]? = some (.deferred (some [])) := (hkb D (by omega) (by omega) (by omega)).trans h8D
        have hc4 : ((wb.putObj D (.deferred none))).cell? ⟨w.heap.size + 1, 0, none⟩ = some (.slice A8 (kept s.all q).length c8) :=
          (World.cell?_of_block (World.putObj_heap_other (by dsimp only; omega))).trans h96.cell
        have hc5 : ((wb.putObj D (.deferred none))).cell? ⟨w.heap.size + 1 + 1, 0, none⟩ = some (.int .i64 0) :=
          (World.cell?_of_block (World.putObj_heap_other (by dsimp only; omega))).trans h95.cell
        rw [Exit.noGoto_ret]
        refine ⟨by simp, .inl ⟨_, _, rfl, run_takeDeferred hKb, ?_⟩⟩
        refine ⟨.tuple #[.slice A8 (kept s.all q).length c8, .int .i64 0], (by simp [results, Tryz.results111, go_sem, hc4, hc5]), ?_⟩
        refine ⟨_, rfl, ?_, hbb.trans (belowK_b (w := w) (Nat.le_refl _) _ D _ _ (by omega) hKb rfl rfl)⟩
        rw [Hkn.out]
        exact hn8.move (by omega) (fun b h1 h2 => (World.putObj_heap_other (by omega)).trans (hkb b (by omega) (by omega) h2)) (by simp; omega)
      case stop =>
        rintro D c pre X hD hpre ⟨rfl, hit, hB⟩ hKD
        obtain ⟨k, hk, hpk⟩ := hpre
        obtain ⟨pre0, x, bx, rfl, hno, hxq, hbx, h4, h5, hb⟩ := hit
        have Hkp := Lib.hid (hit_kept s.all s.pend q k hk pre0 x hpk hno hxq)
        have hc4 : ((X.putObj D (.deferred none))).cell? ⟨w.heap.size + 1, 0, none⟩ = some (.slice (some ⟨bx, 1, none⟩) 512 512) :=
          (World.cell?_of_block (World.putObj_heap_other (by dsimp only; omega))).trans (cell_of_one h4)
        have hc5 : ((X.putObj D (.deferred none))).cell? ⟨w.heap.size + 1 + 1, 0, none⟩ = some (.int .i64 0) :=
          (World.cell?_of_block (World.putObj_heap_other (by dsimp only; omega))).trans (cell_of_one h5)
        have hne : bx ≠ D := fun e => by
          rw [e] at hb
          rw [show X.heap[D]? = _ from hb] at hKD
          cases hKD
        have hb2 : BlkT (X.putObj D (.deferred none)) bx 115 (wcells s.pend[x.1]) := (World.putObj_heap_other hne).trans hb
        have hx2 := h512.out _ (List.getElem_mem x.2)
        clear hpk hno hb
        gi_wp2_with fail
        rw [Exit.noGoto_ret]
        refine ⟨by simp, .inl ⟨_, _, rfl, run_takeDeferred hKD, ?_⟩⟩
        refine ⟨.tuple #[.slice (some ⟨bx, 1, none⟩) 512 512, .int .i64 0], (by simp [results, Tryz.results111, go_sem, hc4, hc5]), ?_⟩
        refine ⟨_, rfl, ?_, hB.trans (belowK_b (w := w) (Nat.le_refl _) _ D _ _ (by omega) hKD rfl rfl)⟩
        rw [Hkp.out]
        exact new8_wait hbx hb2 hx2
end Go.Proofs.YtchcmklelmlbgaaGreat.Disk

/- The walks of sector.written and of the reference's Text. -/
namespace Go.Proofs.YtchcmklelmlbgaaGreat.Sec
open Go.RowKit
open Go.Proofs.YtchcmklelmlbgaaGreat.Num (putL)
open Go.Proofs.YtchcmklelmlbgaaGreat.Mac (padTo)
set_option linter.unusedVariables false
set_option maxRecDepth 100000
theorem text_eq {p : Int} {x : X} {n0 n1 n3 n5 : UInt64} (e0 : x.kind = (n0.toNat : Int)) (e1 : p = (n1.toNat : Int)) (e3 : x.seq = (n3.toNat : Int)) (e5 : (x.body.length : Int) = (n5.toNat : Int)) :
    text p x = padTo ((((((putL n0.toNat 1 ++ putL n1.toNat 2) ++ putL x.life.toNat 8) ++ putL n3.toNat 4) ++ putL x.gen.toNat 8) ++ putL n5.toNat 2) ++ x.body) 504 := by
  unfold text head
  rw [show x.kind.toNat = n0.toNat by omega, show p.toNat = n1.toNat by omega, show x.seq.toNat = n3.toNat by omega, show x.body.length = n5.toNat by omega]
/-- the first fields' bytes -/
def pre (n0 n1 n2 n3 n4 n5 : UInt64) : Nat → List UInt8
  | 0 => []
  | 1 => putL n0.toNat 1
  | 2 => putL n0.toNat 1 ++ putL n1.toNat 2
  | 3 => (putL n0.toNat 1 ++ putL n1.toNat 2) ++ putL n2.toNat 8
  | 4 => ((putL n0.toNat 1 ++ putL n1.toNat 2) ++ putL n2.toNat 8) ++ putL n3.toNat 4
  | 5 => (((putL n0.toNat 1 ++ putL n1.toNat 2) ++ putL n2.toNat 8) ++ putL n3.toNat 4) ++ putL n4.toNat 8
  | _ => ((((putL n0.toNat 1 ++ putL n1.toNat 2) ++ putL n2.toNat 8) ++ putL n3.toNat 4) ++ putL n4.toNat 8) ++ putL n5.toNat 2
theorem retB_eq {E : TypeId} {w w' : World} {l l' : List UInt8} {e : Ending} (h : RetB E w l e w') (h2 : l = l') : RetB E w l' e w' := h2 ▸ h
theorem own_add {w : World} {base : Nat} {e : TypeId} {v : Value} {n m : Nat} {a b c : List UInt8} (h : w.ownsRow base e 1 v (n + m) (a.map e8 ++ b.map e8)) (hn : n = a.length) (hm : m = b.length) (hc : c = a ++ b) : w.ownsRow base e 1 v c.length (c.map e8) := by
  subst hn hm hc
  rw [List.length_append, List.map_append]; exact h
theorem blk_grown {w w' : World} {b : Nat} {o : Obj} {r : Option Nat} (h : w.heap[b]? = some o) (hlt : b < w.heap.size) (g : w.grownBy w' r) (hr : ∀ k, r = some k → b < k) : w'.heap[b]? = some o :=
  (g.block b hlt (fun e => by have := hr b e.symm; omega)).trans h
theorem five {w : World} {g : Nat} {v0 v1 v2 v3 v4 : Value} {t : TypeId} (h : w.heap[g]? = some (.cells #[v0, v1, v2, v3, v4] t (0, 0))) :
    w.cell? ⟨g, 0, none⟩ = some v0 ∧ w.cell? ⟨g, 1, none⟩ = some v1 ∧ w.cell? ⟨g, 2, none⟩ = some v2 ∧ w.cell? ⟨g, 3, none⟩ = some v3 ∧ w.cell? ⟨g, 4, none⟩ = some v4 ∧ ∀ o, w.frozen? ⟨g, o, none⟩ = false := by
  refine ⟨?_, ?_, ?_, ?_, ?_, ?_⟩ <;> simp [World.cell?, World.frozen?, h]
set_option maxHeartbeats 600000 in
theorem written_any (p : Int) (x : X) (A : Option Addr) (c : Nat) (w : World) (hr : Rd w w.heap.size A (x.body.map e8)) (h : rightF p x = 0) :
    Calls Tryz.prog 122 #[.int .i64 p, .agg #[.int .i64 x.kind, .int .u64 (x.life.toNat : Int), .int .i64 x.seq, .int .u64 (x.gen.toNat : Int), .slice A x.body.length c]] w (RetB 5 w (text p x)) := by
  obtain ⟨i0', hi0, hz0, hz1, hz2⟩ := info_parts info8
  obtain ⟨h1, h2, h3, h4, h5, h6, h7⟩ := right_of h
  obtain ⟨n0, e0⟩ := to64 x.kind (by omega) (by omega)
  obtain ⟨n1, e1⟩ := to64 p (by omega) (by omega)
  obtain ⟨n3, e3⟩ := to64 x.seq (by omega) (by omega)
  obtain ⟨n5, e5⟩ := to64 (x.body.length : Int) (by omega) (by omega)
  have ht := Lib.hid (text_eq e0 e1 e3 e5)
  rw [ht.out]
  obtain ⟨body, hbody⟩ : ∃ b, b = x.body := ⟨_, rfl⟩
  obtain ⟨n2, hn2⟩ : ∃ b, b = x.life := ⟨_, rfl⟩
  obtain ⟨n4, hn4⟩ : ∃ b, b = x.gen := ⟨_, rfl⟩
  rw [← hbody] at hr e5 h7 ⊢
  rw [← hn2, ← hn4]
  have E5 := Lib.hid e5
  rw [e0, e1, e3]
  rw [e0] at h1 h2
  rw [e1] at h3 h4
  rw [e3] at h5 h6
  clear ht h e0 e1 e3 e5 hbody hn2 hn4
  have g2 : (n2.toNat : Int) ≤ 18446744073709551615 := by have := n2.toNat_lt; omega
  have g4 : (n4.toNat : Int) ≤ 18446744073709551615 := by have := n4.toNat_lt; omega
  have hl : ∀ k, (pre n0 n1 n2 n3 n4 n5 k).length ≤ 25 := by
    intro k
    unfold pre
    split <;> simp [Num.putL_len]
  have i0 : ∀ w, (Instr.index 201 (.agg #[.int .u64 (n0.toNat : Int), .int .i64 1, .int .u64 (n1.toNat : Int), .int .i64 2, .int .u64 (n2.toNat : Int), .int .i64 8, .int .u64 (n3.toNat : Int), .int .i64 4, .int .u64 (n4.toNat : Int), .int .i64 8, .int .u64 (body.length : Int), .int .i64 2]) (.int .i64 0)).run Tryz.prog w = .ok (.agg #[.int .u64 (n0.toNat : Int), .int .i64 1]) w := fun _ => by kernel_rfl
  have i1 : ∀ w, (Instr.index 201 (.agg #[.int .u64 (n0.toNat : Int), .int .i64 1, .int .u64 (n1.toNat : Int), .int .i64 2, .int .u64 (n2.toNat : Int), .int .i64 8, .int .u64 (n3.toNat : Int), .int .i64 4, .int .u64 (n4.toNat : Int), .int .i64 8, .int .u64 (body.length : Int), .int .i64 2]) (.int .i64 1)).run Tryz.prog w = .ok (.agg #[.int .u64 (n1.toNat : Int), .int .i64 2]) w := fun _ => by kernel_rfl
  have i2 : ∀ w, (Instr.index 201 (.agg #[.int .u64 (n0.toNat : Int), .int .i64 1, .int .u64 (n1.toNat : Int), .int .i64 2, .int .u64 (n2.toNat : Int), .int .i64 8, .int .u64 (n3.toNat : Int), .int .i64 4, .int .u64 (n4.toNat : Int), .int .i64 8, .int .u64 (body.length : Int), .int .i64 2]) (.int .i64 2)).run Tryz.prog w = .ok (.agg #[.int .u64 (n2.toNat : Int), .int .i64 8]) w := fun _ => by kernel_rfl
  have i3 : ∀ w, (Instr.index 201 (.agg #[.int .u64 (n0.toNat : Int), .int .i64 1, .int .u64 (n1.toNat : Int), .int .i64 2, .int .u64 (n2.toNat : Int), .int .i64 8, .int .u64 (n3.toNat : Int), .int .i64 4, .int .u64 (n4.toNat : Int), .int .i64 8, .int .u64 (body.length : Int), .int .i64 2]) (.int .i64 3)).run Tryz.prog w = .ok (.agg #[.int .u64 (n3.toNat : Int), .int .i64 4]) w := fun _ => by kernel_rfl
  have i4 : ∀ w, (Instr.index 201 (.agg #[.int .u64 (n0.toNat : Int), .int .i64 1, .int .u64 (n1.toNat : Int), .int .i64 2, .int .u64 (n2.toNat : Int), .int .i64 8, .int .u64 (n3.toNat : Int), .int .i64 4, .int .u64 (n4.toNat : Int), .int .i64 8, .int .u64 (body.length : Int), .int .i64 2]) (.int .i64 4)).run Tryz.prog w = .ok (.agg #[.int .u64 (n4.toNat : Int), .int .i64 8]) w := fun _ => by kernel_rfl
  have i5 : ∀ w, (Instr.index 201 (.agg #[.int .u64 (n0.toNat : Int), .int .i64 1, .int .u64 (n1.toNat : Int), .int .i64 2, .int .u64 (n2.toNat : Int), .int .i64 8, .int .u64 (n3.toNat : Int), .int .i64 4, .int .u64 (n4.toNat : Int), .int .i64 8, .int .u64 (body.length : Int), .int .i64 2]) (.int .i64 5)).run Tryz.prog w = .ok (.agg #[.int .u64 (body.length : Int), .int .i64 2]) w := fun _ => by kernel_rfl
  go_enter Tryz.func122, Tryz.ntmps122
  go_wp2
  go_loopw [4, 6, 30] (fun v _ i wr => ∃ k : Nat, k ≤ 6 ∧ i = .int .i64 k ∧ wr.heap[w.heap.size]? = some (.cells #[Value.int IntKind.i64 (n0.toNat : Int), .int .u64 (n2.toNat : Int), .int .i64 (n3.toNat : Int), .int .u64 (n4.toNat : Int), .slice A body.length c] 157 (0, 0)) ∧ wr.ownsRow (w.heap.size + 1) 5 1 v (pre n0 n1 n2 n3 n4 n5 k).length ((pre n0 n1 n2 n3 n4 n5 k).map e8) ∧ Below w.heap.size w wr) (fun _ _ i _ => 6 - (intOf i).toNat)
  case atStart => exact ⟨0, by omega, rfl, heap_alloc_new w _, own_nil _ _ _ _, below_lit _ _⟩
  case round =>
    obtain ⟨k, hk, rfl, hB, own, bel⟩ := hrel
    have hlt := lt_of_block hB
    have hbs : w.heap.size + 1 ≤ wr.heap.size := hlt
    by_cases hk6 : k < 6
    · have hlk := hl k
      rcases (show k = 0 ∨ k = 1 ∨ k = 2 ∨ k = 3 ∨ k = 4 ∨ k = 5 by omega) with rfl | rfl | rfl | rfl | rfl | rfl
      · have hnx := Lib.hid (show pre n0 n1 n2 n3 n4 n5 1 = pre n0 n1 n2 n3 n4 n5 0 ++ putL n0.toNat 1 from rfl)
        obtain ⟨q, hq⟩ : ∃ q, q = pre n0 n1 n2 n3 n4 n5 0 := ⟨_, rfl⟩
        rw [← hq] at own hlk hnx
        clear hq
        go_wp2_with (first
          | (go_at_call 108; refine (Num.put_any n0 _ (by rfl) 1 _ (by rfl) (by omega) (by omega) _).mono ?_; rintro e wp ⟨Ap, cp, rfl, ownp, bp⟩; have own2 := own_on (own.alloc _) bp; have rdp := Rd.own ownp; have bpl := Num.putL_len n0.toNat 1; rw [bpl])
          | ((with_reducible show wpList _ _ _ (⟨some 39, _, _, _, _, _⟩ :: _) _ _); refine wpList_append_rd _ rfl (.tmp 33) (.tmp 38) _ rfl (w.heap.size + 1) 5 i0' _ 1 1 Tryz.underlying51 hi0 hz0 hz1 hz2 rfl (by omega) u4 q.length (q.map e8) rfl own2 _ Ap 1 cp ((putL n0.toNat 1).map e8) rfl (by simp [Num.putL_len]) rdp (e8_one _) (by simp only [maxLen]; omega) (by omega) (by have := bp.size; simp at this; omega) ?_; intro v1 w1 own1 hg1 hat1))
        go_roundw
        case rel => exact ⟨1, by omega, rfl, blk_grown ((bp.block _ (by simp; omega)).trans ((Below.heap_alloc wr _ _ hlt).trans hB)) (Nat.lt_of_lt_of_le (by simp; omega) bp.size) hg1 (fun z hz => by have := own_block own2 hz; omega), own_add own1 rfl (Num.putL_len _ _).symm hnx.out, (bt (bt bel (b1alloc _ _)) bp).grown hg1 (bt (bt bel (b1alloc _ _)) bp).size (fun z hz => by have := own_block own2 hz; omega)⟩
        case measure => simp [intOf]
      · have hnx := Lib.hid (show pre n0 n1 n2 n3 n4 n5 2 = pre n0 n1 n2 n3 n4 n5 1 ++ putL n1.toNat 2 from rfl)
        obtain ⟨q, hq⟩ : ∃ q, q = pre n0 n1 n2 n3 n4 n5 1 := ⟨_, rfl⟩
        rw [← hq] at own hlk hnx
        clear hq
        go_wp2_with (first
          | (go_at_call 108; refine (Num.put_any n1 _ (by rfl) 2 _ (by rfl) (by omega) (by omega) _).mono ?_; rintro e wp ⟨Ap, cp, rfl, ownp, bp⟩; have own2 := own_on (own.alloc _) bp; have rdp := Rd.own ownp; have bpl := Num.putL_len n1.toNat 2; rw [bpl])
          | ((with_reducible show wpList _ _ _ (⟨some 39, _, _, _, _, _⟩ :: _) _ _); refine wpList_append_rd _ rfl (.tmp 33) (.tmp 38) _ rfl (w.heap.size + 1) 5 i0' _ 1 1 Tryz.underlying51 hi0 hz0 hz1 hz2 rfl (by omega) u4 q.length (q.map e8) rfl own2 _ Ap 2 cp ((putL n1.toNat 2).map e8) rfl (by simp [Num.putL_len]) rdp (e8_one _) (by simp only [maxLen]; omega) (by omega) (by have := bp.size; simp at this; omega) ?_; intro v1 w1 own1 hg1 hat1))
        go_roundw
        case rel => exact ⟨2, by omega, rfl, blk_grown ((bp.block _ (by simp; omega)).trans ((Below.heap_alloc wr _ _ hlt).trans hB)) (Nat.lt_of_lt_of_le (by simp; omega) bp.size) hg1 (fun z hz => by have := own_block own2 hz; omega), own_add own1 rfl (Num.putL_len _ _).symm hnx.out, (bt (bt bel (b1alloc _ _)) bp).grown hg1 (bt (bt bel (b1alloc _ _)) bp).size (fun z hz => by have := own_block own2 hz; omega)⟩
        case measure => simp [intOf]
      · have hnx := Lib.hid (show pre n0 n1 n2 n3 n4 n5 3 = pre n0 n1 n2 n3 n4 n5 2 ++ putL n2.toNat 8 from rfl)
        obtain ⟨q, hq⟩ : ∃ q, q = pre n0 n1 n2 n3 n4 n5 2 := ⟨_, rfl⟩
        rw [← hq] at own hlk hnx
        clear hq
        go_wp2_with (first
          | (go_at_call 108; refine (Num.put_any n2 _ (by rfl) 8 _ (by rfl) (by omega) (by omega) _).mono ?_; rintro e wp ⟨Ap, cp, rfl, ownp, bp⟩; have own2 := own_on (own.alloc _) bp; have rdp := Rd.own ownp; have bpl := Num.putL_len n2.toNat 8; rw [bpl])
          | ((with_reducible show wpList _ _ _ (⟨some 39, _, _, _, _, _⟩ :: _) _ _); refine wpList_append_rd _ rfl (.tmp 33) (.tmp 38) _ rfl (w.heap.size + 1) 5 i0' _ 1 1 Tryz.underlying51 hi0 hz0 hz1 hz2 rfl (by omega) u4 q.length (q.map e8) rfl own2 _ Ap 8 cp ((putL n2.toNat 8).map e8) rfl (by simp [Num.putL_len]) rdp (e8_one _) (by simp only [maxLen]; omega) (by omega) (by have := bp.size; simp at this; omega) ?_; intro v1 w1 own1 hg1 hat1))
        go_roundw
        case rel => exact ⟨3, by omega, rfl, blk_grown ((bp.block _ (by simp; omega)).trans ((Below.heap_alloc wr _ _ hlt).trans hB)) (Nat.lt_of_lt_of_le (by simp; omega) bp.size) hg1 (fun z hz => by have := own_block own2 hz; omega), own_add own1 rfl (Num.putL_len _ _).symm hnx.out, (bt (bt bel (b1alloc _ _)) bp).grown hg1 (bt (bt bel (b1alloc _ _)) bp).size (fun z hz => by have := own_block own2 hz; omega)⟩
        case measure => simp [intOf]
      · have hnx := Lib.hid (show pre n0 n1 n2 n3 n4 n5 4 = pre n0 n1 n2 n3 n4 n5 3 ++ putL n3.toNat 4 from rfl)
        obtain ⟨q, hq⟩ : ∃ q, q = pre n0 n1 n2 n3 n4 n5 3 := ⟨_, rfl⟩
        rw [← hq] at own hlk hnx
        clear hq
        go_wp2_with (first
          | (go_at_call 108; refine (Num.put_any n3 _ (by rfl) 4 _ (by rfl) (by omega) (by omega) _).mono ?_; rintro e wp ⟨Ap, cp, rfl, ownp, bp⟩; have own2 := own_on (own.alloc _) bp; have rdp := Rd.own ownp; have bpl := Num.putL_len n3.toNat 4; rw [bpl])
          | ((with_reducible show wpList _ _ _ (⟨some 39, _, _, _, _, _⟩ :: _) _ _); refine wpList_append_rd _ rfl (.tmp 33) (.tmp 38) _ rfl (w.heap.size + 1) 5 i0' _ 1 1 Tryz.underlying51 hi0 hz0 hz1 hz2 rfl (by omega) u4 q.length (q.map e8) rfl own2 _ Ap 4 cp ((putL n3.toNat 4).map e8) rfl (by simp [Num.putL_len]) rdp (e8_one _) (by simp only [maxLen]; omega) (by omega) (by have := bp.size; simp at this; omega) ?_; intro v1 w1 own1 hg1 hat1))
        go_roundw
        case rel => exact ⟨4, by omega, rfl, blk_grown ((bp.block _ (by simp; omega)).trans ((Below.heap_alloc wr _ _ hlt).trans hB)) (Nat.lt_of_lt_of_le (by simp; omega) bp.size) hg1 (fun z hz => by have := own_block own2 hz; omega), own_add own1 rfl (Num.putL_len _ _).symm hnx.out, (bt (bt bel (b1alloc _ _)) bp).grown hg1 (bt (bt bel (b1alloc _ _)) bp).size (fun z hz => by have := own_block own2 hz; omega)⟩
        case measure => simp [intOf]
      · have hnx := Lib.hid (show pre n0 n1 n2 n3 n4 n5 5 = pre n0 n1 n2 n3 n4 n5 4 ++ putL n4.toNat 8 from rfl)
        obtain ⟨q, hq⟩ : ∃ q, q = pre n0 n1 n2 n3 n4 n5 4 := ⟨_, rfl⟩
        rw [← hq] at own hlk hnx
        clear hq
        go_wp2_with (first
          | (go_at_call 108; refine (Num.put_any n4 _ (by rfl) 8 _ (by rfl) (by omega) (by omega) _).mono ?_; rintro e wp ⟨Ap, cp, rfl, ownp, bp⟩; have own2 := own_on (own.alloc _) bp; have rdp := Rd.own ownp; have bpl := Num.putL_len n4.toNat 8; rw [bpl])
          | ((with_reducible show wpList _ _ _ (⟨some 39, _, _, _, _, _⟩ :: _) _ _); refine wpList_append_rd _ rfl (.tmp 33) (.tmp 38) _ rfl (w.heap.size + 1) 5 i0' _ 1 1 Tryz.underlying51 hi0 hz0 hz1 hz2 rfl (by omega) u4 q.length (q.map e8) rfl own2 _ Ap 8 cp ((putL n4.toNat 8).map e8) rfl (by simp [Num.putL_len]) rdp (e8_one _) (by simp only [maxLen]; omega) (by omega) (by have := bp.size; simp at this; omega) ?_; intro v1 w1 own1 hg1 hat1))
        go_roundw
        case rel => exact ⟨5, by omega, rfl, blk_grown ((bp.block _ (by simp; omega)).trans ((Below.heap_alloc wr _ _ hlt).trans hB)) (Nat.lt_of_lt_of_le (by simp; omega) bp.size) hg1 (fun z hz => by have := own_block own2 hz; omega), own_add own1 rfl (Num.putL_len _ _).symm hnx.out, (bt (bt bel (b1alloc _ _)) bp).grown hg1 (bt (bt bel (b1alloc _ _)) bp).size (fun z hz => by have := own_block own2 hz; omega)⟩
        case measure => simp [intOf]
      · have hnx := Lib.hid (show pre n0 n1 n2 n3 n4 n5 6 = pre n0 n1 n2 n3 n4 n5 5 ++ putL n5.toNat 2 from rfl)
        obtain ⟨q, hq⟩ : ∃ q, q = pre n0 n1 n2 n3 n4 n5 5 := ⟨_, rfl⟩
        rw [← hq] at own hlk hnx
        clear hq
        go_wp2_with (first
          | (go_at_call 108; refine (Num.put_any n5 _ E5.out 2 _ (by rfl) (by omega) (by omega) _).mono ?_; rintro e wp ⟨Ap, cp, rfl, ownp, bp⟩; have own2 := own_on (own.alloc _) bp; have rdp := Rd.own ownp; have bpl := Num.putL_len n5.toNat 2; rw [bpl])
          | ((with_reducible show wpList _ _ _ (⟨some 39, _, _, _, _, _⟩ :: _) _ _); refine wpList_append_rd _ rfl (.tmp 33) (.tmp 38) _ rfl (w.heap.size + 1) 5 i0' _ 1 1 Tryz.underlying51 hi0 hz0 hz1 hz2 rfl (by omega) u4 q.length (q.map e8) rfl own2 _ Ap 2 cp ((putL n5.toNat 2).map e8) rfl (by simp [Num.putL_len]) rdp (e8_one _) (by simp only [maxLen]; omega) (by omega) (by have := bp.size; simp at this; omega) ?_; intro v1 w1 own1 hg1 hat1))
        go_roundw
        case rel => exact ⟨6, by omega, rfl, blk_grown ((bp.block _ (by simp; omega)).trans ((Below.heap_alloc wr _ _ hlt).trans hB)) (Nat.lt_of_lt_of_le (by simp; omega) bp.size) hg1 (fun z hz => by have := own_block own2 hz; omega), own_add own1 rfl (Num.putL_len _ _).symm hnx.out, (bt (bt bel (b1alloc _ _)) bp).grown hg1 (bt (bt bel (b1alloc _ _)) bp).size (fun z hz => by have := own_block own2 hz; omega)⟩
        case measure => simp [intOf]
    · obtain rfl : k = 6 := by omega
      obtain ⟨c0, c1, c2, c3, c4, fr⟩ := five hB
      have hnx := Lib.hid (show pre n0 n1 n2 n3 n4 n5 6 = ((((putL n0.toNat 1 ++ putL n1.toNat 2) ++ putL n2.toNat 8) ++ putL n3.toNat 4) ++ putL n4.toNat 8) ++ putL n5.toNat 2 from rfl)
      have hlk := hl 6
      obtain ⟨q, hq⟩ : ∃ q, q = pre n0 n1 n2 n3 n4 n5 6 := ⟨_, rfl⟩
      rw [← hq] at own hlk
      have Hq := Lib.hid (hq.trans hnx.out)
      clear hq hnx
      have hp := fun A1 n d1 W hn h => Mac.npad_any A1 (q ++ body) n d1 504 504 (by rfl) W hn (by omega) (by omega) h
      obtain ⟨R, hR⟩ : ∃ R, R = padTo (q ++ body) 504 := ⟨_, rfl⟩
      rw [← hR] at hp
      have Hp := Lib.hid hp
      have HR := Lib.hid hR
      clear hR hp
      go_wp2_with (first
        | ((with_reducible show wpList _ _ _ (⟨some 44, _, _, _, _, _⟩ :: _) _ _); refine wpList_append_rd _ rfl (.tmp 41) (.tmp 43) _ rfl (w.heap.size + 1) 5 i0' _ 1 1 Tryz.underlying51 hi0 hz0 hz1 hz2 rfl (by omega) u4 q.length (q.map e8) rfl own _ A body.length c (body.map e8) rfl (by simp) (hr.below bel) (e8_one _) (by simp only [maxLen]; omega) (by omega) hbs ?_; intro v1 w1 own1 hg1 hat1; have own2 := own_add own1 rfl rfl rfl; have b1 := bel.grown hg1 bel.size (fun z hz => by have := own_block own hz; omega); obtain ⟨A1, d1, rfl⟩ := own_form own2)
        | (go_at_call 123; refine (Hp.out _ _ _ _ (by simp) (Rd.own own2)).mono ?_; rintro e wp ⟨Ap, cp, rfl, ownp, bp⟩))
      go_ret
      exact retB_eq (RetB.after b1 ownp bp) (by rw [HR.out, Hq.out])
/-- a struct lies in the first new block; behind it bytes are gathered -/
def Inv (w W : World) (xs : Array Value) (T : TypeId) (v : Value) (q : List UInt8) : Prop := W.heap[w.heap.size]? = some (.cells xs T (0, 0)) ∧ W.ownsRow (w.heap.size + 1) 5 1 v q.length (q.map e8) ∧ Below w.heap.size w W ∧ w.heap.size + 1 ≤ W.heap.size
theorem Inv.put {w W W' : World} {xs : Array Value} {T : TypeId} {v : Value} {q : List UInt8} (h : Inv w W xs T v q) (b : Below W.heap.size W W') : Inv w W' xs T v q :=
  ⟨(b.block _ (lt_of_block h.1)).trans h.1, own_on h.2.1 b, bt h.2.2.1 b, Nat.le_trans h.2.2.2 b.size⟩
theorem Inv.first {w W W' : World} {xs : Array Value} {T : TypeId} {v : Value} {q : List UInt8} (hB : W.heap[w.heap.size]? = some (.cells xs T (0, 0))) (o : W'.ownsRow W.heap.size 5 1 v q.length (q.map e8)) (b0 : Below w.heap.size w W) (hs : w.heap.size + 1 ≤ W.heap.size) (b : Below W.heap.size W W') : Inv w W' xs T v q :=
  ⟨(b.block _ (lt_of_block hB)).trans hB, own_base o hs, bt b0 b, Nat.le_trans hs b.size⟩
end Go.Proofs.YtchcmklelmlbgaaGreat.Sec

/- The walks of sector.read, with its taker, of the reference's number and Blank. -/
namespace Go.Proofs.YtchcmklelmlbgaaGreat.Sec
open Go.RowKit
open Go.Proofs.YtchcmklelmlbgaaGreat.Num (putL getN)
set_option linter.unusedVariables false
set_option maxRecDepth 100000
/-- a slice of bytes is taken off: its first ones as a number, the rest stays -/
theorem take_any (g : Nat) (b : Nat) (off : Nat) (l : List UInt8) (n c : Nat) (s : Nat) (z : Int) (hz : z = (s : Int)) (w : World) (hb : Box w g (.slice (some ⟨b, off, none⟩) n c)) (hn : n = l.length) (hr : Rd w w.heap.size (some ⟨b, off, none⟩) (l.map e8)) (hs : 1 ≤ s) (h8 : s ≤ 8) (hsl : s < l.length) (hc : n ≤ c) (hcm : c ≤ maxLen) :
    Calls Tryz.prog 137 #[.pointer (some ⟨g, 0, none⟩), .int .i64 z] w fun e w' => e = .returned (.int .u64 (getN (l.take s) : Int)) ∧ Box w' g (.slice (some ⟨b, off + s, none⟩) (n - s) (c - s)) ∧ w.grownBy w' (some g) := by
  subst hn hz
  have hc0 := hb.cell
  have hf0 := hb.free
  unfold maxLen at hcm
  have hr1 : Rd w w.heap.size (some ⟨b, off, none⟩) ((l.take s).map e8) := by rw [List.map_take]; exact hr.take s
  have hl1 : (l.take s).length = s := by rw [List.length_take]; omega
  have hg := Lib.hid (fun d => Num.get_any (some ⟨b, off, none⟩) (l.take s) s d w.heap.size w hl1.symm hr1 (by omega) (by omega))
  have hne : ¬ c = s := by omega
  clear hr hr1
  go_enter Tryz.func137, Tryz.ntmps137
  go_wp2_with (go_at_call 118; refine (hg.out _).mono ?_; rintro e w1 ⟨rfl, rfl⟩)
  go_ret
  exact ⟨rfl, hb.set _, grown_set _ _ _⟩
end Go.Proofs.YtchcmklelmlbgaaGreat.Sec

/- The walk of sector.read. -/
namespace Go.Proofs.YtchcmklelmlbgaaGreat.Sec
open Go.RowKit
open Go.Proofs.YtchcmklelmlbgaaGreat.Num (putL getN)
set_option linter.unusedVariables false
set_option maxRecDepth 100000
theorem getN_lt' (l : List UInt8) : getN l < 256 ^ l.length := by
  have := Num.getN_lt l l.length (Nat.le_refl _)
  rwa [List.take_length] at this
theorem ofN (n : Nat) (h : n < 18446744073709551616) : (UInt64.ofNat n).toNat = n := by rw [UInt64.toNat_ofNat']; exact Nat.mod_eq_of_lt h
/-- what the numbers of 512 bytes are -/
theorem nums {b : List UInt8} (h : 25 ≤ b.length) : (getN (cut b 0 1) : Int) ≤ 255 ∧ (getN (cut b 11 4) : Int) ≤ 4294967295 ∧ lenB b ≤ 65535 ∧ (ofB b).life.toNat = getN (cut b 3 8) ∧ (ofB b).gen.toNat = getN (cut b 15 8) ∧ (getN (cut b 3 8) : Int) ≤ 18446744073709551615 ∧ (getN (cut b 15 8) : Int) ≤ 18446744073709551615 := by
  have h0 := getN_lt' (cut b 0 1); rw [cut_len (by omega)] at h0
  have h1 := getN_lt' (cut b 11 4); rw [cut_len (by omega)] at h1
  have h2 := getN_lt' (cut b 23 2); rw [cut_len (by omega)] at h2
  have h3 := getN_lt' (cut b 3 8); rw [cut_len (by omega)] at h3
  have h4 := getN_lt' (cut b 15 8); rw [cut_len (by omega)] at h4
  simp only [Nat.reducePow] at h0 h1 h2 h3 h4
  refine ⟨by omega, by omega, by unfold lenB; omega, ofN _ h3, ofN _ h4, by omega, by omega⟩
theorem five5 {w : World} {g : Nat} {v0 v1 v2 v3 v4 : Value} (h : Blk w g [v0, v1, v2, v3, v4]) :
    w.cell? ⟨g, 0, none⟩ = some v0 ∧ w.cell? ⟨g, 1, none⟩ = some v1 ∧ w.cell? ⟨g, 2, none⟩ = some v2 ∧ w.cell? ⟨g, 3, none⟩ = some v3 ∧ w.cell? ⟨g, 4, none⟩ = some v4 ∧ ∀ o, w.frozen? ⟨g, o, none⟩ = false := h.elim fun _ h => five h
/-- while a sector is read: the struct in the first new block, the taker in the second -/
def Rk (w W : World) (b : List UInt8) (blk off c i : Nat) (xs : List Value) : Prop := Blk W w.heap.size xs ∧ Box W (w.heap.size + 1) (.slice (some ⟨blk, off + i, none⟩) (b.length - i) (c - i)) ∧ Below w.heap.size w W
theorem Rk.set {w W : World} {b : List UInt8} {blk off c i : Nat} {xs : List Value} (h : Rk w W b blk off c i xs) (k : Nat) (u : Value) : Rk w (W.setCell ⟨w.heap.size, k, none⟩ u) b blk off c i (xs.set k u) :=
  ⟨h.1.set u, h.2.1.keep (Keep.of_grown (fp := [w.heap.size]) (grown_set W ⟨w.heap.size, k, none⟩ u) (fun g e => by cases e; simp)) (by simp), bset_new h.2.2 k u⟩
/-- a sector comes back, its bytes the call's own, and something beside it -/
def RetX (x : X) (t : Value) (w : World) (e : Ending) (w' : World) : Prop := ∃ A c, e = .returned (.tuple #[xv x A c, t]) ∧ w'.ownsRow w.heap.size 5 1 (.slice A x.body.length c) x.body.length (x.body.map e8)
def X0 : X := ⟨0, 0, 0, 0, []⟩
theorem RetX.zero (t : Value) (w w' : World) : RetX X0 t w (.returned (.tuple #[.agg #[.int .i64 0, .int .u64 0, .int .i64 0, .int .u64 0, .slice none 0 0], t])) w' := ⟨none, 0, rfl, own_nil _ _ _ _⟩
theorem Rk.take {w W : World} {b : List UInt8} {blk off c i : Nat} {xs : List Value} (h : Rk w W b blk off c i xs) (hr : Rd w w.heap.size (some ⟨blk, off, none⟩) (b.map e8)) (s : Nat) (hs : 1 ≤ s) (h8 : s ≤ 8) (hb : i + s < b.length) (hc : b.length ≤ c) (hcm : c ≤ maxLen) :
    Calls Tryz.prog 137 #[.pointer (some ⟨w.heap.size + 1, 0, none⟩), .int .i64 (s : Int)] W fun e W' => e = .returned (.int .u64 (getN (cut b i s) : Int)) ∧ Rk w W' b blk off c (i + s) xs := by
  have hr2 : Rd W W.heap.size (some ⟨blk, off + i, none⟩) ((b.drop i).map e8) := by
    have := ((hr.below h.2.2).more h.2.2.size).drop i
    rw [← List.map_drop] at this
    simpa [Addr.add_lit] using this
  refine (take_any (w.heap.size + 1) blk (off + i) (b.drop i) (b.length - i) (c - i) s _ rfl W h.2.1 (by simp) hr2 hs h8 (by simp; omega) (by omega) (by omega)).mono ?_
  rintro e W' ⟨rfl, h1, h2⟩
  refine ⟨rfl, ?_, ?_, ?_⟩
  · exact h.1.grown h2 (by simp)
  · rw [Nat.add_assoc, Nat.sub_sub, Nat.sub_sub] at h1; exact h1
  · exact h.2.2.grown h2 h.2.2.size (fun z hz => by injection hz with hz; omega)
set_option maxHeartbeats 800000 in
theorem read_any (blk off : Nat) (b : List UInt8) (n c : Nat) (w : World) (hn : n = b.length) (hr : Rd w w.heap.size (some ⟨blk, off, none⟩) (b.map e8)) (h5 : 512 ≤ b.length) (hc : n ≤ c) (hcm : c ≤ maxLen) :
    Calls Tryz.prog 128 #[.slice (some ⟨blk, off, none⟩) n c] w fun e w' => (if lenB b ≤ 479 then RetX (ofB b) (.bool true) w e w' else RetX X0 (.bool false) w e w') ∧ Below w.heap.size w w' := by
  subst hn
  obtain ⟨g0, g11, gl, e3, e15, g3, g15⟩ := nums (b := b) (by omega)
  have T : ∀ W i xs, Rk w W b blk off c i xs → ∀ s i', i + s = i' → 1 ≤ s → s ≤ 8 → i + s < b.length → Calls Tryz.prog 137 #[.pointer (some ⟨w.heap.size + 1, 0, none⟩), .int .i64 (s : Int)] W fun e W' => e = .returned (.int .u64 (getN (cut b i s) : Int)) ∧ Rk w W' b blk off c i' xs := fun W i xs h s i' hi h1 h2 h3 => by subst hi; exact Rk.take h hr s h1 h2 h3 hc hcm
  obtain ⟨k0, hk0⟩ : ∃ k, k = getN (cut b 0 1) := ⟨_, rfl⟩
  obtain ⟨k11, hk11⟩ : ∃ k, k = getN (cut b 11 4) := ⟨_, rfl⟩
  obtain ⟨k3, hk3⟩ : ∃ k, k = getN (cut b 3 8) := ⟨_, rfl⟩
  obtain ⟨k15, hk15⟩ : ∃ k, k = getN (cut b 15 8) := ⟨_, rfl⟩
  obtain ⟨m, hm⟩ : ∃ k, k = lenB b := ⟨_, rfl⟩
  rw [← hk0] at g0; rw [← hk11] at g11; rw [← hk3] at g3 e3; rw [← hk15] at g15 e15; rw [← hm] at gl ⊢
  have hbl : (ofB b).body.length = lenB b ∨ 479 < lenB b := by
    by_cases h : lenB b ≤ 479
    · left; exact cut_len (by omega)
    · right; omega
  have hxv := fun A c' (h : m ≤ 479) => show xv (ofB b) A c' = .agg #[.int .i64 (k0 : Int), .int .u64 (k3 : Int), .int .i64 (k11 : Int), .int .u64 (k15 : Int), .slice A m c'] by
    have : (ofB b).body.length = m := by omega
    unfold xv
    rw [e3, e15, this, hk0, hk11]; rfl
  have Hx := Lib.hid hxv
  have H0 := Lib.hid hk0
  have H3 := Lib.hid hk3
  have H11 := Lib.hid hk11
  have H15 := Lib.hid hk15
  have Hm := Lib.hid hm
  have hown : m ≤ 479 → ∀ (W : World) (A : Option Addr) (d : Nat), W.ownsRow w.heap.size 5 1 (.slice A m d) m ((cut b 25 m).map e8) → W.ownsRow w.heap.size 5 1 (.slice A (ofB b).body.length d) (ofB b).body.length ((ofB b).body.map e8) := fun h W A d ho => by
    have e1 : (ofB b).body.length = m := by omega
    rw [e1, show (ofB b).body = cut b 25 m by rw [hm]; rfl]; exact ho
  have Hown := Lib.hid hown
  clear hown hxv hk0 hk3 hk11 hk15 hm e3 e15 hbl
  have I : Rk w ((w.alloc (.cells #[.int .i64 0, .int .u64 0, .int .i64 0, .int .u64 0, .slice none 0 0] 157)).alloc (.cells #[.slice (some ⟨blk, off, none⟩) b.length c] 206)) b blk off c 0 [.int .i64 0, .int .u64 0, .int .i64 0, .int .u64 0, .slice none 0 0] :=
    ⟨(Blk.new w [.int .i64 0, .int .u64 0, .int .i64 0, .int .u64 0, .slice none 0 0] 157).alloc _, by simpa using Box.new (w.alloc (.cells #[.int .i64 0, .int .u64 0, .int .i64 0, .int .u64 0, .slice none 0 0] 157)) 206 (.slice (some ⟨blk, off, none⟩) b.length c), b2alloc _ _ _⟩
  have hmf : ∀ (g : Nat) (w : World), Sem.run Tryz.prog (callFunc 137 #[.pointer (some ⟨g, 0, none⟩)]) w = .ok (.enter 137 #[.pointer (some ⟨g, 0, none⟩)]) w := by intro g w; simp [go_sem]
  go_enter Tryz.func128, Tryz.ntmps128
  go_wp2_with fail
  refine (T _ _ _ I 1 1 rfl (by omega) (by omega) (by omega)).mono ?_
  rintro e w1 ⟨rfl, I1⟩
  rw [← H0.out]
  obtain ⟨c0, c1, c2, c3, c4, fr⟩ := five5 I1.1
  go_wp2_with fail
  refine (T _ _ _ (I1.set 0 _) 2 3 rfl (by omega) (by omega) (by omega)).mono ?_
  rintro e w2 ⟨rfl, I2⟩
  go_wp2_with fail
  refine (T _ _ _ I2 8 11 rfl (by omega) (by omega) (by omega)).mono ?_
  rintro e w3 ⟨rfl, I3⟩
  rw [← H3.out]
  go_wp2_with fail
  refine (T _ _ _ I3 4 15 rfl (by omega) (by omega) (by omega)).mono ?_
  rintro e w4 ⟨rfl, I4⟩
  rw [← H11.out]
  clear c0 c1 c2 c3 c4 fr
  go_wp2_with fail
  refine (T _ _ _ I4 8 23 rfl (by omega) (by omega) (by omega)).mono ?_
  rintro e w5 ⟨rfl, I5⟩
  rw [← H15.out]
  obtain ⟨c0, c1, c2, c3, c4, fr⟩ := five5 I5.1
  go_wp2_with fail
  refine (T _ _ _ (((I5.set 1 _).set 2 _).set 3 _) 2 25 rfl (by omega) (by omega) (by omega)).mono ?_
  rintro e w6 ⟨rfl, I6⟩
  rw [show getN (cut b 23 2) = m from Hm.out.symm]
  clear c0 c1 c2 c3 c4 fr
  obtain ⟨c0, c1, c2, c3, c4, fr⟩ := five5 I6.1
  by_cases hm : m ≤ 479
  · have hb6 := I6.2.1.cell
    have hrr : Rd w6 w6.heap.size (some ⟨blk, off + 25, none⟩) ((cut b 25 m).map e8) := by
      have := (((hr.below I6.2.2).more I6.2.2.size).drop 25).take m
      rw [← List.map_drop, ← List.map_take] at this
      simpa [Addr.add_lit, cut] using this
    have hlen : m = (cut b 25 m).length := (cut_len (by omega)).symm
    have hcl := fun d => Sl.clone_any (some ⟨blk, off + 25, none⟩) (cut b 25 m) m d w6 hlen hrr (by rw [← hlen]; omega)
    have Hcl := Lib.hid hcl
    have hln := Lib.hid hlen
    clear hcl hlen
    unfold maxLen at hcm
    go_wp2_with fail
    refine (Hcl.out _).mono ?_
    rintro e w7 ⟨A7, d7, rfl, own7, b7⟩
    rw [← hln.out]
    clear c0 c1 c2 c3 c4 fr hb6
    have B7 := I6.1.on b7
    have bw7 := bt I6.2.2 b7
    obtain ⟨c0, c1, c2, c3, c4, fr⟩ := five5 B7
    have rd7 := Rd.own own7
    have B8 := B7.set (k := 4) (.slice A7 m d7)
    obtain ⟨y0, y1, y2, y3, y4, yf⟩ := five5 B8
    have hs6 : w.heap.size < w6.heap.size := I6.1.lt
    go_wp2_with fail
    have B9 := ((((B8.set (k := 0) (.int .i64 (k0 : Int))).set (k := 1) (.int .u64 (k3 : Int))).set (k := 2) (.int .i64 (k11 : Int))).set (k := 3) (.int .u64 (k15 : Int))).set (k := 4) (.slice A7 m d7)
    obtain ⟨z0, z1, z2, z3, z4, zf⟩ := five5 B9
    have k9 : Keep [w.heap.size] w7 ((((((w7.setCell ⟨w.heap.size, 4, none⟩ (.slice A7 m d7)).setCell ⟨w.heap.size, 0, none⟩ (.int .i64 (k0 : Int))).setCell ⟨w.heap.size, 1, none⟩ (.int .u64 (k3 : Int))).setCell ⟨w.heap.size, 2, none⟩ (.int .i64 (k11 : Int))).setCell ⟨w.heap.size, 3, none⟩ (.int .u64 (k15 : Int))).setCell ⟨w.heap.size, 4, none⟩ (.slice A7 m d7)) :=
      (((((((Keep.refl _ _).set (p := ⟨w.heap.size, 4, none⟩) (.inl (by simp)) _).set (p := ⟨w.heap.size, 0, none⟩) (.inl (by simp)) _).set (p := ⟨w.heap.size, 1, none⟩) (.inl (by simp)) _).set (p := ⟨w.heap.size, 2, none⟩) (.inl (by simp)) _).set (p := ⟨w.heap.size, 3, none⟩) (.inl (by simp)) _).set (p := ⟨w.heap.size, 4, none⟩) (.inl (by simp)) _)
    rw [← hln.out] at own7
    have own9' := own_keep own7 k9 (fun g hg e => by have := own_block own7 hg; simp at e; omega)
    refine bodyPost_ret (v := .tuple #[.agg #[.int .i64 (k0 : Int), .int .u64 (k3 : Int), .int .i64 (k11 : Int), .int .u64 (k15 : Int), .slice A7 m d7], .bool true]) (by simp [results, Tryz.results128, go_sem, z0, z1, z2, z3, z4]) rfl ?_
    refine ⟨⟨A7, d7, by rw [Hx.out _ _ hm], Hown.out hm _ _ _ (own_base own9' I6.2.2.size)⟩, bset_new (bset_new (bset_new (bset_new (bset_new (bset_new bw7 _ _) _ _) _ _) _ _) _ _) _ _⟩
  · have h479 : 479 < m := by omega
    go_wp2
    have B := ((((I6.1.set (k := 0) (.int .i64 0)).set (k := 1) (.int .u64 0)).set (k := 2) (.int .i64 0)).set (k := 3) (.int .u64 0)).set (k := 4) (.slice none 0 0)
    obtain ⟨z0, z1, z2, z3, z4, zf⟩ := five5 B
    refine bodyPost_ret (v := .tuple #[.agg #[.int .i64 0, .int .u64 0, .int .i64 0, .int .u64 0, .slice none 0 0], .bool false]) (by simp [results, Tryz.results128, go_sem, z0, z1, z2, z3, z4]) rfl ?_
    exact ⟨RetX.zero _ _ _, bset_new (bset_new (bset_new (bset_new (bset_new I6.2.2 _ _) _ _) _ _) _ _) _ _⟩
end Go.Proofs.YtchcmklelmlbgaaGreat.Sec

/- The walk of the reference's Of. -/
namespace Go.Proofs.YtchcmklelmlbgaaGreat.Sec
open Go.RowKit
open Go.Proofs.YtchcmklelmlbgaaGreat.Num (putL getN)
set_option linter.unusedVariables false
set_option maxRecDepth 100000
/-- a sector comes back, its bytes readable, and something beside it -/
def RetY (x : X) (t : Value) (e : Ending) (w' : World) : Prop := ∃ A c, e = .returned (.tuple #[xv x A c, t]) ∧ Rd w' w'.heap.size A (x.body.map e8)
theorem RetY.zero (t : Value) (w' : World) : RetY X0 t (.returned (.tuple #[.agg #[.int .i64 0, .int .u64 0, .int .i64 0, .int .u64 0, .slice none 0 0], t])) w' := ⟨none, 0, rfl, Rd.nil _ _ _⟩
theorem bset5 {B g : Nat} {a W : World} {v0 v1 v2 v3 v4 : Value} (h : Below B a W) (hB : B ≤ g) : Below B a (((((W.setCell ⟨g, 0, none⟩ v0).setCell ⟨g, 1, none⟩ v1).setCell ⟨g, 2, none⟩ v2).setCell ⟨g, 3, none⟩ v3).setCell ⟨g, 4, none⟩ v4) := bset (bset (bset (bset (bset h hB _) hB _) hB _) hB _) hB _
theorem reads_no {p : Int} {b : List UInt8} (h : 479 < lenB b) : reads p b = none := if_neg (by omega)
theorem reads_bad {p : Int} {b : List UInt8} (h : rightF p (ofB b) ≠ 0) : reads p b = none := if_neg (fun e => h e.2.1)
theorem reads_un {p : Int} {b : List UInt8} (h : text p (ofB b) ≠ b) : reads p b = none := if_neg (fun e => h e.2.2)
theorem reads_yes {p : Int} {b : List UInt8} (h0 : lenB b ≤ 479) (h1 : rightF p (ofB b) = 0) (h : text p (ofB b) = b) : reads p b = some (ofB b) := if_pos ⟨h0, h1, h⟩
end Go.Proofs.YtchcmklelmlbgaaGreat.Sec

/- The suite of real sums: New, Real, none, real, Sum, Check. -/
namespace Go.Proofs.YtchcmklelmlbgaaGreat.Sec
open Go.RowKit
open Go.Proofs.YtchcmklelmlbgaaGreat.Num (putL getN)
set_option linter.unusedVariables false
set_option maxRecDepth 100000
theorem three {w : World} {g : Nat} {v0 v1 v2 : Value} {t : TypeId} (h : w.heap[g]? = some (.cells #[v0, v1, v2] t (0, 0))) : w.cell? ⟨g, 0, none⟩ = some v0 ∧ w.cell? ⟨g, 1, none⟩ = some v1 ∧ w.cell? ⟨g, 2, none⟩ = some v2 := by
  refine ⟨?_, ?_, ?_⟩ <;> simp [World.cell?, h]
/-- a suite of real sums lies at block g -/
def RealAt (w : World) (g : Nat) : Prop := ∃ k, w.heap[g]? = some (.cells #[.pointer none, .map none, .pointer (some ⟨k, 0, none⟩)] 86 (0, 0))
theorem RealAt.on {w w' : World} {g : Nat} (h : RealAt w g) (b : Below w.heap.size w w') : RealAt w' g := h.elim fun k h => ⟨k, (b.block g (lt_of_block h)).trans h⟩
theorem RealAt.lt {w : World} {g : Nat} (h : RealAt w g) : g < w.heap.size := h.elim fun k h => lt_of_block h
end Go.Proofs.YtchcmklelmlbgaaGreat.Sec
