/- DiskKeeps, the plain law: what was flushed is kept by acts that do not write there. -/
import Derived.Test.YtdkcdojcglmlbaaDiskNil
namespace Go.Proofs.Ytdkcdojcglmlbaa.Disk
set_option linter.unusedVariables false
/-- may an act be done, for the place p? -/
def mayDo (p : Int) (y : Act') : Prop := y.place ≠ p ∨ (1 ≤ y.kind ∧ y.kind ≤ 4)
instance (p : Int) (y : Act') : Decidable (mayDo p y) := by unfold mayDo; infer_instance
def actN (p : Int) (s : St) (y : Act') : St := if mayDo p y then act s y else s
/-- what is kept at a place, and nothing is pending there -/
structure SafeAt (p : Nat) (x : List UInt8) (s : St) : Prop where
  kept : kept s.all p = x
  pend : ∀ w ∈ s.pend, w.1 ≠ p
theorem safe_burn {p : Nat} {x : List UInt8} {s : St} (h : SafeAt p x s) : SafeAt p x (burn s).1 := by
  obtain ⟨h1, h2, _⟩ := burn_lists s
  exact ⟨by rw [h2]; exact h.kept, by rw [h1]; exact h.pend⟩
theorem safe_fates (keep : List Int) (torn a : Int) (p : Nat) (x : List UInt8) : ∀ (m : List Wr) (i : Nat) (all : List Wr), (∀ w ∈ m, w.1 ≠ p) → Disk.kept all p = x → Disk.kept (fates keep torn a i m all) p = x
  | [], i, all, _, h => h
  | w :: m, i, all, hm, h => by
    rw [fates]
    refine safe_fates keep torn a p x m (i + 1) _ (fun v hv => hm v (List.mem_cons_of_mem _ hv)) ?_
    have hw := hm w (List.mem_cons_self ..)
    unfold fate
    split
    · rw [kept_snoc, if_neg hw]; exact h
    · split
      · rw [kept_snoc, if_neg hw]; exact h
      · exact h
theorem toNat_ne {q : Int} {p n : Nat} (h : ¬ (q < 0 ∨ (n : Int) ≤ q)) (hq : q ≠ (p : Int)) : q.toNat ≠ p := by omega
theorem safe_act {p : Nat} {x : List UInt8} {s : St} (h : SafeAt p x s) (y : Act') (hm : mayDo (p : Int) y) : SafeAt p x (act s y) := by
  unfold act
  split
  · rename_i hk
    have hq : y.place ≠ (p : Int) := hm.elim id (fun h => by omega)
    unfold write
    split
    · exact h
    · split
      · exact h
      · rename_i hr
        split
        · exact h
        · refine safe_burn ⟨h.kept, fun w hw => ?_⟩
          rcases List.mem_append.1 hw with hw | hw
          · exact h.pend w hw
          · rw [List.mem_singleton] at hw; subst hw; exact toNat_ne hr hq
  · split
    · unfold flush
      split
      · exact h
      · split
        · exact ⟨by simp only []; rw [kept_append _ _ _ h.pend]; exact h.kept, fun w hw => by cases hw⟩
        · exact safe_burn h
    · split
      · exact h
      · split
        · exact ⟨h.kept, h.pend⟩
        · split
          · exact ⟨safe_fates _ _ _ _ _ _ _ _ h.pend h.kept, fun w hw => by cases hw⟩
          · rename_i h0 h1 h2 h3 h4
            have hq : y.place ≠ (p : Int) := hm.elim id (fun h => by omega)
            unfold put
            split
            · exact h
            · rename_i hr
              split
              · exact h
              · exact ⟨by simp only []; rw [kept_snoc, if_neg (toNat_ne hr hq)]; exact h.kept, h.pend⟩
theorem safe_acts {p : Nat} {x : List UInt8} : ∀ (l : List Act') {s : St}, SafeAt p x s → SafeAt p x (l.foldl (actN (p : Int)) s)
  | [], s, h => h
  | y :: l, s, h => by
    rw [List.foldl_cons]
    refine safe_acts l ?_
    unfold actN
    split
    · rename_i hm; exact safe_act h y hm
    · exact h
theorem sz_actsN (p : Int) : ∀ (l : List Act') (s : St), (l.foldl (actN p) s).sz ≤ s.sz + 2 * l.length
  | [], s => by simp
  | a :: l, s => by
    have h1 := sz_actsN p l (actN p s a)
    have h2 : (actN p s a).sz ≤ s.sz + 2 := by
      unfold actN
      split
      · exact sz_act s a
      · omega
    rw [List.foldl_cons, List.length_cons]; omega
theorem size_actsN (p : Int) : ∀ (l : List Act') (s : St), (l.foldl (actN p) s).size = s.size
  | [], s => rfl
  | a :: l, s => by
    rw [List.foldl_cons, size_actsN p l]
    unfold actN
    split
    · exact size_act s a
    · rfl
theorem start_state (m p : Nat) (hp : p < m) (x : List UInt8) (hx : x.length = 512) :
    (write (new m) (p : Int) x).2 = 0 ∧ (flush (write (new m) (p : Int) x).1).2 = 0 ∧ SafeAt p x (flush (write (new m) (p : Int) x).1).1 ∧ (flush (write (new m) (p : Int) x).1).1.size = m ∧ (flush (write (new m) (p : Int) x).1).1.sz ≤ 10 ∧ (write (new m) (p : Int) x).1.sz ≤ 10 := by
  have hw : write (new m) (p : Int) x = ({ size := m, pend := [(p, x)], all := [], fuse := -1, calls := 1, down := false }, 0) := by
    unfold write new
    simp [burn, hx, hp]
  have hf : flush { size := m, pend := [(p, x)], all := [], fuse := -1, calls := 1, down := false } = ({ size := m, pend := [], all := [(p, x)], fuse := -1, calls := 2, down := false }, 0) := by
    unfold flush; simp [burn]
  rw [hw]
  simp only [hf]
  refine ⟨trivial, trivial, ⟨?_, fun w hw => by cases hw⟩, trivial, ?_, ?_⟩
  · simp [kept]
  · simp [St.sz]
  · simp [St.sz]
end Go.Proofs.Ytdkcdojcglmlbaa.Disk
