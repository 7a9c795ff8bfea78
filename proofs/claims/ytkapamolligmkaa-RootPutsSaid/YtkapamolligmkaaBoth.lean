/- A disk and a suite of terms that lie beside each other, in blocks of their own. No statement is proved here. -/
import Derived.Test.YtkapamolligmkaaDiskR
import Derived.Test.YtkapamolligmkaaSec10
namespace Go.Proofs.Ytkapamolligmkaa
open Go.RowKit
open Go.Proofs.Ytkapamolligmkaa.Disk (St DAt Did)
open Go.Proofs.Ytkapamolligmkaa.Sec (SymAt SumsAt)
set_option linter.unusedVariables false
theorem Sec.SymAt.keepK {w w' : World} {g b : Nat} {l : List (List UInt8)} {fp : List Nat} (h : SymAt w g b l) (k : Keep fp w w') (h1 : g ∉ fp) (h2 : b ∉ fp) : SymAt w' g b l := by
  obtain ⟨⟨q, hq⟩, n, D, ⟨es, clock, hb, F, hs, hD⟩, r⟩ := h
  exact ⟨⟨q, (k.block (lt_of_block hq) h1).trans hq⟩, n, D, ⟨es, clock, (k.block (lt_of_block hb) h2).trans hb, F, hs, hD⟩, r⟩
/-- a disk and a suite of terms -/
structure Both (w : World) (g : Nat) (fp : List Nat) (s : St) (gS bS : Nat) (l : List (List UInt8)) : Prop where
  disk : DAt w g fp s
  sym : SymAt w gS bS l
  nS : gS ∉ fp
  nB : bS ∉ fp
theorem Both.on {w w' : World} {g : Nat} {fp : List Nat} {s : St} {gS bS : Nat} {l : List (List UInt8)} (h : Both w g fp s gS bS l) (b : Below w.heap.size w w') : Both w' g fp s gS bS l :=
  ⟨h.disk.on b, h.sym.on b, h.nS, h.nB⟩
theorem Both.did {w w' : World} {g : Nat} {fp fp' : List Nat} {s s' : St} {gS bS : Nat} {l : List (List UInt8)} (h : Both w g fp s gS bS l) (d : DAt w' g fp' s') (k : Keep fp w w') (f : Fresh w fp fp') : Both w' g fp' s' gS bS l :=
  ⟨d, h.sym.keepK k h.nS h.nB, f.out h.sym.lt.1 h.nS, f.out h.sym.lt.2 h.nB⟩
theorem Both.summed {w w' : World} {g : Nat} {fp : List Nat} {s : St} {gS bS : Nat} {l l' : List (List UInt8)} (h : Both w g fp s gS bS l) (d : SymAt w' gS bS l') (k : Keep [bS] w w') : Both w' g fp s gS bS l' :=
  ⟨h.disk.keep k (fun j hj e => h.nB (by rw [List.mem_singleton] at e; exact e ▸ hj)), d, h.nS, h.nB⟩
/-- turned by a call, to a state and to sums -/
def Turn (w : World) (g : Nat) (fp : List Nat) (gS bS : Nat) (s' : St) (l' : List (List UInt8)) (w' : World) : Prop := ∃ fp', Both w' g fp' s' gS bS l' ∧ Keep (bS :: fp) w w' ∧ Fresh w fp fp'
theorem Turn.same {w : World} {g : Nat} {fp : List Nat} {s : St} {gS bS : Nat} {l : List (List UInt8)} (h : Both w g fp s gS bS l) : Turn w g fp gS bS s l w := ⟨fp, h, Keep.refl _ _, Fresh.refl _ _⟩
theorem Turn.below {w w' : World} {g : Nat} {fp : List Nat} {s : St} {gS bS : Nat} {l : List (List UInt8)} (h : Both w g fp s gS bS l) (b : Below w.heap.size w w') : Turn w g fp gS bS s l w' := ⟨fp, h.on b, Keep.of_below b _, Fresh.refl _ _⟩
theorem Turn.trans {w w1 w2 : World} {g : Nat} {fp fp1 : List Nat} {s2 : St} {gS bS : Nat} {l2 : List (List UInt8)} (k : Keep (bS :: fp) w w1) (f : Fresh w fp fp1) (h : Turn w1 g fp1 gS bS s2 l2 w2) : Turn w g fp gS bS s2 l2 w2 := by
  obtain ⟨fp2, b2, k2, f2⟩ := h
  refine ⟨fp2, b2, k.trans k2 ?_, f.trans k.size f2⟩
  intro j hj
  rcases List.mem_cons.1 hj with e | e
  · exact .inl (by rw [e]; simp)
  · exact (f j e).imp (fun h => List.mem_cons_of_mem _ h) id
theorem Turn.ofDid {w w' : World} {g : Nat} {fp : List Nat} {s : St} {gS bS : Nat} {l : List (List UInt8)} {r : St × Int} {e : Ending} (h : Both w g fp s gS bS l) (d : Did w g fp r e w') : e = .returned (.int .i64 r.2) ∧ Turn w g fp gS bS r.1 l w' := by
  obtain ⟨he, fp', d, k, f⟩ := d
  exact ⟨he, fp', h.did d k f, k.more (fun j hj => List.mem_cons_of_mem _ hj), f⟩
theorem keepB {fp : List Nat} {bS : Nat} {w w' : World} (k : Keep [bS] w w') : Keep (bS :: fp) w w' := k.more (fun j hj => by rw [List.mem_singleton] at hj; rw [hj]; simp)
theorem keepF {fp : List Nat} {bS : Nat} {w w' : World} (k : Keep fp w w') : Keep (bS :: fp) w w' := k.more (fun j hj => List.mem_cons_of_mem _ hj)
theorem keepT {fp fp1 : List Nat} {bS : Nat} {w w1 w2 : World} (k : Keep (bS :: fp) w w1) (f : Fresh w fp fp1) (k2 : Keep (bS :: fp1) w1 w2) : Keep (bS :: fp) w w2 := by
  refine k.trans k2 ?_
  intro j hj
  rcases List.mem_cons.1 hj with e | e
  · exact .inl (by rw [e]; simp)
  · exact (f j e).imp (fun h => List.mem_cons_of_mem _ h) id
theorem Fresh.on {w w1 : World} {fp fp1 fp2 : List Nat} (h : Fresh w fp fp1) (hs : w.heap.size ≤ w1.heap.size) (k : Fresh w1 fp1 fp2) : Fresh w fp fp2 := h.trans hs k
/-- in a law: both lie in blocks that the law made -/
structure Here (w0 w : World) (g : Nat) (fp : List Nat) (s : St) (gS bS : Nat) (l : List (List UInt8)) : Prop where
  both : Both w g fp s gS bS l
  bel : Below w0.heap.size w0 w
  own : ∀ j ∈ bS :: fp, w0.heap.size ≤ j
theorem Here.on {w0 w w' : World} {g : Nat} {fp : List Nat} {s : St} {gS bS : Nat} {l : List (List UInt8)} (h : Here w0 w g fp s gS bS l) (b : Below w.heap.size w w') : Here w0 w' g fp s gS bS l := ⟨h.both.on b, bt h.bel b, h.own⟩
theorem Here.turn {w0 w w' : World} {g : Nat} {fp : List Nat} {s s' : St} {gS bS : Nat} {l l' : List (List UInt8)} (h : Here w0 w g fp s gS bS l) (t : Turn w g fp gS bS s' l' w') : ∃ fp', Here w0 w' g fp' s' gS bS l' ∧ Keep (bS :: fp) w w' ∧ Fresh w fp fp' := by
  obtain ⟨fp', b, k, f⟩ := t
  refine ⟨fp', ⟨b, h.bel.trans (k.below h.own h.bel.size), fun j hj => ?_⟩, k, f⟩
  rcases List.mem_cons.1 hj with e | e
  · exact h.own j (by rw [e]; simp)
  · exact f.ge (fun i hi => h.own i (List.mem_cons_of_mem _ hi)) h.bel.size j e
theorem Here.did {w0 w w' : World} {g : Nat} {fp : List Nat} {s : St} {gS bS : Nat} {l : List (List UInt8)} {r : St × Int} {e : Ending} (h : Here w0 w g fp s gS bS l) (d : Did w g fp r e w') : e = .returned (.int .i64 r.2) ∧ ∃ fp', Here w0 w' g fp' r.1 gS bS l ∧ Keep (bS :: fp) w w' ∧ Fresh w fp fp' := by
  obtain ⟨he, t⟩ := Turn.ofDid h.both d
  exact ⟨he, h.turn t⟩
theorem Here.rd {w0 w : World} {g : Nat} {fp : List Nat} {s : St} {gS bS : Nat} {l : List (List UInt8)} {A : Option Addr} {xs : List Value} (h : Here w0 w g fp s gS bS l) (r : Rd w0 w0.heap.size A xs) : Rd w w.heap.size A xs := (r.below h.bel).more h.bel.size
theorem Here.rdN {w0 w : World} {g : Nat} {fp : List Nat} {s : St} {gS bS : Nat} {l : List (List UInt8)} {A : Option Addr} {xs : List Value} (h : Here w0 w g fp s gS bS l) (r : Rd w0 w0.heap.size A xs) : RdN w (bS :: fp) A xs := RdN.of (r.below h.bel) h.own h.bel.size
theorem Here.start {w w1 w2 : World} {g : Nat} {fp : List Nat} {s : St} {gS bS : Nat} {l : List (List UInt8)} (hD : DAt w1 g fp s) (hfp : ∀ j ∈ fp, w.heap.size ≤ j) (b1 : Below w.heap.size w w1) (hS : SymAt w2 gS bS l) (hg : w1.heap.size ≤ gS) (hb : w1.heap.size ≤ bS) (b2 : Below w1.heap.size w1 w2) : Here w w2 g fp s gS bS l := by
  have hlt := hD.lt
  have h1 := b1.size
  refine ⟨⟨hD.on b2, hS, fun e => ?_, fun e => ?_⟩, bt b1 b2, fun j hj => ?_⟩
  · have := hlt _ e; omega
  · have := hlt _ e; omega
  · rcases List.mem_cons.1 hj with e | e
    · omega
    · exact hfp j e
end Go.Proofs.Ytkapamolligmkaa
