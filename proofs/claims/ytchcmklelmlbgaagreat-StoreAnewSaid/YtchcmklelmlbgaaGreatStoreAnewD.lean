/- Texts of this claim, joined: BothQ, GeomQ, Geom2Q, Geom3Q, Geom4Q, Sup1Q, Sup2Q, OpenQ, OpenRowsQ, Snap1Q, Snap2Q, Snap3Q, RwQ, Sup3Q, Sup4Q, SupPlainQ, EncPlainQ. -/
import Derived.Test.YtchcmklelmlbgaaGreatStoreAnewB
import Derived.Test.YtchcmklelmlbgaaGreatStoreAnewC
import Derived.Test.YtchcmklelmlbgaaGreatStoreAnewA
import Derived.Test.YtchcmklelmlbgaaGreatRows
import Derived.Outline
import Derived.Deep.RegionWith
import Derived.Deep.RegionHeld3
import Derived.WalkMore
import Derived.ProofKit
import Derived.OpenShut
import Derived.ShutString
import Derived.ChangeOld
import Derived.Lib.SmallJoins
import Derived.Deep.Slices
import Derived.Deep.Fields
import Derived.ChangeSame
/- A disk and a suite of terms that lie beside each other, in blocks of their own. No statement is proved here. -/
namespace Go.Proofs.YtchcmklelmlbgaaGreat
open Go.RowKit
open Go.Proofs.YtchcmklelmlbgaaGreat.Disk (St DAt Did)
open Go.Proofs.YtchcmklelmlbgaaGreat.Sec (SymAt SumsAt)
set_option linter.unusedVariables false
theorem Sec.SymAt.keepK {w w' : World} {g b : Nat} {l : List (List UInt8)} {fp : List Nat} (h : SymAt w g b l) (k : Keep fp w w') (h1 : g ∉ fp) (h2 : b ∉ fp) : SymAt w' g b l := by
  obtain ⟨⟨q, hq⟩, n, D, ⟨es, clock, hb, F, hs, hD⟩, r⟩ := h
  exact ⟨⟨q, (k.block (lt_of_block hq) h1).trans hq⟩, n, D, ⟨es, clock, (k.block (lt_of_block hb) h2).trans hb, F, hs, hD⟩, r⟩
/-- a disk and a suite of terms -/
structure Both (w : World) (g : Nat) (fp : List Nat) (s : St) (gS bS : Nat) (l : List (List UInt8)) : Prop where
  disk : DAt w g fp s
  sym : SymAt w gS bS l
  nS : gS ∉ fp
  nB : bS ∉ fp
theorem Both.on {w w' : World} {g : Nat} {fp : List Nat} {s : St} {gS bS : Nat} {l : List (List UInt8)} (h : Both w g fp s gS bS l) (b : Below w.heap.size w w') : Both w' g fp s gS bS l :=
  ⟨h.disk.on b, h.sym.on b, h.nS, h.nB⟩
theorem Both.did {w w' : World} {g : Nat} {fp fp' : List Nat} {s s' : St} {gS bS : Nat} {l : List (List UInt8)} (h : Both w g fp s gS bS l) (d : DAt w' g fp' s') (k : Keep fp w w') (f : Fresh w fp fp') : Both w' g fp' s' gS bS l :=
  ⟨d, h.sym.keepK k h.nS h.nB, f.out h.sym.lt.1 h.nS, f.out h.sym.lt.2 h.nB⟩
theorem Both.summed {w w' : World} {g : Nat} {fp : List Nat} {s : St} {gS bS : Nat} {l l' : List (List UInt8)} (h : Both w g fp s gS bS l) (d : SymAt w' gS bS l') (k : Keep [bS] w w') : Both w' g fp s gS bS l' :=
  ⟨h.disk.keep k (fun j hj e => h.nB (by rw [List.mem_singleton] at e; exact e ▸ hj)), d, h.nS, h.nB⟩
/-- turned by a call, to a state and to sums -/
def Turn (w : World) (g : Nat) (fp : List Nat) (gS bS : Nat) (s' : St) (l' : List (List UInt8)) (w' : World) : Prop := ∃ fp', Both w' g fp' s' gS bS l' ∧ Keep (bS :: fp) w w' ∧ Fresh w fp fp'
theorem Turn.same {w : World} {g : Nat} {fp : List Nat} {s : St} {gS bS : Nat} {l : List (List UInt8)} (h : Both w g fp s gS bS l) : Turn w g fp gS bS s l w := ⟨fp, h, Keep.refl _ _, Fresh.refl _ _⟩
theorem Turn.below {w w' : World} {g : Nat} {fp : List Nat} {s : St} {gS bS : Nat} {l : List (List UInt8)} (h : Both w g fp s gS bS l) (b : Below w.heap.size w w') : Turn w g fp gS bS s l w' := ⟨fp, h.on b, Keep.of_below b _, Fresh.refl _ _⟩
theorem Turn.trans {w w1 w2 : World} {g : Nat} {fp fp1 : List Nat} {s2 : St} {gS bS : Nat} {l2 : List (List UInt8)} (k : Keep (bS :: fp) w w1) (f : Fresh w fp fp1) (h : Turn w1 g fp1 gS bS s2 l2 w2) : Turn w g fp gS bS s2 l2 w2 := by
  obtain ⟨fp2, b2, k2, f2⟩ := h
  refine ⟨fp2, b2, k.trans k2 ?_, f.trans k.size f2⟩
  intro j hj
  rcases List.mem_cons.1 hj with e | e
  · exact .inl (by rw [e]; simp)
  · exact (f j e).imp (fun h => List.mem_cons_of_mem _ h) id
theorem Turn.ofDid {w w' : World} {g : Nat} {fp : List Nat} {s : St} {gS bS : Nat} {l : List (List UInt8)} {r : St × Int} {e : Ending} (h : Both w g fp s gS bS l) (d : Did w g fp r e w') : e = .returned (.int .i64 r.2) ∧ Turn w g fp gS bS r.1 l w' := by
  obtain ⟨he, fp', d, k, f⟩ := d
  exact ⟨he, fp', h.did d k f, k.more (fun j hj => List.mem_cons_of_mem _ hj), f⟩
theorem keepB {fp : List Nat} {bS : Nat} {w w' : World} (k : Keep [bS] w w') : Keep (bS :: fp) w w' := k.more (fun j hj => by rw [List.mem_singleton] at hj; rw [hj]; simp)
theorem keepF {fp : List Nat} {bS : Nat} {w w' : World} (k : Keep fp w w') : Keep (bS :: fp) w w' := k.more (fun j hj => List.mem_cons_of_mem _ hj)
theorem keepT {fp fp1 : List Nat} {bS : Nat} {w w1 w2 : World} (k : Keep (bS :: fp) w w1) (f : Fresh w fp fp1) (k2 : Keep (bS :: fp1) w1 w2) : Keep (bS :: fp) w w2 := by
  refine k.trans k2 ?_
  intro j hj
  rcases List.mem_cons.1 hj with e | e
  · exact .inl (by rw [e]; simp)
  · exact (f j e).imp (fun h => List.mem_cons_of_mem _ h) id
theorem Fresh.on {w w1 : World} {fp fp1 fp2 : List Nat} (h : Fresh w fp fp1) (hs : w.heap.size ≤ w1.heap.size) (k : Fresh w1 fp1 fp2) : Fresh w fp fp2 := h.trans hs k
/-- in a law: both lie in blocks that the law made -/
structure Here (w0 w : World) (g : Nat) (fp : List Nat) (s : St) (gS bS : Nat) (l : List (List UInt8)) : Prop where
  both : Both w g fp s gS bS l
  bel : Below w0.heap.size w0 w
  own : ∀ j ∈ bS :: fp, w0.heap.size ≤ j
theorem Here.on {w0 w w' : World} {g : Nat} {fp : List Nat} {s : St} {gS bS : Nat} {l : List (List UInt8)} (h : Here w0 w g fp s gS bS l) (b : Below w.heap.size w w') : Here w0 w' g fp s gS bS l := ⟨h.both.on b, bt h.bel b, h.own⟩
theorem Here.turn {w0 w w' : World} {g : Nat} {fp : List Nat} {s s' : St} {gS bS : Nat} {l l' : List (List UInt8)} (h : Here w0 w g fp s gS bS l) (t : Turn w g fp gS bS s' l' w') : ∃ fp', Here w0 w' g fp' s' gS bS l' ∧ Keep (bS :: fp) w w' ∧ Fresh w fp fp' := by
  obtain ⟨fp', b, k, f⟩ := t
  refine ⟨fp', ⟨b, h.bel.trans (k.below h.own h.bel.size), fun j hj => ?_⟩, k, f⟩
  rcases List.mem_cons.1 hj with e | e
  · exact h.own j (by rw [e]; simp)
  · exact f.ge (fun i hi => h.own i (List.mem_cons_of_mem _ hi)) h.bel.size j e
theorem Here.did {w0 w w' : World} {g : Nat} {fp : List Nat} {s : St} {gS bS : Nat} {l : List (List UInt8)} {r : St × Int} {e : Ending} (h : Here w0 w g fp s gS bS l) (d : Did w g fp r e w') : e = .returned (.int .i64 r.2) ∧ ∃ fp', Here w0 w' g fp' r.1 gS bS l ∧ Keep (bS :: fp) w w' ∧ Fresh w fp fp' := by
  obtain ⟨he, t⟩ := Turn.ofDid h.both d
  exact ⟨he, h.turn t⟩
theorem Here.rd {w0 w : World} {g : Nat} {fp : List Nat} {s : St} {gS bS : Nat} {l : List (List UInt8)} {A : Option Addr} {xs : List Value} (h : Here w0 w g fp s gS bS l) (r : Rd w0 w0.heap.size A xs) : Rd w w.heap.size A xs := (r.below h.bel).more h.bel.size
theorem Here.rdN {w0 w : World} {g : Nat} {fp : List Nat} {s : St} {gS bS : Nat} {l : List (List UInt8)} {A : Option Addr} {xs : List Value} (h : Here w0 w g fp s gS bS l) (r : Rd w0 w0.heap.size A xs) : RdN w (bS :: fp) A xs := RdN.of (r.below h.bel) h.own h.bel.size
theorem Here.start {w w1 w2 : World} {g : Nat} {fp : List Nat} {s : St} {gS bS : Nat} {l : List (List UInt8)} (hD : DAt w1 g fp s) (hfp : ∀ j ∈ fp, w.heap.size ≤ j) (b1 : Below w.heap.size w w1) (hS : SymAt w2 gS bS l) (hg : w1.heap.size ≤ gS) (hb : w1.heap.size ≤ bS) (b2 : Below w1.heap.size w1 w2) : Here w w2 g fp s gS bS l := by
  have hlt := hD.lt
  have h1 := b1.size
  refine ⟨⟨hD.on b2, hS, fun e => ?_, fun e => ?_⟩, bt b1 b2, fun j hj => ?_⟩
  · have := hlt _ e; omega
  · have := hlt _ e; omega
  · rcases List.mem_cons.1 hj with e | e
    · omega
    · exact hfp j e
theorem Disk.DAt.inG {w : World} {g : Nat} {fp : List Nat} {s : St} (h : DAt w g fp s) : g ∈ fp := by obtain ⟨_, _, _, _, h⟩ := h; exact h.inG
theorem Here.summed {w0 w w' : World} {g : Nat} {fp : List Nat} {s : St} {gS bS : Nat} {l l' : List (List UInt8)} (h : Here w0 w g fp s gS bS l) (d : SymAt w' gS bS l') (k : Keep [bS] w w') : Here w0 w' g fp s gS bS l' :=
  ⟨h.both.summed d k, h.bel.trans ((keepB (fp := fp) k).below h.own h.bel.size), h.own⟩
theorem Blk.keepK {w w' : World} {g : Nat} {xs : List Value} {fp : List Nat} (h : Blk w g xs) (k : Keep fp w w') (hn : g ∉ fp) : Blk w' g xs := h.elim fun t hh => ⟨t, (k.block (lt_of_block hh) hn).trans hh⟩
end Go.Proofs.YtchcmklelmlbgaaGreat

/- The walks of the package geom and of its reference. -/
namespace Go.Proofs.YtchcmklelmlbgaaGreat.Geom
open Go.RowKit
set_option linter.unusedVariables false

def least (a d : Int) : Int := if 2 ≤ a ∧ a ≤ 4 ∧ 1 ≤ d ∧ d ≤ 3 then d + 2 else 0
theorem least_in {a d : Int} (h1 : 2 ≤ a) (h2 : a ≤ 4) (h3 : 1 ≤ d) (h4 : d ≤ 3) : least a d = d + 2 := if_pos ⟨h1, h2, h3, h4⟩
theorem least_out {a d : Int} (h : a < 2 ∨ 4 < a ∨ d < 1 ∨ 3 < d) : least a d = 0 := if_neg (by omega)
def right (a d g : Int) : Bool := decide (2 ≤ a ∧ a ≤ 4 ∧ 1 ≤ d ∧ d ≤ 3 ∧ d + 2 ≤ g ∧ g ≤ 64)
set_option maxHeartbeats 400000 in
theorem least_any (a d g : Int) (w : World) (ha0 : -9223372036854775808 ≤ a) (ha1 : a ≤ 9223372036854775807) (hd0 : -9223372036854775808 ≤ d) (hd1 : d ≤ 9223372036854775807) :
    Calls Tryz.prog 96 #[.agg #[.int .i64 a, .int .i64 d, .int .i64 g]] w fun e w' => e = .returned (.int .i64 (least a d)) ∧ Below w.heap.size w w' := by
  by_cases h1 : a < 2
  · rw [least_out (by omega)]
    go_enter Tryz.func96, Tryz.ntmps96
    go_wp2
    go_ret
    exact ⟨rfl, below_lit _ _⟩
  by_cases h2 : 4 < a
  · rw [least_out (by omega)]
    go_enter Tryz.func96, Tryz.ntmps96
    go_wp2
    go_ret
    exact ⟨rfl, below_lit _ _⟩
  by_cases h3 : d < 1
  · rw [least_out (by omega)]
    go_enter Tryz.func96, Tryz.ntmps96
    go_wp2
    go_ret
    exact ⟨rfl, below_lit _ _⟩
  by_cases h4 : 3 < d
  · rw [least_out (by omega)]
    go_enter Tryz.func96, Tryz.ntmps96
    go_wp2
    go_ret
    exact ⟨rfl, below_lit _ _⟩
  rw [least_in (by omega) (by omega) (by omega) (by omega)]
  go_enter Tryz.func96, Tryz.ntmps96
  go_wp2
  go_ret
  exact ⟨rfl, below_lit _ _⟩
set_option maxHeartbeats 400000 in
theorem right_any (a d g : Int) (w : World) (ha0 : -9223372036854775808 ≤ a) (ha1 : a ≤ 9223372036854775807) (hd0 : -9223372036854775808 ≤ d) (hd1 : d ≤ 9223372036854775807) (hg0 : -9223372036854775808 ≤ g) (hg1 : g ≤ 9223372036854775807) :
    Calls Tryz.prog 67 #[.agg #[.int .i64 a, .int .i64 d, .int .i64 g]] w fun e w' => e = .returned (.bool (right a d g)) ∧ Below w.heap.size w w' := by
  by_cases h1 : 2 ≤ a ∧ a ≤ 4 ∧ 1 ≤ d ∧ d ≤ 3
  · obtain ⟨h1, h2, h3, h4⟩ := h1
    by_cases h5 : d + 2 ≤ g
    · have hr := Lib.hid (show right a d g = decide (g ≤ 64) by unfold right; simp [h1, h2, h3, h4, h5])
      go_enter Tryz.func67, Tryz.ntmps67
      go_wp2_with fail
      refine (least_any _ _ _ _ (by omega) (by omega) (by omega) (by omega)).mono ?_
      rintro e w1 ⟨rfl, b1⟩
      rw [least_in h1 h2 h3 h4]
      have hc := b1.cell (p := ⟨w.heap.size, 2, none⟩) (by simp)
      simp at hc
      go_wp2
      go_ret
      exact ⟨ret_bool hr.out.symm, (below_lit _ _).trans (b1.mono (by simp))⟩
    · have hr := Lib.hid (show right a d g = false by unfold right; simp; omega)
      go_enter Tryz.func67, Tryz.ntmps67
      go_wp2_with fail
      refine (least_any _ _ _ _ (by omega) (by omega) (by omega) (by omega)).mono ?_
      rintro e w1 ⟨rfl, b1⟩
      rw [least_in h1 h2 h3 h4]
      have hc := b1.cell (p := ⟨w.heap.size, 2, none⟩) (by simp)
      simp at hc
      go_wp2
      go_ret
      exact ⟨ret_bool (by rw [hr.out]), (below_lit _ _).trans (b1.mono (by simp))⟩
  · have hr := Lib.hid (show right a d g = false by unfold right; simp; omega)
    go_enter Tryz.func67, Tryz.ntmps67
    go_wp2_with fail
    refine (least_any _ _ _ _ (by omega) (by omega) (by omega) (by omega)).mono ?_
    rintro e w1 ⟨rfl, b1⟩
    rw [least_out (by omega)]
    have hc := b1.cell (p := ⟨w.heap.size, 2, none⟩) (by simp)
    simp at hc
    go_wp2
    go_ret
    exact ⟨ret_bool (by rw [hr.out]), (below_lit _ _).trans (b1.mono (by simp))⟩
/-- how many nodes lie above depth d, how many leaves at it -/
def nodes (a d : Int) : Int := if d = 1 then 1 else if d = 2 then 1 + a else 1 + a + a * a
def leaves (a d : Int) : Int := if d = 1 then a else if d = 2 then a * a else a * a * a
theorem nine {P : Int → Int → Prop} {a d : Int} (h1 : 2 ≤ a) (h2 : a ≤ 4) (h3 : 1 ≤ d) (h4 : d ≤ 3) (h : P 2 1 ∧ P 3 1 ∧ P 4 1 ∧ P 2 2 ∧ P 3 2 ∧ P 4 2 ∧ P 2 3 ∧ P 3 3 ∧ P 4 3) : P a d := by
  obtain rfl | rfl | rfl : a = 2 ∨ a = 3 ∨ a = 4 := by omega
  all_goals obtain rfl | rfl | rfl : d = 1 ∨ d = 2 ∨ d = 3 := by omega
  all_goals simp [h]
theorem right_yes {a d g : Int} (h : right a d g = true) : 2 ≤ a ∧ a ≤ 4 ∧ 1 ≤ d ∧ d ≤ 3 ∧ d + 2 ≤ g ∧ g ≤ 64 := by simpa [right] using h
/-- the sums on the way -/
def nUp (a : Int) (k : Nat) : Int := if k = 0 then 0 else nodes a k
def lUp (a : Int) (k : Nat) : Int := if k = 0 then 1 else leaves a k
theorem nUp_succ (a : Int) (k : Nat) (hk : k < 3) : nUp a (k + 1) = nUp a k + lUp a k := by
  obtain rfl | rfl | rfl : k = 0 ∨ k = 1 ∨ k = 2 := by omega
  all_goals simp [nUp, lUp, nodes, leaves]
theorem lUp_succ (a : Int) (k : Nat) (hk : k < 3) : lUp a (k + 1) = lUp a k * a := by
  obtain rfl | rfl | rfl : k = 0 ∨ k = 1 ∨ k = 2 := by omega
  all_goals simp [lUp, leaves]
theorem lUp_bd {a : Int} (k : Nat) (hk : k ≤ 3) (h1 : 2 ≤ a) (h2 : a ≤ 4) : 1 ≤ lUp a k ∧ lUp a k ≤ 64 := by
  obtain rfl | rfl | rfl | rfl : k = 0 ∨ k = 1 ∨ k = 2 ∨ k = 3 := by omega
  all_goals obtain rfl | rfl | rfl : a = 2 ∨ a = 3 ∨ a = 4 := by omega
  all_goals decide
theorem nUp_bd {a : Int} (k : Nat) (hk : k ≤ 3) (h1 : 2 ≤ a) (h2 : a ≤ 4) : 0 ≤ nUp a k ∧ nUp a k ≤ 21 := by
  obtain rfl | rfl | rfl | rfl : k = 0 ∨ k = 1 ∨ k = 2 ∨ k = 3 := by omega
  all_goals obtain rfl | rfl | rfl : a = 2 ∨ a = 3 ∨ a = 4 := by omega
  all_goals decide
theorem up_all {a d : Int} (h3 : 1 ≤ d) (h4 : d ≤ 3) : nUp a d.toNat = nodes a d ∧ lUp a d.toNat = leaves a d := by
  obtain rfl | rfl | rfl : d = 1 ∨ d = 2 ∨ d = 3 := by omega
  all_goals exact ⟨rfl, rfl⟩
def nodesOf (a d g : Int) : Int := if right a d g then nodes a d else 0
def leavesOf (a d g : Int) : Int := if right a d g then leaves a d else 0
set_option maxHeartbeats 400000 in
theorem levels_any (a d g : Int) (w : World) (ha0 : -9223372036854775808 ≤ a) (ha1 : a ≤ 9223372036854775807) (hd0 : -9223372036854775808 ≤ d) (hd1 : d ≤ 9223372036854775807) (hg0 : -9223372036854775808 ≤ g) (hg1 : g ≤ 9223372036854775807) :
    Calls Tryz.prog 98 #[.agg #[.int .i64 a, .int .i64 d, .int .i64 g]] w fun e w' => e = .returned (.tuple #[.int .i64 (nodesOf a d g), .int .i64 (leavesOf a d g)]) ∧ Below w.heap.size w w' := by
  by_cases hr : right a d g = true
  · obtain ⟨h1, h2, h3, h4, h5, h6⟩ := right_yes hr
    have hno := Lib.hid (show nodesOf a d g = nodes a d by simp [nodesOf, hr])
    have hle := Lib.hid (show leavesOf a d g = leaves a d by simp [leavesOf, hr])
    have hup := Lib.hid (up_all (a := a) h3 h4)
    have Hr := Lib.hid hr
    clear hr
    go_enter Tryz.func98, Tryz.ntmps98
    go_wp2_with fail
    refine (right_any _ _ _ _ (by omega) (by omega) (by omega) (by omega) (by omega) (by omega)).mono ?_
    rintro e w1 ⟨rfl, b1⟩
    rw [Hr.out]
    have hc := b1.cell (p := ⟨w.heap.size, 0, none⟩) (by simp)
    have hc' := b1.cell (p := ⟨w.heap.size, 1, none⟩) (by simp)
    simp at hc hc'
    have bw := (below_lit w _).trans (b1.mono (by simp))
    go_wp2
    go_loop [2, 3, 9] (fun n l i => ∃ k : Nat, (k : Int) ≤ d ∧ i = .int .i64 k ∧ n = .int .i64 (nUp a k) ∧ l = .int .i64 (lUp a k)) (fun _ _ i => (d - intOf i).toNat)
    case atStart => exact ⟨0, by omega, rfl, rfl, rfl⟩
    case round =>
      obtain ⟨k, hk, rfl, rfl, rfl⟩ := hrel
      by_cases hlt : (k : Int) < d
      · have e1 := Lib.hid (nUp_succ a k (by omega))
        have e2 := Lib.hid (lUp_succ a k (by omega))
        have l1 := lUp_bd k (by omega) h1 h2
        have l2 := lUp_bd (k + 1) (by omega) h1 h2
        rw [e2.out] at l2
        have n1 := nUp_bd k (by omega) h1 h2
        go_wp2
        go_round
        case rel => exact ⟨k + 1, by omega, by go_num, by rw [e1.out], by rw [e2.out]⟩
        case measure => simp [intOf]; omega
      · obtain rfl : d = (k : Int) := by omega
        go_wp2
        go_ret2
        exact ⟨by rw [hno.out, hle.out, ← hup.out.1, ← hup.out.2]; rfl, bw⟩
  · have hr' : right a d g = false := by simpa using hr
    have hno := Lib.hid (show nodesOf a d g = 0 by simp [nodesOf, hr'])
    have hle := Lib.hid (show leavesOf a d g = 0 by simp [leavesOf, hr'])
    have Hr := Lib.hid hr'
    clear hr hr'
    go_enter Tryz.func98, Tryz.ntmps98
    go_wp2_with fail
    refine (right_any _ _ _ _ (by omega) (by omega) (by omega) (by omega) (by omega) (by omega)).mono ?_
    rintro e w1 ⟨rfl, b1⟩
    rw [Hr.out]
    go_wp2
    go_ret2
    exact ⟨by rw [hno.out, hle.out]; rfl, (below_lit w _).trans (b1.mono (by simp))⟩
end Go.Proofs.YtchcmklelmlbgaaGreat.Geom

/- The walks of the package geom and of its reference: pages, parts, the reference's conditions. -/
namespace Go.Proofs.YtchcmklelmlbgaaGreat.Geom
open Go.RowKit
set_option linter.unusedVariables false
abbrev lo : Int := -9223372036854775808
abbrev hi : Int := 9223372036854775807
def pagesOf (a d g : Int) : Int := nodesOf a d g + leavesOf a d g
theorem nodesOf_bd (a d g : Int) : 0 ≤ nodesOf a d g ∧ nodesOf a d g ≤ 21 := by
  unfold nodesOf
  by_cases h : right a d g = true
  · rw [if_pos h]
    obtain ⟨h1, h2, h3, h4, _⟩ := right_yes h
    exact nine (P := fun a d => 0 ≤ nodes a d ∧ nodes a d ≤ 21) h1 h2 h3 h4 (by decide)
  · rw [if_neg h]; omega
theorem leavesOf_bd (a d g : Int) : 0 ≤ leavesOf a d g ∧ leavesOf a d g ≤ 64 := by
  unfold leavesOf
  by_cases h : right a d g = true
  · rw [if_pos h]
    obtain ⟨h1, h2, h3, h4, _⟩ := right_yes h
    exact nine (P := fun a d => 0 ≤ leaves a d ∧ leaves a d ≤ 64) h1 h2 h3 h4 (by decide)
  · rw [if_neg h]; omega
theorem pagesOf_bd (a d g : Int) : 0 ≤ pagesOf a d g ∧ pagesOf a d g ≤ 85 := by
  have := nodesOf_bd a d g; have := leavesOf_bd a d g; unfold pagesOf; omega
set_option maxHeartbeats 400000 in
theorem pages_any (a d g : Int) (w : World) (ha0 : lo ≤ a) (ha1 : a ≤ hi) (hd0 : lo ≤ d) (hd1 : d ≤ hi) (hg0 : lo ≤ g) (hg1 : g ≤ hi) :
    Calls Tryz.prog 70 #[.agg #[.int .i64 a, .int .i64 d, .int .i64 g]] w fun e w' => e = .returned (.int .i64 (pagesOf a d g)) ∧ Below w.heap.size w w' := by
  have h1 := nodesOf_bd a d g
  have h2 := leavesOf_bd a d g
  go_enter Tryz.func70, Tryz.ntmps70
  go_wp2_with (go_at_call 98; refine (levels_any _ _ _ _ ha0 ha1 hd0 hd1 hg0 hg1).mono ?_; rintro e w' ⟨rfl, b1⟩)
  go_ret
  exact ⟨rfl, (below_lit w _).trans (b1.mono (by simp))⟩
def partsV (a d g : Int) : Value := .agg #[.string ⟨#[114, 111, 111, 116]⟩, .int .i64 2, .string ⟨#[115, 117, 112, 101, 114]⟩, .int .i64 2, .string ⟨#[108, 111, 103]⟩, .int .i64 g, .string ⟨#[97, 114, 101, 97]⟩, .int .i64 (2 * pagesOf a d g)]
set_option maxHeartbeats 800000 in
theorem parts_any (a d g : Int) (w : World) (ha0 : lo ≤ a) (ha1 : a ≤ hi) (hd0 : lo ≤ d) (hd1 : d ≤ hi) (hg0 : lo ≤ g) (hg1 : g ≤ hi) :
    Calls Tryz.prog 97 #[.agg #[.int .i64 a, .int .i64 d, .int .i64 g]] w fun e w' => e = .returned (partsV a d g) ∧ Below w.heap.size w w' := by
  have h1 := pagesOf_bd a d g
  have hwr : IntKind.i64.wrap (2 * pagesOf a d g) = 2 * pagesOf a d g := IntWalk.i64_in _ (by omega)
  go_enter Tryz.func97, Tryz.ntmps97
  go_wp2
  go_region_with (go_at_call 70; refine (pages_any _ _ _ _ ha0 ha1 hd0 hd1 hg0 hg1).mono ?_; rintro e w1 ⟨rfl, b1⟩; obtain ⟨hc1, hf1, hs1⟩ := bcell b1; simp at hs1)
  all_goals go_wp2
  all_goals
    refine bodyPost_ret (v := partsV a d g) (by unfold partsV; simp [results, Tryz.results97, go_sem, hc1]) rfl ⟨rfl, ?_⟩
    repeat refine Below.setCell ?_ (by simp) _
    exact bt (b2alloc _ _ _).drew b1
def psum (g p : Int) : Nat → Int | 0 => 0 | 1 => 2 | 2 => 4 | 3 => 4 + g | _ => 4 + g + p
def sizeOf (a d g : Int) : Int := if right a d g then 4 + g + 2 * pagesOf a d g else 0
set_option maxHeartbeats 800000 in
theorem size_any (a d g : Int) (w : World) (ha0 : lo ≤ a) (ha1 : a ≤ hi) (hd0 : lo ≤ d) (hd1 : d ≤ hi) (hg0 : lo ≤ g) (hg1 : g ≤ hi) :
    Calls Tryz.prog 69 #[.agg #[.int .i64 a, .int .i64 d, .int .i64 g]] w fun e w' => e = .returned (.int .i64 (sizeOf a d g)) ∧ Below w.heap.size w w' := by
  by_cases hr : right a d g = true
  · obtain ⟨h1, h2, h3, h4, h5, h6⟩ := right_yes hr
    have hsz := Lib.hid (show sizeOf a d g = 4 + g + 2 * pagesOf a d g by simp [sizeOf, hr])
    have hp := pagesOf_bd a d g
    have Hr := Lib.hid hr
    clear hr
    obtain ⟨p, hpe⟩ : ∃ p, p = 2 * pagesOf a d g := ⟨_, rfl⟩
    have hp1 : 0 ≤ p := by omega
    have hp2 : p ≤ 170 := by omega
    have Hp := Lib.hid hpe
    have i0 : ∀ w, (Instr.index 164 (.agg #[.string ⟨#[114, 111, 111, 116]⟩, .int .i64 2, .string ⟨#[115, 117, 112, 101, 114]⟩, .int .i64 2, .string ⟨#[108, 111, 103]⟩, .int .i64 g, .string ⟨#[97, 114, 101, 97]⟩, .int .i64 p]) (.int .i64 0)).run Tryz.prog w = .ok (.agg #[.string ⟨#[114, 111, 111, 116]⟩, .int .i64 2]) w := fun _ => by kernel_rfl
    have i1 : ∀ w, (Instr.index 164 (.agg #[.string ⟨#[114, 111, 111, 116]⟩, .int .i64 2, .string ⟨#[115, 117, 112, 101, 114]⟩, .int .i64 2, .string ⟨#[108, 111, 103]⟩, .int .i64 g, .string ⟨#[97, 114, 101, 97]⟩, .int .i64 p]) (.int .i64 1)).run Tryz.prog w = .ok (.agg #[.string ⟨#[115, 117, 112, 101, 114]⟩, .int .i64 2]) w := fun _ => by kernel_rfl
    have i2 : ∀ w, (Instr.index 164 (.agg #[.string ⟨#[114, 111, 111, 116]⟩, .int .i64 2, .string ⟨#[115, 117, 112, 101, 114]⟩, .int .i64 2, .string ⟨#[108, 111, 103]⟩, .int .i64 g, .string ⟨#[97, 114, 101, 97]⟩, .int .i64 p]) (.int .i64 2)).run Tryz.prog w = .ok (.agg #[.string ⟨#[108, 111, 103]⟩, .int .i64 g]) w := fun _ => by kernel_rfl
    have i3 : ∀ w, (Instr.index 164 (.agg #[.string ⟨#[114, 111, 111, 116]⟩, .int .i64 2, .string ⟨#[115, 117, 112, 101, 114]⟩, .int .i64 2, .string ⟨#[108, 111, 103]⟩, .int .i64 g, .string ⟨#[97, 114, 101, 97]⟩, .int .i64 p]) (.int .i64 3)).run Tryz.prog w = .ok (.agg #[.string ⟨#[97, 114, 101, 97]⟩, .int .i64 p]) w := fun _ => by kernel_rfl
    go_enter Tryz.func69, Tryz.ntmps69
    go_wp2_with fail
    refine (right_any _ _ _ _ ha0 ha1 hd0 hd1 hg0 hg1).mono ?_
    rintro e w1 ⟨rfl, b1⟩
    rw [Hr.out]
    obtain ⟨hc1, hf1, hs1⟩ := bcell b1
    simp at hs1
    have bw := (below_lit w _).trans (b1.mono (by simp))
    go_wp2_with fail
    refine (parts_any _ _ _ _ ha0 ha1 hd0 hd1 hg0 hg1).mono ?_
    rintro e w2 ⟨rfl, b2⟩
    unfold partsV
    rw [← hpe]
    clear hpe hc1 hf1
    have bw2 := bw.trans (b2.mono bw.size)
    go_wp2_with fail
    go_loopw [2, 4, 10] (fun n _ i wr => ∃ k : Nat, k ≤ 4 ∧ i = .int .i64 k ∧ n = .int .i64 (psum g p k) ∧ Below w.heap.size w wr) (fun _ _ i _ => (4 - intOf i).toNat)
    case atStart => exact ⟨0, by omega, rfl, rfl, bw2⟩
    case round =>
      obtain ⟨k, hk, rfl, rfl, hbel⟩ := hrel
      have hbs := hbel.size
      obtain rfl | rfl | rfl | rfl | rfl : k = 0 ∨ k = 1 ∨ k = 2 ∨ k = 3 ∨ k = 4 := by omega
      · simp only [psum, Int.cast_ofNat_Int]
        go_wp2
        go_roundw
        case rel => exact ⟨1, by omega, rfl, rfl, hbel.alloc hbs _⟩
        case measure => simp [intOf]
      · simp only [psum, Int.cast_ofNat_Int]
        go_wp2
        go_roundw
        case rel => exact ⟨2, by omega, rfl, rfl, hbel.alloc hbs _⟩
        case measure => simp [intOf]
      · simp only [psum, Int.cast_ofNat_Int]
        go_wp2
        go_roundw
        case rel => exact ⟨3, by omega, rfl, rfl, hbel.alloc hbs _⟩
        case measure => simp [intOf]
      · simp only [psum, Int.cast_ofNat_Int]
        go_wp2
        go_roundw
        case rel => exact ⟨4, by omega, rfl, rfl, hbel.alloc hbs _⟩
        case measure => simp [intOf]
      · simp only [psum, Int.cast_ofNat_Int]
        go_wp2
        go_ret
        exact ⟨ret_int (by rw [hsz.out, ← Hp.out]), hbel⟩
  · have hr' : right a d g = false := by simpa using hr
    have hsz := Lib.hid (show sizeOf a d g = 0 by simp [sizeOf, hr'])
    have Hr := Lib.hid hr'
    clear hr hr'
    go_enter Tryz.func69, Tryz.ntmps69
    go_wp2_with fail
    refine (right_any _ _ _ _ ha0 ha1 hd0 hd1 hg0 hg1).mono ?_
    rintro e w1 ⟨rfl, b1⟩
    rw [Hr.out]
    go_wp2
    go_ret
    exact ⟨ret_int hsz.out.symm, bt (below_lit w _) b1⟩
end Go.Proofs.YtchcmklelmlbgaaGreat.Geom

/- The walks of geom's places, and of its reference. -/
namespace Go.Proofs.YtchcmklelmlbgaaGreat.Geom
open Go.RowKit
set_option linter.unusedVariables false










set_option maxHeartbeats 400000 in
theorem super_any (n : UInt64) (m : Int) (hm : m = (n.toNat : Int)) (w : World) : Calls Tryz.prog 99 #[.int .u64 m] w fun e w' => e = .returned (.int .i64 (2 + (n.toNat : Int) % 2)) ∧ w = w' := by
  subst hm
  have h0 : (0 : Int) ≤ (n.toNat : Int) := by omega
  have h1 : (n.toNat : Int) ≤ 18446744073709551615 := by have := n.toNat_lt; omega
  go_enter Tryz.func99, Tryz.ntmps99
  go_wp2
  go_ret
  exact ⟨rfl, rfl⟩
def logAt (a d g i : Int) : Int := if right a d g = true ∧ 0 ≤ i then 4 + i % g else -1
set_option maxHeartbeats 400000 in
theorem log_any (a d g i : Int) (w : World) (ha0 : lo ≤ a) (ha1 : a ≤ hi) (hd0 : lo ≤ d) (hd1 : d ≤ hi) (hg0 : lo ≤ g) (hg1 : g ≤ hi) (hi0 : lo ≤ i) (hi1 : i ≤ hi) :
    Calls Tryz.prog 76 #[.agg #[.int .i64 a, .int .i64 d, .int .i64 g], .int .i64 i] w fun e w' => e = .returned (.int .i64 (logAt a d g i)) ∧ Below w.heap.size w w' := by
  by_cases hr : right a d g = true
  · obtain ⟨h1, h2, h3, h4, h5, h6⟩ := right_yes hr
    by_cases hi : 0 ≤ i
    · have hl := Lib.hid (show logAt a d g i = 4 + i % g from if_pos ⟨hr, hi⟩)
      have Hr := Lib.hid hr
      clear hr
      have hb0 := Int.emod_nonneg i (by omega : g ≠ 0)
      have hb1 := Int.emod_lt_of_pos i (by omega : 0 < g)
      go_enter Tryz.func76, Tryz.ntmps76
      go_wp2_with fail
      refine (right_any _ _ _ _ ha0 ha1 hd0 hd1 hg0 hg1).mono ?_
      rintro e w1 ⟨rfl, b1⟩
      rw [Hr.out]
      obtain ⟨hc1, hf1, hs1⟩ := bcell b1
      simp at hs1
      go_wp2
      go_ret
      exact ⟨ret_int hl.out.symm, bt (below_lit w _) b1⟩
    · have hl := Lib.hid (show logAt a d g i = -1 from if_neg (by omega))
      have Hr := Lib.hid hr
      clear hr
      go_enter Tryz.func76, Tryz.ntmps76
      go_wp2_with fail
      refine (right_any _ _ _ _ ha0 ha1 hd0 hd1 hg0 hg1).mono ?_
      rintro e w1 ⟨rfl, b1⟩
      rw [Hr.out]
      go_wp2
      go_ret
      exact ⟨ret_int hl.out.symm, bt (below_lit w _) b1⟩
  · have hr' : right a d g = false := by simpa using hr
    have hl := Lib.hid (show logAt a d g i = -1 from if_neg (by simp [hr']))
    have Hr := Lib.hid hr'
    clear hr hr'
    go_enter Tryz.func76, Tryz.ntmps76
    go_wp2_with fail
    refine (right_any _ _ _ _ ha0 ha1 hd0 hd1 hg0 hg1).mono ?_
    rintro e w1 ⟨rfl, b1⟩
    rw [Hr.out]
    go_wp2
    go_ret
    exact ⟨ret_int hl.out.symm, bt (below_lit w _) b1⟩
def areaAt (a d g n i : Int) : Int := if 0 ≤ i ∧ i < pagesOf a d g then 4 + g + n % 2 * pagesOf a d g + i else -1
theorem pages_right {a d g i : Int} (h0 : 0 ≤ i) (h : i < pagesOf a d g) : right a d g = true := by
  by_cases hr : right a d g = true
  · exact hr
  · simp [pagesOf, nodesOf, leavesOf, hr] at h; omega
set_option maxHeartbeats 400000 in
theorem area_any (a d g : Int) (n : UInt64) (m : Int) (hm : m = (n.toNat : Int)) (i : Int) (w : World) (ha0 : lo ≤ a) (ha1 : a ≤ hi) (hd0 : lo ≤ d) (hd1 : d ≤ hi) (hg0 : lo ≤ g) (hg1 : g ≤ hi) (hi0 : lo ≤ i) (hi1 : i ≤ hi) :
    Calls Tryz.prog 116 #[.agg #[.int .i64 a, .int .i64 d, .int .i64 g], .int .u64 m, .int .i64 i] w fun e w' => e = .returned (.int .i64 (areaAt a d g n.toNat i)) ∧ Below w.heap.size w w' := by
  subst hm
  have h0 : (0 : Int) ≤ (n.toNat : Int) := by omega
  have h1 : (n.toNat : Int) ≤ 18446744073709551615 := by have := n.toNat_lt; omega
  have hp := pagesOf_bd a d g
  by_cases hi : 0 ≤ i
  · by_cases hj : i < pagesOf a d g
    · obtain ⟨r1, r2, r3, r4, r5, r6⟩ := right_yes (pages_right hi hj)
      have hl := Lib.hid (show areaAt a d g n.toNat i = 4 + g + n.toNat % 2 * pagesOf a d g + i from if_pos ⟨hi, hj⟩)
      have hm2 : (0 : Int) ≤ (n.toNat : Int) % 2 * pagesOf a d g ∧ (n.toNat : Int) % 2 * pagesOf a d g ≤ 85 := by
        rcases (by omega : (n.toNat : Int) % 2 = 0 ∨ (n.toNat : Int) % 2 = 1) with e | e <;> rw [e] <;> omega
      go_enter Tryz.func116, Tryz.ntmps116
      go_wp2_with fail
      refine (pages_any _ _ _ _ ha0 ha1 hd0 hd1 hg0 hg1).mono ?_
      rintro e w1 ⟨rfl, b1⟩
      obtain ⟨hc1, hf1, hs1⟩ := bcell b1
      simp at hs1
      go_wp2
      go_ret
      exact ⟨ret_int hl.out.symm, bt (below_lit w _) b1⟩
    · have hl := Lib.hid (show areaAt a d g n.toNat i = -1 from if_neg (by omega))
      go_enter Tryz.func116, Tryz.ntmps116
      go_wp2_with fail
      refine (pages_any _ _ _ _ ha0 ha1 hd0 hd1 hg0 hg1).mono ?_
      rintro e w1 ⟨rfl, b1⟩
      go_wp2
      go_ret
      exact ⟨ret_int hl.out.symm, bt (below_lit w _) b1⟩
  · have hl := Lib.hid (show areaAt a d g n.toNat i = -1 from if_neg (by omega))
    go_enter Tryz.func116, Tryz.ntmps116
    go_wp2_with fail
    refine (pages_any _ _ _ _ ha0 ha1 hd0 hd1 hg0 hg1).mono ?_
    rintro e w1 ⟨rfl, b1⟩
    go_wp2
    go_ret
    exact ⟨ret_int hl.out.symm, bt (below_lit w _) b1⟩
set_option maxHeartbeats 400000 in
theorem rleast_any (a d g : Int) (w : World) (ha0 : -9223372036854775808 ≤ a) (ha1 : a ≤ 9223372036854775807) (hd0 : -9223372036854775808 ≤ d) (hd1 : d ≤ 9223372036854775807) :
    Calls Tryz.prog 34 #[.agg #[.int .i64 a, .int .i64 d, .int .i64 g]] w fun e w' => e = .returned (.int .i64 (least a d)) ∧ Below w.heap.size w w' := by
  by_cases h1 : a < 2
  · rw [least_out (by omega)]
    go_enter Tryz.func34, Tryz.ntmps34
    go_wp2
    go_ret
    exact ⟨rfl, below_lit _ _⟩
  by_cases h2 : 4 < a
  · rw [least_out (by omega)]
    go_enter Tryz.func34, Tryz.ntmps34
    go_wp2
    go_ret
    exact ⟨rfl, below_lit _ _⟩
  by_cases h3 : d < 1
  · rw [least_out (by omega)]
    go_enter Tryz.func34, Tryz.ntmps34
    go_wp2
    go_ret
    exact ⟨rfl, below_lit _ _⟩
  by_cases h4 : 3 < d
  · rw [least_out (by omega)]
    go_enter Tryz.func34, Tryz.ntmps34
    go_wp2
    go_ret
    exact ⟨rfl, below_lit _ _⟩
  rw [least_in (by omega) (by omega) (by omega) (by omega)]
  go_enter Tryz.func34, Tryz.ntmps34
  go_wp2
  go_ret
  exact ⟨rfl, below_lit _ _⟩
set_option maxHeartbeats 800000 in
theorem rright_any (a d g : Int) (w : World) (ha0 : lo ≤ a) (ha1 : a ≤ hi) (hd0 : lo ≤ d) (hd1 : d ≤ hi) (hg0 : lo ≤ g) (hg1 : g ≤ hi) :
    Calls Tryz.prog 9 #[.agg #[.int .i64 a, .int .i64 d, .int .i64 g]] w fun e w' => e = .returned (.bool (right a d g)) ∧ Below w.heap.size w w' := by
  by_cases h1 : 2 ≤ a ∧ a ≤ 4 ∧ 1 ≤ d ∧ d ≤ 3
  · obtain ⟨h1, h2, h3, h4⟩ := h1
    have hl := Lib.hid (least_in h1 h2 h3 h4)
    have hp : (0 : Int) < d + 2 := by omega
    by_cases h5 : d + 2 ≤ g
    · by_cases h6 : g ≤ 64
      · have hr := Lib.hid (show right a d g = true by unfold right; simp [h1, h2, h3, h4, h5, h6])
        go_enter Tryz.func9, Tryz.ntmps9
        go_wp2
        refine region_inb (by kernel_rfl) (by kernel_rfl) ?_
        have inbNe := InB.some
        have inbW := @wrap_small
        have inbU := IntKind.wrap_u8'
        repeat (refine wpQuiet_step (fun K hK => ?_); go_simp; first | (refine hK _ ?_; clear hK K) | (apply Exists.intro; refine ⟨?_, hK _ ?_⟩; (· (intro w' hw'; first | (go_at_call 34; refine (rleast_any _ _ _ _ ha0 ha1 hd0 hd1).mono ?_; rintro e w1 ⟨rfl, b1⟩; rw [hl.out]; exact ⟨rfl, hw'.on b1⟩) | (have hcw := hw'.cell; go_simp; exact rfl))); clear hK K))
        refine wpQuiet_nil ?_
        intro wq hq
        clear inbNe inbW inbU
        go_wp2
        go_ret
        exact ⟨ret_bool hr.out.symm, bt (b1alloc _ _) hq⟩
      · have hr := Lib.hid (show right a d g = false by unfold right; simp; omega)
        have h7 : decide (g ≤ 64) = false := by simp; omega
        go_enter Tryz.func9, Tryz.ntmps9
        go_wp2
        refine region_inb (by kernel_rfl) (by kernel_rfl) ?_
        have inbNe := InB.some
        have inbW := @wrap_small
        have inbU := IntKind.wrap_u8'
        repeat (refine wpQuiet_step (fun K hK => ?_); go_simp; first | (refine hK _ ?_; clear hK K) | (apply Exists.intro; refine ⟨?_, hK _ ?_⟩; (· (intro w' hw'; first | (go_at_call 34; refine (rleast_any _ _ _ _ ha0 ha1 hd0 hd1).mono ?_; rintro e w1 ⟨rfl, b1⟩; rw [hl.out]; exact ⟨rfl, hw'.on b1⟩) | (have hcw := hw'.cell; go_simp; exact rfl))); clear hK K))
        refine wpQuiet_nil ?_
        intro wq hq
        clear inbNe inbW inbU
        go_wp2
        go_ret
        exact ⟨ret_bool hr.out.symm, bt (b1alloc _ _) hq⟩
    · have hr := Lib.hid (show right a d g = false by unfold right; simp; omega)
      have h7 : decide (d + 2 ≤ g) = false := by simp; omega
      go_enter Tryz.func9, Tryz.ntmps9
      go_wp2
      refine region_inb (by kernel_rfl) (by kernel_rfl) ?_
      have inbNe := InB.some
      have inbW := @wrap_small
      have inbU := IntKind.wrap_u8'
      repeat (refine wpQuiet_step (fun K hK => ?_); go_simp; first | (refine hK _ ?_; clear hK K) | (apply Exists.intro; refine ⟨?_, hK _ ?_⟩; (· (intro w' hw'; first | (go_at_call 34; refine (rleast_any _ _ _ _ ha0 ha1 hd0 hd1).mono ?_; rintro e w1 ⟨rfl, b1⟩; rw [hl.out]; exact ⟨rfl, hw'.on b1⟩) | (have hcw := hw'.cell; go_simp; exact rfl))); clear hK K))
      refine wpQuiet_nil ?_
      intro wq hq
      clear inbNe inbW inbU
      go_wp2
      go_ret
      exact ⟨ret_bool hr.out.symm, bt (b1alloc _ _) hq⟩
  · have hr := Lib.hid (show right a d g = false by unfold right; simp; omega)
    have hl := Lib.hid (least_out (a := a) (d := d) (by omega))
    go_enter Tryz.func9, Tryz.ntmps9
    go_wp2
    refine region_inb (by kernel_rfl) (by kernel_rfl) ?_
    have inbNe := InB.some
    have inbW := @wrap_small
    have inbU := IntKind.wrap_u8'
    repeat (refine wpQuiet_step (fun K hK => ?_); go_simp; first | (refine hK _ ?_; clear hK K) | (apply Exists.intro; refine ⟨?_, hK _ ?_⟩; (· (intro w' hw'; first | (go_at_call 34; refine (rleast_any _ _ _ _ ha0 ha1 hd0 hd1).mono ?_; rintro e w1 ⟨rfl, b1⟩; rw [hl.out]; exact ⟨rfl, hw'.on b1⟩) | (have hcw := hw'.cell; go_simp; exact rfl))); clear hK K))
    refine wpQuiet_nil ?_
    intro wq hq
    clear inbNe inbW inbU
    go_wp2
    go_ret
    exact ⟨ret_bool hr.out.symm, bt (b1alloc _ _) hq⟩
set_option maxHeartbeats 400000 in
theorem rleaves_any (a d g : Int) (w : World) (ha0 : lo ≤ a) (ha1 : a ≤ hi) (hd0 : lo ≤ d) (hd1 : d ≤ hi) (hg0 : lo ≤ g) (hg1 : g ≤ hi) :
    Calls Tryz.prog 59 #[.agg #[.int .i64 a, .int .i64 d, .int .i64 g]] w fun e w' => e = .returned (.int .i64 (leavesOf a d g)) ∧ Below w.heap.size w w' := by
  by_cases hr : right a d g = true
  · obtain ⟨h1, h2, h3, h4, h5, h6⟩ := right_yes hr
    have hle := Lib.hid (show leavesOf a d g = leaves a d by simp [leavesOf, hr])
    have hup := Lib.hid (up_all (a := a) h3 h4)
    have Hr := Lib.hid hr
    clear hr
    go_enter Tryz.func59, Tryz.ntmps59
    go_wp2_with fail
    refine (rright_any _ _ _ _ ha0 ha1 hd0 hd1 hg0 hg1).mono ?_
    rintro e w1 ⟨rfl, b1⟩
    rw [Hr.out]
    have hc := b1.cell (p := ⟨w.heap.size, 0, none⟩) (by simp)
    have hc' := b1.cell (p := ⟨w.heap.size, 1, none⟩) (by simp)
    simp at hc hc'
    have bw := bt (below_lit w _) b1
    go_wp2
    go_loop [3, 4] (fun l i => ∃ k : Nat, (k : Int) ≤ d ∧ i = .int .i64 k ∧ l = .int .i64 (lUp a k)) (fun _ i => (d - intOf i).toNat)
    case atStart => exact ⟨0, by omega, rfl, rfl⟩
    case round =>
      obtain ⟨k, hk, rfl, rfl⟩ := hrel
      by_cases hlt : (k : Int) < d
      · have e2 := Lib.hid (lUp_succ a k (by omega))
        have l1 := lUp_bd k (by omega) h1 h2
        have l2 := lUp_bd (k + 1) (by omega) h1 h2
        rw [e2.out] at l2
        go_wp2
        go_round
        case rel => exact ⟨k + 1, by omega, by go_num, by rw [e2.out]⟩
        case measure => simp [intOf]; omega
      · obtain rfl : d = (k : Int) := by omega
        go_wp2
        go_ret
        exact ⟨ret_int (by rw [hle.out, ← hup.out.2]; rfl), bw⟩
  · have hr' : right a d g = false := by simpa using hr
    have hle := Lib.hid (show leavesOf a d g = 0 by simp [leavesOf, hr'])
    have Hr := Lib.hid hr'
    clear hr hr'
    go_enter Tryz.func59, Tryz.ntmps59
    go_wp2_with fail
    refine (rright_any _ _ _ _ ha0 ha1 hd0 hd1 hg0 hg1).mono ?_
    rintro e w1 ⟨rfl, b1⟩
    rw [Hr.out]
    go_wp2
    go_ret
    exact ⟨ret_int hle.out.symm, bt (below_lit w _) b1⟩
set_option maxHeartbeats 400000 in
theorem rnodes_any (a d g : Int) (w : World) (ha0 : lo ≤ a) (ha1 : a ≤ hi) (hd0 : lo ≤ d) (hd1 : d ≤ hi) (hg0 : lo ≤ g) (hg1 : g ≤ hi) :
    Calls Tryz.prog 58 #[.agg #[.int .i64 a, .int .i64 d, .int .i64 g]] w fun e w' => e = .returned (.int .i64 (nodesOf a d g)) ∧ Below w.heap.size w w' := by
  by_cases hr : right a d g = true
  · obtain ⟨h1, h2, h3, h4, h5, h6⟩ := right_yes hr
    have hno := Lib.hid (show nodesOf a d g = nodes a d by simp [nodesOf, hr])
    have hup := Lib.hid (up_all (a := a) h3 h4)
    have Hr := Lib.hid hr
    clear hr
    go_enter Tryz.func58, Tryz.ntmps58
    go_wp2_with fail
    refine (rright_any _ _ _ _ ha0 ha1 hd0 hd1 hg0 hg1).mono ?_
    rintro e w1 ⟨rfl, b1⟩
    rw [Hr.out]
    have hc := b1.cell (p := ⟨w.heap.size, 0, none⟩) (by simp)
    have hc' := b1.cell (p := ⟨w.heap.size, 1, none⟩) (by simp)
    simp at hc hc'
    have bw := bt (below_lit w _) b1
    go_wp2
    go_loop [3, 4, 5] (fun l n i => ∃ k : Nat, (k : Int) ≤ d ∧ i = .int .i64 k ∧ l = .int .i64 (lUp a k) ∧ n = .int .i64 (nUp a k)) (fun _ _ i => (d - intOf i).toNat)
    case atStart => exact ⟨0, by omega, rfl, rfl, rfl⟩
    case round =>
      obtain ⟨k, hk, rfl, rfl, rfl⟩ := hrel
      by_cases hlt : (k : Int) < d
      · have e1 := Lib.hid (nUp_succ a k (by omega))
        have e2 := Lib.hid (lUp_succ a k (by omega))
        have l1 := lUp_bd k (by omega) h1 h2
        have l2 := lUp_bd (k + 1) (by omega) h1 h2
        rw [e2.out] at l2
        have n1 := nUp_bd k (by omega) h1 h2
        go_wp2
        go_round
        case rel => exact ⟨k + 1, by omega, by go_num, by rw [e2.out], by rw [e1.out]⟩
        case measure => simp [intOf]; omega
      · obtain rfl : d = (k : Int) := by omega
        go_wp2
        go_ret
        exact ⟨ret_int (by rw [hno.out, ← hup.out.1]; rfl), bw⟩
  · have hr' : right a d g = false := by simpa using hr
    have hno := Lib.hid (show nodesOf a d g = 0 by simp [nodesOf, hr'])
    have Hr := Lib.hid hr'
    clear hr hr'
    go_enter Tryz.func58, Tryz.ntmps58
    go_wp2_with fail
    refine (rright_any _ _ _ _ ha0 ha1 hd0 hd1 hg0 hg1).mono ?_
    rintro e w1 ⟨rfl, b1⟩
    rw [Hr.out]
    go_wp2
    go_ret
    exact ⟨ret_int hno.out.symm, bt (below_lit w _) b1⟩
set_option maxHeartbeats 400000 in
theorem rpages_any (a d g : Int) (w : World) (ha0 : lo ≤ a) (ha1 : a ≤ hi) (hd0 : lo ≤ d) (hd1 : d ≤ hi) (hg0 : lo ≤ g) (hg1 : g ≤ hi) :
    Calls Tryz.prog 22 #[.agg #[.int .i64 a, .int .i64 d, .int .i64 g]] w fun e w' => e = .returned (.int .i64 (pagesOf a d g)) ∧ Below w.heap.size w w' := by
  have h1 := nodesOf_bd a d g
  have h2 := leavesOf_bd a d g
  have hwr : IntKind.i64.wrap (nodesOf a d g + leavesOf a d g) = nodesOf a d g + leavesOf a d g := IntWalk.i64_in _ (by omega)
  go_enter Tryz.func22, Tryz.ntmps22
  go_wp2
  refine region_inb (by kernel_rfl) (by kernel_rfl) ?_
  have inbNe := InB.some
  have inbW := @wrap_small
  have inbU := IntKind.wrap_u8'
  repeat (refine wpQuiet_step (fun K hK => ?_); go_simp; first | (refine hK _ ?_; clear hK K) | (apply Exists.intro; refine ⟨?_, hK _ ?_⟩; (· (intro w' hw'; first | (go_at_call 58; refine (rnodes_any _ _ _ _ ha0 ha1 hd0 hd1 hg0 hg1).mono ?_; rintro e w1 ⟨rfl, b1⟩; exact ⟨rfl, hw'.on b1⟩) | (go_at_call 59; refine (rleaves_any _ _ _ _ ha0 ha1 hd0 hd1 hg0 hg1).mono ?_; rintro e w1 ⟨rfl, b1⟩; exact ⟨rfl, hw'.on b1⟩) | (have hcw := hw'.cell; go_simp; exact rfl))); clear hK K))
  refine wpQuiet_nil ?_
  intro wq hq
  clear inbNe inbW inbU
  go_wp2
  go_ret
  exact ⟨rfl, bt (b1alloc _ _) hq⟩
end Go.Proofs.YtchcmklelmlbgaaGreat.Geom

/- The walks of geom.Where and of the reference's sizes and places. -/
namespace Go.Proofs.YtchcmklelmlbgaaGreat.Geom
open Go.RowKit
set_option linter.unusedVariables false

set_option maxHeartbeats 400000 in
theorem rsize_any (a d g : Int) (w : World) (ha0 : lo ≤ a) (ha1 : a ≤ hi) (hd0 : lo ≤ d) (hd1 : d ≤ hi) (hg0 : lo ≤ g) (hg1 : g ≤ hi) :
    Calls Tryz.prog 12 #[.agg #[.int .i64 a, .int .i64 d, .int .i64 g]] w fun e w' => e = .returned (.int .i64 (sizeOf a d g)) ∧ Below w.heap.size w w' := by
  by_cases hr : right a d g = true
  · obtain ⟨h1, h2, h3, h4, h5, h6⟩ := right_yes hr
    have hsz := Lib.hid (show sizeOf a d g = 4 + g + 2 * pagesOf a d g by simp [sizeOf, hr])
    have hp := pagesOf_bd a d g
    have Hr := Lib.hid hr
    clear hr
    have hwr : IntKind.i64.wrap (2 * pagesOf a d g) = 2 * pagesOf a d g := IntWalk.i64_in _ (by omega)
    have hwr2 : IntKind.i64.wrap (4 + g) = 4 + g := IntWalk.i64_in _ (by omega)
    have hwr3 : IntKind.i64.wrap (4 + g + 2 * pagesOf a d g) = 4 + g + 2 * pagesOf a d g := IntWalk.i64_in _ (by omega)
    go_enter Tryz.func12, Tryz.ntmps12
    go_wp2_with fail
    refine (rright_any _ _ _ _ ha0 ha1 hd0 hd1 hg0 hg1).mono ?_
    rintro e w1 ⟨rfl, b1⟩
    rw [Hr.out]
    have hc := b1.cell (p := ⟨w.heap.size, 0, none⟩) (by simp)
    have hc' := b1.cell (p := ⟨w.heap.size, 1, none⟩) (by simp)
    have hc'' := b1.cell (p := ⟨w.heap.size, 2, none⟩) (by simp)
    have hs : w.heap.size < w1.heap.size := by have := b1.size; simp at this; omega
    simp at hc hc' hc''
    have bw := bt (below_lit w _) b1
    go_wp2
    refine region_inb (by kernel_rfl) (by kernel_rfl) ?_
    have inbNe := InB.some
    have inbW := @wrap_small
    have inbU := IntKind.wrap_u8'
    repeat (refine wpQuiet_step (fun K hK => ?_); go_simp; first | (refine hK _ ?_; clear hK K) | (apply Exists.intro; refine ⟨?_, hK _ ?_⟩; (· (intro w' hw'; first | (go_at_call 22; refine (rpages_any _ _ _ _ ha0 ha1 hd0 hd1 hg0 hg1).mono ?_; rintro e w1 ⟨rfl, b1⟩; exact ⟨rfl, hw'.on b1⟩) | (have hcw := hw'.cell; go_simp; exact rfl))); clear hK K))
    refine wpQuiet_nil ?_
    intro wq hq
    clear inbNe inbW inbU
    go_wp2
    go_ret
    exact ⟨ret_int hsz.out.symm, bt bw hq⟩
  · have hr' : right a d g = false := by simpa using hr
    have hsz := Lib.hid (show sizeOf a d g = 0 by simp [sizeOf, hr'])
    have Hr := Lib.hid hr'
    clear hr hr'
    go_enter Tryz.func12, Tryz.ntmps12
    go_wp2_with fail
    refine (rright_any _ _ _ _ ha0 ha1 hd0 hd1 hg0 hg1).mono ?_
    rintro e w1 ⟨rfl, b1⟩
    rw [Hr.out]
    go_wp2
    go_ret
    exact ⟨ret_int hsz.out.symm, bt (below_lit w _) b1⟩
theorem size_bd (a d g : Int) : 0 ≤ sizeOf a d g ∧ sizeOf a d g ≤ 238 := by
  unfold sizeOf
  by_cases h : right a d g = true
  · rw [if_pos h]
    obtain ⟨h1, h2, h3, h4, h5, h6⟩ := right_yes h
    have := pagesOf_bd a d g
    omega
  · rw [if_neg h]; omega
theorem size_right {a d g p : Int} (h0 : 0 ≤ p) (h : p < sizeOf a d g) : right a d g = true ∧ p < 4 + g + 2 * pagesOf a d g := by
  by_cases hr : right a d g = true
  · exact ⟨hr, by simpa [sizeOf, hr] using h⟩
  · simp [sizeOf, hr] at h; omega
/-- what stands at a place -/
def whereW (a d g p : Int) : ByteArray := if p < 0 ∨ sizeOf a d g ≤ p then ⟨#[]⟩ else if p < 2 then ⟨#[114, 111, 111, 116]⟩ else if p < 4 then ⟨#[115, 117, 112, 101, 114]⟩ else if p < 4 + g then ⟨#[108, 111, 103]⟩ else ⟨#[97, 114, 101, 97]⟩
def whereK (a d g p : Int) : Int := if p < 0 ∨ sizeOf a d g ≤ p then 0 else if p < 2 then p else if p < 4 then p - 2 else if p < 4 + g then p - 4 else p - 4 - g
set_option maxHeartbeats 1600000 in
theorem where_in (a d g q : Int) (w : World) (ha0 : lo ≤ a) (ha1 : a ≤ hi) (hd0 : lo ≤ d) (hd1 : d ≤ hi) (hg0 : lo ≤ g) (hg1 : g ≤ hi) (hq0 : 0 ≤ q) (hq1 : q < sizeOf a d g) :
    Calls Tryz.prog 110 #[.agg #[.int .i64 a, .int .i64 d, .int .i64 g], .int .i64 q] w fun e w' => e = .returned (.tuple #[.string (whereW a d g q), .int .i64 (whereK a d g q)]) ∧ Below w.heap.size w w' := by
  obtain ⟨hr, hlt⟩ := size_right hq0 hq1
  obtain ⟨r1, r2, r3, r4, r5, r6⟩ := right_yes hr
  have hn : ¬ (q < 0 ∨ sizeOf a d g ≤ q) := by omega
  have hp := pagesOf_bd a d g
  have hsb := size_bd a d g
  clear hr
  obtain ⟨p, hpe⟩ : ∃ p, p = 2 * pagesOf a d g := ⟨_, rfl⟩
  have hp1 : 0 ≤ p := by omega
  have hp2 : p ≤ 170 := by omega
  have hlt' : q < 4 + g + p := by omega
  have Hn := Lib.hid hn
  clear hn
  have i0 : ∀ w, (Instr.index 164 (.agg #[.string ⟨#[114, 111, 111, 116]⟩, .int .i64 2, .string ⟨#[115, 117, 112, 101, 114]⟩, .int .i64 2, .string ⟨#[108, 111, 103]⟩, .int .i64 g, .string ⟨#[97, 114, 101, 97]⟩, .int .i64 p]) (.int .i64 0)).run Tryz.prog w = .ok (.agg #[.string ⟨#[114, 111, 111, 116]⟩, .int .i64 2]) w := fun _ => by kernel_rfl
  have i1 : ∀ w, (Instr.index 164 (.agg #[.string ⟨#[114, 111, 111, 116]⟩, .int .i64 2, .string ⟨#[115, 117, 112, 101, 114]⟩, .int .i64 2, .string ⟨#[108, 111, 103]⟩, .int .i64 g, .string ⟨#[97, 114, 101, 97]⟩, .int .i64 p]) (.int .i64 1)).run Tryz.prog w = .ok (.agg #[.string ⟨#[115, 117, 112, 101, 114]⟩, .int .i64 2]) w := fun _ => by kernel_rfl
  have i2 : ∀ w, (Instr.index 164 (.agg #[.string ⟨#[114, 111, 111, 116]⟩, .int .i64 2, .string ⟨#[115, 117, 112, 101, 114]⟩, .int .i64 2, .string ⟨#[108, 111, 103]⟩, .int .i64 g, .string ⟨#[97, 114, 101, 97]⟩, .int .i64 p]) (.int .i64 2)).run Tryz.prog w = .ok (.agg #[.string ⟨#[108, 111, 103]⟩, .int .i64 g]) w := fun _ => by kernel_rfl
  have i3 : ∀ w, (Instr.index 164 (.agg #[.string ⟨#[114, 111, 111, 116]⟩, .int .i64 2, .string ⟨#[115, 117, 112, 101, 114]⟩, .int .i64 2, .string ⟨#[108, 111, 103]⟩, .int .i64 g, .string ⟨#[97, 114, 101, 97]⟩, .int .i64 p]) (.int .i64 3)).run Tryz.prog w = .ok (.agg #[.string ⟨#[97, 114, 101, 97]⟩, .int .i64 p]) w := fun _ => by kernel_rfl
  go_enter Tryz.func110, Tryz.ntmps110
  go_wp2_with fail
  go_step3
  go_wp2_with fail
  refine (size_any _ _ _ _ ha0 ha1 hd0 hd1 hg0 hg1).mono ?_
  rintro e w1 ⟨rfl, b1⟩
  obtain ⟨hc1, hf1, hs1⟩ := bcell b1
  simp at hs1
  have bw := bt (below_lit w _) b1
  go_wp2_with fail
  go_step3
  go_wp2_with fail
  refine (parts_any _ _ _ _ ha0 ha1 hd0 hd1 hg0 hg1).mono ?_
  rintro e w2 ⟨rfl, b2⟩
  unfold partsV
  rw [← hpe]
  clear hpe hc1 hf1 hlt hq1 hsb
  have bw2 := bt bw b2
  go_wp2_with fail
  go_loopw [1, 7, 18] (fun x _ i wr => ∃ k : Nat, k ≤ 3 ∧ i = .int .i64 k ∧ x = .int .i64 (q - psum g p k) ∧ psum g p k ≤ q ∧ Below w.heap.size w wr) (fun _ _ i _ => (4 - intOf i).toNat)
  case atStart => exact ⟨0, by omega, rfl, by simp [psum], by simpa [psum] using hq0, bw2⟩
  case round =>
    obtain ⟨k, hk, rfl, rfl, hps, hbel⟩ := hrel
    have hbs := hbel.size
    obtain rfl | rfl | rfl | rfl : k = 0 ∨ k = 1 ∨ k = 2 ∨ k = 3 := by omega
    · simp only [psum, Int.cast_ofNat_Int, Int.sub_zero] at hps ⊢
      by_cases h2 : q < 2
      · have hd := h2
        have hw := Lib.hid (show whereW a d g q = ⟨#[114, 111, 111, 116]⟩ by unfold whereW; rw [if_neg Hn.out, if_pos (by omega)])
        have hk := Lib.hid (show whereK a d g q = q by unfold whereK; rw [if_neg Hn.out, if_pos (by omega)])
        go_wp2
        rw [Exit.noGoto_ret]
        go_ret2
        exact ⟨by rw [hw.out, hk.out]; rfl, hbel.alloc hbs _⟩
      · go_wp2
        go_roundw
        case rel => exact ⟨1, by omega, rfl, by simp; try omega, by simp; omega, hbel.alloc hbs _⟩
        case measure => simp [intOf]
    · simp only [psum, Int.cast_ofNat_Int] at hps ⊢
      by_cases h2 : q < 4
      · have hd := h2
        have hw := Lib.hid (show whereW a d g q = ⟨#[115, 117, 112, 101, 114]⟩ by unfold whereW; rw [if_neg Hn.out, if_neg (by omega), if_pos (by omega)])
        have hk := Lib.hid (show whereK a d g q = q - 2 by unfold whereK; rw [if_neg Hn.out, if_neg (by omega), if_pos (by omega)])
        go_wp2
        rw [Exit.noGoto_ret]
        go_ret2
        exact ⟨by rw [hw.out, hk.out]; rfl, hbel.alloc hbs _⟩
      · go_wp2
        go_roundw
        case rel => exact ⟨2, by omega, rfl, by simp; try omega, by simp; omega, hbel.alloc hbs _⟩
        case measure => simp [intOf]
    · simp only [psum, Int.cast_ofNat_Int] at hps ⊢
      by_cases h2 : q < 4 + g
      · have hd := h2
        have hw := Lib.hid (show whereW a d g q = ⟨#[108, 111, 103]⟩ by unfold whereW; rw [if_neg Hn.out, if_neg (by omega), if_neg (by omega), if_pos (by omega)])
        have hk := Lib.hid (show whereK a d g q = q - 4 by unfold whereK; rw [if_neg Hn.out, if_neg (by omega), if_neg (by omega), if_pos (by omega)])
        go_wp2
        rw [Exit.noGoto_ret]
        go_ret2
        exact ⟨by rw [hw.out, hk.out]; rfl, hbel.alloc hbs _⟩
      · go_wp2
        go_roundw
        case rel => exact ⟨3, by omega, rfl, by simp; try omega, by simp; omega, hbel.alloc hbs _⟩
        case measure => simp [intOf]
    · simp only [psum, Int.cast_ofNat_Int] at hps ⊢
      have hw := Lib.hid (show whereW a d g q = ⟨#[97, 114, 101, 97]⟩ by unfold whereW; rw [if_neg Hn.out, if_neg (by omega), if_neg (by omega), if_neg (by omega)])
      have hk := Lib.hid (show whereK a d g q = q - (4 + g) by unfold whereK; rw [if_neg Hn.out, if_neg (by omega), if_neg (by omega), if_neg (by omega)]; omega)
      go_wp2
      rw [Exit.noGoto_ret]
      go_ret2
      exact ⟨by rw [hw.out, hk.out]; rfl, hbel.alloc hbs _⟩
set_option maxHeartbeats 400000 in
theorem where_any (a d g q : Int) (w : World) (ha0 : lo ≤ a) (ha1 : a ≤ hi) (hd0 : lo ≤ d) (hd1 : d ≤ hi) (hg0 : lo ≤ g) (hg1 : g ≤ hi) (hq0 : lo ≤ q) (hq1 : q ≤ hi) :
    Calls Tryz.prog 110 #[.agg #[.int .i64 a, .int .i64 d, .int .i64 g], .int .i64 q] w fun e w' => e = .returned (.tuple #[.string (whereW a d g q), .int .i64 (whereK a d g q)]) ∧ Below w.heap.size w w' := by
  by_cases h0 : q < 0
  · have hw := Lib.hid (show whereW a d g q = ⟨#[]⟩ from if_pos (.inl h0))
    have hk := Lib.hid (show whereK a d g q = 0 from if_pos (.inl h0))
    go_enter Tryz.func110, Tryz.ntmps110
    go_wp2_with fail
    go_step3
    go_wp2_with fail
    rw [Exit.noGoto_ret]
    go_ret2
    exact ⟨by rw [hw.out, hk.out]; rfl, below_lit w _⟩
  by_cases h1 : sizeOf a d g ≤ q
  · have hw := Lib.hid (show whereW a d g q = ⟨#[]⟩ from if_pos (.inr h1))
    have hk := Lib.hid (show whereK a d g q = 0 from if_pos (.inr h1))
    go_enter Tryz.func110, Tryz.ntmps110
    go_wp2_with fail
    go_step3
    go_wp2_with fail
    refine (size_any _ _ _ _ ha0 ha1 hd0 hd1 hg0 hg1).mono ?_
    rintro e w1 ⟨rfl, b1⟩
    go_wp2_with fail
    rw [Exit.noGoto_ret]
    go_ret2
    exact ⟨by rw [hw.out, hk.out]; rfl, bt (below_lit w _) b1⟩
  · exact where_in a d g q w ha0 ha1 hd0 hd1 hg0 hg1 (by omega) (by omega)
end Go.Proofs.YtchcmklelmlbgaaGreat.Geom

/- The supers: which disk is right, the mark, and what is written: super.places, right, both, Mark, Write, Clear. -/
namespace Go.Proofs.YtchcmklelmlbgaaGreat
theorem Keep.of_below5 {w w5 w' : World} {fp : List Nat} (k : Keep fp w5 w') (b : Go.RowKit.Below w.heap.size w w5) : Keep fp w w' := (Keep.of_below b fp).trans k (Fresh.refl _ _)
theorem Fresh.of_size {w w5 : World} {fp fp' : List Nat} (f : Fresh w5 fp fp') (b : Go.RowKit.Below w.heap.size w w5) : Fresh w fp fp' := fun j hj => (f j hj).imp id (fun h => Nat.le_trans b.size h)
theorem Box.on' {w w' : World} {g : Nat} {v : Value} (h : Box w g v) (b : Go.RowKit.Below w.heap.size w w') : Box w' g v := h.below b h.lt
end Go.Proofs.YtchcmklelmlbgaaGreat
namespace Go.Proofs.YtchcmklelmlbgaaGreat.Sup
open Go.RowKit
open Go.Proofs.YtchcmklelmlbgaaGreat.Geom
open Go.Proofs.YtchcmklelmlbgaaGreat.Disk (St DAt Did write_any flush_any read_any New8 Told8)
open Go.Proofs.YtchcmklelmlbgaaGreat.Sec (X SymAt text sumOf sumAfter ckS blankB rightF encode_sym decode_sym isBlank_any right_0 right_2 xv RetX X0 five5x)
set_option linter.unusedVariables false
set_option maxRecDepth 100000
/-- a geometry's numbers are Go's -/
structure Gb (a d g : Int) : Prop where
  a0 : lo ≤ a
  a1 : a ≤ hi
  d0 : lo ≤ d
  d1 : d ≤ hi
  g0 : lo ≤ g
  g1 : g ≤ hi
abbrev gv (a d g : Int) : Value := .agg #[.int .i64 a, .int .i64 d, .int .i64 g]
abbrev gcell (a d g : Int) : List Value := [.int .i64 a, .int .i64 d, .int .i64 g]
theorem gthree {w : World} {b : Nat} {u v x : Value} (h : Blk w b [u, v, x]) : w.cell? ⟨b, 0, none⟩ = some u ∧ w.cell? ⟨b, 1, none⟩ = some v ∧ w.cell? ⟨b, 2, none⟩ = some x := ⟨h.cell (k := 0) (by simp), h.cell (k := 1) (by simp), h.cell (k := 2) (by simp)⟩
theorem sup0 : (2 : Int) + ((0 : UInt64).toNat : Int) % 2 = 2 := by decide
theorem sup1 : (2 : Int) + ((1 : UInt64).toNat : Int) % 2 = 3 := by decide
theorem places_any (w : World) : Calls Tryz.prog 72 #[] w fun e w' => e = .returned (.agg #[.int .i64 2, .int .i64 3]) ∧ Below w.heap.size w w' := by
  have h0 := fun W => super_any 0 0 (by rfl) W
  have h1 := fun W => super_any 1 1 (by rfl) W
  rw [sup0] at h0
  rw [sup1] at h1
  have H0 := Lib.hid h0
  have H1 := Lib.hid h1
  have t0 : True := trivial
  clear h0 h1
  go_enter Tryz.func72, Tryz.ntmps72
  go_wp2_with (first
    | (go_at_call 99; have _t := t0; refine (H0.out _).mono ?_; rintro e w1 ⟨rfl, rfl⟩; clear t0)
    | (go_at_call 99; refine (H1.out _).mono ?_; rintro e w1 ⟨rfl, rfl⟩))
  refine bodyPost_ret (v := .agg #[.int .i64 2, .int .i64 3]) (by simp [results, Tryz.results72, go_sem]) rfl ⟨rfl, b1alloc _ _⟩
/-- is it a disk of a geometry? -/
def srightF (s : St) (ga gd gl : Int) : Int := if right ga gd gl = true ∧ (s.size : Int) = Geom.sizeOf ga gd gl then 0 else 2
set_option maxHeartbeats 800000 in
theorem right_any (g : Nat) (fp : List Nat) (s : St) (ga gd gl : Int) (w : World) (hG : Gb ga gd gl) (h : DAt w g fp s) : Calls Tryz.prog 71 #[.pointer (some ⟨g, 0, none⟩), gv ga gd gl] w fun e w' => e = .returned (.int .i64 (srightF s ga gd gl)) ∧ Below w.heap.size w w' := by
  have F := Blk.new w (gcell ga gd gl) 23
  have b0 := b1alloc w (.cells (gcell ga gd gl).toArray 23)
  obtain ⟨z0, z1, z2⟩ := gthree F
  have HR := Lib.hid (fun W => Geom.right_any ga gd gl W hG.a0 hG.a1 hG.d0 hG.d1 hG.g0 hG.g1)
  have HZ := Lib.hid (fun W => Geom.size_any ga gd gl W hG.a0 hG.a1 hG.d0 hG.d1 hG.g0 hG.g1)
  have HD := Lib.hid (fun W (bW : Below w.heap.size w W) => Disk.size_any g fp s W (h.on bW))
  unfold srightF
  obtain ⟨q, hq⟩ : ∃ q, q = right ga gd gl := ⟨_, rfl⟩
  obtain ⟨z, hz⟩ : ∃ z, z = Geom.sizeOf ga gd gl := ⟨_, rfl⟩
  rw [← hq] at HR ⊢
  rw [← hz] at HZ ⊢
  clear hq hz
  cases q with
  | false =>
    rw [if_neg (by simp)]
    go_enter Tryz.func71, Tryz.ntmps71
    go_wp2_with fail
    refine region_inb (by kernel_rfl) (by kernel_rfl) ?_
    have inbNe := InB.some
    have inbW := @wrap_small
    have inbU := IntKind.wrap_u8'
    repeat (refine wpQuiet_step (fun K hK => ?_); go_simp; first | (refine hK _ ?_; clear hK K) | (apply Exists.intro; refine ⟨?_, hK _ ?_⟩; (· (intro w' hw'; first | (go_at_call 67; refine (HR.out _).mono ?_; rintro e w1 ⟨rfl, b1⟩; exact ⟨rfl, hw'.on b1⟩) | (have hcw := hw'.cell; go_simp; exact rfl))); clear hK K))
    refine wpQuiet_nil ?_
    intro wq hq
    clear inbNe inbW inbU
    go_wp2
    go_ret
    exact ⟨rfl, bt b0 hq.below⟩
  | true =>
    by_cases hs : (s.size : Int) = z
    · rw [if_pos ⟨rfl, hs⟩]
      have t0 := bne_no hs
      have Hs := Lib.hid hs
      clear hs
      go_enter Tryz.func71, Tryz.ntmps71
      go_wp2_with fail
      refine region_inb (by kernel_rfl) (by kernel_rfl) ?_
      have inbNe := InB.some
      have inbW := @wrap_small
      have inbU := IntKind.wrap_u8'
      repeat (refine wpQuiet_step (fun K hK => ?_); go_simp; first | (refine hK _ ?_; clear hK K) | (apply Exists.intro; refine ⟨?_, hK _ ?_⟩; (· (intro w' hw'; first | (go_at_call 67; refine (HR.out _).mono ?_; rintro e w1 ⟨rfl, b1⟩; exact ⟨rfl, hw'.on b1⟩) | (go_at_call 68; refine (HD.out _ (bt b0 hw'.below)).mono ?_; rintro e w1 ⟨rfl, rfl⟩; exact ⟨rfl, hw'⟩) | (go_at_call 69; refine (HZ.out _).mono ?_; rintro e w1 ⟨rfl, b1⟩; exact ⟨rfl, hw'.on b1⟩) | (have hcw := hw'.cell; go_simp; exact rfl))); clear hK K))
      refine wpQuiet_nil ?_
      intro wq hq
      clear inbNe inbW inbU
      go_wp2
      go_ret
      exact ⟨rfl, bt b0 hq.below⟩
    · rw [if_neg (fun e => hs e.2)]
      have t0 := bne_yes hs
      have Hs := Lib.hid hs
      clear hs
      go_enter Tryz.func71, Tryz.ntmps71
      go_wp2_with fail
      refine region_inb (by kernel_rfl) (by kernel_rfl) ?_
      have inbNe := InB.some
      have inbW := @wrap_small
      have inbU := IntKind.wrap_u8'
      repeat (refine wpQuiet_step (fun K hK => ?_); go_simp; first | (refine hK _ ?_; clear hK K) | (apply Exists.intro; refine ⟨?_, hK _ ?_⟩; (· (intro w' hw'; first | (go_at_call 67; refine (HR.out _).mono ?_; rintro e w1 ⟨rfl, b1⟩; exact ⟨rfl, hw'.on b1⟩) | (go_at_call 68; refine (HD.out _ (bt b0 hw'.below)).mono ?_; rintro e w1 ⟨rfl, rfl⟩; exact ⟨rfl, hw'⟩) | (go_at_call 69; refine (HZ.out _).mono ?_; rintro e w1 ⟨rfl, b1⟩; exact ⟨rfl, hw'.on b1⟩) | (have hcw := hw'.cell; go_simp; exact rfl))); clear hK K))
      refine wpQuiet_nil ?_
      intro wq hq
      clear inbNe inbW inbU
      go_wp2
      go_ret
      exact ⟨rfl, bt b0 hq.below⟩
theorem both_any (g : Nat) (fp : List Nat) (s : St) (gS : Nat) (ga gd gl : Int) (w : World) (hG : Gb ga gd gl) (h : DAt w g fp s) : Calls Tryz.prog 87 #[.pointer (some ⟨g, 0, none⟩), .pointer (some ⟨gS, 0, none⟩), gv ga gd gl] w fun e w' => e = .returned (.int .i64 (srightF s ga gd gl)) ∧ Below w.heap.size w w' := by
  obtain ⟨z0, z1, z2⟩ := gthree (Blk.new w (gcell ga gd gl) 23)
  have b0 := b1alloc w (.cells (gcell ga gd gl).toArray 23)
  go_enter Tryz.func87, Tryz.ntmps87
  go_wp2_with (go_at_call 71; refine (right_any g fp s _ _ _ _ hG (h.on b0)).mono ?_; rintro e w' ⟨rfl, b1⟩)
  go_ret
  exact ⟨rfl, bt b0 b1⟩
/-- the mark of a geometry -/
def mk (ga gd gl : Int) : List UInt8 := if right ga gd gl = true then [UInt8.ofNat ga.toNat, UInt8.ofNat gd.toNat, UInt8.ofNat gl.toNat] else []
theorem mark_any (ga gd gl : Int) (w : World) (hG : Gb ga gd gl) : Calls Tryz.prog 106 #[gv ga gd gl] w (RetB 5 w (mk ga gd gl)) := by
  obtain ⟨z0, z1, z2⟩ := gthree (Blk.new w (gcell ga gd gl) 23)
  have b0 := b1alloc w (.cells (gcell ga gd gl).toArray 23)
  have HR := Lib.hid (fun W => Geom.right_any ga gd gl W hG.a0 hG.a1 hG.d0 hG.d1 hG.g0 hG.g1)
  unfold mk
  cases hq : right ga gd gl with
  | false =>
    rw [hq] at HR
    rw [if_neg (by simp)]
    go_enter Tryz.func106, Tryz.ntmps106
    go_wp2_with (go_at_call 67; refine (HR.out _).mono ?_; rintro e w' ⟨rfl, b1⟩)
    go_ret
    exact RetB.mk (own_nil _ _ _ _) rfl (bt b0 b1)
  | true =>
    rw [hq] at HR
    rw [if_pos rfl]
    have hy := Geom.right_yes hq
    obtain ⟨x, hx⟩ : ∃ x, x = UInt8.ofNat ga.toNat := ⟨_, rfl⟩
    obtain ⟨y, hY⟩ : ∃ x, x = UInt8.ofNat gd.toNat := ⟨_, rfl⟩
    obtain ⟨z, hz⟩ : ∃ x, x = UInt8.ofNat gl.toNat := ⟨_, rfl⟩
    have w1 : IntKind.u8.wrap ga = (x.toNat : Int) := by rw [hx, IntKind.wrap_u8', UInt8.toNat_ofNat']; omega
    have w2 : IntKind.u8.wrap gd = (y.toNat : Int) := by rw [hY, IntKind.wrap_u8', UInt8.toNat_ofNat']; omega
    have w3 : IntKind.u8.wrap gl = (z.toNat : Int) := by rw [hz, IntKind.wrap_u8', UInt8.toNat_ofNat']; omega
    rw [← hx, ← hY, ← hz]
    clear hx hY hz
    have F := Lib.hid (Blk.new w (gcell ga gd gl) 23)
    go_enter Tryz.func106, Tryz.ntmps106
    go_wp2_with (go_at_call 67; refine (HR.out _).mono ?_; rintro e w4 ⟨rfl, b1⟩; obtain ⟨y0, y1, y2⟩ := gthree (F.out.on b1))
    go_ret
    have hl := own_lit w4 5 #[e8 x, e8 y, e8 z] w.heap.size 3 (bt b0 b1).size rfl (by unfold maxLen; omega)
    exact RetB.mk hl rfl (bt (bt b0 b1) (b1alloc _ _))
end Go.Proofs.YtchcmklelmlbgaaGreat.Sup

/- The supers: super.Write and Clear and what they come to. -/
namespace Go.Proofs.YtchcmklelmlbgaaGreat.Sup
open Go.RowKit
open Go.Proofs.YtchcmklelmlbgaaGreat.Geom
open Go.Proofs.YtchcmklelmlbgaaGreat.Disk (St DAt Did write_any flush_any read_any New8 Told8)
open Go.Proofs.YtchcmklelmlbgaaGreat.Sec (X SymAt text sumOf sumAfter ckS blankB rightF encode_sym decode_sym isBlank_any right_0 right_2 xv RetX X0 five5x)
set_option linter.unusedVariables false
set_option maxRecDepth 100000
def sx (ga gd gl : Int) (life : UInt64) (base : Int) (gen : UInt64) : X := ⟨2, life, base, gen, mk ga gd gl⟩
def splace (life : UInt64) : Int := 2 + (life.toNat : Int) % 2
theorem splace_ok (life : UInt64) : 2 ≤ splace life ∧ splace life ≤ 3 := by unfold splace; omega
theorem mk_len (ga gd gl : Int) : (mk ga gd gl).length ≤ 3 := by unfold mk; split <;> simp
theorem sx_right {ga gd gl : Int} {life : UInt64} {base : Int} {gen : UInt64} (h0 : 0 ≤ base) (h1 : base ≤ 1073741824) : rightF (splace life) (sx ga gd gl life base gen) = 0 := by
  have hp := splace_ok life
  have := mk_len ga gd gl
  exact right_0 (by unfold sx; simp only []; omega) (by unfold sx; simp only []; omega)
/-- bytes at a place, flushed -/
def wf (s : St) (p : Int) (b : List UInt8) : St × Int := if (Disk.write s p b).2 = 0 then Disk.flush (Disk.write s p b).1 else Disk.write s p b
theorem wf_sz (s : St) (p : Int) (b : List UInt8) : (wf s p b).1.sz ≤ s.sz + 3 := by
  unfold wf
  have h1 := Disk.sz_write s p b
  split
  · have h2 := Disk.sz_flush (Disk.write s p b).1
    omega
  · omega
def sB (l : List (List UInt8)) (ga gd gl : Int) (life : UInt64) (base : Int) (gen : UInt64) : List UInt8 := text (splace life) (sx ga gd gl life base gen) ++ sumOf l (text (splace life) (sx ga gd gl life base gen))
def sL (l : List (List UInt8)) (ga gd gl : Int) (life : UInt64) (base : Int) (gen : UInt64) : List (List UInt8) := sumAfter l (text (splace life) (sx ga gd gl life base gen))
theorem sB_len (l : List (List UInt8)) (ga gd gl : Int) (life : UInt64) (base : Int) (gen : UInt64) : (sB l ga gd gl life base gen).length = 512 := by unfold sB; rw [List.length_append, Sec.text_len, Sec.sumOf_len]
abbrev sv (life : UInt64) (base : Int) (gen : UInt64) : Value := .agg #[.int .u64 (life.toNat : Int), .int .i64 base, .int .u64 (gen.toNat : Int)]
abbrev scell (life : UInt64) (base : Int) (gen : UInt64) : List Value := [.int .u64 (life.toNat : Int), .int .i64 base, .int .u64 (gen.toNat : Int)]
set_option maxHeartbeats 2000000 in
theorem write_any (g : Nat) (fp : List Nat) (s : St) (gS bS : Nat) (l : List (List UInt8)) (ga gd gl : Int) (life : UInt64) (base : Int) (gen : UInt64) (w : World) (hG : Gb ga gd gl) (h : Both w g fp s gS bS l) (hl : l.length ≤ 1000000) (hs : s.sz ≤ 90000000) (hf : srightF s ga gd gl = 0) (h0 : 0 ≤ base) (h1 : base ≤ 1073741824) :
    Calls Tryz.prog 80 #[.pointer (some ⟨g, 0, none⟩), .pointer (some ⟨gS, 0, none⟩), gv ga gd gl, sv life base gen] w fun e w' => e = .returned (.int .i64 (wf s (splace life) (sB l ga gd gl life base gen)).2) ∧ Turn w g fp gS bS (wf s (splace life) (sB l ga gd gl life base gen)).1 (sL l ga gd gl life base gen) w' := by
  have FG : Blk ((w.alloc (.cells (gcell ga gd gl).toArray 23)).alloc (.cells (scell life base gen).toArray 90)) w.heap.size (gcell ga gd gl) := (Blk.new w (gcell ga gd gl) 23).alloc (.cells (scell life base gen).toArray 90)
  have FX : Blk ((w.alloc (.cells (gcell ga gd gl).toArray 23)).alloc (.cells (scell life base gen).toArray 90)) (w.heap.size + 1) (scell life base gen) := by simpa using Blk.new (w.alloc (.cells (gcell ga gd gl).toArray 23)) (scell life base gen) 90
  have b0 := b2alloc w (.cells (gcell ga gd gl).toArray 23) (.cells (scell life base gen).toArray 90)
  obtain ⟨z0, z1, z2⟩ := gthree FG
  have HB := Lib.hid (both_any g fp s gS ga gd gl _ hG (h.disk.on b0))
  rw [hf] at HB
  have HS := Lib.hid (fun W => super_any life _ (by rfl) W)
  have HM := Lib.hid (fun W => mark_any ga gd gl W hG)
  have hE := fun A c W hb hr => encode_sym (splace life) gS bS l (sx ga gd gl life base gen) A c W hb hl hr (sx_right h0 h1)
  have hW := fun A c W hD hr => Disk.write_any g fp s (splace life) A 512 c (sB l ga gd gl life base gen) W hD (by omega) (sB_len l ga gd gl life base gen).symm hr
  have z3 := Disk.sz_write s (splace life) (sB l ga gd gl life base gen)
  have hF := fun fp1 W hD hsz => flush_any g fp1 (Disk.write s (splace life) (sB l ga gd gl life base gen)).1 W hD hsz
  have hwf : wf s (splace life) (sB l ga gd gl life base gen) = if (Disk.write s (splace life) (sB l ga gd gl life base gen)).2 = 0 then Disk.flush (Disk.write s (splace life) (sB l ga gd gl life base gen)).1 else Disk.write s (splace life) (sB l ga gd gl life base gen) := rfl
  rw [show text (splace life) (sx ga gd gl life base gen) ++ sumOf l (text (splace life) (sx ga gd gl life base gen)) = sB l ga gd gl life base gen from rfl, show sumAfter l (text (splace life) (sx ga gd gl life base gen)) = sL l ga gd gl life base gen from rfl] at hE
  rw [show splace life = 2 + (life.toNat : Int) % 2 from rfl] at hE hW
  have hE' : ∀ A c W, SymAt W gS bS l → Rd W W.heap.size A ((mk ga gd gl).map e8) → Calls Tryz.prog 105 #[.pointer (some ⟨gS, 0, none⟩), .int .i64 (2 + (life.toNat : Int) % 2), .agg #[.int .i64 2, .int .u64 (life.toNat : Int), .int .i64 base, .int .u64 (gen.toNat : Int), .slice A (mk ga gd gl).length c]] W _ := fun A c W hb hr => hE A c W hb hr
  obtain ⟨R, hR⟩ : ∃ R, R = wf s (splace life) (sB l ga gd gl life base gen) := ⟨_, rfl⟩
  obtain ⟨V, hV⟩ : ∃ V, V = Disk.write s (splace life) (sB l ga gd gl life base gen) := ⟨_, rfl⟩
  rw [← hR, ← hV] at hwf
  rw [← hV] at hF z3
  rw [show (2 : Int) + (life.toNat : Int) % 2 = splace life from rfl] at hW
  rw [← hV] at hW
  rw [← hR]
  obtain ⟨bb, hbb⟩ : ∃ bb, bb = sB l ga gd gl life base gen := ⟨_, rfl⟩
  obtain ⟨l', hl'⟩ : ∃ bb, bb = sL l ga gd gl life base gen := ⟨_, rfl⟩
  rw [← hbb] at hE' hW
  rw [← hl'] at hE' ⊢
  rw [show splace life = 2 + (life.toNat : Int) % 2 from rfl] at hW
  obtain ⟨M, hM⟩ : ∃ M, M = mk ga gd gl := ⟨_, rfl⟩
  rw [← hM] at hE' HM
  have HE := Lib.hid hE'
  have HW := Lib.hid hW
  have HF := Lib.hid hF
  have FGh := Lib.hid FG
  have FXh := Lib.hid FX
  clear hE hE' hW hF hR hV hbb hl' hM FG FX
  have nG : w.heap.size ∉ [bS] := by have := h.sym.lt.2; rw [List.mem_singleton]; omega
  have nX : w.heap.size + 1 ∉ [bS] := by have := h.sym.lt.2; rw [List.mem_singleton]; omega
  by_cases hv : V.2 = 0
  · rw [if_pos hv] at hwf
    have tv := bne_no hv
    have Hwf := Lib.hid hwf
    clear hwf
    go_enter Tryz.func80, Tryz.ntmps80
    go_wp2_with (first
      | (go_at_call 87; refine HB.out.mono ?_; rintro e w1 ⟨rfl, b1⟩; have FX1 := FXh.out.on b1; have FG1 := FGh.out.on b1; obtain ⟨x0, x1, x2⟩ := gthree FX1; obtain ⟨y0, y1, y2⟩ := gthree FG1)
      | (go_at_call 99; refine (HS.out _).mono ?_; rintro e w2 ⟨rfl, rfl⟩))
    have bz : Below w1.heap.size w1 w1.drew := (Below.refl _ _).drew
    have H1 := h.on (bt b0 b1)
    go_region_held3 (fun w' => (w'.cell? ⟨w.heap.size, 0, none⟩ = some (.int .i64 ga) ∧ w'.cell? ⟨w.heap.size, 1, none⟩ = some (.int .i64 gd) ∧ w'.cell? ⟨w.heap.size, 2, none⟩ = some (.int .i64 gl)) ∧ (w'.cell? ⟨w.heap.size + 1, 0, none⟩ = some (.int .u64 (life.toNat : Int)) ∧ w'.cell? ⟨w.heap.size + 1, 1, none⟩ = some (.int .i64 base) ∧ w'.cell? ⟨w.heap.size + 1, 2, none⟩ = some (.int .u64 (gen.toNat : Int)))) (first | exact ⟨gthree (FG1.on bz), gthree (FX1.on bz)⟩ | exact ⟨gthree (FG1.on c3), gthree (FX1.on c3)⟩ | exact ⟨gthree ((FG1.on c3).keepK k4 nG), gthree ((FX1.on c3).keepK k4 nX)⟩) (first
      | (go_at_call 106; refine (HM.out _).mono ?_; rintro e x3 ⟨A3, d3, rfl, own3, y3'⟩; have c3 := bt bz y3')
      | (go_at_call 105; refine (HE.out A3 d3 _ (H1.on c3).sym (Rd.own own3)).mono ?_; rintro e x4 ⟨A4, d4, rfl, own4, k4, s4⟩; have H4 := (H1.on c3).summed s4 k4))
    have K4 := keepT (fp := fp) (Keep.of_below (bt (bt b0 b1) c3) (bS :: fp)) (Fresh.refl _ _) (keepB k4)
    have hz4 := K4.size
    go_wp2_with (first
      | (go_at_call 73; refine (HW.out A4 d4 _ H4.disk (RdN.own own4 (H1.on c3).disk.lt)).mono ?_; rintro e x5 ⟨rfl, fp5, hD5, k5, f5⟩; have H5 := H4.did hD5 k5 f5)
      | (go_at_call 75; refine (HF.out fp5 _ H5.disk (by omega)).mono ?_; rintro e x6 ⟨rfl, fp6, hD6, k6, f6⟩; have H6 := H5.did hD6 k6 f6))
    go_ret
    rw [Hwf.out]
    exact ⟨rfl, fp6, H6, keepT (keepT K4 (Fresh.refl _ _) (keepF k5)) (fun j hj => (f5 j hj).imp id (fun e => by omega)) (keepF k6), (show Fresh w fp fp5 from fun j hj => (f5 j hj).imp id (fun e => by omega)).trans (by have := k5.size; omega) f6⟩
  · rw [if_neg hv] at hwf
    have tv := bne_yes hv
    have Hwf := Lib.hid hwf
    clear hwf
    go_enter Tryz.func80, Tryz.ntmps80
    go_wp2_with (first
      | (go_at_call 87; refine HB.out.mono ?_; rintro e w1 ⟨rfl, b1⟩; have FX1 := FXh.out.on b1; have FG1 := FGh.out.on b1; obtain ⟨x0, x1, x2⟩ := gthree FX1; obtain ⟨y0, y1, y2⟩ := gthree FG1)
      | (go_at_call 99; refine (HS.out _).mono ?_; rintro e w2 ⟨rfl, rfl⟩))
    have bz : Below w1.heap.size w1 w1.drew := (Below.refl _ _).drew
    have H1 := h.on (bt b0 b1)
    go_region_held3 (fun w' => (w'.cell? ⟨w.heap.size, 0, none⟩ = some (.int .i64 ga) ∧ w'.cell? ⟨w.heap.size, 1, none⟩ = some (.int .i64 gd) ∧ w'.cell? ⟨w.heap.size, 2, none⟩ = some (.int .i64 gl)) ∧ (w'.cell? ⟨w.heap.size + 1, 0, none⟩ = some (.int .u64 (life.toNat : Int)) ∧ w'.cell? ⟨w.heap.size + 1, 1, none⟩ = some (.int .i64 base) ∧ w'.cell? ⟨w.heap.size + 1, 2, none⟩ = some (.int .u64 (gen.toNat : Int)))) (first | exact ⟨gthree (FG1.on bz), gthree (FX1.on bz)⟩ | exact ⟨gthree (FG1.on c3), gthree (FX1.on c3)⟩ | exact ⟨gthree ((FG1.on c3).keepK k4 nG), gthree ((FX1.on c3).keepK k4 nX)⟩) (first
      | (go_at_call 106; refine (HM.out _).mono ?_; rintro e x3 ⟨A3, d3, rfl, own3, y3'⟩; have c3 := bt bz y3')
      | (go_at_call 105; refine (HE.out A3 d3 _ (H1.on c3).sym (Rd.own own3)).mono ?_; rintro e x4 ⟨A4, d4, rfl, own4, k4, s4⟩; have H4 := (H1.on c3).summed s4 k4))
    have K4 := keepT (fp := fp) (Keep.of_below (bt (bt b0 b1) c3) (bS :: fp)) (Fresh.refl _ _) (keepB k4)
    have hz4 := K4.size
    go_wp2_with (first
      | (go_at_call 73; refine (HW.out A4 d4 _ H4.disk (RdN.own own4 (H1.on c3).disk.lt)).mono ?_; rintro e x5 ⟨rfl, fp5, hD5, k5, f5⟩; have H5 := H4.did hD5 k5 f5))
    go_ret
    rw [Hwf.out]
    exact ⟨rfl, fp5, H5, keepT K4 (Fresh.refl _ _) (keepF k5), fun j hj => (f5 j hj).imp id (fun e => by omega)⟩
/-- both places blank, flushed -/
def clr (s : St) : St × Int :=
  if (Disk.write s 2 Disk.zero512).2 = 0 then (if (Disk.write (Disk.write s 2 Disk.zero512).1 3 Disk.zero512).2 = 0 then Disk.flush (Disk.write (Disk.write s 2 Disk.zero512).1 3 Disk.zero512).1 else Disk.write (Disk.write s 2 Disk.zero512).1 3 Disk.zero512)
  else Disk.write s 2 Disk.zero512
set_option maxHeartbeats 2000000 in
theorem clear_any (g : Nat) (fp : List Nat) (s : St) (ga gd gl : Int) (w : World) (hG : Gb ga gd gl) (h : DAt w g fp s) (hs : s.sz ≤ 90000000) (hf : srightF s ga gd gl = 0) :
    Calls Tryz.prog 40 #[.pointer (some ⟨g, 0, none⟩), gv ga gd gl] w (Did w g fp (clr s)) := by
  have b0 := b1alloc w (.cells (gcell ga gd gl).toArray 23)
  obtain ⟨z0, z1, z2⟩ := gthree (Blk.new w (gcell ga gd gl) 23)
  have HR := Lib.hid (right_any g fp s ga gd gl _ hG (h.on b0))
  rw [hf] at HR
  have HP := Lib.hid (fun W => places_any W)
  have hB := fun W => Sec.blank_any W
  have hW := fun fp s p A c W hD hs hr => Disk.write_any g fp s p A 512 c Disk.zero512 W hD hs Disk.zero512_len.symm hr
  have hclr : clr s = if (Disk.write s 2 Disk.zero512).2 = 0 then (if (Disk.write (Disk.write s 2 Disk.zero512).1 3 Disk.zero512).2 = 0 then Disk.flush (Disk.write (Disk.write s 2 Disk.zero512).1 3 Disk.zero512).1 else Disk.write (Disk.write s 2 Disk.zero512).1 3 Disk.zero512) else Disk.write s 2 Disk.zero512 := rfl
  have y1 := Disk.sz_write s 2 Disk.zero512
  have y2 := Disk.sz_write (Disk.write s 2 Disk.zero512).1 3 Disk.zero512
  have hW1 := fun A c W hD hr => hW fp s 2 A c W hD (by omega) hr
  have hW2 := fun fp A c W hD hr => hW fp (Disk.write s 2 Disk.zero512).1 3 A c W hD (by omega) hr
  have hF := fun fp W hD => flush_any g fp (Disk.write (Disk.write s 2 Disk.zero512).1 3 Disk.zero512).1 W hD (by omega)
  clear hW
  rw [show Sec.zero512 = Disk.zero512 from rfl] at hB
  obtain ⟨V, hV⟩ : ∃ V, V = Disk.write s 2 Disk.zero512 := ⟨_, rfl⟩
  rw [← hV] at hclr hW1 hW2 hF
  obtain ⟨U, hU⟩ : ∃ U, U = Disk.write V.1 3 Disk.zero512 := ⟨_, rfl⟩
  rw [← hU] at hclr hW2 hF
  obtain ⟨R, hR⟩ : ∃ R, R = clr s := ⟨_, rfl⟩
  rw [← hR] at hclr ⊢
  obtain ⟨z, hz⟩ : ∃ z, z = Disk.zero512 := ⟨_, rfl⟩
  have hzl : z.length = 512 := by rw [hz]; exact Disk.zero512_len
  rw [← hz] at hW1 hW2 hB
  unfold RetB at hB
  rw [hzl] at hB
  have HB := Lib.hid hB
  have HW1 := Lib.hid hW1
  have HW2 := Lib.hid hW2
  have HF := Lib.hid hF
  have Hc := Lib.hid hclr
  clear hB hW1 hW2 hF hz hzl hR hU hV y1 y2 hclr
  have i0 : ∀ W, (Instr.index 123 (.agg #[.int .i64 2, .int .i64 3]) (.int .i64 0)).run Tryz.prog W = .ok (.int .i64 2) W := fun W => by kernel_rfl
  have i1 : ∀ W, (Instr.index 123 (.agg #[.int .i64 2, .int .i64 3]) (.int .i64 1)).run Tryz.prog W = .ok (.int .i64 3) W := fun W => by kernel_rfl
  go_enter Tryz.func40, Tryz.ntmps40
  go_wp2_with (first
    | (go_at_call 71; refine (HR.out).mono ?_; rintro e w' ⟨rfl, b1⟩)
    | (go_at_call 72; refine (HP.out _).mono ?_; rintro e w2 ⟨rfl, b2⟩))
  have b3 := bt (bt b0 b1) b2
  go_loopw [16] (fun i wr => ∃ k : Nat, k ≤ 2 ∧ i = .int .i64 k ∧ ((k = 0 ∧ wr = w2) ∨ (k = 1 ∧ V.2 = 0 ∧ ∃ fp1, DAt wr g fp1 V.1 ∧ Keep fp w wr ∧ Fresh w fp fp1) ∨ (k = 2 ∧ V.2 = 0 ∧ U.2 = 0 ∧ ∃ fp1, DAt wr g fp1 U.1 ∧ Keep fp w wr ∧ Fresh w fp fp1))) (fun i _ => 2 - (intOf i).toNat)
  case atStart => exact ⟨0, by omega, rfl, .inl ⟨rfl, rfl⟩⟩
  case round =>
    obtain ⟨k, hk, rfl, hcs⟩ := hrel
    rcases hcs with ⟨rfl, rfl⟩ | ⟨rfl, h0, fp1, hD1, hK1, hF1⟩ | ⟨rfl, h0, h1, fp1, hD1, hK1, hF1⟩
    · have arm : True := trivial
      by_cases h0 : V.2 = 0
      · have t0 := bne_no h0
        go_wp2_with (first
          | (go_at_call 74; refine (HB.out _).mono ?_; rintro e w4 ⟨A4, c4, rfl, own4, b4⟩)
          | (go_at_call 73; refine (HW1.out A4 c4 _ (h.on (bt b3 b4)) (RdN.own own4 (h.on b3).lt)).mono ?_; rintro e w5 ⟨rfl, fp5, hD5, k5, f5⟩))
        case roundEnd => exact ⟨⟨1, by omega, rfl, .inr (.inl ⟨rfl, h0, fp5, hD5, k5.of_below5 (bt b3 b4), f5.of_size (bt b3 b4)⟩)⟩, by simp [intOf]⟩
      · have t0 := bne_yes h0
        go_wp2_with (first
          | (go_at_call 74; refine (HB.out _).mono ?_; rintro e w4 ⟨A4, c4, rfl, own4, b4⟩)
          | (go_at_call 73; refine (HW1.out A4 c4 _ (h.on (bt b3 b4)) (RdN.own own4 (h.on b3).lt)).mono ?_; rintro e w5 ⟨rfl, fp5, hD5, k5, f5⟩))
        go_ret
        rw [Hc.out, if_neg h0]
        exact ⟨rfl, fp5, hD5, k5.of_below5 (bt b3 b4), f5.of_size (bt b3 b4)⟩
    · by_cases h1 : U.2 = 0
      · have t0 := bne_no h1
        go_wp2_with (first
          | (go_at_call 74; refine (HB.out _).mono ?_; rintro e w4 ⟨A4, c4, rfl, own4, b4⟩)
          | (go_at_call 73; refine (HW2.out fp1 A4 c4 _ (hD1.on b4) (RdN.own own4 hD1.lt)).mono ?_; rintro e w5 ⟨rfl, fp5, hD5, k5, f5⟩))
        case roundEnd => exact ⟨⟨2, by omega, rfl, .inr (.inr ⟨rfl, h0, h1, fp5, hD5, hK1.trans (k5.of_below5 b4) hF1, hF1.trans hK1.size (f5.of_size b4)⟩)⟩, by simp [intOf]⟩
      · have t0 := bne_yes h1
        go_wp2_with (first
          | (go_at_call 74; refine (HB.out _).mono ?_; rintro e w4 ⟨A4, c4, rfl, own4, b4⟩)
          | (go_at_call 73; refine (HW2.out fp1 A4 c4 _ (hD1.on b4) (RdN.own own4 hD1.lt)).mono ?_; rintro e w5 ⟨rfl, fp5, hD5, k5, f5⟩))
        go_ret
        rw [Hc.out, if_pos h0, if_neg h1]
        exact ⟨rfl, fp5, hD5, hK1.trans (k5.of_below5 b4) hF1, hF1.trans hK1.size (f5.of_size b4)⟩
    · go_wp2_with (first
          | (go_at_call 75; refine (HF.out fp1 _ hD1).mono ?_; rintro e w5 ⟨rfl, fp5, hD5, k5, f5⟩))
      go_ret
      rw [Hc.out, if_pos h0, if_pos h1]
      exact ⟨rfl, fp5, hD5, hK1.trans k5 hF1, hF1.trans hK1.size f5⟩
end Go.Proofs.YtchcmklelmlbgaaGreat.Sup

/- The arguments of a law, opened: slices of bytes and of numbers as lists; numbers as words. -/
namespace Go.Proofs.YtchcmklelmlbgaaGreat
open Go.ChangeShapes Go.WideShapes Go.ChangeAt Go.RowKit Go.Joins
open Go.ChangeMaps (open_string shut_string)
set_option linter.unusedVariables false

theorem own : ownKnob Tryz.prog.godebug = none := by kernel_rfl
theorem laidOut : laidOutB Tryz.prog = true := by kernel_rfl
theorem rd_row {w : World} {k : IntKind} {x : Addr} {len cap : Nat} {zs : List Int} (hl : len ≤ cap) (hz : zs.length = cap) (hc : ∀ i, i < zs.length → w.cell? (x.add i) = some (.int k (zs.getD i 0))) :
    Rd w w.heap.size (some x) ((zs.take len).map (Value.int k)) := by
  intro hne
  have hlen : 0 < len := by
    rcases Nat.eq_zero_or_pos len with h | h
    · subst h; simp at hne
    · exact h
  obtain ⟨b, off, spot⟩ := x
  have h0 := hc 0 (by omega)
  have hspot : spot = none := by simpa [Addr.add] using World.cell?_spot h0
  subst hspot
  refine ⟨b, off, rfl, ?_, fun i hi => ?_⟩
  · have h0' : w.cell? ⟨b, off, none⟩ ≠ none := by
      have : (⟨b, off, none⟩ : Addr).add 0 = ⟨b, off, none⟩ := by simp [Addr.add]
      rw [this] at h0; rw [h0]; simp
    rcases Nat.lt_or_ge b w.heap.size with h | h
    · exact h
    · exact absurd (by simp [World.cell?, Array.getElem?_eq_none h]) h0'
  · have hi' : i < len := by simpa [hz, Nat.min_eq_left hl] using hi
    have := hc i (by omega)
    rw [Addr.add_lit] at this
    rw [this]
    simp [List.getD, List.getElem?_eq_getElem (show i < zs.length by omega)]
theorem bytes_of {w : World} {A : Option Addr} {len cap : Nat} {E : Type} {P : Program} {enc : TypeId × Value → E} {t e : TypeId} {spare : Nat → Bool} {held : Bool} {fuel : Nat} {x : DataW E × List MemPlace}
    (hs : spare = fun _ => true) (ht : P.underlying t = some (.slice e)) (he : P.underlying e = some (.int .u8)) (hc : P.cellsOf e = 1) (h : DataW.trod enc P w 0 spare held fuel t (Value.slice A len cap).cells.toList = some x) :
    ∃ l : List UInt8, l.length = len ∧ Rd w w.heap.size A (l.map e8) ∧ len ≤ cap ∧ cap ≤ maxLen := by
  subst hs
  rcases open_ints ht he hc h with ⟨hcs, _⟩ | ⟨x, l, c, zs, hcs, _, hl, hm, hz, _, hcell, hwz⟩
  · simp [Value.cells] at hcs
    obtain ⟨rfl, rfl, rfl⟩ := hcs
    exact ⟨[], rfl, Rd.nil _ _ _, by omega, by unfold maxLen; omega⟩
  · simp [Value.cells] at hcs
    obtain ⟨rfl, rfl, rfl⟩ := hcs
    obtain ⟨l, rfl⟩ := list8 zs hwz
    have hz' : l.length = cap := by simpa using hz
    refine ⟨l.take len, by simp; omega, ?_, hl, hm⟩
    have := rd_row (len := len) hl (by simpa using hz') hcell
    simpa [List.map_take, Function.comp_def] using this
section
end
theorem wf64 {n : Int} (h : (Lit.int .u64 n).wf = true) : ∃ x : UInt64, n = (x.toNat : Int) := by
  simp [Lit.wf, IntKind.min, IntKind.max, IntKind.signed, IntKind.bits] at h; exact to64 n (by omega) (by omega)
theorem wfi {n : Int} (h : (Lit.int .i64 n).wf = true) : -9223372036854775808 ≤ n ∧ n ≤ 9223372036854775807 := by
  simp [Lit.wf, IntKind.min, IntKind.max, IntKind.signed, IntKind.bits] at h; omega
theorem places_lt {H : Type} {enc : TypeId × Value → H} {P : Program} {W : World} {t : TypeId} {v : Value} {d : DataW H} {p : List MemPlace} (k : DataW.Trod enc P W 0 (fun _ => true) true t v d p) : ∀ x ∈ p, x.block < W.heap.size := by
  obtain ⟨m, hm⟩ := k; exact DataW.trod_lt m _ _ _ hm
section
open Go.Deep
variable {H : Type} {enc : TypeId × Value → H} {P : Program} {w : World} {base : Nat} {spare : Nat → Bool} {held : Bool}
/-- a slice of structs of one-cell fields -/
theorem open_slice_fields {t e : TypeId} {fs : Array Field} {fuel : Nat} {cs : List Value} {x : DataW H × List MemPlace} (ht : P.underlying t = some (.slice e)) (he : P.underlying e = some (.struct fs))
    (hone : oneCellFields P fs = true) (hC : P.cellsOf e = fs.size) (h : DataW.trod enc P w base spare held fuel t cs = some x) :
    cs = [.slice none 0 0] ∨ ∃ (a : Addr) (len cap m : Nat), cs = [.slice (some a) len cap] ∧ base ≤ a.block ∧ len ≤ cap ∧ cap ≤ maxLen ∧ m = (if spare a.block then cap else len) ∧
      ∀ i, i < m → ∃ (ys : List (DataW H × List MemPlace)) (n : Nat), 
        ∀ (j : Nat) (f : Field), fs[j]? = some f → ∃ (v : Value) (y : DataW H × List MemPlace), w.cell? (a.add (i * fs.size + j)) = some v ∧ ys[j]? = some y ∧ DataW.trod enc P w base spare held n f.type [v] = some y := by
  rcases open_slice ht h with h0 | ⟨a, len, cap, m, n, D, Pl, hcs, hb, hl, hm, hmm, hx, hi⟩
  · exact .inl h0.1
  · refine .inr ⟨a, len, cap, m, hcs, hb, hl, hm, hmm, fun i him => ?_⟩
    obtain ⟨cs', hc, ht'⟩ := hi i him
    rw [hC] at hc
    obtain ⟨ys, n', hn', hy, hlen, hyl, hf⟩ := DataW.trod_struct he ht'
    obtain ⟨_, hcl, hat⟩ := World.cells?_some hc
    refine ⟨ys, n', fun j f hj => ?_⟩
    obtain ⟨ho, hk⟩ := hone_of hone j f hj
    have hjl : j < fs.size := (Array.getElem?_eq_some_iff.1 hj).1
    have hcell := hat j hjl
    have hv : cs'[j]? = some (cs'[j]'(by omega)) := List.getElem?_eq_getElem (by omega)
    have h1 := hf j f hj
    rw [ho, hk] at h1
    have hone' : (cs'.drop j).take 1 = [cs'[j]'(by omega)] := by
      rw [List.drop_eq_getElem_cons (by omega)]
      rfl
    rw [hone'] at h1
    have hys : ys[j]? = some (ys[j]'(by omega)) := List.getElem?_eq_getElem (by omega)
    refine ⟨_, _, ?_, hys, h1.trans hys⟩
    rw [← Go.Deep.add_add, hcell, hv]
theorem bytes_of1 {E : Type} {enc : TypeId × Value → E} {t e : TypeId} {fuel : Nat} {v : Value} {yy : DataW E × List MemPlace}
    (ht : P.underlying t = some (.slice e)) (he : P.underlying e = some (.int .u8)) (hc : P.cellsOf e = 1) (h : DataW.trod enc P w 0 (fun _ => true) held fuel t [v] = some yy) :
    ∃ (A : Option Addr) (l : List UInt8) (c : Nat), v = .slice A l.length c ∧ Rd w w.heap.size A (l.map e8) ∧ l.length ≤ c ∧ c ≤ maxLen := by
  have h0 := h
  rcases open_ints ht he hc h with ⟨hcs, _⟩ | ⟨x, l, c, zs, hcs, _, hl, hm, hz, _, hcell, hwz⟩
  · simp only [List.cons.injEq, and_true] at hcs
    exact ⟨none, [], 0, hcs, Rd.nil _ _ _, by simp, by unfold maxLen; omega⟩
  · simp only [List.cons.injEq, and_true] at hcs
    subst hcs
    obtain ⟨A, hA⟩ : ∃ A, A = some x := ⟨_, rfl⟩
    have h' : DataW.trod enc P w 0 (fun _ => true) held fuel t (Value.slice A l c).cells.toList = some yy := by rw [hA]; exact h0
    obtain ⟨ll, h1, h2, h3, h4⟩ := bytes_of rfl ht he hc h'
    subst h1
    exact ⟨A, ll, c, by rw [hA], h2, h3, h4⟩
theorem choose_list {α : Type} {n : Nat} {p : Nat → α → Prop} (h : ∀ i, i < n → ∃ a, p i a) : ∃ l : List α, l.length = n ∧ ∀ i (hi : i < l.length), p i l[i] := by
  induction n with
  | zero => exact ⟨[], rfl, fun i hi => absurd hi (by simp)⟩
  | succ n ih =>
    obtain ⟨l, hl, hp⟩ := ih fun i hi => h i (by omega)
    obtain ⟨a, ha⟩ := h n (by omega)
    refine ⟨l ++ [a], by simp [hl], fun i hi => ?_⟩
    rw [List.getElem_append]
    by_cases e : i < l.length
    · rw [dif_pos e]; exact hp i e
    · rw [dif_neg e]
      have : i = n := by simp at hi; omega
      subst this
      simpa using ha
end
end Go.Proofs.YtchcmklelmlbgaaGreat

/- Rows of bytes ([][]byte): how they read, and how they come in as an argument. -/
namespace Go.Proofs.YtchcmklelmlbgaaGreat
open Go.RowKit
set_option linter.unusedVariables false
/-- a slice of slices of bytes that reads as a list of rows -/
def Rws (w : World) (B : Nat) (A : Option Addr) (l : List (List UInt8)) : Prop :=
  l ≠ [] → ∃ b off, A = some ⟨b, off, none⟩ ∧ b < B ∧ ∀ i (h : i < l.length), ∃ Ai ci, w.cell? ⟨b, off + i, none⟩ = some (.slice Ai l[i].length ci) ∧ Rd w B Ai (l[i].map e8) ∧ l[i].length ≤ ci ∧ ci ≤ maxLen
theorem Rws.nil (w : World) (B : Nat) (A : Option Addr) : Rws w B A [] := fun h => absurd rfl h
theorem Rws.get {w : World} {B : Nat} {A : Option Addr} {l : List (List UInt8)} (h : Rws w B A l) {i : Nat} (hi : i < l.length) :
    ∃ b off Ai ci, A = some ⟨b, off, none⟩ ∧ b < B ∧ w.cell? ⟨b, off + i, none⟩ = some (.slice Ai l[i].length ci) ∧ Rd w B Ai (l[i].map e8) ∧ l[i].length ≤ ci ∧ ci ≤ maxLen := by
  obtain ⟨b, off, rfl, hb, hc⟩ := h (by intro e; rw [e] at hi; exact absurd hi (by simp))
  obtain ⟨Ai, ci, h1⟩ := hc i hi
  exact ⟨b, off, Ai, ci, rfl, hb, h1⟩
theorem Rws.below {w w' : World} {B : Nat} {A : Option Addr} {l : List (List UInt8)} (h : Rws w B A l) (hb : Below B w w') : Rws w' B A l := by
  intro hne
  obtain ⟨b, off, rfl, hlt, hc⟩ := h hne
  refine ⟨b, off, rfl, hlt, fun i hi => ?_⟩
  obtain ⟨Ai, ci, h1, h2, h3⟩ := hc i hi
  exact ⟨Ai, ci, (hb.cell (p := ⟨b, off + i, none⟩) hlt).trans h1, h2.below hb, h3⟩
theorem Rws.more {w : World} {B B' : Nat} {A : Option Addr} {l : List (List UInt8)} (h : Rws w B A l) (hB : B ≤ B') : Rws w B' A l := by
  intro hne
  obtain ⟨b, off, rfl, hlt, hc⟩ := h hne
  refine ⟨b, off, rfl, by omega, fun i hi => ?_⟩
  obtain ⟨Ai, ci, h1, h2, h3⟩ := hc i hi
  exact ⟨Ai, ci, h1, h2.more hB, h3⟩
theorem Rws.on {w w' : World} {A : Option Addr} {l : List (List UInt8)} (h : Rws w w.heap.size A l) (hb : Below w.heap.size w w') : Rws w' w'.heap.size A l := (h.below hb).more hb.size
open Go.ChangeShapes Go.WideShapes Go.ChangeAt Go.Joins Go.Deep
set_option maxRecDepth 100000
end Go.Proofs.YtchcmklelmlbgaaGreat

/- The pages of a life: which disk is right, the bound of a page, a page that is put. -/
namespace Go.Proofs.YtchcmklelmlbgaaGreat.Snap
open Go.RowKit
open Go.Proofs.YtchcmklelmlbgaaGreat.Geom
open Go.Proofs.YtchcmklelmlbgaaGreat.Sup (Gb gv gcell srightF)
open Go.Proofs.YtchcmklelmlbgaaGreat.Disk (St DAt Did New8 Told8)
open Go.Proofs.YtchcmklelmlbgaaGreat.Sec (X SymAt text sumOf sumAfter ckS blankB rightF encode_sym decode_sym right_0 right_2 xv RetX X0 five5x)
set_option linter.unusedVariables false
set_option maxRecDepth 100000
abbrev acell (d s : Value) (ga gd gl : Int) (life : UInt64) : List Value := [d, s, .int .i64 ga, .int .i64 gd, .int .i64 gl, .int .u64 (life.toNat : Int)]
abbrev av (d s : Value) (ga gd gl : Int) (life : UInt64) : Value := .agg #[d, s, .int .i64 ga, .int .i64 gd, .int .i64 gl, .int .u64 (life.toNat : Int)]
theorem six6 {w : World} {g : Nat} {v0 v1 v2 v3 v4 v5 : Value} (h : Blk w g [v0, v1, v2, v3, v4, v5]) : w.cell? ⟨g, 0, none⟩ = some v0 ∧ w.cell? ⟨g, 1, none⟩ = some v1 ∧ w.cell? ⟨g, 2, none⟩ = some v2 ∧ w.cell? ⟨g, 3, none⟩ = some v3 ∧ w.cell? ⟨g, 4, none⟩ = some v4 ∧ w.cell? ⟨g, 5, none⟩ = some v5 :=
  ⟨h.cell (k := 0) (by simp), h.cell (k := 1) (by simp), h.cell (k := 2) (by simp), h.cell (k := 3) (by simp), h.cell (k := 4) (by simp), h.cell (k := 5) (by simp)⟩
set_option maxHeartbeats 1000000 in
theorem right_any (g : Nat) (fp : List Nat) (s : St) (gS : Nat) (ga gd gl : Int) (life : UInt64) (w : World) (hG : Gb ga gd gl) (h : DAt w g fp s) : Calls Tryz.prog 90 #[av (.pointer (some ⟨g, 0, none⟩)) (.pointer (some ⟨gS, 0, none⟩)) ga gd gl life] w fun e w' => e = .returned (.int .i64 (srightF s ga gd gl)) ∧ Below w.heap.size w w' := by
  have F := Blk.new w (acell (.pointer (some ⟨g, 0, none⟩)) (.pointer (some ⟨gS, 0, none⟩)) ga gd gl life) 143
  have b0 := b1alloc w (.cells (acell (.pointer (some ⟨g, 0, none⟩)) (.pointer (some ⟨gS, 0, none⟩)) ga gd gl life).toArray 143)
  obtain ⟨z0, z1, z2, z3, z4, z5⟩ := six6 F
  have HR := Lib.hid (fun W => Geom.right_any ga gd gl W hG.a0 hG.a1 hG.d0 hG.d1 hG.g0 hG.g1)
  have HZ := Lib.hid (fun W => Geom.size_any ga gd gl W hG.a0 hG.a1 hG.d0 hG.d1 hG.g0 hG.g1)
  have HD := Lib.hid (fun W (bW : Below w.heap.size w W) => Disk.size_any g fp s W (h.on bW))
  unfold srightF
  obtain ⟨q, hq⟩ : ∃ q, q = right ga gd gl := ⟨_, rfl⟩
  obtain ⟨z, hz⟩ : ∃ z, z = Geom.sizeOf ga gd gl := ⟨_, rfl⟩
  rw [← hq] at HR ⊢
  rw [← hz] at HZ ⊢
  clear hq hz
  cases q with
  | false =>
    rw [if_neg (by simp)]
    go_enter Tryz.func90, Tryz.ntmps90
    go_wp2_with fail
    refine region_inb (by kernel_rfl) (by kernel_rfl) ?_
    have inbNe := InB.some
    have inbW := @wrap_small
    have inbU := IntKind.wrap_u8'
    repeat (refine wpQuiet_step (fun K hK => ?_); go_simp; first | (refine hK _ ?_; clear hK K) | (apply Exists.intro; refine ⟨?_, hK _ ?_⟩; (· (intro w' hw'; first | (go_at_call 67; refine (HR.out _).mono ?_; rintro e w1 ⟨rfl, b1⟩; exact ⟨rfl, hw'.on b1⟩) | (have hcw := hw'.cell; go_simp; exact rfl))); clear hK K))
    refine wpQuiet_nil ?_
    intro wq hq
    clear inbNe inbW inbU
    go_wp2
    go_ret
    exact ⟨rfl, bt b0 hq.below⟩
  | true =>
    by_cases hs : (s.size : Int) = z
    · rw [if_pos ⟨rfl, hs⟩]
      have t0 := bne_no hs
      have Hs := Lib.hid hs
      clear hs
      go_enter Tryz.func90, Tryz.ntmps90
      go_wp2_with fail
      refine region_inb (by kernel_rfl) (by kernel_rfl) ?_
      have inbNe := InB.some
      have inbW := @wrap_small
      have inbU := IntKind.wrap_u8'
      repeat (refine wpQuiet_step (fun K hK => ?_); go_simp; first | (refine hK _ ?_; clear hK K) | (apply Exists.intro; refine ⟨?_, hK _ ?_⟩; (· (intro w' hw'; first | (go_at_call 67; refine (HR.out _).mono ?_; rintro e w1 ⟨rfl, b1⟩; exact ⟨rfl, hw'.on b1⟩) | (go_at_call 68; refine (HD.out _ (bt b0 hw'.below)).mono ?_; rintro e w1 ⟨rfl, rfl⟩; exact ⟨rfl, hw'⟩) | (go_at_call 69; refine (HZ.out _).mono ?_; rintro e w1 ⟨rfl, b1⟩; exact ⟨rfl, hw'.on b1⟩) | (have hcw := hw'.cell; go_simp; exact rfl))); clear hK K))
      refine wpQuiet_nil ?_
      intro wq hq
      clear inbNe inbW inbU
      go_wp2
      go_ret
      exact ⟨rfl, bt b0 hq.below⟩
    · rw [if_neg (fun e => hs e.2)]
      have t0 := bne_yes hs
      have Hs := Lib.hid hs
      clear hs
      go_enter Tryz.func90, Tryz.ntmps90
      go_wp2_with fail
      refine region_inb (by kernel_rfl) (by kernel_rfl) ?_
      have inbNe := InB.some
      have inbW := @wrap_small
      have inbU := IntKind.wrap_u8'
      repeat (refine wpQuiet_step (fun K hK => ?_); go_simp; first | (refine hK _ ?_; clear hK K) | (apply Exists.intro; refine ⟨?_, hK _ ?_⟩; (· (intro w' hw'; first | (go_at_call 67; refine (HR.out _).mono ?_; rintro e w1 ⟨rfl, b1⟩; exact ⟨rfl, hw'.on b1⟩) | (go_at_call 68; refine (HD.out _ (bt b0 hw'.below)).mono ?_; rintro e w1 ⟨rfl, rfl⟩; exact ⟨rfl, hw'⟩) | (go_at_call 69; refine (HZ.out _).mono ?_; rintro e w1 ⟨rfl, b1⟩; exact ⟨rfl, hw'.on b1⟩) | (have hcw := hw'.cell; go_simp; exact rfl))); clear hK K))
      refine wpQuiet_nil ?_
      intro wq hq
      clear inbNe inbW inbU
      go_wp2
      go_ret
      exact ⟨rfl, bt b0 hq.below⟩
theorem long_any (A : Option Addr) (n c : Nat) (w : World) : Calls Tryz.prog 102 #[.slice A n c] w fun e w' => e = .returned (.bool (decide (479 < n))) ∧ w = w' := by
  have hd : decide ((479 : Int) < (n : Int)) = decide (479 < n) := by
    by_cases h : 479 < n
    · rw [decide_eq_true h, decide_eq_true (by omega)]
    · rw [decide_eq_false h, decide_eq_false (by omega)]
  go_enter Tryz.func102, Tryz.ntmps102
  go_wp2
  go_ret
  exact ⟨ret_bool (by first | exact hd | simp), rfl⟩
end Go.Proofs.YtchcmklelmlbgaaGreat.Snap

/- The pages of a life: a page that is put. -/
namespace Go.Proofs.YtchcmklelmlbgaaGreat.Snap
open Go.RowKit
open Go.Proofs.YtchcmklelmlbgaaGreat.Geom
open Go.Proofs.YtchcmklelmlbgaaGreat.Sup (Gb gv gcell srightF)
open Go.Proofs.YtchcmklelmlbgaaGreat.Disk (St DAt Did New8 Told8)
open Go.Proofs.YtchcmklelmlbgaaGreat.Sec (X SymAt text sumOf sumAfter ckS blankB rightF encode_sym decode_sym right_0 right_2 xv RetX X0 five5x)
set_option linter.unusedVariables false
set_option maxRecDepth 100000
def px (life : UInt64) (n : Nat) (b : List UInt8) : X := ⟨3, life, (n : Int), 0, b⟩
def pB (l : List (List UInt8)) (p : Int) (life : UInt64) (n : Nat) (b : List UInt8) : List UInt8 := text p (px life n b) ++ sumOf l (text p (px life n b))
def pL (l : List (List UInt8)) (p : Int) (life : UInt64) (n : Nat) (b : List UInt8) : List (List UInt8) := sumAfter l (text p (px life n b))
theorem pB_len (l : List (List UInt8)) (p : Int) (life : UInt64) (n : Nat) (b : List UInt8) : (pB l p life n b).length = 512 := by unfold pB; rw [List.length_append, Sec.text_len, Sec.sumOf_len]
theorem px_right {p : Int} {life : UInt64} {n : Nat} {b : List UInt8} (h0 : 0 ≤ p) (h1 : p ≤ 1023) (hn : n ≤ 1000) (hb : b.length ≤ 479) : rightF p (px life n b) = 0 :=
  right_0 (by unfold px; simp only []; omega) (by unfold px; simp only []; omega)
set_option maxHeartbeats 2000000 in
theorem put_any (g : Nat) (fp : List Nat) (s : St) (gS bS : Nat) (l : List (List UInt8)) (ga gd gl : Int) (life : UInt64) (n : Nat) (b : List UInt8) (A : Option Addr) (c : Nat) (w : World) (hG : Gb ga gd gl) (h : Both w g fp s gS bS l) (hl : l.length ≤ 1000000) (hs : s.sz ≤ 90000000)
    (h0 : 0 ≤ areaAt ga gd gl life.toNat n) (h1 : areaAt ga gd gl life.toNat n ≤ 1023) (hn : n ≤ 1000) (hb : b.length ≤ 479) (hr : Rd w w.heap.size A (b.map e8)) :
    Calls Tryz.prog 104 #[av (.pointer (some ⟨g, 0, none⟩)) (.pointer (some ⟨gS, 0, none⟩)) ga gd gl life, .int .i64 (n : Int), .slice A b.length c] w fun e w' => e = .returned (.int .i64 (Disk.write s (areaAt ga gd gl life.toNat n) (pB l (areaAt ga gd gl life.toNat n) life n b)).2) ∧ Turn w g fp gS bS (Disk.write s (areaAt ga gd gl life.toNat n) (pB l (areaAt ga gd gl life.toNat n) life n b)).1 (pL l (areaAt ga gd gl life.toNat n) life n b) w' := by
  have F := Blk.new w (acell (.pointer (some ⟨g, 0, none⟩)) (.pointer (some ⟨gS, 0, none⟩)) ga gd gl life) 143
  have b0 := b1alloc w (.cells (acell (.pointer (some ⟨g, 0, none⟩)) (.pointer (some ⟨gS, 0, none⟩)) ga gd gl life).toArray 143)
  obtain ⟨z0, z1, z2, z3, z4, z5⟩ := six6 F
  have hAr := fun W => Geom.area_any ga gd gl life _ (by rfl) (n : Int) W hG.a0 hG.a1 hG.d0 hG.d1 hG.g0 hG.g1 (show Geom.lo ≤ (n : Int) by unfold Geom.lo; omega) (show (n : Int) ≤ Geom.hi by unfold Geom.hi; omega)
  obtain ⟨p, hp⟩ : ∃ p, p = areaAt ga gd gl life.toNat n := ⟨_, rfl⟩
  rw [← hp] at hAr h0 h1 ⊢
  have hE := fun A c W hb' hr' => encode_sym p gS bS l (px life n b) A c W hb' hl hr' (px_right h0 h1 hn hb)
  have hE' : ∀ A c W, SymAt W gS bS l → Rd W W.heap.size A (b.map e8) → Calls Tryz.prog 105 #[.pointer (some ⟨gS, 0, none⟩), .int .i64 p, .agg #[.int .i64 3, .int .u64 (life.toNat : Int), .int .i64 (n : Int), .int .u64 0, .slice A b.length c]] W _ := fun A c W hb' hr' => hE A c W hb' hr'
  rw [show text p (px life n b) ++ sumOf l (text p (px life n b)) = pB l p life n b from rfl, show sumAfter l (text p (px life n b)) = pL l p life n b from rfl] at hE'
  have hW := fun A c W hD hr' => Disk.write_any g fp s p A 512 c (pB l p life n b) W hD (by omega) (pB_len l p life n b).symm hr'
  obtain ⟨V, hV⟩ : ∃ V, V = Disk.write s p (pB l p life n b) := ⟨_, rfl⟩
  obtain ⟨bb, hbb⟩ : ∃ V, V = pB l p life n b := ⟨_, rfl⟩
  obtain ⟨l', hl'⟩ : ∃ V, V = pL l p life n b := ⟨_, rfl⟩
  rw [← hV] at hW ⊢
  rw [← hbb] at hW hE'
  rw [← hl'] at hE' ⊢
  have HA := Lib.hid hAr
  have HE := Lib.hid hE'
  have HW := Lib.hid hW
  have FG := Lib.hid F
  have nG : w.heap.size ∉ [bS] := by have := h.sym.lt.2; rw [List.mem_singleton]; omega
  clear hAr hE hE' hW hV hbb hl' hp F
  go_enter Tryz.func104, Tryz.ntmps104
  go_wp2_with (first
    | (go_at_call 116; refine (HA.out _).mono ?_; rintro e w1 ⟨rfl, b1⟩; have F1 := FG.out.on b1; clear z0 z1 z2 z3 z4 z5; obtain ⟨z0, z1, z2, z3, z4, z5⟩ := six6 F1; have H1 := h.on (bt b0 b1))
    | (go_at_call 105; refine (HE.out A c _ H1.sym ((hr.below (bt b0 b1)).more (bt b0 b1).size)).mono ?_; rintro e w2 ⟨A2, c2, rfl, own2, k2, s2⟩; have H2 := H1.summed s2 k2; have F2 := F1.keepK k2 nG; clear z0 z1 z2 z3 z4 z5; obtain ⟨z0, z1, z2, z3, z4, z5⟩ := six6 F2; have K2 := keepT (fp := fp) (Keep.of_below (bt b0 b1) (bS :: fp)) (Fresh.refl _ _) (keepB k2))
    | (go_at_call 73; refine (HW.out A2 c2 _ H2.disk (RdN.own own2 H1.disk.lt)).mono ?_; rintro e w3 ⟨rfl, fp3, hD3, k3, f3⟩; have H3 := H2.did hD3 k3 f3))
  go_ret
  have hz2 := K2.size
  exact ⟨rfl, fp3, H3, keepT K2 (Fresh.refl _ _) (keepF k3), fun j hj => (f3 j hj).imp id (fun e => by omega)⟩
end Go.Proofs.YtchcmklelmlbgaaGreat.Snap

/- The pages of a life: is one of the rows too long: slices.IndexFunc and ContainsFunc with snap.Write's closure. -/
namespace Go.Proofs.YtchcmklelmlbgaaGreat.Snap
open Go.RowKit
set_option linter.unusedVariables false
set_option maxRecDepth 100000
def longB (l : List (List UInt8)) : Bool := l.any fun b => decide (479 < b.length)
theorem longB_no {l : List (List UInt8)} (h : ∀ j (hj : j < l.length), l[j].length ≤ 479) : longB l = false := by
  unfold longB
  rw [List.any_eq_false]
  intro b hb
  obtain ⟨j, hj, rfl⟩ := List.mem_iff_getElem.1 hb
  have := h j hj
  simp; omega
theorem longB_yes {l : List (List UInt8)} {j : Nat} (hj : j < l.length) (h : 479 < l[j].length) : longB l = true := by
  unfold longB
  rw [List.any_eq_true]
  exact ⟨l[j], List.getElem_mem hj, by simpa using h⟩
set_option maxHeartbeats 1000000 in
theorem index_any (A : Option Addr) (l : List (List UInt8)) (c : Nat) (w : World) (hr : Rws w w.heap.size A l) (hcl : l.length ≤ 1000000) :
    Calls Tryz.prog 119 #[.slice A l.length c, .func (.func 102) #[] #[]] w fun e w' => (∃ k : Int, e = .returned (.int .i64 k) ∧ decide (0 ≤ k) = longB l) ∧ w = w' := by
  have hm1 : ∀ (x : Array Value) (w : World), Sem.run Tryz.prog (callFunc 102 x) w = .ok (.enter 102 x) w := by intro x w; simp [go_sem]
  go_enter Tryz.func119, Tryz.ntmps119
  go_wp2_with fail
  go_loopw [8] (fun i wr => ∃ k : Nat, k ≤ l.length ∧ i = .int .i64 k ∧ wr = w ∧ ∀ j (hj : j < l.length), j < k → l[j].length ≤ 479) (fun i _ => l.length - (intOf i).toNat)
  case atStart => exact ⟨0, by omega, rfl, rfl, fun j hj h => by omega⟩
  case round =>
    obtain ⟨k, hk, rfl, rfl, hall⟩ := hrel
    by_cases hlt : k < l.length
    · obtain ⟨b, off, Ai, ci, rfl, hb, hc, _, _, _⟩ := hr.get hlt
      have hkn : (k : Int) < (l.length : Int) := by omega
      have hwk : wrap64 ((k : Int) + 1) = (k : Int) + 1 := by unfold wrap64; omega
      by_cases hl : 479 < l[k].length
      · have hd := decide_eq_true hl
        have hy := Lib.hid (longB_yes hlt hl)
        go_wp2_with (go_at_call 102; refine (long_any _ _ _ _).mono ?_; rintro e w1 ⟨rfl, rfl⟩; rw [hd])
        go_ret
        exact ⟨⟨(k : Int), rfl, by rw [hy.out]; exact decide_eq_true (by omega)⟩, rfl⟩
      · have hd := decide_eq_false hl
        go_wp2_with (go_at_call 102; refine (long_any _ _ _ _).mono ?_; rintro e w1 ⟨rfl, rfl⟩; rw [hd])
        case roundEnd => exact ⟨⟨k + 1, by omega, by first | rfl | simp | (rw [hwk]; rfl), by first | trivial | rfl, fun j hj h => by
          rcases (show j < k ∨ j = k by omega) with h1 | h1
          · exact hall j hj h1
          · subst h1; omega⟩, by simp only [intOf]; omega⟩
    · have hkn : ¬ (k : Int) < (l.length : Int) := by omega
      have hn := Lib.hid (longB_no (l := l) (fun j hj => hall j hj (by omega)))
      go_wp2
      go_ret
      exact ⟨⟨-1, rfl, by rw [hn.out]; rfl⟩, rfl⟩
theorem contains_any (A : Option Addr) (l : List (List UInt8)) (c : Nat) (w : World) (hr : Rws w w.heap.size A l) (hcl : l.length ≤ 1000000) :
    Calls Tryz.prog 103 #[.slice A l.length c, .func (.func 102) #[] #[]] w fun e w' => e = .returned (.bool (longB l)) ∧ w = w' := by
  go_enter Tryz.func103, Tryz.ntmps103
  go_wp2_with (go_at_call 119; refine (index_any A l c _ hr hcl).mono ?_; rintro e w1 ⟨⟨k, rfl, hk⟩, rfl⟩)
  go_ret
  exact ⟨by first | rfl | exact ret_bool hk, rfl⟩
end Go.Proofs.YtchcmklelmlbgaaGreat.Snap

/- Rows of bytes that lie in blocks of a kind: they stay while other blocks are turned. No statement is proved here. -/
namespace Go.Proofs.YtchcmklelmlbgaaGreat
open Go.RowKit
set_option linter.unusedVariables false
/-- cells, in a block of a kind -/
def RdQ (w : World) (Q : Nat → Prop) (A : Option Addr) (xs : List Value) : Prop :=
  xs ≠ [] → ∃ b off, A = some ⟨b, off, none⟩ ∧ b < w.heap.size ∧ Q b ∧ ∀ i (h : i < xs.length), w.cell? ⟨b, off + i, none⟩ = some xs[i]
theorem RdQ.nil (w : World) (Q : Nat → Prop) (A : Option Addr) : RdQ w Q A [] := fun h => absurd rfl h
theorem RdQ.rd {w : World} {Q : Nat → Prop} {A : Option Addr} {xs : List Value} (h : RdQ w Q A xs) : Rd w w.heap.size A xs := fun hne => by
  obtain ⟨b, off, rfl, hb, _, hc⟩ := h hne
  exact ⟨b, off, rfl, hb, hc⟩
theorem RdQ.keep {w w' : World} {Q : Nat → Prop} {A : Option Addr} {xs : List Value} {fp : List Nat} (h : RdQ w Q A xs) (k : Keep fp w w') (hf : ∀ j, Q j → j < w.heap.size → j ∉ fp) : RdQ w' Q A xs := fun hne => by
  obtain ⟨b, off, rfl, hb, hq, hc⟩ := h hne
  exact ⟨b, off, rfl, Nat.lt_of_lt_of_le hb k.size, hq, fun i hi => (World.cell?_of_block (k.block hb (hf b hq hb))).trans (hc i hi)⟩
theorem RdQ.imp {w : World} {Q Q' : Nat → Prop} {A : Option Addr} {xs : List Value} (h : RdQ w Q A xs) (hq : ∀ j, j < w.heap.size → Q j → Q' j) : RdQ w Q' A xs := fun hne => by
  obtain ⟨b, off, rfl, hb, h1, hc⟩ := h hne
  exact ⟨b, off, rfl, hb, hq b hb h1, hc⟩
theorem RdQ.on {w w' : World} {Q : Nat → Prop} {A : Option Addr} {xs : List Value} (h : RdQ w Q A xs) (b : Below w.heap.size w w') : RdQ w' Q A xs := h.keep (Keep.of_below b []) (fun j _ _ => by simp)
theorem RdQ.own {w : World} {base : Nat} {e : TypeId} {A : Option Addr} {n c : Nat} {xs : List Value} (h : w.ownsRow base e 1 (.slice A n c) n xs) : RdQ w (fun j => base ≤ j) A xs := by
  intro hne
  rcases h.2 with ⟨hv, hn⟩ | ⟨g, cap, cur, hv, hg, hh, hnc, hcm, hcs, ht⟩
  · exact absurd (List.eq_nil_of_length_eq_zero (by have := h.1; omega)) hne
  · injection hv with hA _ _
    subst hA
    refine ⟨g, 0, rfl, lt_of_block hh, hg, fun i hi => ?_⟩
    have hl := h.1
    have := World.ownsRow.cellAt (j := i) h (by omega)
    rw [Nat.zero_add, this]; exact List.getElem?_eq_getElem hi
/-- rows of bytes, in blocks of a kind -/
def Rw (w : World) (Q : Nat → Prop) (A : Option Addr) (l : List (List UInt8)) : Prop :=
  l ≠ [] → ∃ b off, A = some ⟨b, off, none⟩ ∧ b < w.heap.size ∧ Q b ∧ ∀ i (h : i < l.length), ∃ Ai ci, w.cell? ⟨b, off + i, none⟩ = some (.slice Ai l[i].length ci) ∧ RdQ w Q Ai (l[i].map e8) ∧ l[i].length ≤ ci ∧ ci ≤ maxLen
theorem Rw.nil (w : World) (Q : Nat → Prop) (A : Option Addr) : Rw w Q A [] := fun h => absurd rfl h
theorem Rw.get {w : World} {Q : Nat → Prop} {A : Option Addr} {l : List (List UInt8)} (h : Rw w Q A l) {i : Nat} (hi : i < l.length) :
    ∃ b off Ai ci, A = some ⟨b, off, none⟩ ∧ b < w.heap.size ∧ w.cell? ⟨b, off + i, none⟩ = some (.slice Ai l[i].length ci) ∧ RdQ w Q Ai (l[i].map e8) ∧ l[i].length ≤ ci ∧ ci ≤ maxLen := by
  obtain ⟨b, off, rfl, hb, _, hc⟩ := h (by intro e; rw [e] at hi; exact absurd hi (by simp))
  obtain ⟨Ai, ci, h1⟩ := hc i hi
  exact ⟨b, off, Ai, ci, rfl, hb, h1⟩
theorem Rw.keep {w w' : World} {Q : Nat → Prop} {A : Option Addr} {l : List (List UInt8)} {fp : List Nat} (h : Rw w Q A l) (k : Keep fp w w') (hf : ∀ j, Q j → j < w.heap.size → j ∉ fp) : Rw w' Q A l := fun hne => by
  obtain ⟨b, off, rfl, hb, hq, hc⟩ := h hne
  refine ⟨b, off, rfl, Nat.lt_of_lt_of_le hb k.size, hq, fun i hi => ?_⟩
  obtain ⟨Ai, ci, h1, h2, h3⟩ := hc i hi
  exact ⟨Ai, ci, (World.cell?_of_block (k.block hb (hf b hq hb))).trans h1, h2.keep k hf, h3⟩
theorem Rw.on {w w' : World} {Q : Nat → Prop} {A : Option Addr} {l : List (List UInt8)} (h : Rw w Q A l) (b : Below w.heap.size w w') : Rw w' Q A l := h.keep (Keep.of_below b []) (fun j _ _ => by simp)
theorem Rw.imp {w : World} {Q Q' : Nat → Prop} {A : Option Addr} {l : List (List UInt8)} (h : Rw w Q A l) (hq : ∀ j, j < w.heap.size → Q j → Q' j) : Rw w Q' A l := fun hne => by
  obtain ⟨b, off, rfl, hb, h1, hc⟩ := h hne
  refine ⟨b, off, rfl, hb, hq b hb h1, fun i hi => ?_⟩
  obtain ⟨Ai, ci, g1, g2, g3⟩ := hc i hi
  exact ⟨Ai, ci, g1, g2.imp hq, g3⟩
theorem Rw.rws {w : World} {Q : Nat → Prop} {A : Option Addr} {l : List (List UInt8)} (h : Rw w Q A l) : Rws w w.heap.size A l := fun hne => by
  obtain ⟨b, off, rfl, hb, _, hc⟩ := h hne
  refine ⟨b, off, rfl, hb, fun i hi => ?_⟩
  obtain ⟨Ai, ci, h1, h2, h3⟩ := hc i hi
  exact ⟨Ai, ci, h1, h2.rd, h3⟩
theorem Rd.q {w : World} {B : Nat} {A : Option Addr} {xs : List Value} (h : Rd w B A xs) (hB : B ≤ w.heap.size) : RdQ w (fun j => j < B) A xs := fun hne => by
  obtain ⟨b, off, rfl, hb, hc⟩ := h hne
  exact ⟨b, off, rfl, Nat.lt_of_lt_of_le hb hB, hb, hc⟩
theorem Rws.rw {w : World} {B : Nat} {A : Option Addr} {l : List (List UInt8)} (h : Rws w B A l) (hB : B ≤ w.heap.size) : Rw w (fun j => j < B) A l := fun hne => by
  obtain ⟨b, off, rfl, hb, hc⟩ := h hne
  refine ⟨b, off, rfl, Nat.lt_of_lt_of_le hb hB, hb, fun i hi => ?_⟩
  obtain ⟨Ai, ci, h1, h2, h3⟩ := hc i hi
  exact ⟨Ai, ci, h1, h2.q hB, h3⟩
end Go.Proofs.YtchcmklelmlbgaaGreat

/- The supers: super.At and Read and what they come to. -/
namespace Go.Proofs.YtchcmklelmlbgaaGreat.Sup
open Go.RowKit
open Go.Proofs.YtchcmklelmlbgaaGreat.Geom
open Go.Proofs.YtchcmklelmlbgaaGreat.Disk (St DAt Did flush_any read_any New8 Told8)
open Go.Proofs.YtchcmklelmlbgaaGreat.Sec (X SymAt text sumOf sumAfter ckS blankB rightF encode_sym decode_sym isBlank_any right_0 right_2 xv RetX X0 five5x)
set_option linter.unusedVariables false
set_option maxRecDepth 100000
/-- is what was read a super at a place? -/
def isSup (ga gd gl p : Int) (d : X × Int) : Bool := decide (d.2 = 0) && decide (d.1.kind = 2) && decide (splace d.1.life = p) && R1.sameB d.1.body (mk ga gd gl)
def dec (l : List (List UInt8)) (p : Int) (b : List UInt8) : X × Int := Sec.decode (ckS l b) p b
structure SV where
  life : UInt64
  base : Int
  gen : UInt64
def SV.v (x : SV) : Value := sv x.life x.base x.gen
def SV.zero : SV := ⟨0, 0, 0⟩
def atR (l : List (List UInt8)) (s : St) (ga gd gl p : Int) : Option SV :=
  if isSup ga gd gl p (dec l p (Disk.read s p).1) = true then some ⟨(dec l p (Disk.read s p).1).1.life, (dec l p (Disk.read s p).1).1.seq, (dec l p (Disk.read s p).1).1.gen⟩ else none
def atV : Option SV → Value
  | some x => .tuple #[x.v, .bool true, .int .i64 0]
  | none => .tuple #[SV.zero.v, .bool false, .int .i64 0]
theorem size_ge {ga gd gl : Int} (h : right ga gd gl = true) : 7 ≤ Geom.sizeOf ga gd gl := by
  have h1 := right_yes h
  have h2 := pagesOf_bd ga gd gl
  unfold Geom.sizeOf
  rw [if_pos h]; omega
theorem where_super {ga gd gl p : Int} (h : right ga gd gl = true) (h0 : 2 ≤ p) (h1 : p ≤ 3) : whereW ga gd gl p = ⟨#[115, 117, 112, 101, 114]⟩ := by
  have := size_ge h
  unfold whereW
  rw [if_neg (by omega), if_neg (by omega), if_pos (by omega)]
theorem srightF_yes {s : St} {ga gd gl : Int} (h : srightF s ga gd gl = 0) : right ga gd gl = true ∧ (s.size : Int) = Geom.sizeOf ga gd gl := by
  unfold srightF at h
  split at h
  · assumption
  · cases h
theorem read_up {s : St} (hd : s.down = false) {p : Int} (h0 : 0 ≤ p) (h1 : p < s.size) : Disk.read s p = (Disk.kept (s.all ++ s.pend) p.toNat, 0) := by
  unfold Disk.read
  rw [if_neg (by rw [hd]; simp), if_neg (by omega)]
set_option maxHeartbeats 2000000 in
theorem at_any (g : Nat) (fp : List Nat) (s : St) (gS bS : Nat) (l : List (List UInt8)) (ga gd gl p : Int) (w : World) (hG : Gb ga gd gl) (h : Both w g fp s gS bS l) (hl : l.length ≤ 1000000) (hs : s.sz ≤ 90000000) (hf : srightF s ga gd gl = 0) (hd : s.down = false) (h0 : 2 ≤ p) (h1 : p ≤ 3) :
    Calls Tryz.prog 89 #[.pointer (some ⟨g, 0, none⟩), .pointer (some ⟨gS, 0, none⟩), gv ga gd gl, .int .i64 p] w fun e w' => e = .returned (atV (atR l s ga gd gl p)) ∧ Below w.heap.size w w' := by
  obtain ⟨hrt, hsz⟩ := srightF_yes hf
  have hsg := size_ge hrt
  have FG := (Blk.new w (gcell ga gd gl) 23).alloc (.cells #[.int .u64 0, .int .i64 0, .int .u64 0] 90)
  have FX : Blk ((w.alloc (.cells (gcell ga gd gl).toArray 23)).alloc (.cells #[.int .u64 0, .int .i64 0, .int .u64 0] 90)) (w.heap.size + 1) [.int .u64 0, .int .i64 0, .int .u64 0] := by simpa using Blk.new (w.alloc (.cells (gcell ga gd gl).toArray 23)) [.int .u64 0, .int .i64 0, .int .u64 0] 90
  have b0 := b2alloc w (.cells (gcell ga gd gl).toArray 23) (.cells #[.int .u64 0, .int .i64 0, .int .u64 0] 90)
  obtain ⟨z0, z1, z2⟩ := gthree FG
  have HB := Lib.hid (both_any g fp s gS ga gd gl _ hG (h.disk.on b0))
  rw [hf] at HB
  have HM := Lib.hid (fun W => mark_any ga gd gl W hG)
  have hWh := fun W => where_any ga gd gl p W hG.a0 hG.a1 hG.d0 hG.d1 hG.g0 hG.g1 (show Geom.lo ≤ p by unfold Geom.lo; omega) (show p ≤ Geom.hi by unfold Geom.hi; omega)
  rw [where_super hrt h0 h1] at hWh
  have hR := fun W (bW : Below w.heap.size w W) => read_any g fp s p W (h.disk.on bW) (by omega)
  have hru := read_up (s := s) hd (p := p) (by omega) (by omega)
  have hlen : (Disk.read s p).1.length = 512 := by rw [hru]; exact Disk.kept_len (n := s.size) (fun x hx => (List.mem_append.1 hx).elim (h.disk.ok.all x) (h.disk.ok.pend x)) _
  have hr2 : (Disk.read s p).2 = 0 := by rw [hru]
  unfold atR dec
  obtain ⟨r, hr⟩ : ∃ r, r = Disk.read s p := ⟨_, rfl⟩
  rw [← hr] at hR hlen hr2 ⊢
  have hD := fun W (bW : Below w.heap.size w W) A c hrd hc hcm => decode_sym p gS bS l A r.1 _ c W (h.sym.on bW) hl (by omega) (by omega) rfl hrd (by omega) hc hcm
  obtain ⟨d, hd'⟩ : ∃ d, d = Sec.decode (ckS l r.1) p r.1 := ⟨_, rfl⟩
  rw [← hd'] at hD ⊢
  obtain ⟨wk, hwk⟩ : ∃ wk, wk = whereK ga gd gl p := ⟨_, rfl⟩
  rw [← hwk] at hWh
  have HR := Lib.hid hR
  have HD := Lib.hid hD
  have HW := Lib.hid hWh
  have FGh := Lib.hid FG
  have FXh := Lib.hid FX
  have Hr2 := Lib.hid hr2
  clear hr hR hD hd' hru hwk hWh hlen hrt hsz hsg FG FX hr2
  by_cases e0 : d.2 = 0
  rotate_left
  · rw [if_neg (by simp [isSup, e0])]
    have t0 := beq_no e0
    clear e0
    go_enter Tryz.func89, Tryz.ntmps89
    go_wp2_with (first
      | (go_at_call 87; refine HB.out.mono ?_; rintro e w1 ⟨rfl, b1⟩; obtain ⟨y0, y1, y2⟩ := gthree (FGh.out.on b1); have b01 := bt b0 b1)
      | (go_at_call 110; refine (HW.out _).mono ?_; rintro e w2 ⟨rfl, b2⟩; have b02 := bt b01 b2)
      | (go_at_call 111; refine (HR.out _ b02).mono ?_; rintro e w3 ⟨v, rfl, hN, b3⟩; rw [Hr2.out]; obtain ⟨A1, c1, rfl, hc1, hm1, rd1⟩ := hN.rdN (fp := []) (by simp); have b03 := bt b02 b3)
      | (go_at_call 112; refine (HD.out _ b03 _ _ rd1.rd hc1 hm1).mono ?_; rintro e w4 ⟨⟨A4, c4, rfl, own4⟩, b4⟩; unfold xv; have b04 := bt b03 b4))
    have FD := Blk.new w4 [.int .i64 d.1.kind, .int .u64 (d.1.life.toNat : Int), .int .i64 d.1.seq, .int .u64 (d.1.gen.toNat : Int), .slice A4 d.1.body.length c4] 157
    have b5 := b1alloc w4 (.cells ([.int .i64 d.1.kind, .int .u64 (d.1.life.toNat : Int), .int .i64 d.1.seq, .int .u64 (d.1.gen.toNat : Int), .slice A4 d.1.body.length c4] : List Value).toArray 157)
    have FX4 := (FXh.out.on (bt (bt (bt b1 b2) b3) b4)).on b5
    have FG4 := (FGh.out.on (bt (bt (bt b1 b2) b3) b4)).on b5
    have own5 := own_on own4 b5
    obtain ⟨w5, hw5⟩ : ∃ w5, w5 = w4.alloc (.cells ([.int .i64 d.1.kind, .int .u64 (d.1.life.toNat : Int), .int .i64 d.1.seq, .int .u64 (d.1.gen.toNat : Int), .slice A4 d.1.body.length c4] : List Value).toArray 157) := ⟨_, rfl⟩
    rw [show w4.alloc (.cells #[.int .i64 d.1.kind, .int .u64 (d.1.life.toNat : Int), .int .i64 d.1.seq, .int .u64 (d.1.gen.toNat : Int), .slice A4 d.1.body.length c4] 157) = w5 from hw5.symm]
    obtain ⟨hD5, hh5⟩ : ∃ q, q = w4.heap.size := ⟨_, rfl⟩
    rw [← hw5] at FD FX4 FG4 b5 own5
    rw [← hh5] at FD ⊢
    have b05 := bt b04 b5
    clear hw5 hh5 b5 b04 b4 rd1 hN b3 b03 own4
    have hltD := FD.lt
    obtain ⟨x0, x1, x2, x3, x4⟩ := five5x FD
    obtain ⟨u0, u1, u2⟩ := gthree FX4
    obtain ⟨g0', g1', g2'⟩ := gthree FG4
    refine region_inb (by kernel_rfl) (by kernel_rfl) ?_
    have inbNe := InB.some
    have inbW := @wrap_small
    have inbU := IntKind.wrap_u8'
    repeat (refine wpQuiet_step (fun K hK => ?_); go_simp; first | (refine hK _ ?_; clear hK K) | (apply Exists.intro; refine ⟨?_, hK _ ?_⟩; (· (intro w' hw'; first | fail | (have hcw := hw'.cell; go_simp; exact rfl))); clear hK K))
    refine wpQuiet_nil ?_
    intro wq hq
    clear inbNe inbW inbU
    clear u0 u1 u2
    obtain ⟨u0, u1, u2⟩ := gthree (FX4.on hq.below)
    have fx := (FX4.on hq.below).free
    go_wp2
    refine bodyPost_ret (v := atV none) (by simp [results, Tryz.results89, go_sem, atV, SV.v, SV.zero, sv, *]) rfl ⟨rfl, ?_⟩
    have bq := bt b05 hq.below
    first | exact bq | exact bset (bset (bset bq (by omega) _) (by omega) _) (by omega) _
  have t0 := beq_yes e0
  by_cases e1 : d.1.kind = 2
  rotate_left
  · rw [if_neg (by simp [isSup, e1])]
    have t1 := beq_no e1
    clear e0 e1
    go_enter Tryz.func89, Tryz.ntmps89
    go_wp2_with (first
      | (go_at_call 87; refine HB.out.mono ?_; rintro e w1 ⟨rfl, b1⟩; obtain ⟨y0, y1, y2⟩ := gthree (FGh.out.on b1); have b01 := bt b0 b1)
      | (go_at_call 110; refine (HW.out _).mono ?_; rintro e w2 ⟨rfl, b2⟩; have b02 := bt b01 b2)
      | (go_at_call 111; refine (HR.out _ b02).mono ?_; rintro e w3 ⟨v, rfl, hN, b3⟩; rw [Hr2.out]; obtain ⟨A1, c1, rfl, hc1, hm1, rd1⟩ := hN.rdN (fp := []) (by simp); have b03 := bt b02 b3)
      | (go_at_call 112; refine (HD.out _ b03 _ _ rd1.rd hc1 hm1).mono ?_; rintro e w4 ⟨⟨A4, c4, rfl, own4⟩, b4⟩; unfold xv; have b04 := bt b03 b4))
    have FD := Blk.new w4 [.int .i64 d.1.kind, .int .u64 (d.1.life.toNat : Int), .int .i64 d.1.seq, .int .u64 (d.1.gen.toNat : Int), .slice A4 d.1.body.length c4] 157
    have b5 := b1alloc w4 (.cells ([.int .i64 d.1.kind, .int .u64 (d.1.life.toNat : Int), .int .i64 d.1.seq, .int .u64 (d.1.gen.toNat : Int), .slice A4 d.1.body.length c4] : List Value).toArray 157)
    have FX4 := (FXh.out.on (bt (bt (bt b1 b2) b3) b4)).on b5
    have FG4 := (FGh.out.on (bt (bt (bt b1 b2) b3) b4)).on b5
    have own5 := own_on own4 b5
    obtain ⟨w5, hw5⟩ : ∃ w5, w5 = w4.alloc (.cells ([.int .i64 d.1.kind, .int .u64 (d.1.life.toNat : Int), .int .i64 d.1.seq, .int .u64 (d.1.gen.toNat : Int), .slice A4 d.1.body.length c4] : List Value).toArray 157) := ⟨_, rfl⟩
    rw [show w4.alloc (.cells #[.int .i64 d.1.kind, .int .u64 (d.1.life.toNat : Int), .int .i64 d.1.seq, .int .u64 (d.1.gen.toNat : Int), .slice A4 d.1.body.length c4] 157) = w5 from hw5.symm]
    obtain ⟨hD5, hh5⟩ : ∃ q, q = w4.heap.size := ⟨_, rfl⟩
    rw [← hw5] at FD FX4 FG4 b5 own5
    rw [← hh5] at FD ⊢
    have b05 := bt b04 b5
    clear hw5 hh5 b5 b04 b4 rd1 hN b3 b03 own4
    have hltD := FD.lt
    obtain ⟨x0, x1, x2, x3, x4⟩ := five5x FD
    obtain ⟨u0, u1, u2⟩ := gthree FX4
    obtain ⟨g0', g1', g2'⟩ := gthree FG4
    refine region_inb (by kernel_rfl) (by kernel_rfl) ?_
    have inbNe := InB.some
    have inbW := @wrap_small
    have inbU := IntKind.wrap_u8'
    repeat (refine wpQuiet_step (fun K hK => ?_); go_simp; first | (refine hK _ ?_; clear hK K) | (apply Exists.intro; refine ⟨?_, hK _ ?_⟩; (· (intro w' hw'; first | fail | (have hcw := hw'.cell; go_simp; exact rfl))); clear hK K))
    refine wpQuiet_nil ?_
    intro wq hq
    clear inbNe inbW inbU
    clear u0 u1 u2
    obtain ⟨u0, u1, u2⟩ := gthree (FX4.on hq.below)
    have fx := (FX4.on hq.below).free
    go_wp2
    refine bodyPost_ret (v := atV none) (by simp [results, Tryz.results89, go_sem, atV, SV.v, SV.zero, sv, *]) rfl ⟨rfl, ?_⟩
    have bq := bt b05 hq.below
    first | exact bq | exact bset (bset (bset bq (by omega) _) (by omega) _) (by omega) _
  have t1 := beq_yes e1
  have hSu := fun W => super_any d.1.life _ (by rfl) W
  rw [show (2 : Int) + (d.1.life.toNat : Int) % 2 = splace d.1.life from rfl] at hSu
  have HSu := Lib.hid hSu
  clear hSu
  by_cases e2 : splace d.1.life = p
  rotate_left
  · rw [if_neg (by simp [isSup, e2])]
    have t2 := beq_no e2
    clear e0 e1 e2
    go_enter Tryz.func89, Tryz.ntmps89
    go_wp2_with (first
      | (go_at_call 87; refine HB.out.mono ?_; rintro e w1 ⟨rfl, b1⟩; obtain ⟨y0, y1, y2⟩ := gthree (FGh.out.on b1); have b01 := bt b0 b1)
      | (go_at_call 110; refine (HW.out _).mono ?_; rintro e w2 ⟨rfl, b2⟩; have b02 := bt b01 b2)
      | (go_at_call 111; refine (HR.out _ b02).mono ?_; rintro e w3 ⟨v, rfl, hN, b3⟩; rw [Hr2.out]; obtain ⟨A1, c1, rfl, hc1, hm1, rd1⟩ := hN.rdN (fp := []) (by simp); have b03 := bt b02 b3)
      | (go_at_call 112; refine (HD.out _ b03 _ _ rd1.rd hc1 hm1).mono ?_; rintro e w4 ⟨⟨A4, c4, rfl, own4⟩, b4⟩; unfold xv; have b04 := bt b03 b4))
    have FD := Blk.new w4 [.int .i64 d.1.kind, .int .u64 (d.1.life.toNat : Int), .int .i64 d.1.seq, .int .u64 (d.1.gen.toNat : Int), .slice A4 d.1.body.length c4] 157
    have b5 := b1alloc w4 (.cells ([.int .i64 d.1.kind, .int .u64 (d.1.life.toNat : Int), .int .i64 d.1.seq, .int .u64 (d.1.gen.toNat : Int), .slice A4 d.1.body.length c4] : List Value).toArray 157)
    have FX4 := (FXh.out.on (bt (bt (bt b1 b2) b3) b4)).on b5
    have FG4 := (FGh.out.on (bt (bt (bt b1 b2) b3) b4)).on b5
    have own5 := own_on own4 b5
    obtain ⟨w5, hw5⟩ : ∃ w5, w5 = w4.alloc (.cells ([.int .i64 d.1.kind, .int .u64 (d.1.life.toNat : Int), .int .i64 d.1.seq, .int .u64 (d.1.gen.toNat : Int), .slice A4 d.1.body.length c4] : List Value).toArray 157) := ⟨_, rfl⟩
    rw [show w4.alloc (.cells #[.int .i64 d.1.kind, .int .u64 (d.1.life.toNat : Int), .int .i64 d.1.seq, .int .u64 (d.1.gen.toNat : Int), .slice A4 d.1.body.length c4] 157) = w5 from hw5.symm]
    obtain ⟨hD5, hh5⟩ : ∃ q, q = w4.heap.size := ⟨_, rfl⟩
    rw [← hw5] at FD FX4 FG4 b5 own5
    rw [← hh5] at FD ⊢
    have b05 := bt b04 b5
    clear hw5 hh5 b5 b04 b4 rd1 hN b3 b03 own4
    have hltD := FD.lt
    obtain ⟨x0, x1, x2, x3, x4⟩ := five5x FD
    obtain ⟨u0, u1, u2⟩ := gthree FX4
    obtain ⟨g0', g1', g2'⟩ := gthree FG4
    refine region_inb (by kernel_rfl) (by kernel_rfl) ?_
    have inbNe := InB.some
    have inbW := @wrap_small
    have inbU := IntKind.wrap_u8'
    repeat (refine wpQuiet_step (fun K hK => ?_); go_simp; first | (refine hK _ ?_; clear hK K) | (apply Exists.intro; refine ⟨?_, hK _ ?_⟩; (· (intro w' hw'; first | (go_at_call 99; refine (HSu.out _).mono ?_; rintro e x1 ⟨rfl, rfl⟩; exact ⟨rfl, hw'⟩) | (have hcw := hw'.cell; go_simp; exact rfl))); clear hK K))
    refine wpQuiet_nil ?_
    intro wq hq
    clear inbNe inbW inbU
    clear u0 u1 u2
    obtain ⟨u0, u1, u2⟩ := gthree (FX4.on hq.below)
    have fx := (FX4.on hq.below).free
    go_wp2
    refine bodyPost_ret (v := atV none) (by simp [results, Tryz.results89, go_sem, atV, SV.v, SV.zero, sv, *]) rfl ⟨rfl, ?_⟩
    have bq := bt b05 hq.below
    first | exact bq | exact bset (bset (bset bq (by omega) _) (by omega) _) (by omega) _
  have t2 := beq_yes e2
  have hSa := fun A B c d' W h3 h4 => Sec.nsame_any A B d.1.body (mk ga gd gl) d.1.body.length (mk ga gd gl).length c d' W rfl rfl h3 h4
  cases e3 : R1.sameB d.1.body (mk ga gd gl) with
  | false =>
    rw [if_neg (by simp [isSup, e3])]
    rw [e3] at hSa
    have HSa := Lib.hid hSa
    obtain ⟨M, hM⟩ : ∃ M, M = mk ga gd gl := ⟨_, rfl⟩
    rw [← hM] at HSa HM
    clear hSa e0 e1 e2 e3 hM
    go_enter Tryz.func89, Tryz.ntmps89
    go_wp2_with (first
      | (go_at_call 87; refine HB.out.mono ?_; rintro e w1 ⟨rfl, b1⟩; obtain ⟨y0, y1, y2⟩ := gthree (FGh.out.on b1); have b01 := bt b0 b1)
      | (go_at_call 110; refine (HW.out _).mono ?_; rintro e w2 ⟨rfl, b2⟩; have b02 := bt b01 b2)
      | (go_at_call 111; refine (HR.out _ b02).mono ?_; rintro e w3 ⟨v, rfl, hN, b3⟩; rw [Hr2.out]; obtain ⟨A1, c1, rfl, hc1, hm1, rd1⟩ := hN.rdN (fp := []) (by simp); have b03 := bt b02 b3)
      | (go_at_call 112; refine (HD.out _ b03 _ _ rd1.rd hc1 hm1).mono ?_; rintro e w4 ⟨⟨A4, c4, rfl, own4⟩, b4⟩; unfold xv; have b04 := bt b03 b4))
    have FD := Blk.new w4 [.int .i64 d.1.kind, .int .u64 (d.1.life.toNat : Int), .int .i64 d.1.seq, .int .u64 (d.1.gen.toNat : Int), .slice A4 d.1.body.length c4] 157
    have b5 := b1alloc w4 (.cells ([.int .i64 d.1.kind, .int .u64 (d.1.life.toNat : Int), .int .i64 d.1.seq, .int .u64 (d.1.gen.toNat : Int), .slice A4 d.1.body.length c4] : List Value).toArray 157)
    have FX4 := (FXh.out.on (bt (bt (bt b1 b2) b3) b4)).on b5
    have FG4 := (FGh.out.on (bt (bt (bt b1 b2) b3) b4)).on b5
    have own5 := own_on own4 b5
    obtain ⟨w5, hw5⟩ : ∃ w5, w5 = w4.alloc (.cells ([.int .i64 d.1.kind, .int .u64 (d.1.life.toNat : Int), .int .i64 d.1.seq, .int .u64 (d.1.gen.toNat : Int), .slice A4 d.1.body.length c4] : List Value).toArray 157) := ⟨_, rfl⟩
    rw [show w4.alloc (.cells #[.int .i64 d.1.kind, .int .u64 (d.1.life.toNat : Int), .int .i64 d.1.seq, .int .u64 (d.1.gen.toNat : Int), .slice A4 d.1.body.length c4] 157) = w5 from hw5.symm]
    obtain ⟨hD5, hh5⟩ : ∃ q, q = w4.heap.size := ⟨_, rfl⟩
    rw [← hw5] at FD FX4 FG4 b5 own5
    rw [← hh5] at FD ⊢
    have b05 := bt b04 b5
    clear hw5 hh5 b5 b04 b4 rd1 hN b3 b03 own4
    have hltD := FD.lt
    obtain ⟨x0, x1, x2, x3, x4⟩ := five5x FD
    obtain ⟨u0, u1, u2⟩ := gthree FX4
    obtain ⟨g0', g1', g2'⟩ := gthree FG4
    have cz : Below w5.heap.size w5 w5.drew := (Below.refl _ _).drew
    go_region_held3 (fun w' => (w'.cell? ⟨hD5, 0, none⟩ = some (.int .i64 d.1.kind) ∧ w'.cell? ⟨hD5, 1, none⟩ = some (.int .u64 (d.1.life.toNat : Int)) ∧ w'.cell? ⟨hD5, 2, none⟩ = some (.int .i64 d.1.seq) ∧ w'.cell? ⟨hD5, 3, none⟩ = some (.int .u64 (d.1.gen.toNat : Int)) ∧ w'.cell? ⟨hD5, 4, none⟩ = some (.slice A4 d.1.body.length c4)) ∧ (w'.cell? ⟨w.heap.size, 0, none⟩ = some (.int .i64 ga) ∧ w'.cell? ⟨w.heap.size, 1, none⟩ = some (.int .i64 gd) ∧ w'.cell? ⟨w.heap.size, 2, none⟩ = some (.int .i64 gl))) (first | exact ⟨five5x (FD.on cz), gthree (FG4.on cz)⟩ | exact ⟨five5x (FD.on (bt cz cm)), gthree (FG4.on (bt cz cm))⟩ | exact ⟨five5x (FD.on (bt (bt cz cm) cs)), gthree (FG4.on (bt (bt cz cm) cs))⟩) (first
      | (go_at_call 99; refine (HSu.out _).mono ?_; rintro e x6 ⟨rfl, rfl⟩)
      | (go_at_call 106; refine (HM.out _).mono ?_; rintro e x7 ⟨A7, c7, rfl, own7, cm⟩)
      | (go_at_call 113; refine (HSa.out A4 A7 c4 c7 _ ((Rd.own own5).on (bt cz cm)) (Rd.own own7)).mono ?_; rintro e x8 ⟨rfl, cs'⟩; have cs := (show Below x7.heap.size x7 x8 from cs' ▸ Below.refl _ _)))
    clear u0 u1 u2
    have bq := bt b05 (bt (bt cz cm) cs)
    obtain ⟨u0, u1, u2⟩ := gthree (FX4.on (bt (bt cz cm) cs))
    have fx := (FX4.on (bt (bt cz cm) cs)).free
    go_wp2
    refine bodyPost_ret (v := atV none) (by simp [results, Tryz.results89, go_sem, atV, SV.v, SV.zero, sv, *]) rfl ⟨rfl, ?_⟩
    exact bset (bset (bset bq (by omega) _) (by omega) _) (by omega) _
  | true =>
    rw [if_pos (by simp [isSup, e0, e1, e2, e3])]
    rw [e3] at hSa
    have HSa := Lib.hid hSa
    obtain ⟨M, hM⟩ : ∃ M, M = mk ga gd gl := ⟨_, rfl⟩
    rw [← hM] at HSa HM
    clear hSa e0 e1 e2 e3 hM
    go_enter Tryz.func89, Tryz.ntmps89
    go_wp2_with (first
      | (go_at_call 87; refine HB.out.mono ?_; rintro e w1 ⟨rfl, b1⟩; obtain ⟨y0, y1, y2⟩ := gthree (FGh.out.on b1); have b01 := bt b0 b1)
      | (go_at_call 110; refine (HW.out _).mono ?_; rintro e w2 ⟨rfl, b2⟩; have b02 := bt b01 b2)
      | (go_at_call 111; refine (HR.out _ b02).mono ?_; rintro e w3 ⟨v, rfl, hN, b3⟩; rw [Hr2.out]; obtain ⟨A1, c1, rfl, hc1, hm1, rd1⟩ := hN.rdN (fp := []) (by simp); have b03 := bt b02 b3)
      | (go_at_call 112; refine (HD.out _ b03 _ _ rd1.rd hc1 hm1).mono ?_; rintro e w4 ⟨⟨A4, c4, rfl, own4⟩, b4⟩; unfold xv; have b04 := bt b03 b4))
    have FD := Blk.new w4 [.int .i64 d.1.kind, .int .u64 (d.1.life.toNat : Int), .int .i64 d.1.seq, .int .u64 (d.1.gen.toNat : Int), .slice A4 d.1.body.length c4] 157
    have b5 := b1alloc w4 (.cells ([.int .i64 d.1.kind, .int .u64 (d.1.life.toNat : Int), .int .i64 d.1.seq, .int .u64 (d.1.gen.toNat : Int), .slice A4 d.1.body.length c4] : List Value).toArray 157)
    have FX4 := (FXh.out.on (bt (bt (bt b1 b2) b3) b4)).on b5
    have FG4 := (FGh.out.on (bt (bt (bt b1 b2) b3) b4)).on b5
    have own5 := own_on own4 b5
    obtain ⟨w5, hw5⟩ : ∃ w5, w5 = w4.alloc (.cells ([.int .i64 d.1.kind, .int .u64 (d.1.life.toNat : Int), .int .i64 d.1.seq, .int .u64 (d.1.gen.toNat : Int), .slice A4 d.1.body.length c4] : List Value).toArray 157) := ⟨_, rfl⟩
    rw [show w4.alloc (.cells #[.int .i64 d.1.kind, .int .u64 (d.1.life.toNat : Int), .int .i64 d.1.seq, .int .u64 (d.1.gen.toNat : Int), .slice A4 d.1.body.length c4] 157) = w5 from hw5.symm]
    obtain ⟨hD5, hh5⟩ : ∃ q, q = w4.heap.size := ⟨_, rfl⟩
    rw [← hw5] at FD FX4 FG4 b5 own5
    rw [← hh5] at FD ⊢
    have b05 := bt b04 b5
    clear hw5 hh5 b5 b04 b4 rd1 hN b3 b03 own4
    have hltD := FD.lt
    obtain ⟨x0, x1, x2, x3, x4⟩ := five5x FD
    obtain ⟨u0, u1, u2⟩ := gthree FX4
    obtain ⟨g0', g1', g2'⟩ := gthree FG4
    have cz : Below w5.heap.size w5 w5.drew := (Below.refl _ _).drew
    go_region_held3 (fun w' => (w'.cell? ⟨hD5, 0, none⟩ = some (.int .i64 d.1.kind) ∧ w'.cell? ⟨hD5, 1, none⟩ = some (.int .u64 (d.1.life.toNat : Int)) ∧ w'.cell? ⟨hD5, 2, none⟩ = some (.int .i64 d.1.seq) ∧ w'.cell? ⟨hD5, 3, none⟩ = some (.int .u64 (d.1.gen.toNat : Int)) ∧ w'.cell? ⟨hD5, 4, none⟩ = some (.slice A4 d.1.body.length c4)) ∧ (w'.cell? ⟨w.heap.size, 0, none⟩ = some (.int .i64 ga) ∧ w'.cell? ⟨w.heap.size, 1, none⟩ = some (.int .i64 gd) ∧ w'.cell? ⟨w.heap.size, 2, none⟩ = some (.int .i64 gl))) (first | exact ⟨five5x (FD.on cz), gthree (FG4.on cz)⟩ | exact ⟨five5x (FD.on (bt cz cm)), gthree (FG4.on (bt cz cm))⟩ | exact ⟨five5x (FD.on (bt (bt cz cm) cs)), gthree (FG4.on (bt (bt cz cm) cs))⟩) (first
      | (go_at_call 99; refine (HSu.out _).mono ?_; rintro e x6 ⟨rfl, rfl⟩)
      | (go_at_call 106; refine (HM.out _).mono ?_; rintro e x7 ⟨A7, c7, rfl, own7, cm⟩)
      | (go_at_call 113; refine (HSa.out A4 A7 c4 c7 _ ((Rd.own own5).on (bt cz cm)) (Rd.own own7)).mono ?_; rintro e x8 ⟨rfl, cs'⟩; have cs := (show Below x7.heap.size x7 x8 from cs' ▸ Below.refl _ _)))
    clear u0 u1 u2 x0 x1 x2 x3 x4
    have bq := bt b05 (bt (bt cz cm) cs)
    obtain ⟨u0, u1, u2⟩ := gthree (FX4.on (bt (bt cz cm) cs))
    obtain ⟨x0, x1, x2, x3, x4⟩ := five5x (FD.on (bt (bt cz cm) cs))
    have fx := (FX4.on (bt (bt cz cm) cs)).free
    go_wp2
    refine bodyPost_ret (v := atV (some ⟨d.1.life, d.1.seq, d.1.gen⟩)) (by simp [results, Tryz.results89, go_sem, atV, SV.v, sv, *]) rfl ⟨rfl, ?_⟩
    exact bset (bset (bset bq (by omega) _) (by omega) _) (by omega) _
end Go.Proofs.YtchcmklelmlbgaaGreat.Sup

/- The supers: super.Read and what it comes to. -/
namespace Go.Proofs.YtchcmklelmlbgaaGreat.Sup
open Go.RowKit
open Go.Proofs.YtchcmklelmlbgaaGreat.Geom
open Go.Proofs.YtchcmklelmlbgaaGreat.Disk (St DAt Did flush_any read_any New8 Told8)
open Go.Proofs.YtchcmklelmlbgaaGreat.Sec (X SymAt)
set_option linter.unusedVariables false
set_option maxRecDepth 100000
def after1 (o : Option SV) (x : SV) : Bool := match o with | none => true | some b => decide (b.life < x.life)
def best (o p : Option SV) : Option SV := match p with | none => o | some x => if after1 o x = true then some x else o
def oV (o : Option SV) : SV := o.getD SV.zero
def rdV : Option SV → Value
  | some x => .tuple #[x.v, .int .i64 0]
  | none => .tuple #[SV.zero.v, .int .i64 11]
theorem read1_any (x : SV) (o : Option SV) (gF gB : Nat) (w : World) (hF : Box w gF (.bool o.isSome)) (hB : Blk w gB (scell (oV o).life (oV o).base (oV o).gen)) :
    Calls Tryz.prog 88 #[x.v, .pointer (some ⟨gF, 0, none⟩), .pointer (some ⟨gB, 0, none⟩)] w fun e w' => e = .returned (.bool (after1 o x)) ∧ Below w.heap.size w w' := by
  have b0 := b1alloc w (.cells (scell x.life x.base x.gen).toArray 90)
  obtain ⟨z0, z1, z2⟩ := gthree (Blk.new w (scell x.life x.base x.gen) 90)
  obtain ⟨y0, y1, y2⟩ := gthree (hB.on b0)
  have f0 := (hF.on' b0).cell
  unfold SV.v
  cases o with
  | none =>
    rw [show (Option.isSome (none : Option SV)) = false from rfl] at f0
    go_enter Tryz.func88, Tryz.ntmps88
    go_wp2
    go_ret
    exact ⟨rfl, b0⟩
  | some b =>
    rw [show (Option.isSome (some b)) = true from rfl] at f0
    rw [show oV (some b) = b from rfl] at y0 y1 y2
    have hd : decide (b.life.toNat < x.life.toNat) = after1 (some b) x := by
      simp [after1, UInt64.lt_iff_toNat_lt]
    obtain ⟨q, hq⟩ : ∃ q, q = after1 (some b) x := ⟨_, rfl⟩
    rw [← hq] at hd ⊢
    have Hd := Lib.hid hd
    clear hq hd
    go_enter Tryz.func88, Tryz.ntmps88
    go_wp2
    go_ret
    exact ⟨by rw [← Hd.out]; rfl, b0⟩
theorem best_no {o : Option SV} {x : SV} (h : after1 o x = false) : best o (some x) = o := by simp [best, h]
theorem best_yes {o : Option SV} {x : SV} (h : after1 o x = true) : best o (some x) = some x := by simp [best, h]
theorem stored {W : World} {hF hB h0 : Nat} {u a b c : Value} {G : List Value} (h1 : Box W hF u) (h2 : Blk W hB [a, b, c]) (h3 : Blk W h0 G) (n1 : hF ≠ hB) (n2 : hF ≠ h0) (n3 : hB ≠ h0) (x y z v : Value) :
    Box ((((W.setCell ⟨hB, 0, none⟩ x).setCell ⟨hB, 1, none⟩ y).setCell ⟨hB, 2, none⟩ z).setCell ⟨hF, 0, none⟩ v) hF v ∧ Blk ((((W.setCell ⟨hB, 0, none⟩ x).setCell ⟨hB, 1, none⟩ y).setCell ⟨hB, 2, none⟩ z).setCell ⟨hF, 0, none⟩ v) hB [x, y, z] ∧ Blk ((((W.setCell ⟨hB, 0, none⟩ x).setCell ⟨hB, 1, none⟩ y).setCell ⟨hB, 2, none⟩ z).setCell ⟨hF, 0, none⟩ v) h0 G := by
  have ne : some hF ≠ some hB := fun e => n1 (by injection e)
  refine ⟨(((h1.kept (grown_set _ ⟨hB, 0, none⟩ x) ne).kept (grown_set _ ⟨hB, 1, none⟩ y) ne).kept (grown_set _ ⟨hB, 2, none⟩ z) ne).set v, ?_, ?_⟩
  · exact Blk.other (((h2.set (k := 0) x).set (k := 1) y).set (k := 2) z) v (fun e => n1 e.symm)
  · exact Blk.other (Blk.other (Blk.other (Blk.other h3 x (fun e => n3 e.symm)) y (fun e => n3 e.symm)) z (fun e => n3 e.symm)) v (fun e => n2 e.symm)
set_option maxHeartbeats 2000000 in
theorem readSup_any (g : Nat) (fp : List Nat) (s : St) (gS bS : Nat) (l : List (List UInt8)) (ga gd gl : Int) (w : World) (hG : Gb ga gd gl) (h : Both w g fp s gS bS l) (hl : l.length ≤ 1000000) (hs : s.sz ≤ 90000000) (hf : srightF s ga gd gl = 0) (hd : s.down = false) :
    Calls Tryz.prog 51 #[.pointer (some ⟨g, 0, none⟩), .pointer (some ⟨gS, 0, none⟩), gv ga gd gl] w fun e w' => e = .returned (rdV (best (best none (atR l s ga gd gl 2)) (atR l s ga gd gl 3))) ∧ Below w.heap.size w w' := by
  have FG := (Blk.new w (gcell ga gd gl) 23).alloc (.cells #[.int .u64 0, .int .i64 0, .int .u64 0] 90)
  have FX : Blk ((w.alloc (.cells (gcell ga gd gl).toArray 23)).alloc (.cells #[.int .u64 0, .int .i64 0, .int .u64 0] 90)) (w.heap.size + 1) [.int .u64 0, .int .i64 0, .int .u64 0] := by simpa using Blk.new (w.alloc (.cells (gcell ga gd gl).toArray 23)) [.int .u64 0, .int .i64 0, .int .u64 0] 90
  have b0 := b2alloc w (.cells (gcell ga gd gl).toArray 23) (.cells #[.int .u64 0, .int .i64 0, .int .u64 0] 90)
  obtain ⟨z0, z1, z2⟩ := gthree FG
  have HB := Lib.hid (both_any g fp s gS ga gd gl _ hG (h.disk.on b0))
  rw [hf] at HB
  have hA2 := fun W (bW : Below w.heap.size w W) => at_any g fp s gS bS l ga gd gl 2 W hG (h.on bW) hl hs hf hd (by omega) (by omega)
  have hA3 := fun W (bW : Below w.heap.size w W) => at_any g fp s gS bS l ga gd gl 3 W hG (h.on bW) hl hs hf hd (by omega) (by omega)
  obtain ⟨o2, ho2⟩ : ∃ o, o = atR l s ga gd gl 2 := ⟨_, rfl⟩
  obtain ⟨o3, ho3⟩ : ∃ o, o = atR l s ga gd gl 3 := ⟨_, rfl⟩
  rw [← ho2] at hA2 ⊢
  rw [← ho3] at hA3 ⊢
  have HA2 := Lib.hid hA2
  have HA3 := Lib.hid hA3
  have HP := Lib.hid (fun W => places_any W)
  have FGh := Lib.hid FG
  have FXh := Lib.hid FX
  have i0 : ∀ W, (Instr.index 123 (.agg #[.int .i64 2, .int .i64 3]) (.int .i64 0)).run Tryz.prog W = .ok (.int .i64 2) W := fun W => by kernel_rfl
  have i1 : ∀ W, (Instr.index 123 (.agg #[.int .i64 2, .int .i64 3]) (.int .i64 1)).run Tryz.prog W = .ok (.int .i64 3) W := fun W => by kernel_rfl
  have hmf : ∀ (x : Array Value) (w : World), Sem.run Tryz.prog (callFunc 88 x) w = .ok (.enter 88 x) w := by intro x w; simp [go_sem]
  clear hA2 hA3 ho2 ho3 FG FX
  go_enter Tryz.func51, Tryz.ntmps51
  go_wp2
  go_step3
  go_wp2_with (first
    | (go_at_call 87; refine HB.out.mono ?_; rintro e w1 ⟨rfl, b1⟩; obtain ⟨y0, y1, y2⟩ := gthree (FGh.out.on b1); have b01 := bt b0 b1)
    | (go_at_call 72; refine (HP.out _).mono ?_; rintro e w2 ⟨rfl, b2⟩))
  have b02 := bt b01 (b1alloc w1 (.cells #[.bool false] 4))
  have hF0 := Box.new w1 4 (.bool false)
  have hB0 := (FXh.out.on b1).on (b1alloc w1 (.cells #[.bool false] 4))
  have hG0 := (FGh.out.on b1).on (b1alloc w1 (.cells #[.bool false] 4))
  obtain ⟨w2, hw2⟩ : ∃ q, q = w1.alloc (.cells #[.bool false] 4) := ⟨_, rfl⟩
  obtain ⟨hF, hhF⟩ : ∃ q, q = w1.heap.size := ⟨_, rfl⟩
  obtain ⟨hB, hhB⟩ : ∃ q, q = w.heap.size + 1 := ⟨_, rfl⟩
  rw [← hw2] at hF0 hB0 hG0 b02 ⊢
  rw [← hhF] at hF0 ⊢
  rw [← hhB] at hB0 ⊢
  have hlt : w.heap.size ≤ hF ∧ w.heap.size ≤ hB ∧ hF ≠ hB ∧ hF ≠ w.heap.size ∧ hB ≠ w.heap.size := by have h1 := (FXh.out.on b1).lt; refine ⟨?_, ?_, ?_, ?_, ?_⟩ <;> omega
  clear hw2 hhF hhB b1 b01 y0 y1 y2 z0 z1 z2
  go_step3
  go_wp2_with (go_at_call 72; refine (HP.out _).mono ?_; rintro e w3 ⟨rfl, b3⟩)
  have b03 := bt b02 b3
  have hF3 := hF0.on' b3
  have hB3 := hB0.on b3
  have hG3 := hG0.on b3
  clear b3 b02 hF0 hB0 hG0 b0
  go_loopw [26] (fun i wr => ∃ k : Nat, k ≤ 2 ∧ i = .int .i64 k ∧ Below w.heap.size w wr ∧ ∃ o : Option SV, ((k = 0 → o = none) ∧ (k = 1 → o = best none o2) ∧ (k = 2 → o = best (best none o2) o3)) ∧ Box wr hF (.bool o.isSome) ∧ Blk wr hB (scell (oV o).life (oV o).base (oV o).gen) ∧ Blk wr w.heap.size (gcell ga gd gl)) (fun i _ => 2 - (intOf i).toNat)
  case atStart => exact ⟨0, by omega, rfl, b03, none, ⟨fun _ => rfl, fun h => by omega, fun h => by omega⟩, hF3, hB3, hG3⟩
  case round =>
    obtain ⟨k, hk, rfl, bel, o, ho, hFb, hBb, hGb⟩ := hrel
    clear hF3 hB3 hG3 b03
    have fF := hFb.free
    have fB := hBb.free
    rcases (show k = 0 ∨ k = 1 ∨ k = 2 by omega) with rfl | rfl | rfl
    · obtain rfl := ho.1 rfl
      have H := Lib.hid (HA2.out wr bel)
      obtain ⟨c0, c1, c2⟩ := gthree hGb
      obtain hp | ⟨x, hp⟩ : o2 = none ∨ ∃ x, o2 = some x := by cases o2; exact .inl rfl; exact .inr ⟨_, rfl⟩
      · rw [hp] at H
        have H' := H.out
        unfold atV at H'
        have H'' := Lib.hid H'
        have hb := Lib.hid (show (best none o2) = (none : Option SV) by rw [hp]; rfl)
        have Hp := Lib.hid hp
        clear H H' hp
        go_wp2_with (go_at_call 89; refine H''.out.mono ?_; rintro e w4 ⟨rfl, b4⟩; unfold SV.v)
        case roundEnd =>
          have b5 := bt b4 (b1alloc w4 (.cells (scell SV.zero.life SV.zero.base SV.zero.gen).toArray 90))
          exact ⟨⟨1, by omega, rfl, (bt bel b5), (best none o2), ⟨fun h => by omega, fun _ => rfl, fun h => by omega⟩, by rw [hb.out]; exact (hFb.on' b5), by rw [hb.out]; exact (hBb.on b5), (hGb.on b5)⟩, by simp [intOf]⟩
      · rw [hp] at H
        have H' := H.out
        unfold atV at H'
        have H'' := Lib.hid H'
        cases hq : after1 (none : Option SV) x with
        | false =>
          have hb := Lib.hid (show (best none o2) = (none : Option SV) by rw [hp]; exact best_no hq)
          have Hp := Lib.hid hp
          clear H H' hp
          go_wp2_with (first
            | (go_at_call 89; refine H''.out.mono ?_; rintro e w4 ⟨rfl, b4⟩; unfold SV.v; have b5 := bt b4 (b1alloc w4 (.cells (scell x.life x.base x.gen).toArray 90)); have fF5 := (hFb.on' b5).free; have fB5 := (hBb.on b5).free; obtain ⟨x0, x1, x2⟩ := gthree (Blk.new w4 (scell x.life x.base x.gen) 90))
            | (go_at_call 88; refine (read1_any x _ hF hB _ (hFb.on' b5) (hBb.on b5)).mono ?_; rintro e w6 ⟨rfl, b6⟩; rw [hq]; have b56 := bt b5 b6; have hF6 := hFb.on' b56; have hB6 := hBb.on b56; have fF6 := hF6.free; have fB6 := hB6.free; obtain ⟨v0, v1, v2⟩ := gthree ((Blk.new w4 (scell x.life x.base x.gen) 90).on b6); obtain ⟨p0, p1, p2⟩ := gthree hB6; have pF := hF6.cell))
          case roundEnd => exact ⟨⟨1, by omega, rfl, (bt bel b56), (best none o2), ⟨fun h => by omega, fun _ => rfl, fun h => by omega⟩, by rw [hb.out]; exact (hFb.on' b56), by rw [hb.out]; exact (hBb.on b56), (hGb.on b56)⟩, by simp [intOf]⟩
        | true =>
          have hb := Lib.hid (show (best none o2) = some x by rw [hp]; exact best_yes hq)
          have Hp := Lib.hid hp
          clear H H' hp
          go_wp2_with (first
            | (go_at_call 89; refine H''.out.mono ?_; rintro e w4 ⟨rfl, b4⟩; unfold SV.v; have b5 := bt b4 (b1alloc w4 (.cells (scell x.life x.base x.gen).toArray 90)); have fF5 := (hFb.on' b5).free; have fB5 := (hBb.on b5).free; obtain ⟨x0, x1, x2⟩ := gthree (Blk.new w4 (scell x.life x.base x.gen) 90))
            | (go_at_call 88; refine (read1_any x _ hF hB _ (hFb.on' b5) (hBb.on b5)).mono ?_; rintro e w6 ⟨rfl, b6⟩; rw [hq]; have b56 := bt b5 b6; have hF6 := hFb.on' b56; have hB6 := hBb.on b56; have fF6 := hF6.free; have fB6 := hB6.free; obtain ⟨v0, v1, v2⟩ := gthree ((Blk.new w4 (scell x.life x.base x.gen) 90).on b6); obtain ⟨p0, p1, p2⟩ := gthree hB6; have pF := hF6.cell))
          case roundEnd =>
            obtain ⟨q1, q2, q3⟩ := stored hF6 hB6 (hGb.on b56) hlt.2.2.1 hlt.2.2.2.1 hlt.2.2.2.2 (.int .u64 (x.life.toNat : Int)) (.int .i64 x.base) (.int .u64 (x.gen.toNat : Int)) (.bool true)
            exact ⟨⟨1, by omega, rfl, bset (bset (bset (bset (bt bel b56) hlt.2.1 _) hlt.2.1 _) hlt.2.1 _) hlt.1 _, (best none o2), ⟨fun h => by omega, fun _ => rfl, fun h => by omega⟩, by rw [hb.out]; exact q1, by rw [hb.out]; exact q2, q3⟩, by simp [intOf]⟩
    · obtain rfl := ho.2.1 rfl
      have H := Lib.hid (HA3.out wr bel)
      obtain ⟨c0, c1, c2⟩ := gthree hGb
      obtain hp | ⟨x, hp⟩ : o3 = none ∨ ∃ x, o3 = some x := by cases o3; exact .inl rfl; exact .inr ⟨_, rfl⟩
      · rw [hp] at H
        have H' := H.out
        unfold atV at H'
        have H'' := Lib.hid H'
        have hb := Lib.hid (show (best (best none o2) o3) = (best none o2) by rw [hp]; rfl)
        have Hp := Lib.hid hp
        clear H H' hp
        go_wp2_with (go_at_call 89; refine H''.out.mono ?_; rintro e w4 ⟨rfl, b4⟩; unfold SV.v)
        case roundEnd =>
          have b5 := bt b4 (b1alloc w4 (.cells (scell SV.zero.life SV.zero.base SV.zero.gen).toArray 90))
          exact ⟨⟨2, by omega, rfl, (bt bel b5), (best (best none o2) o3), ⟨fun h => by omega, fun h => by omega, fun _ => rfl⟩, by rw [hb.out]; exact (hFb.on' b5), by rw [hb.out]; exact (hBb.on b5), (hGb.on b5)⟩, by simp [intOf]⟩
      · rw [hp] at H
        have H' := H.out
        unfold atV at H'
        have H'' := Lib.hid H'
        cases hq : after1 (best none o2) x with
        | false =>
          have hb := Lib.hid (show (best (best none o2) o3) = (best none o2) by rw [hp]; exact best_no hq)
          have Hp := Lib.hid hp
          clear H H' hp
          go_wp2_with (first
            | (go_at_call 89; refine H''.out.mono ?_; rintro e w4 ⟨rfl, b4⟩; unfold SV.v; have b5 := bt b4 (b1alloc w4 (.cells (scell x.life x.base x.gen).toArray 90)); have fF5 := (hFb.on' b5).free; have fB5 := (hBb.on b5).free; obtain ⟨x0, x1, x2⟩ := gthree (Blk.new w4 (scell x.life x.base x.gen) 90))
            | (go_at_call 88; refine (read1_any x _ hF hB _ (hFb.on' b5) (hBb.on b5)).mono ?_; rintro e w6 ⟨rfl, b6⟩; rw [hq]; have b56 := bt b5 b6; have hF6 := hFb.on' b56; have hB6 := hBb.on b56; have fF6 := hF6.free; have fB6 := hB6.free; obtain ⟨v0, v1, v2⟩ := gthree ((Blk.new w4 (scell x.life x.base x.gen) 90).on b6); obtain ⟨p0, p1, p2⟩ := gthree hB6; have pF := hF6.cell))
          case roundEnd => exact ⟨⟨2, by omega, rfl, (bt bel b56), (best (best none o2) o3), ⟨fun h => by omega, fun h => by omega, fun _ => rfl⟩, by rw [hb.out]; exact (hFb.on' b56), by rw [hb.out]; exact (hBb.on b56), (hGb.on b56)⟩, by simp [intOf]⟩
        | true =>
          have hb := Lib.hid (show (best (best none o2) o3) = some x by rw [hp]; exact best_yes hq)
          have Hp := Lib.hid hp
          clear H H' hp
          go_wp2_with (first
            | (go_at_call 89; refine H''.out.mono ?_; rintro e w4 ⟨rfl, b4⟩; unfold SV.v; have b5 := bt b4 (b1alloc w4 (.cells (scell x.life x.base x.gen).toArray 90)); have fF5 := (hFb.on' b5).free; have fB5 := (hBb.on b5).free; obtain ⟨x0, x1, x2⟩ := gthree (Blk.new w4 (scell x.life x.base x.gen) 90))
            | (go_at_call 88; refine (read1_any x _ hF hB _ (hFb.on' b5) (hBb.on b5)).mono ?_; rintro e w6 ⟨rfl, b6⟩; rw [hq]; have b56 := bt b5 b6; have hF6 := hFb.on' b56; have hB6 := hBb.on b56; have fF6 := hF6.free; have fB6 := hB6.free; obtain ⟨v0, v1, v2⟩ := gthree ((Blk.new w4 (scell x.life x.base x.gen) 90).on b6); obtain ⟨p0, p1, p2⟩ := gthree hB6; have pF := hF6.cell))
          case roundEnd =>
            obtain ⟨q1, q2, q3⟩ := stored hF6 hB6 (hGb.on b56) hlt.2.2.1 hlt.2.2.2.1 hlt.2.2.2.2 (.int .u64 (x.life.toNat : Int)) (.int .i64 x.base) (.int .u64 (x.gen.toNat : Int)) (.bool true)
            exact ⟨⟨2, by omega, rfl, bset (bset (bset (bset (bt bel b56) hlt.2.1 _) hlt.2.1 _) hlt.2.1 _) hlt.1 _, (best (best none o2) o3), ⟨fun h => by omega, fun h => by omega, fun _ => rfl⟩, by rw [hb.out]; exact q1, by rw [hb.out]; exact q2, q3⟩, by simp [intOf]⟩
    · obtain rfl := ho.2.2 rfl
      have cF := hFb.cell
      obtain ⟨p0, p1, p2⟩ := gthree hBb
      obtain ⟨O, hO⟩ : ∃ O, O = best (best none o2) o3 := ⟨_, rfl⟩
      rw [← hO] at cF p0 p1 p2
      have HO := Lib.hid hO
      clear hO
      cases O with
      | none =>
        rw [show (Option.isSome (none : Option SV)) = false from rfl] at cF
        go_wp2
        try rw [Exit.noGoto_ret]
        refine bodyPost_ret (v := rdV none) (by simp [results, Tryz.results51, go_sem, rdV, SV.v, SV.zero, sv, *]) rfl ⟨by rw [← HO.out], ?_⟩
        exact bset (bset (bset bel hlt.2.1 _) hlt.2.1 _) hlt.2.1 _
      | some x =>
        rw [show (Option.isSome (some x)) = true from rfl] at cF
        rw [show oV (some x) = x from rfl] at p0 p1 p2
        go_wp2
        try rw [Exit.noGoto_ret]
        refine bodyPost_ret (v := rdV (some x)) (by simp [results, Tryz.results51, go_sem, rdV, SV.v, sv, *]) rfl ⟨by rw [← HO.out], ?_⟩
        exact bset (bset (bset bel hlt.2.1 _) hlt.2.1 _) hlt.2.1 _
end Go.Proofs.YtchcmklelmlbgaaGreat.Sup

/- The supers, in plain Lean: what stands behind a write, and a power that goes. -/
namespace Go.Proofs.YtchcmklelmlbgaaGreat.Sup
open Go.RowKit
open Go.Proofs.YtchcmklelmlbgaaGreat.Disk (St write flush read kept burn restart fates fate keptAt new zero512 arm)
open Go.Proofs.YtchcmklelmlbgaaGreat.Sec (X text text_len sumOf sumOf_len sumAfter ckS checkOf blankB rightF dec_back dec_blank X0 mark of_text place_of reads)
set_option linter.unusedVariables false
theorem ckS_own' (l : List (List UInt8)) (T : List UInt8) (hT : T.length = 504) : ckS (sumAfter l T) (T ++ sumOf l T) = true := by
  unfold ckS checkOf sumAfter sumOf
  rw [List.take_left' hT, List.drop_left' hT]
  by_cases h : T ∈ l
  · simp [h, R1.sameB_self]
  · simp [h, List.idxOf_append, R1.sameB_self]
theorem ckS_more {l : List (List UInt8)} {b : List UInt8} (T : List UInt8) (h : ckS l b = true) : ckS (sumAfter l T) b = true := by
  unfold ckS checkOf at *
  unfold sumAfter
  split
  · exact h
  · rw [Bool.and_eq_true] at h ⊢
    have h1 : b.take 504 ∈ l := of_decide_eq_true h.1
    refine ⟨by simp [h1], ?_⟩
    rw [List.idxOf_append, if_pos h1]; exact h.2
/-- bytes that are a sector's at a place, by these sums -/
def Good (l : List (List UInt8)) (p : Int) (x : X) (b : List UInt8) : Prop := rightF p x = 0 ∧ ckS l b = true ∧ ∃ s, s.length = 8 ∧ b = text p x ++ s
theorem Good.dec {l : List (List UInt8)} {p : Int} {x : X} {b : List UInt8} (h : Good l p x b) : Sec.decode (ckS l b) p b = (x, 0) := by
  obtain ⟨h1, h2, s, hs, rfl⟩ := h
  rw [h2]; exact dec_back h1 s hs
theorem Good.len {l : List (List UInt8)} {p : Int} {x : X} {b : List UInt8} (h : Good l p x b) : b.length = 512 := by
  obtain ⟨h1, h2, s, hs, rfl⟩ := h
  rw [List.length_append, text_len, hs]
theorem Good.more {l : List (List UInt8)} {p : Int} {x : X} {b : List UInt8} (h : Good l p x b) (T : List UInt8) : Good (sumAfter l T) p x b := ⟨h.1, ckS_more T h.2.1, h.2.2⟩
theorem Good.made (l : List (List UInt8)) {p : Int} {x : X} (h : rightF p x = 0) : Good (sumAfter l (text p x)) p x (text p x ++ sumOf l (text p x)) := ⟨h, ckS_own' l _ (text_len _ _), _, sumOf_len _ _, rfl⟩
theorem dec_zero (ck : Bool) (p : Int) : Sec.decode ck p zero512 = (X0, 7) := dec_blank Disk.zero512_len (decide_eq_true rfl)
theorem mem_after {l : List (List UInt8)} {T U : List UInt8} : U ∈ sumAfter l T ↔ U ∈ l ∨ U = T := by
  unfold sumAfter
  split
  · rename_i h; exact ⟨.inl, fun e => e.elim id (fun e => e ▸ h)⟩
  · simp
/-- what is read was summed -/
theorem dec_sound {l : List (List UInt8)} {p : Int} {b : List UInt8} {x : X} (h : Sec.decode (ckS l b) p b = (x, 0)) : rightF p x = 0 ∧ text p x ∈ l := by
  unfold Sec.decode at h
  split at h
  · cases h
  · split at h
    · cases h
    · split at h
      · rename_i y hr
        split at h
        · rename_i hc
          cases h
          unfold reads at hr
          split at hr
          · rename_i h3
            injection hr with hr
            subst hr
            refine ⟨h3.2.1, ?_⟩
            rw [h3.2.2]
            unfold ckS checkOf at hc
            rw [Bool.and_eq_true] at hc
            exact of_decide_eq_true hc.1
          · cases hr
        · cases h
      · cases h
theorem text_inj {p q : Int} {x y : X} (h : rightF p x = 0) (h' : rightF q y = 0) (e : text p x = text q y) : x = y := by
  have h1 := (of_text h).2
  have h2 := (of_text h').2
  rw [e, h2] at h1; exact h1.symm
/-! a disk whose power is there, and nothing is pending -/
structure UpN (s : St) (n : Nat) : Prop where
  size : s.size = n
  pend : s.pend = []
  down : s.down = false
  fuse : s.fuse < 0
theorem up_new (n : Nat) : UpN (new n) n := ⟨rfl, rfl, rfl, by simp [new]⟩
theorem wf_cases {s : St} {n : Nat} (h2 : s.size = n) (hp : s.pend = []) (hd : s.down = false) {p : Int} (h0 : 0 ≤ p) (h1 : p < n) {b : List UInt8} (hb : b.length = 512) :
    ((wf s p b).2 = 12 ∧ (wf s p b).1.down = true ∧ (wf s p b).1.pend = [(p.toNat, b)] ∧ (wf s p b).1.all = s.all ∧ (wf s p b).1.size = n ∧ ¬ s.fuse < 0) ∨
    ((wf s p b).2 = 0 ∧ (wf s p b).1.down = false ∧ (wf s p b).1.pend = [] ∧ (wf s p b).1.all = s.all ++ [(p.toNat, b)] ∧ (wf s p b).1.size = n ∧ (s.fuse < 0 → (wf s p b).1.fuse < 0)) := by
  obtain ⟨size, pend, all, fuse, calls, down⟩ := s
  simp only at h2 hp hd
  subst h2 hp hd
  have hw : write ⟨size, [], all, fuse, calls, false⟩ p b = burn ⟨size, [(p.toNat, b)], all, fuse, calls, false⟩ := by
    unfold write; rw [if_neg (by simp), if_neg (by simp; omega), if_neg (by simpa using hb)]; rfl
  unfold wf
  rw [hw]
  by_cases h0 : fuse = 0
  · subst h0
    simp [burn]
  · by_cases h1 : 0 < fuse
    · have hb1 : burn ⟨size, [(p.toNat, b)], all, fuse, calls, false⟩ = (⟨size, [(p.toNat, b)], all, fuse - 1, calls + 1, false⟩, 0) := by unfold burn; simp [h0, h1]
      rw [hb1]
      simp only [if_true]
      by_cases h3 : fuse - 1 = 0
      · have : flush ⟨size, [(p.toNat, b)], all, fuse - 1, calls + 1, false⟩ = (⟨size, [(p.toNat, b)], all, fuse - 1, calls + 1 + 1, true⟩, 12) := by unfold flush burn; simp [h3]
        rw [this]; simp; omega
      · have : flush ⟨size, [(p.toNat, b)], all, fuse - 1, calls + 1, false⟩ = (⟨size, [], all ++ [(p.toNat, b)], fuse - 1 - 1, calls + 1 + 1, false⟩, 0) := by
          have h4 : 0 < fuse - 1 := by omega
          have h5 : burn ⟨size, [(p.toNat, b)], all, fuse - 1, calls + 1, false⟩ = (⟨size, [(p.toNat, b)], all, fuse - 1 - 1, calls + 1 + 1, false⟩, 0) := by unfold burn; rw [if_neg h3, if_pos h4]
          unfold flush; rw [if_neg (by simp), h5]; rfl
        rw [this]; simp; omega
    · have hb1 : burn ⟨size, [(p.toNat, b)], all, fuse, calls, false⟩ = (⟨size, [(p.toNat, b)], all, fuse, calls + 1, false⟩, 0) := by unfold burn; simp [h0, h1]
      rw [hb1]
      simp only [if_true]
      have : flush ⟨size, [(p.toNat, b)], all, fuse, calls + 1, false⟩ = (⟨size, [], all ++ [(p.toNat, b)], fuse, calls + 1 + 1, false⟩, 0) := by unfold flush burn; simp [h0, h1]
      rw [this]; simp
theorem UpN.wf {s : St} {n : Nat} (h : UpN s n) {p : Int} (h0 : 0 ≤ p) (h1 : p < n) {b : List UInt8} (hb : b.length = 512) : (wf s p b).2 = 0 ∧ UpN (wf s p b).1 n ∧ (wf s p b).1.all = s.all ++ [(p.toNat, b)] := by
  rcases wf_cases h.size h.pend h.down h0 h1 hb with ⟨_, _, _, _, _, h6⟩ | ⟨h1, h2, h3, h4, h5, h6⟩
  · exact absurd h.fuse h6
  · exact ⟨h1, ⟨h5, h3, h2, h6 h.fuse⟩, h4⟩
theorem UpN.read {s : St} {n : Nat} (h : UpN s n) {p : Int} (h0 : 0 ≤ p) (h1 : p < n) : read s p = (kept s.all p.toNat, 0) := by
  unfold Disk.read
  rw [if_neg (by rw [h.down]; simp), if_neg (by rw [h.size]; omega), h.pend, List.append_nil]
theorem UpN.keptAt {s : St} {n : Nat} (h : UpN s n) {p : Int} (h0 : 0 ≤ p) (h1 : p < n) : keptAt s p = kept s.all p.toNat := by
  unfold Disk.keptAt
  rw [if_neg (by rw [h.size]; omega)]
theorem kept_after (l : List Disk.Wr) (p : Nat) (b : List UInt8) : kept (l ++ [(p, b)]) p = b := by rw [Disk.kept_snoc]; simp
theorem kept_beside (l : List Disk.Wr) {p q : Nat} (b : List UInt8) (h : q ≠ p) : kept (l ++ [(q, b)]) p = kept l p := by rw [Disk.kept_snoc]; simp [h]
/-! what is at a place -/
theorem isSup_own {ga gd gl : Int} {life : UInt64} {base : Int} {gen : UInt64} : isSup ga gd gl (splace life) (sx ga gd gl life base gen, 0) = true := by
  simp [isSup, sx, R1.sameB_self]
theorem isSup_fault {ga gd gl p : Int} {d : X × Int} (h : d.2 ≠ 0) : isSup ga gd gl p d = false := by simp [isSup, h]
theorem UpN.at_own {s : St} {n : Nat} (h : UpN s n) {l : List (List UInt8)} {ga gd gl : Int} {life : UInt64} {base : Int} {gen : UInt64} (hn : splace life < n) (hg : Good l (splace life) (sx ga gd gl life base gen) (kept s.all (splace life).toNat)) : atR l s ga gd gl (splace life) = some ⟨life, base, gen⟩ := by
  have := splace_ok life
  unfold atR Sup.dec
  rw [h.read (by omega) hn]
  simp only []
  rw [hg.dec, if_pos isSup_own]; rfl
theorem UpN.at_zero {s : St} {n : Nat} (h : UpN s n) {l : List (List UInt8)} {ga gd gl p : Int} (h0 : 0 ≤ p) (hn : p < n) (hg : kept s.all p.toNat = zero512) : atR l s ga gd gl p = none := by
  unfold atR Sup.dec
  rw [h.read h0 hn]
  simp only []
  rw [hg, dec_zero, isSup_fault (by simp)]; rfl
theorem splace_next (life : UInt64) : splace (life + 1) = 5 - splace life := by
  unfold splace
  have h1 : (life + 1).toNat = (life.toNat + 1) % 18446744073709551616 := by simp [UInt64.toNat_add]
  rw [h1]; omega
/-- which of two counts -/
theorem best_first {p q : Int} {f : Int → Option SV} {x : SV} (hp : 2 ≤ p ∧ p ≤ 3) (hq : q = 5 - p) (h : f p = some x) (hn : f q = none) : best (best none (f 2)) (f 3) = some x := by
  rcases (show p = 2 ∨ p = 3 by omega) with rfl | rfl
  · have : q = 3 := by omega
    subst this; rw [h, hn]; rfl
  · have : q = 2 := by omega
    subst this; rw [h, hn]; rfl
theorem best_later {p q : Int} {f : Int → Option SV} {x y : SV} (hp : 2 ≤ p ∧ p ≤ 3) (hq : q = 5 - p) (h : f p = some x) (hn : f q = some y) (hl : x.life < y.life) : best (best none (f 2)) (f 3) = some y := by
  rcases (show p = 2 ∨ p = 3 by omega) with rfl | rfl
  · have : q = 3 := by omega
    subst this; rw [h, hn]; simp [best, after1, hl]
  · have : q = 2 := by omega
    subst this
    rw [h, hn]
    have : ¬ y.life < x.life := fun e => by rw [UInt64.lt_iff_toNat_lt] at e hl; omega
    simp [best, after1, this]
theorem UpN.clr {s : St} {n : Nat} (h : UpN s n) (hn : 4 ≤ n) : (clr s).2 = 0 ∧ UpN (clr s).1 n ∧ (clr s).1.all = s.all ++ [(2, zero512), (3, zero512)] ∧ (clr s).1.sz ≤ s.sz + 5 := by
  obtain ⟨size, pend, all, fuse, calls, down⟩ := s
  obtain ⟨h1, h2, h3, h4⟩ := h
  simp only at h1 h2 h3 h4
  subst h1 h2 h3
  have f0 : ¬ fuse = 0 := by omega
  have f1 : ¬ 0 < fuse := by omega
  have e1 : write ⟨size, [], all, fuse, calls, false⟩ 2 zero512 = (⟨size, [(2, zero512)], all, fuse, calls + 1, false⟩, 0) := by
    unfold write; rw [if_neg (by simp), if_neg (by simp; omega), if_neg (by simp [Disk.zero512_len])]; unfold burn; simp [f0, f1]
  have e2 : write ⟨size, [(2, zero512)], all, fuse, calls + 1, false⟩ 3 zero512 = (⟨size, [(2, zero512), (3, zero512)], all, fuse, calls + 1 + 1, false⟩, 0) := by
    unfold write; rw [if_neg (by simp), if_neg (by simp; omega), if_neg (by simp [Disk.zero512_len])]; unfold burn; simp [f0, f1]
  have e3 : flush ⟨size, [(2, zero512), (3, zero512)], all, fuse, calls + 1 + 1, false⟩ = (⟨size, [], all ++ [(2, zero512), (3, zero512)], fuse, calls + 1 + 1 + 1, false⟩, 0) := by
    unfold flush burn; simp [f0, f1]
  have e : Sup.clr ⟨size, [], all, fuse, calls, false⟩ = (⟨size, [], all ++ [(2, zero512), (3, zero512)], fuse, calls + 1 + 1 + 1, false⟩, 0) := by
    unfold Sup.clr
    rw [e1]
    simp only [if_true]
    rw [e2]
    simp only [if_true]
    exact e3
  rw [e]
  exact ⟨rfl, ⟨rfl, rfl, rfl, h4⟩, rfl, by unfold Disk.St.sz; simp; omega⟩
theorem srightF_new {n : Nat} {ga gd gl : Int} (h : Geom.right ga gd gl = true) {s : St} (hs : s.size = n) (hn : (n : Int) = Geom.sizeOf ga gd gl) : srightF s ga gd gl = 0 := by
  unfold srightF; rw [if_pos ⟨h, by rw [hs, hn]⟩]
theorem sB_good (l : List (List UInt8)) {ga gd gl : Int} {life : UInt64} {base : Int} {gen : UInt64} (h0 : 0 ≤ base) (h1 : base ≤ 1073741824) : Good (sL l ga gd gl life base gen) (splace life) (sx ga gd gl life base gen) (sB l ga gd gl life base gen) := Good.made l (sx_right h0 h1)
end Go.Proofs.YtchcmklelmlbgaaGreat.Sup

/- Sectors encoded and written, one behind the other, and flushed: what becomes of the disk and of the sums: plain. -/
namespace Go.Proofs.YtchcmklelmlbgaaGreat.Enc
open Go.RowKit
open Go.Proofs.YtchcmklelmlbgaaGreat.Disk (St Wr write flush read kept burn restart fates fate keptAt new zero512 arm)
open Go.Proofs.YtchcmklelmlbgaaGreat.Sec (X text text_len sumOf sumOf_len sumAfter ckS rightF X0)
open Go.Proofs.YtchcmklelmlbgaaGreat.Sup (UpN dec_sound text_inj mem_after ckS_more)
set_option linter.unusedVariables false
/-- the bytes of a sector at a place -/
def xB (l : List (List UInt8)) (p : Int) (x : X) : List UInt8 := text p x ++ sumOf l (text p x)
theorem xB_len (l : List (List UInt8)) (p : Int) (x : X) : (xB l p x).length = 512 := by unfold xB; rw [List.length_append, text_len, sumOf_len]
abbrev Itm := Int × X
/-- sectors written one behind the other, up to the first that is not taken -/
def encs : List Itm → List (List UInt8) → St → List (List UInt8) × St × Int
  | [], l, s => (l, s, 0)
  | i :: r, l, s => if (write s i.1 (xB l i.1 i.2)).2 = 0 then encs r (sumAfter l (text i.1 i.2)) (write s i.1 (xB l i.1 i.2)).1
    else (sumAfter l (text i.1 i.2), write s i.1 (xB l i.1 i.2))
/-- and flushed -/
def enf (is : List Itm) (l : List (List UInt8)) (s : St) : List (List UInt8) × St × Int :=
  if (encs is l s).2.2 = 0 then ((encs is l s).1, flush (encs is l s).2.1) else encs is l s
theorem encs_nil (l : List (List UInt8)) (s : St) : encs [] l s = (l, s, 0) := rfl
theorem encs_go {i : Itm} {r : List Itm} {l : List (List UInt8)} {s : St} (h : (write s i.1 (xB l i.1 i.2)).2 = 0) : encs (i :: r) l s = encs r (sumAfter l (text i.1 i.2)) (write s i.1 (xB l i.1 i.2)).1 := by
  show (if _ then _ else _) = _
  rw [if_pos h]
theorem encs_stop {i : Itm} {r : List Itm} {l : List (List UInt8)} {s : St} (h : (write s i.1 (xB l i.1 i.2)).2 ≠ 0) : encs (i :: r) l s = (sumAfter l (text i.1 i.2), write s i.1 (xB l i.1 i.2)) := by
  show (if _ then _ else _) = _
  rw [if_neg h]
theorem sumAfter_len (l : List (List UInt8)) (T : List UInt8) : (sumAfter l T).length ≤ l.length + 1 := by unfold sumAfter; split <;> simp
theorem encs_lim : ∀ (is : List Itm) (l : List (List UInt8)) (s : St), (encs is l s).1.length ≤ l.length + is.length ∧ (encs is l s).2.1.sz ≤ s.sz + 2 * is.length
  | [], l, s => by simp [encs_nil]
  | i :: r, l, s => by
    have h1 := sumAfter_len l (text i.1 i.2)
    have h2 := Disk.sz_write s i.1 (xB l i.1 i.2)
    by_cases h : (write s i.1 (xB l i.1 i.2)).2 = 0
    · rw [encs_go h]
      obtain ⟨h3, h4⟩ := encs_lim r (sumAfter l (text i.1 i.2)) (write s i.1 (xB l i.1 i.2)).1
      simp only [List.length_cons]; omega
    · rw [encs_stop h]
      simp only [List.length_cons]; omega
theorem enf_lim (is : List Itm) (l : List (List UInt8)) (s : St) : (enf is l s).1.length ≤ l.length + is.length ∧ (enf is l s).2.1.sz ≤ s.sz + 2 * is.length + 1 := by
  obtain ⟨h1, h2⟩ := encs_lim is l s
  unfold enf
  split
  · have := Disk.sz_flush (encs is l s).2.1
    simp only []; omega
  · omega
/-- sums only come to be -/
def More (l l' : List (List UInt8)) : Prop := ∀ p x b, Sup.Good l p x b → Sup.Good l' p x b
theorem More.refl (l : List (List UInt8)) : More l l := fun _ _ _ h => h
theorem More.trans {a b c : List (List UInt8)} (h : More a b) (k : More b c) : More a c := fun p x y g => k p x y (h p x y g)
theorem More.after (l : List (List UInt8)) (T : List UInt8) : More l (sumAfter l T) := fun _ _ _ h => h.more T
/-- what the writes are: the first items' sectors -/
structure Put (n : Nat) (is : List Itm) (l : List (List UInt8)) (s : St) (q : List (List UInt8) × St × Int) (m : List Wr) : Prop where
  size : q.2.1.size = n
  all : q.2.1.all = s.all
  pend : q.2.1.pend = s.pend ++ m
  len : m.length ≤ is.length
  at_ : ∀ k (h : k < m.length) (h' : k < is.length), m[k].1 = is[k].1.toNat ∧ Sup.Good q.1 is[k].1 is[k].2 m[k].2
  more : More l q.1
  old : ∀ T ∈ l, T ∈ q.1
  text : ∀ T ∈ q.1, T ∈ l ∨ ∃ i ∈ is, T = text i.1 i.2
  res : (q.2.2 = 12 ∧ q.2.1.down = true ∧ ¬ s.fuse < 0) ∨ (q.2.2 = 0 ∧ q.2.1.down = false ∧ m.length = is.length ∧ (s.fuse < 0 → q.2.1.fuse < 0))
theorem write_cases {s : St} {n : Nat} (h2 : s.size = n) (hd : s.down = false) {p : Int} (h0 : 0 ≤ p) (h1 : p < n) {b : List UInt8} (hb : b.length = 512) :
    (write s p b).1.size = n ∧ (write s p b).1.all = s.all ∧ (write s p b).1.pend = s.pend ++ [(p.toNat, b)] ∧
    (((write s p b).2 = 12 ∧ (write s p b).1.down = true ∧ ¬ s.fuse < 0) ∨ ((write s p b).2 = 0 ∧ (write s p b).1.down = false ∧ (s.fuse < 0 → (write s p b).1.fuse < 0))) := by
  subst h2
  have hw : write s p b = burn { s with pend := s.pend ++ [(p.toNat, b)] } := by
    unfold write; rw [if_neg (by simp [hd]), if_neg (by omega), if_neg (by simpa using hb)]
  rw [hw]
  obtain ⟨e1, e2, e3⟩ := Disk.burn_lists { s with pend := s.pend ++ [(p.toNat, b)] }
  refine ⟨e3, e2, e1, ?_⟩
  unfold burn
  split
  · rename_i h; exact .inl ⟨rfl, rfl, by simp only [] at h; omega⟩
  · split
    · rename_i h; exact .inr ⟨rfl, hd, fun e => by simp only [] at h; omega⟩
    · exact .inr ⟨rfl, hd, fun e => e⟩
theorem flush_cases {s : St} {n : Nat} (h2 : s.size = n) (hd : s.down = false) :
    (flush s).1.size = n ∧ (((flush s).2 = 12 ∧ (flush s).1.down = true ∧ (flush s).1.all = s.all ∧ (flush s).1.pend = s.pend ∧ ¬ s.fuse < 0) ∨ ((flush s).2 = 0 ∧ (flush s).1.down = false ∧ (flush s).1.all = s.all ++ s.pend ∧ (flush s).1.pend = [] ∧ (s.fuse < 0 → (flush s).1.fuse < 0))) := by
  obtain ⟨size, pend, all, fuse, calls, down⟩ := s
  simp only at h2 hd
  subst h2 hd
  by_cases h0 : fuse = 0
  · subst h0; simp [flush, burn]
  · by_cases h1 : 0 < fuse
    · simp [flush, burn, h0, h1]; omega
    · simp [flush, burn, h0, h1]
theorem encs_put {n : Nat} : ∀ (is : List Itm) (l : List (List UInt8)) (s : St), s.size = n → s.down = false → (∀ i ∈ is, rightF i.1 i.2 = 0 ∧ 0 ≤ i.1 ∧ i.1 < n) → ∃ m, Put n is l s (encs is l s) m
  | [], l, s, h2, hd, _ => ⟨[], h2, rfl, by rw [encs_nil]; simp, by simp, fun k h => by simp at h, More.refl l, fun T h => h, fun T h => .inl h, .inr ⟨rfl, hd, rfl, fun h => h⟩⟩
  | i :: r, l, s, h2, hd, hi => by
    obtain ⟨hr, hp0, hp1⟩ := hi i (by simp)
    obtain ⟨w1, w2, w3, w4⟩ := write_cases h2 hd hp0 hp1 (xB_len l i.1 i.2)
    have hg : Sup.Good (sumAfter l (text i.1 i.2)) i.1 i.2 (xB l i.1 i.2) := Sup.Good.made l hr
    rcases w4 with ⟨w4, w5, w6⟩ | ⟨w4, w5, w6⟩
    · rw [encs_stop (by rw [w4]; decide)]
      refine ⟨[(i.1.toNat, xB l i.1 i.2)], w1, w2, w3, by simp, ?_, More.after _ _, fun T h => mem_after.2 (.inl h), fun T h => (mem_after.1 h).imp id (fun e => ⟨i, by simp, e⟩), .inl ⟨w4, w5, w6⟩⟩
      intro k h h'
      obtain rfl : k = 0 := by simp at h; exact h
      exact ⟨rfl, hg⟩
    · rw [encs_go w4]
      obtain ⟨m, hm⟩ := encs_put r (sumAfter l (text i.1 i.2)) (write s i.1 (xB l i.1 i.2)).1 w1 w5 (fun j hj => hi j (by simp [hj]))
      refine ⟨(i.1.toNat, xB l i.1 i.2) :: m, hm.size, hm.all.trans w2, by rw [hm.pend, w3]; simp, by simpa using hm.len, ?_, (More.after _ _).trans hm.more, fun T h => hm.old T (mem_after.2 (.inl h)), ?_, ?_⟩
      · intro k h h'
        cases k with
        | zero => exact ⟨rfl, hm.more _ _ _ hg⟩
        | succ k => exact hm.at_ k (by simpa using h) (by simpa using h')
      · intro T h
        rcases hm.text T h with h | ⟨j, hj, e⟩
        · exact (mem_after.1 h).imp id (fun e => ⟨i, by simp, e⟩)
        · exact .inr ⟨j, by simp [hj], e⟩
      · rcases hm.res with ⟨h1, h3, h4⟩ | ⟨h1, h3, h4, h5⟩
        · exact .inl ⟨h1, h3, fun e => h4 (w6 e)⟩
        · exact .inr ⟨h1, h3, by simp [h4], fun e => h5 (w6 e)⟩
/-- written and flushed: the power went, and some of them are pending; or they are kept -/
structure Enf (n : Nat) (is : List Itm) (l : List (List UInt8)) (s : St) (q : List (List UInt8) × St × Int) (m : List Wr) : Prop where
  size : q.2.1.size = n
  len : m.length ≤ is.length
  at_ : ∀ k (h : k < m.length) (h' : k < is.length), m[k].1 = is[k].1.toNat ∧ Sup.Good q.1 is[k].1 is[k].2 m[k].2
  more : More l q.1
  old : ∀ T ∈ l, T ∈ q.1
  text : ∀ T ∈ q.1, T ∈ l ∨ ∃ i ∈ is, T = text i.1 i.2
  res : (q.2.2 = 12 ∧ q.2.1.down = true ∧ q.2.1.all = s.all ∧ q.2.1.pend = s.pend ++ m ∧ ¬ s.fuse < 0) ∨
    (q.2.2 = 0 ∧ q.2.1.down = false ∧ q.2.1.all = s.all ++ (s.pend ++ m) ∧ q.2.1.pend = [] ∧ m.length = is.length ∧ (s.fuse < 0 → q.2.1.fuse < 0))
theorem enf_of {n : Nat} (is : List Itm) (l : List (List UInt8)) (s : St) (h2 : s.size = n) (hd : s.down = false) (hi : ∀ i ∈ is, rightF i.1 i.2 = 0 ∧ 0 ≤ i.1 ∧ i.1 < n) : ∃ m, Enf n is l s (enf is l s) m := by
  obtain ⟨m, h⟩ := encs_put is l s h2 hd hi
  refine ⟨m, ?_⟩
  unfold enf
  rcases h.res with ⟨r1, r2, r3⟩ | ⟨r1, r2, r3, r4⟩
  · rw [if_neg (by rw [r1]; decide)]
    exact ⟨h.size, h.len, h.at_, h.more, h.old, h.text, .inl ⟨r1, r2, h.all, h.pend, r3⟩⟩
  · rw [if_pos r1]
    obtain ⟨f1, f2⟩ := flush_cases h.size r2
    refine ⟨f1, h.len, h.at_, h.more, h.old, h.text, ?_⟩
    rcases f2 with ⟨g1, g2, g3, g4, g5⟩ | ⟨g1, g2, g3, g4, g5⟩
    · exact .inl ⟨g1, g2, by rw [g3, h.all], by rw [g4, h.pend], fun e => g5 (r4 e)⟩
    · exact .inr ⟨g1, g2, by rw [g3, h.all, h.pend], g4, r3, fun e => g5 (r4 e)⟩
/-- what is kept of writes to places that are not twice among them -/
theorem kept_of (all : List Wr) : ∀ (m : List Wr) (k : Nat) (h : k < m.length), (∀ a b (ha : a < m.length) (hb : b < m.length), m[a].1 = m[b].1 → a = b) → kept (all ++ m) m[k].1 = m[k].2 := by
  intro m k h hd
  have e : all ++ m = (all ++ m.take k ++ [m[k]]) ++ m.drop (k + 1) := by
    rw [List.append_assoc, List.append_assoc]
    congr 1
    rw [List.singleton_append, ← List.drop_eq_getElem_cons h, List.take_append_drop]
  have hk := Disk.kept_append (all ++ m.take k ++ [m[k]]) (m.drop (k + 1)) m[k].1 (by
    intro w hw he
    obtain ⟨j, hj, rfl⟩ := List.mem_iff_getElem.1 hw
    rw [List.length_drop] at hj
    rw [List.getElem_drop] at he
    have := hd (k + 1 + j) k (by omega) h he
    omega)
  rw [e, hk, Disk.kept_snoc, if_pos rfl]
theorem fates_places (keep : List Int) (t a : Int) : ∀ (m : List Wr) (i : Nat) (all : List Wr), ∃ m', fates keep t a i m all = all ++ m' ∧ ∀ w ∈ m', ∃ v ∈ m, w.1 = v.1
  | [], i, all => ⟨[], by simp [fates], fun w h => by simp at h⟩
  | v :: m, i, all => by
    obtain ⟨m', h1, h2⟩ := fates_places keep t a m (i + 1) (fate keep t a i v all)
    have h3 : ∃ m1, fate keep t a i v all = all ++ m1 ∧ ∀ w ∈ m1, w.1 = v.1 := by
      unfold fate
      split
      · exact ⟨_, rfl, fun w hw => by rw [List.mem_singleton] at hw; subst hw; rfl⟩
      · split
        · exact ⟨_, rfl, fun w hw => by rw [List.mem_singleton] at hw; subst hw; rfl⟩
        · exact ⟨[], by simp, fun w hw => by simp at hw⟩
    obtain ⟨m1, h4, h5⟩ := h3
    refine ⟨m1 ++ m', by show fates keep t a (i + 1) m _ = _; rw [h1, h4, List.append_assoc], fun w hw => ?_⟩
    rcases List.mem_append.1 hw with hw | hw
    · exact ⟨v, by simp, h5 w hw⟩
    · obtain ⟨u, hu, e⟩ := h2 w hw
      exact ⟨u, by simp [hu], e⟩
theorem restart_up {s : St} {n : Nat} (h : s.size = n) (keep : List Int) (t a : Int) : UpN (restart s keep t a) n ∧ (s.pend = [] → (restart s keep t a).all = s.all) ∧ ∃ m', (restart s keep t a).all = s.all ++ m' ∧ ∀ w ∈ m', ∃ v ∈ s.pend, w.1 = v.1 := by
  refine ⟨⟨h, rfl, rfl, by simp [restart]⟩, fun e => by unfold restart; rw [e]; rfl, ?_⟩
  exact fates_places keep t a s.pend 0 s.all
/-- what is read at a place by a disk's power -/
def rd (l : List (List UInt8)) (s : St) (p : Int) : X × Int := Sec.decode (ckS l (read s p).1) p (read s p).1
theorem rd_good {s : St} {n : Nat} (h : UpN s n) {l : List (List UInt8)} {p : Int} {x : X} (h0 : 0 ≤ p) (h1 : p < n) (hg : Sup.Good l p x (kept s.all p.toNat)) : rd l s p = (x, 0) := by
  unfold rd
  rw [h.read h0 h1]
  exact hg.dec
theorem rd_zero {s : St} {n : Nat} (h : UpN s n) {l : List (List UInt8)} {p : Int} (h0 : 0 ≤ p) (h1 : p < n) (hg : kept s.all p.toNat = zero512) : rd l s p = (X0, 7) := by
  unfold rd
  rw [h.read h0 h1, hg]
  exact Sup.dec_zero _ _
theorem rd_sound {l : List (List UInt8)} {s : St} {p : Int} (h : (rd l s p).2 = 0) : rightF p (rd l s p).1 = 0 ∧ text p (rd l s p).1 ∈ l := by
  unfold rd at h ⊢
  generalize hd : Sec.decode (ckS l (read s p).1) p (read s p).1 = d at h
  obtain ⟨x, f⟩ := d
  simp only at h
  subst h
  exact dec_sound hd
end Go.Proofs.YtchcmklelmlbgaaGreat.Enc
