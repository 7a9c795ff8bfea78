/- The law's same and alive. -/
import Derived.Test.YtcagglcmikgdfaaDoorUtf8
namespace Go.Proofs.YtcagglcmikgdfaaDoor.Utf
open Go.RowKit Go.Shelf
set_option linter.unusedVariables false
set_option maxRecDepth 100000
def sameZ (a b : List Int) : Bool := decide (a = b)
theorem sameZ_self (a : List Int) : sameZ a a = true := by simp [sameZ]
theorem sameZ_at {a b : List Int} {k : Nat} (ha : k < a.length) (hb : k < b.length) (h : a[k] ≠ b[k]) : sameZ a b = false := by
  simp only [sameZ, decide_eq_false_iff_not]; intro e; subst e; exact h rfl
theorem sameZ_all {a b : List Int} (hl : a.length = b.length) (h : ∀ j (ha : j < a.length) (hb : j < b.length), a[j] = b[j]) : sameZ a b = true := by
  simp only [sameZ, decide_eq_true_eq]; exact List.ext_getElem hl h
theorem agreeZ {l m : List Int} {k : Nat} (h : ∀ j (ha : j < l.length) (hb : j < m.length), j < k → l[j] = m[j]) {h1 : k < l.length} {h2 : k < m.length} (he : l[k] = m[k]) :
    ∀ j (ha : j < l.length) (hb : j < m.length), j < k + 1 → l[j] = m[j] := fun j ha hb hj => by
  rcases Nat.lt_or_ge j k with e | e
  · exact h j ha hb e
  · obtain rfl : j = k := by omega
    exact he
set_option maxHeartbeats 400000 in
theorem same_any (A B : Option Addr) (l m : List Int) (n o c d : Nat) (w : World) (hn : n = l.length) (ho : o = m.length) (ha : Rd w w.heap.size A (l.map (Value.int .i32))) (hb : Rd w w.heap.size B (m.map (Value.int .i32))) (hl : l.length ≤ 1000000000000) (hm : m.length ≤ 1000000000000) :
    Calls Tryd.prog 11 #[.slice A n c, .slice B o d] w fun e w' => e = .returned (.bool (sameZ l m)) ∧ Below w.heap.size w w' := by
  subst hn ho
  by_cases hlen : l.length = m.length
  · have hne := bne_no (congrArg (Nat.cast : Nat → Int) hlen)
    have Hlen := Lib.hid hlen
    have hle : l.length ≤ m.length := by omega
    clear hlen
    go_enter Tryd.func11, Tryd.ntmps11
    go_wp2
    go_loopw [5] (fun i wr => ∃ k : Nat, k ≤ l.length ∧ i = .int .i64 k ∧ Hid (∀ j (ha : j < l.length) (hb : j < m.length), j < k → l[j] = m[j]) ∧ Below w.heap.size w wr) (fun i _ => l.length - (intOf i).toNat)
    case atStart => exact ⟨0, by omega, rfl, fun j _ _ h => absurd h (by omega), Below.refl _ _⟩
    case round =>
      obtain ⟨k, hk, rfl, heq, hbel⟩ := hrel
      by_cases hlt : k < l.length
      · obtain ⟨b, off, rfl, hbb, hc⟩ := (ha.below hbel).get (k := k) (by simpa using hlt)
        obtain ⟨b', off', rfl, hbb', hc'⟩ := (hb.below hbel).get (k := k) (by simp; omega)
        rw [List.getElem_map] at hc hc'
        have hlt' : k < m.length := by omega
        by_cases hx : l[k] = m[k]
        · have hx' := bne_no hx
          have Hx := Lib.hid hx
          clear hx
          go_wp2
          go_quiet (fail)
          go_wp2
          go_roundw
          case rel => exact ⟨k + 1, by omega, by go_num, agreeZ heq.out Hx.out, by simpa using bdrew hbel _⟩
          case measure => simp [intOf]; omega
        · have hx' := bne_yes hx
          have Hx := Lib.hid (sameZ_at hlt hlt' hx)
          clear hx
          go_wp2
          go_quiet (fail)
          go_wp2
          go_ret
          exact ⟨ret_bool Hx.out.symm, bdrew hbel _⟩
      · have Hx := Lib.hid (sameZ_all Hlen.out fun j h1 h2 => heq.out j h1 h2 (by omega))
        go_wp2
        go_ret
        exact ⟨ret_bool Hx.out.symm, hbel⟩
  · have hne := bne_yes (fun e => hlen (Int.natCast_inj.1 e))
    have Hx := Lib.hid (show sameZ l m = false by simp only [sameZ, decide_eq_false_iff_not]; intro e; exact hlen (by rw [e]))
    clear hlen
    go_enter Tryd.func11, Tryd.ntmps11
    go_wp2
    go_ret
    exact ⟨ret_bool Hx.out.symm, Below.refl _ _⟩
theorem alive_runes : runesR [97, 195, 169] = ([97, 233], 0, 0) := by
  have h : scan (encs [97, 233]) = ([97, 233], (encs [97, 233]).length) := scan_encs _ (by decide)
  rw [show encs [97, 233] = [97, 195, 169] by decide] at h
  unfold runesR
  rw [h]
  rfl
theorem alive_fold : foldL [65, 195, 132, 55] = [97, 195, 164, 55] := by
  have h : scan (encs [65, 196, 55]) = ([65, 196, 55], (encs [65, 196, 55]).length) := scan_encs _ (by decide)
  rw [show encs [65, 196, 55] = [65, 195, 132, 55] by decide] at h
  unfold foldL
  rw [h]
  decide
theorem alive_any (w : World) (hT : Tabs w) : Calls Tryd.prog 6 #[] w fun e w' => e = .returned (.bool true) ∧ Below w.heap.size w w' := by
  have h1 := runes_any [97, 195, 169] w (by simp) hT
  rw [alive_runes] at h1
  have H1 := Lib.hid h1
  have h2 := fun w (hT : Tabs w) => fold_any [65, 195, 132, 55] w (by simp) hT
  rw [alive_fold] at h2
  have H2 := Lib.hid h2
  clear h1 h2
  go_enter Tryd.func6, Tryd.ntmps6
  go_wp2_with (first
    | (go_at_call 7; refine (H1.out).mono ?_; rintro e w2 ⟨v2, rfl, own2, b2⟩; obtain ⟨g2, c2, rfl, hg2⟩ := own_some own2 (by simp))
    | (go_at_call 16; refine (H2.out _ (hT.on b2)).mono ?_; rintro e w3 ⟨rfl, b3⟩; have own3 := own_on own2 b3; have q1 := (World.ownsRow.cellAt own3 (j := 1) (by simp))))
  go_ret
  exact ⟨rfl, bt b2 b3⟩
end Go.Proofs.YtcagglcmikgdfaaDoor.Utf
