/- The walks of the reference's small helpers (oublietteref01). -/
import Derived.Test.YtkapamolligmkaaBase
import Derived.Test.YtkapamolligmkaaRows
import Derived.Outline
import Derived.Deep.QuietTactic
import Derived.BigQuiet
namespace Go.Proofs.Ytkapamolligmkaa.R1
open Go.RowKit
set_option linter.unusedVariables false
set_option maxRecDepth 100000

theorem info8 : (Try.prog.info? 5).map (fun i => (i.zero, i.size, i.bytes)) = some (some (.int .u8 0), 1, 1) := by kernel_rfl



/-- are bytes the same? -/
def sameB (a b : List UInt8) : Bool := decide (a = b)
theorem sameB_self (a : List UInt8) : sameB a a = true := by simp [sameB]
theorem sameB_of {a b : List UInt8} (h : a = b) : sameB a b = true := by simp [sameB, h]
theorem sameB_len {a b : List UInt8} (h : a.length ≠ b.length) : sameB a b = false := by
  simp only [sameB, decide_eq_false_iff_not]; intro e; exact h (by rw [e])
theorem sameB_at {a b : List UInt8} {k : Nat} (ha : k < a.length) (hb : k < b.length) (h : a[k] ≠ b[k]) : sameB a b = false := by
  simp only [sameB, decide_eq_false_iff_not]; intro e; subst e; exact h rfl
theorem sameB_all {a b : List UInt8} (hl : a.length = b.length) (h : ∀ j (ha : j < a.length) (hb : j < b.length), a[j] = b[j]) : sameB a b = true :=
  sameB_of (List.ext_getElem hl h)
theorem agree_succ {l m : List UInt8} {k : Nat} (h : ∀ j (ha : j < l.length) (hb : j < m.length), j < k → l[j] = m[j]) {h1 : k < l.length} {h2 : k < m.length} (he : l[k] = m[k]) :
    ∀ j (ha : j < l.length) (hb : j < m.length), j < k + 1 → l[j] = m[j] := fun j ha hb hj => by
  rcases Nat.lt_or_ge j k with e | e
  · exact h j ha hb e
  · obtain rfl : j = k := by omega
    exact he
set_option maxHeartbeats 400000 in
theorem same_any (A B : Option Addr) (l m : List UInt8) (n o c d : Nat) (w : World) (hn : n = l.length) (ho : o = m.length) (ha : Rd w w.heap.size A (l.map e8)) (hb : Rd w w.heap.size B (m.map e8)) (hl : l.length ≤ 1000000000000) (hm : m.length ≤ 1000000000000) :
    Calls Try.prog 17 #[.slice A n c, .slice B o d] w fun e w' => e = .returned (.bool (sameB l m)) ∧ Below w.heap.size w w' := by
  subst hn ho
  by_cases hlen : l.length = m.length
  · have hne := bne_no (congrArg (Nat.cast : Nat → Int) hlen)
    have Hlen := Lib.hid hlen
    have hle : l.length ≤ m.length := by omega
    clear hlen
    go_enter Try.func17, Try.ntmps17
    go_wp2
    go_loopw [5] (fun i wr => ∃ k : Nat, k ≤ l.length ∧ i = .int .i64 k ∧ Hid (∀ j (ha : j < l.length) (hb : j < m.length), j < k → l[j] = m[j]) ∧ Below w.heap.size w wr) (fun i _ => l.length - (intOf i).toNat)
    case atStart => exact ⟨0, by omega, rfl, fun j _ _ h => absurd h (by omega), Below.refl _ _⟩
    case round =>
      obtain ⟨k, hk, rfl, heq, hbel⟩ := hrel
      by_cases hlt : k < l.length
      · obtain ⟨b, off, rfl, hbb, hc⟩ := (ha.below hbel).get (k := k) (by simpa using hlt)
        obtain ⟨b', off', rfl, hbb', hc'⟩ := (hb.below hbel).get (k := k) (by simp; omega)
        rw [List.getElem_map] at hc hc'
        have hlt' : k < m.length := by omega
        by_cases hx : l[k] = m[k]
        · have hx' := bne8_no hx
          have Hx := Lib.hid hx
          clear hx
          go_wp2
          go_quiet (fail)
          go_wp2
          go_roundw
          case rel => exact ⟨k + 1, by omega, by go_num, agree_succ heq.out Hx.out, by simpa using bdrew hbel _⟩
          case measure => simp [intOf]; omega
        · have hx' := bne8 hx
          have Hx := Lib.hid (sameB_at hlt hlt' hx)
          clear hx
          go_wp2
          go_quiet (fail)
          go_wp2
          go_ret
          exact ⟨ret_bool Hx.out.symm, bdrew hbel _⟩
      · have Hx := Lib.hid (sameB_all Hlen.out fun j h1 h2 => heq.out j h1 h2 (by omega))
        go_wp2
        go_ret
        exact ⟨ret_bool Hx.out.symm, hbel⟩
  · have hne := bne_yes (fun e => hlen (Int.natCast_inj.1 e))
    have Hx := Lib.hid (sameB_len hlen)
    clear hlen
    go_enter Try.func17, Try.ntmps17
    go_wp2
    go_ret
    exact ⟨ret_bool Hx.out.symm, Below.refl _ _⟩
end Go.Proofs.Ytkapamolligmkaa.R1
