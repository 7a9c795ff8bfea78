/- The suite of terms: Symbolic, none, real, mark. -/
import Derived.Test.YtkapamolligmkaaSecSym1
import Derived.ArgAppend
import Derived.Lib.SlBytesConst
namespace Go.Proofs.Ytkapamolligmkaa.Sec
open Go.RowKit
open Go.Proofs.Ytkapamolligmkaa.Num (putL getN)
set_option linter.unusedVariables false
set_option maxRecDepth 100000
theorem info8' : (Try.prog.info? 5).map (fun i => (i.zero, i.size, i.bytes)) = some (some (.int .u8 0), 1, 1) := by kernel_rfl
/-- a suite of terms lies at block g, its sums in block b -/
def SymAt (w : World) (g b : Nat) (l : List (List UInt8)) : Prop := (∃ k, w.heap[g]? = some (.cells #[.pointer (some ⟨k, 0, none⟩), .map (some b), .pointer none] 71 (0, 0))) ∧ SumsAt w b l
theorem SymAt.ne {w : World} {g b : Nat} {l : List (List UInt8)} (h : SymAt w g b l) : g ≠ b := by
  obtain ⟨⟨k, h⟩, n, D, ⟨es, cl, h2, _⟩, _⟩ := h
  rintro rfl
  rw [h] at h2; cases h2
theorem SymAt.lt {w : World} {g b : Nat} {l : List (List UInt8)} (h : SymAt w g b l) : g < w.heap.size ∧ b < w.heap.size := ⟨h.1.elim fun _ h => lt_of_block h, h.2.lt⟩
theorem SymAt.grown {w w' : World} {g b : Nat} {l : List (List UInt8)} {r : Option Nat} (h : SymAt w g b l) (k : w.grownBy w' r) (h1 : some g ≠ r) (h2 : some b ≠ r) : SymAt w' g b l :=
  ⟨h.1.elim fun q hq => ⟨q, (k.block g (lt_of_block hq) h1).trans hq⟩, h.2.kept k h2⟩
theorem SymAt.on {w w' : World} {g b : Nat} {l : List (List UInt8)} (h : SymAt w g b l) (k : Below w.heap.size w w') : SymAt w' g b l := h.grown (below_grown k none) (by simp) (by simp)
theorem termNew_any (w : World) : Calls Try.prog 25 #[] w fun e w' => ∃ k, e = .returned (.pointer (some ⟨k, 0, none⟩)) ∧ Below w.heap.size w w' := by
  have hmm := @run_makeMap Try.prog
  go_enter Try.func25, Try.ntmps25
  go_wp2
  go_ret
  exact ⟨_, rfl, b2alloc _ _ _⟩
theorem symbolic_any (w : World) : Calls Try.prog 8 #[] w fun e w' => ∃ g b, e = .returned (.pointer (some ⟨g, 0, none⟩)) ∧ SymAt w' g b [] ∧ w.heap.size ≤ g ∧ w.heap.size ≤ b ∧ Below w.heap.size w w' := by
  have hmm := @run_makeMap Try.prog
  go_enter Try.func8, Try.ntmps8
  go_wp2_with (go_at_call 25; refine (termNew_any _).mono ?_; rintro e w' ⟨k, rfl, b1⟩)
  go_ret
  have hn := heap_alloc_new (w'.alloc (.map #[] 0)) (.cells #[.pointer (some ⟨k, 0, none⟩), .map (some w'.heap.size), .pointer none] 71)
  rw [show (w'.alloc (.map #[] 0)).heap.size = w'.heap.size + 1 by simp] at hn
  have hs := b1.size
  exact ⟨_, _, rfl, ⟨⟨k, hn⟩, (SumsAt.made w').on (b1alloc _ _)⟩, by omega, hs, bt b1 (b2alloc _ _ _)⟩
theorem sNone_sym (w : World) (g b : Nat) (l : List (List UInt8)) (h : SymAt w g b l) : Calls Try.prog 53 #[.pointer (some ⟨g, 0, none⟩)] w fun e w' => e = .returned (.bool false) ∧ w = w' := by
  obtain ⟨⟨k, h⟩, _⟩ := h
  obtain ⟨c0, c1, c2⟩ := three h
  go_enter Try.func53, Try.ntmps53
  go_wp2
  go_ret
  exact ⟨rfl, rfl⟩
theorem sReal_sym (w : World) (g b : Nat) (l : List (List UInt8)) (h : SymAt w g b l) : Calls Try.prog 54 #[.pointer (some ⟨g, 0, none⟩)] w fun e w' => e = .returned (.bool false) ∧ w = w' := by
  obtain ⟨⟨k, h⟩, _⟩ := h
  obtain ⟨c0, c1, c2⟩ := three h
  go_enter Try.func54, Try.ntmps54
  go_wp2
  go_ret
  exact ⟨rfl, rfl⟩
/-- the sum that has a number -/
def mark (n : Nat) : List UInt8 := [255, 253] ++ putL n 6
theorem mark_len (n : Nat) : (mark n).length = 8 := by simp [mark, Num.putL_len]
set_option maxHeartbeats 400000 in
theorem mark_any (n : Nat) (w : World) (hn : n ≤ 1000000) : Calls Try.prog 56 #[.int .i64 (n : Int)] w (RetB 5 w (mark n)) := by
  obtain ⟨i0', hi0, hz0, hz1, hz2⟩ := info_parts info8'
  obtain ⟨u, hu⟩ := to64 (n : Int) (by omega) (by omega)
  have Hu := Lib.hid hu
  have hu2 : u.toNat = n := by omega
  have Hp := Lib.hid (fun W => Num.put_any u (n : Int) hu 6 6 (by rfl) (by omega) (by omega) W)
  have Hu2 := Lib.hid hu2
  clear hu hu2
  have hcv := Lib.run_convert_bytes_const (P := Try.prog) w 23 5 #[.int .u8 255, .int .u8 253] 2 2 Try.underlying23 Try.underlying5
  have b0 := b1alloc w (.cells #[.int .u8 255, .int .u8 253] 5 (2, 3))
  have hq0 : (w.alloc (.cells #[.int .u8 255, .int .u8 253] 5 (2, 3))).heap[w.heap.size]? = some (.cells #[.int .u8 255, .int .u8 253] 5 (2, 3)) := heap_alloc_new w _
  go_enter Try.func56, Try.ntmps56
  go_wp2_with fail
  refine (Hp.out _).mono ?_
  rintro e w1 ⟨A1, c1, rfl, own1, b1⟩
  have bw1 := bt b0 b1
  have hq1 := (b1.block _ (lt_of_block hq0)).trans hq0
  have rd1 := Rd.own own1
  have hl : (putL u.toNat 6).length = 6 := Num.putL_len _ _
  rw [hl] at own1 ⊢
  obtain ⟨b', off', rfl, _, hcs⟩ := rd1 (by intro e; have := congrArg List.length e; rw [List.length_map, hl] at this; cases this)
  have hc2 : ∀ (j : Nat) v, ((putL u.toNat 6).map e8)[j]? = some v → w1.cell? ((⟨b', off', none⟩ : Addr).add j) = some v := fun j v hv => by
    obtain ⟨hj, rfl⟩ := List.getElem?_eq_some_iff.1 hv
    rw [Addr.add_lit]; exact hcs j hj
  have ho : ∀ (bb : Addr), (some ⟨w.heap.size, 0, none⟩ : Option Addr) = some bb → ∀ (j : Nat) v, ([.int .u8 255, .int .u8 253] : List Value)[j]? = some v → w1.cell? (bb.add j) = some v := fun bb hb j v hv => by
    injection hb with hb
    subst hb
    rw [Addr.add_lit, Nat.zero_add]
    unfold World.cell?
    rw [hq1]
    match j, hv with
    | 0, hv => simpa using hv
    | 1, hv => simpa using hv
  go_wp2_with ((with_reducible show wpList _ _ _ (⟨some 8, _, _, _, _, _⟩ :: _) _ _); refine wpList_append_grows w1 rfl (.tmp 4) (.tmp 7) _ rfl 5 i0' _ 1 1 Try.underlying23 hi0 hz0 hz1 hz2 rfl (by omega) (some ⟨w.heap.size, 0, none⟩) 2 2 [.int .u8 255, .int .u8 253] rfl (fun e => by cases e) rfl ho ⟨b', off', none⟩ 6 c1 ((putL u.toNat 6).map e8) rfl (by rw [List.length_map, hl]) hc2 (e8_one _) (by omega) (by simp only [maxLen]; omega) (by omega) ?_; intro v2 w2 own2 hg2)
  go_ret
  exact RetB.mk (own_base own2 bw1.size) (by rw [mark, List.map_append, Hu2.out]; rfl) (bw1.grown hg2 bw1.size (fun z hz => by cases hz))
end Go.Proofs.Ytkapamolligmkaa.Sec
