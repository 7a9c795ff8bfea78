/- Texts of this claim, joined: SecSym3, SecBackPlain, Sec10, Both, Rt1, Rt2, Rt3, RtPlain, RtL1, RtCrash, RtReads, Open, OpenSec. -/
import Derived.Test.YtkapamolligmkaaRootReadsC
import Derived.Deep.RegionHeld3
import Derived.Test.YtkapamolligmkaaRootReadsB
import Derived.Deep.RegionWith
import Derived.Test.YtkapamolligmkaaRootReadsA
import Derived.Test.YtkapamolligmkaaRows
import Derived.ProofKit
import Derived.OpenShut
import Derived.ShutString
import Derived.ChangeOld
import Derived.Lib.SmallJoins
import Derived.Deep.Slices
import Derived.Deep.Fields
import Derived.ChangeSame
/- The suite of terms: Sum, Check. -/
namespace Go.Proofs.Ytkapamolligmkaa.Sec
open Go.RowKit
open Go.Proofs.Ytkapamolligmkaa.Num (putL getN)
set_option linter.unusedVariables false
set_option maxRecDepth 100000
/-- the sum of a text by those that were summed, and those behind it -/
def sumOf (l : List (List UInt8)) (T : List UInt8) : List UInt8 := mark (if T ∈ l then l.idxOf T else l.length)
def sumAfter (l : List (List UInt8)) (T : List UInt8) : List (List UInt8) := if T ∈ l then l else l ++ [T]
def checkOf (l : List (List UInt8)) (T s : List UInt8) : Bool := decide (T ∈ l) && R1.sameB (mark (l.idxOf T)) s
theorem rd_grown {w w' : World} {A : Option Addr} {xs : List Value} {r : Option Nat} (h : Rd w w.heap.size A xs) (g : w.grownBy w' r) (hb : ∀ a, A = some a → r ≠ some a.block) : Rd w' w'.heap.size A xs := by
  intro hne
  obtain ⟨b, off, rfl, hl, hc⟩ := h hne
  exact ⟨b, off, rfl, Nat.lt_of_lt_of_le hl g.size, fun i hi => (World.cell?_of_block (g.block b hl (fun e => hb _ rfl e.symm))).trans (hc i hi)⟩
set_option maxHeartbeats 1000000 in
theorem sum_sym (w : World) (g b : Nat) (l : List (List UInt8)) (h : SymAt w g b l) (A : Option Addr) (T : List UInt8) (n c : Nat) (hn : n = T.length) (hr : Rd w w.heap.size A (T.map e8)) (hAb : ∀ a, A = some a → some b ≠ some a.block) (hT : T.length ≤ 1000000) (hl : l.length ≤ 1000000) :
    Calls Try.prog 40 #[.pointer (some ⟨g, 0, none⟩), .slice A n c] w fun e w' => ∃ A2 c2, e = .returned (.slice A2 8 c2) ∧ w'.ownsRow w.heap.size 5 1 (.slice A2 8 c2) 8 ((sumOf l T).map e8) ∧ Keep [b] w w' ∧ SymAt w' g b (sumAfter l T) := by
  subst hn
  have hgb := h.ne
  have hblt := h.lt.2
  have hN := Lib.hid (sNone_sym w g b l h)
  have hRe := Lib.hid (sReal_sym w g b l h)
  obtain ⟨⟨k, hblk⟩, hsums⟩ := h
  obtain ⟨c0, c1, c2⟩ := three hblk
  have hcv := run_conv_rd (P := Try.prog) 23 9 5 T.length c rfl Try.underlying23 Try.underlying5 Try.underlying9 (hr.on ((Below.refl w.heap.size w).drew))
  obtain ⟨v, hlk, hv⟩ := (hsums.on ((Below.refl w.heap.size w).drew)).look T hT
  by_cases hm : T ∈ l
  · have hvv := hv hm
    have hd := decide_eq_true hm
    rw [hd, hvv] at hlk
    have hso := Lib.hid (show sumOf l T = mark (l.idxOf T) by unfold sumOf; rw [if_pos hm])
    have hsa := Lib.hid (show sumAfter l T = l by unfold sumAfter; rw [if_pos hm])
    have hil : l.idxOf T ≤ 1000000 := Nat.le_trans List.idxOf_le_length hl
    have hM := Lib.hid (mark_any (l.idxOf T) w.drew hil)
    have HS := Lib.hid (show SymAt w.drew g b l from ⟨⟨k, hblk⟩, hsums.on ((Below.refl w.heap.size w).drew)⟩)
    clear hd hv hvv hm hsums hr
    obtain ⟨q, hq⟩ : ∃ q, q = l.idxOf T := ⟨_, rfl⟩
    rw [← hq] at hlk hso hM hil
    clear hq
    go_enter Try.func40, Try.ntmps40
    go_wp2_with fail
    refine hN.out.mono ?_
    rintro e w1 ⟨rfl, rfl⟩
    go_wp2_with fail
    refine hRe.out.mono ?_
    rintro e w1 ⟨rfl, rfl⟩
    go_wp2_with fail
    refine wp_region_held_drew (S := (fun w' => w'.cell? ⟨g, 1, none⟩ = some (.map (some b)) ∧ (convert 23 9 (.slice A T.length c)).run Try.prog w' = .ok (.string ⟨T.toArray⟩) w' ∧ (Instr.lookup 66 (.map (some b)) (.string ⟨T.toArray⟩) true).run Try.prog w' = .ok (.tuple #[.int .i64 (q : Int), .bool true]) w')) (by kernel_rfl) (by exact ⟨c1, hcv, hlk⟩) (fun hHeld => ?_)
    refine wpAnyH_take (i := 0) (oi := { dst := some 16, op := Op.move (Operand.tmp 0), type := 29, pos := "suite.go:197", after := #[], guard := none }) (v := ?_) rfl (by kernel_rfl) (by kernel_rfl) (by kernel_rfl) (fun _ _ _ h => h) (Or.inl ⟨by rfl, ?_⟩) (by assumption) ?_; rotate_left; · ((intro w hSw; (try dsimp only at hSw); go_simp) <;> with_reducible rfl)
    try simp only [Act.put, List.setIfInBounds_toArray, List.set_cons_zero, List.set_cons_succ]
    refine wpAnyH_take (i := 1) (oi := { dst := some 17, op := Op.nilCheck (Operand.tmp 16), type := 0, pos := "suite.go:197", after := #[{ on := 0, ground := Ground.data }], guard := none }) (v := ?_) rfl (by kernel_rfl) (by kernel_rfl) (by kernel_rfl) (fun _ _ _ h => h) (Or.inl ⟨by rfl, ?_⟩) (by assumption) ?_; rotate_left; · ((intro w hSw; (try dsimp only at hSw); go_simp) <;> with_reducible rfl)
    try simp only [Act.put, List.setIfInBounds_toArray, List.set_cons_zero, List.set_cons_succ]
    refine wpAnyH_take (i := 2) (oi := { dst := some 18, op := Op.fieldAddr 71 (Operand.tmp 17) 0, type := 0, pos := "suite.go:197", after := #[{ on := 1, ground := Ground.data }], guard := none }) (v := ?_) rfl (by kernel_rfl) (by kernel_rfl) (by kernel_rfl) (fun _ _ _ h => h) (Or.inl ⟨by rfl, ?_⟩) (by assumption) ?_; rotate_left; · ((intro w hSw; (try dsimp only at hSw); go_simp) <;> with_reducible rfl)
    try simp only [Act.put, List.setIfInBounds_toArray, List.set_cons_zero, List.set_cons_succ]
    refine wpAnyH_take (i := 3) (oi := { dst := some 19, op := Op.fieldAddr 68 (Operand.tmp 18) 1, type := 0, pos := "suite.go:197", after := #[{ on := 2, ground := Ground.data }], guard := none }) (v := ?_) rfl (by kernel_rfl) (by kernel_rfl) (by kernel_rfl) (fun _ _ _ h => h) (Or.inl ⟨by rfl, ?_⟩) (by assumption) ?_; rotate_left; · ((intro w hSw; (try dsimp only at hSw); go_simp) <;> with_reducible rfl)
    try simp only [Act.put, List.setIfInBounds_toArray, List.set_cons_zero, List.set_cons_succ]
    refine wpAnyH_take (i := 4) (oi := { dst := some 20, op := Op.load 66 (Operand.tmp 19), type := 66, pos := "suite.go:197", after := #[{ on := 3, ground := Ground.data }], guard := none }) (v := ?_) rfl (by kernel_rfl) (by kernel_rfl) (by kernel_rfl) (fun _ _ _ h => h) (Or.inl ⟨by rfl, ?_⟩) (by assumption) ?_; rotate_left; · ((intro w hSw; (try dsimp only at hSw); go_simp) <;> with_reducible rfl)
    try simp only [Act.put, List.setIfInBounds_toArray, List.set_cons_zero, List.set_cons_succ]
    refine wpAnyH_take (i := 5) (oi := { dst := some 21, op := Op.move (Operand.tmp 1), type := 23, pos := "suite.go:197", after := #[], guard := none }) (v := ?_) rfl (by kernel_rfl) (by kernel_rfl) (by kernel_rfl) (fun _ _ _ h => h) (Or.inl ⟨by rfl, ?_⟩) (by assumption) ?_; rotate_left; · ((intro w hSw; (try dsimp only at hSw); go_simp) <;> with_reducible rfl)
    try simp only [Act.put, List.setIfInBounds_toArray, List.set_cons_zero, List.set_cons_succ]
    refine wpAnyH_take (i := 6) (oi := { dst := some 22, op := Op.convert 23 9 (Operand.tmp 21), type := 9, pos := "suite.go:197", after := #[{ on := 5, ground := Ground.data }], guard := none }) (v := ?_) rfl (by kernel_rfl) (by kernel_rfl) (by kernel_rfl) (fun _ _ _ h => h) (Or.inl ⟨by rfl, ?_⟩) (by assumption) ?_; rotate_left; · ((intro w hSw; (try dsimp only at hSw); go_simp) <;> with_reducible rfl)
    try simp only [Act.put, List.setIfInBounds_toArray, List.set_cons_zero, List.set_cons_succ]
    refine wpAnyH_take (i := 7) (oi := { dst := some 23, op := Op.lookup 66 (Operand.tmp 20) (Operand.tmp 22) true, type := 108, pos := "suite.go:197", after := #[{ on := 4, ground := Ground.data }, { on := 6, ground := Ground.data }], guard := none }) (v := ?_) rfl (by kernel_rfl) (by kernel_rfl) (by kernel_rfl) (fun _ _ _ h => h) (Or.inl ⟨by rfl, ?_⟩) (by assumption) ?_; rotate_left; · ((intro w hSw; (try dsimp only at hSw); go_simp) <;> with_reducible rfl)
    try simp only [Act.put, List.setIfInBounds_toArray, List.set_cons_zero, List.set_cons_succ]
    refine wpAnyH_take (i := 8) (oi := { dst := some 15, op := Op.move (Operand.tmp 23), type := 108, pos := "suite.go:197", after := #[{ on := 7, ground := Ground.data }], guard := none }) (v := ?_) rfl (by kernel_rfl) (by kernel_rfl) (by kernel_rfl) (fun _ _ _ h => h) (Or.inl ⟨by rfl, ?_⟩) (by assumption) ?_; rotate_left; · ((intro w hSw; (try dsimp only at hSw); go_simp) <;> with_reducible rfl)
    try simp only [Act.put, List.setIfInBounds_toArray, List.set_cons_zero, List.set_cons_succ]
    refine wpAnyH_take (i := 9) (oi := { dst := some 24, op := Op.extract (Operand.tmp 15) 0, type := 3, pos := "suite.go:197", after := #[{ on := 8, ground := Ground.data }], guard := none }) (v := ?_) rfl (by kernel_rfl) (by kernel_rfl) (by kernel_rfl) (fun _ _ _ h => h) (Or.inl ⟨by rfl, ?_⟩) (by assumption) ?_; rotate_left; · ((intro w hSw; (try dsimp only at hSw); go_simp) <;> with_reducible rfl)
    try simp only [Act.put, List.setIfInBounds_toArray, List.set_cons_zero, List.set_cons_succ]
    refine wpAnyH_take (i := 10) (oi := { dst := some 25, op := Op.extract (Operand.tmp 15) 1, type := 4, pos := "suite.go:197", after := #[{ on := 8, ground := Ground.data }, { on := 11, ground := Ground.gcOnly Go.Departure.lateStores }], guard := none }) (v := ?_) rfl (by kernel_rfl) (by kernel_rfl) (by kernel_rfl) (fun _ _ _ h => h) (Or.inl ⟨by rfl, ?_⟩) (by assumption) ?_; rotate_left; · ((intro w hSw; (try dsimp only at hSw); go_simp) <;> with_reducible rfl)
    try simp only [Act.put, List.setIfInBounds_toArray, List.set_cons_zero, List.set_cons_succ]
    refine wpAnyH_take (i := 11) (oi := { dst := some 5, op := Op.assign (Operand.tmp 24), type := 3, pos := "suite.go:197", after := #[{ on := 9, ground := Ground.data }, { on := 0, ground := Ground.phase }, { on := 1, ground := Ground.phase }, { on := 2, ground := Ground.phase }, { on := 3, ground := Ground.phase }, { on := 4, ground := Ground.phase }, { on := 5, ground := Ground.phase }, { on := 6, ground := Ground.phase }, { on := 7, ground := Ground.phase }, { on := 8, ground := Ground.phase }, { on := 9, ground := Ground.phase }, { on := 10, ground := Ground.textOnly Go.Departure.lateStores }], guard := none }) (v := ?_) rfl (by kernel_rfl) (by kernel_rfl) (by kernel_rfl) (fun _ _ _ h => h) (Or.inl ⟨by rfl, ?_⟩) (by assumption) ?_; rotate_left; · ((intro w hSw; (try dsimp only at hSw); go_simp) <;> with_reducible rfl)
    try simp only [Act.put, List.setIfInBounds_toArray, List.set_cons_zero, List.set_cons_succ]
    refine wpAnyH_take (i := 12) (oi := { dst := some 6, op := Op.assign (Operand.tmp 25), type := 4, pos := "suite.go:197", after := #[{ on := 10, ground := Ground.data }, { on := 11, ground := Ground.chain }, { on := 0, ground := Ground.phase }, { on := 1, ground := Ground.phase }, { on := 2, ground := Ground.phase }, { on := 3, ground := Ground.phase }, { on := 4, ground := Ground.phase }, { on := 5, ground := Ground.phase }, { on := 6, ground := Ground.phase }, { on := 7, ground := Ground.phase }, { on := 8, ground := Ground.phase }, { on := 9, ground := Ground.phase }, { on := 10, ground := Ground.phase }, { on := 11, ground := Ground.phase }], guard := none }) (v := ?_) rfl (by kernel_rfl) (by kernel_rfl) (by kernel_rfl) (fun _ _ _ h => h) (Or.inl ⟨by rfl, ?_⟩) (by assumption) ?_; rotate_left; · ((intro w hSw; (try dsimp only at hSw); go_simp) <;> with_reducible rfl)
    try simp only [Act.put, List.setIfInBounds_toArray, List.set_cons_zero, List.set_cons_succ]
    refine wpAnyH_done (by kernel_rfl) ?_ _
    go_wp2_with fail
    refine hM.out.mono ?_
    rintro e w2 ⟨A2, d2, rfl, own2, b2⟩
    rw [mark_len]
    rw [mark_len] at own2
    go_wp2
    go_ret
    rw [hso.out, hsa.out]
    exact ⟨A2, d2, rfl, own2, (Keep.of_below b2 [b]), HS.out.on b2⟩
  · have hd : decide (T ∈ l) = false := decide_eq_false hm
    rw [hd] at hlk
    have hso := Lib.hid (show sumOf l T = mark l.length by unfold sumOf; rw [if_neg hm])
    have hsa := Lib.hid (show sumAfter l T = l ++ [T] by unfold sumAfter; rw [if_neg hm])
    have hdd : Below w.heap.size w w.drew.drew := ((Below.refl w.heap.size w).drew).drew
    have hlen := fun ty => (hsums.on ((Below.refl w.heap.size w).drew)).len ty
    obtain ⟨w3, hup, hs3, hg3⟩ := (hsums.on hdd).put T hT hm hl
    have hg3' : w.grownBy w3 (some b) := ⟨hg3.os, hg3.tape, hg3.output, hg3.size, hg3.block⟩
    have hcv2 := run_conv_rd (P := Try.prog) 23 9 5 T.length c rfl Try.underlying23 Try.underlying5 Try.underlying9 (hr.on hdd)
    have hcv3 := run_conv_rd (P := Try.prog) 23 9 5 T.length c rfl Try.underlying23 Try.underlying5 Try.underlying9 (rd_grown hr hg3' hAb)
    have hblk3 := (hg3'.block g (lt_of_block hblk) (fun e => hgb (by injection e))).trans hblk
    obtain ⟨e0, e1, e2⟩ := three hblk3
    have hM := Lib.hid (mark_any l.length w3 hl)
    have HS := Lib.hid (show SymAt w3 g b (l ++ [T]) from ⟨⟨k, hblk3⟩, hs3⟩)
    have hG := Lib.hid hg3'
    clear hd hv hm hsums hr hs3 hblk3 hg3 hg3' hdd
    obtain ⟨m, hm⟩ : ∃ q, q = l.length := ⟨_, rfl⟩
    rw [← hm] at hso hM hl hup
    simp only [← hm] at hlen
    clear hm
    go_enter Try.func40, Try.ntmps40
    go_wp2_with fail
    refine hN.out.mono ?_
    rintro e w1 ⟨rfl, rfl⟩
    go_wp2_with fail
    refine hRe.out.mono ?_
    rintro e w1 ⟨rfl, rfl⟩
    go_wp2_with fail
    refine wp_region_held_drew (S := (fun w' => w'.cell? ⟨g, 1, none⟩ = some (.map (some b)) ∧ (convert 23 9 (.slice A T.length c)).run Try.prog w' = .ok (.string ⟨T.toArray⟩) w' ∧ (Instr.lookup 66 (.map (some b)) (.string ⟨T.toArray⟩) true).run Try.prog w' = .ok (.tuple #[.int .i64 v, .bool false]) w')) (by kernel_rfl) (by exact ⟨c1, hcv, hlk⟩) (fun hHeld => ?_)
    refine wpAnyH_take (i := 0) (oi := { dst := some 16, op := Op.move (Operand.tmp 0), type := 29, pos := "suite.go:197", after := #[], guard := none }) (v := ?_) rfl (by kernel_rfl) (by kernel_rfl) (by kernel_rfl) (fun _ _ _ h => h) (Or.inl ⟨by rfl, ?_⟩) (by assumption) ?_; rotate_left; · ((intro w hSw; (try dsimp only at hSw); go_simp) <;> with_reducible rfl)
    try simp only [Act.put, List.setIfInBounds_toArray, List.set_cons_zero, List.set_cons_succ]
    refine wpAnyH_take (i := 1) (oi := { dst := some 17, op := Op.nilCheck (Operand.tmp 16), type := 0, pos := "suite.go:197", after := #[{ on := 0, ground := Ground.data }], guard := none }) (v := ?_) rfl (by kernel_rfl) (by kernel_rfl) (by kernel_rfl) (fun _ _ _ h => h) (Or.inl ⟨by rfl, ?_⟩) (by assumption) ?_; rotate_left; · ((intro w hSw; (try dsimp only at hSw); go_simp) <;> with_reducible rfl)
    try simp only [Act.put, List.setIfInBounds_toArray, List.set_cons_zero, List.set_cons_succ]
    refine wpAnyH_take (i := 2) (oi := { dst := some 18, op := Op.fieldAddr 71 (Operand.tmp 17) 0, type := 0, pos := "suite.go:197", after := #[{ on := 1, ground := Ground.data }], guard := none }) (v := ?_) rfl (by kernel_rfl) (by kernel_rfl) (by kernel_rfl) (fun _ _ _ h => h) (Or.inl ⟨by rfl, ?_⟩) (by assumption) ?_; rotate_left; · ((intro w hSw; (try dsimp only at hSw); go_simp) <;> with_reducible rfl)
    try simp only [Act.put, List.setIfInBounds_toArray, List.set_cons_zero, List.set_cons_succ]
    refine wpAnyH_take (i := 3) (oi := { dst := some 19, op := Op.fieldAddr 68 (Operand.tmp 18) 1, type := 0, pos := "suite.go:197", after := #[{ on := 2, ground := Ground.data }], guard := none }) (v := ?_) rfl (by kernel_rfl) (by kernel_rfl) (by kernel_rfl) (fun _ _ _ h => h) (Or.inl ⟨by rfl, ?_⟩) (by assumption) ?_; rotate_left; · ((intro w hSw; (try dsimp only at hSw); go_simp) <;> with_reducible rfl)
    try simp only [Act.put, List.setIfInBounds_toArray, List.set_cons_zero, List.set_cons_succ]
    refine wpAnyH_take (i := 4) (oi := { dst := some 20, op := Op.load 66 (Operand.tmp 19), type := 66, pos := "suite.go:197", after := #[{ on := 3, ground := Ground.data }], guard := none }) (v := ?_) rfl (by kernel_rfl) (by kernel_rfl) (by kernel_rfl) (fun _ _ _ h => h) (Or.inl ⟨by rfl, ?_⟩) (by assumption) ?_; rotate_left; · ((intro w hSw; (try dsimp only at hSw); go_simp) <;> with_reducible rfl)
    try simp only [Act.put, List.setIfInBounds_toArray, List.set_cons_zero, List.set_cons_succ]
    refine wpAnyH_take (i := 5) (oi := { dst := some 21, op := Op.move (Operand.tmp 1), type := 23, pos := "suite.go:197", after := #[], guard := none }) (v := ?_) rfl (by kernel_rfl) (by kernel_rfl) (by kernel_rfl) (fun _ _ _ h => h) (Or.inl ⟨by rfl, ?_⟩) (by assumption) ?_; rotate_left; · ((intro w hSw; (try dsimp only at hSw); go_simp) <;> with_reducible rfl)
    try simp only [Act.put, List.setIfInBounds_toArray, List.set_cons_zero, List.set_cons_succ]
    refine wpAnyH_take (i := 6) (oi := { dst := some 22, op := Op.convert 23 9 (Operand.tmp 21), type := 9, pos := "suite.go:197", after := #[{ on := 5, ground := Ground.data }], guard := none }) (v := ?_) rfl (by kernel_rfl) (by kernel_rfl) (by kernel_rfl) (fun _ _ _ h => h) (Or.inl ⟨by rfl, ?_⟩) (by assumption) ?_; rotate_left; · ((intro w hSw; (try dsimp only at hSw); go_simp) <;> with_reducible rfl)
    try simp only [Act.put, List.setIfInBounds_toArray, List.set_cons_zero, List.set_cons_succ]
    refine wpAnyH_take (i := 7) (oi := { dst := some 23, op := Op.lookup 66 (Operand.tmp 20) (Operand.tmp 22) true, type := 108, pos := "suite.go:197", after := #[{ on := 4, ground := Ground.data }, { on := 6, ground := Ground.data }], guard := none }) (v := ?_) rfl (by kernel_rfl) (by kernel_rfl) (by kernel_rfl) (fun _ _ _ h => h) (Or.inl ⟨by rfl, ?_⟩) (by assumption) ?_; rotate_left; · ((intro w hSw; (try dsimp only at hSw); go_simp) <;> with_reducible rfl)
    try simp only [Act.put, List.setIfInBounds_toArray, List.set_cons_zero, List.set_cons_succ]
    refine wpAnyH_take (i := 8) (oi := { dst := some 15, op := Op.move (Operand.tmp 23), type := 108, pos := "suite.go:197", after := #[{ on := 7, ground := Ground.data }], guard := none }) (v := ?_) rfl (by kernel_rfl) (by kernel_rfl) (by kernel_rfl) (fun _ _ _ h => h) (Or.inl ⟨by rfl, ?_⟩) (by assumption) ?_; rotate_left; · ((intro w hSw; (try dsimp only at hSw); go_simp) <;> with_reducible rfl)
    try simp only [Act.put, List.setIfInBounds_toArray, List.set_cons_zero, List.set_cons_succ]
    refine wpAnyH_take (i := 9) (oi := { dst := some 24, op := Op.extract (Operand.tmp 15) 0, type := 3, pos := "suite.go:197", after := #[{ on := 8, ground := Ground.data }], guard := none }) (v := ?_) rfl (by kernel_rfl) (by kernel_rfl) (by kernel_rfl) (fun _ _ _ h => h) (Or.inl ⟨by rfl, ?_⟩) (by assumption) ?_; rotate_left; · ((intro w hSw; (try dsimp only at hSw); go_simp) <;> with_reducible rfl)
    try simp only [Act.put, List.setIfInBounds_toArray, List.set_cons_zero, List.set_cons_succ]
    refine wpAnyH_take (i := 10) (oi := { dst := some 25, op := Op.extract (Operand.tmp 15) 1, type := 4, pos := "suite.go:197", after := #[{ on := 8, ground := Ground.data }, { on := 11, ground := Ground.gcOnly Go.Departure.lateStores }], guard := none }) (v := ?_) rfl (by kernel_rfl) (by kernel_rfl) (by kernel_rfl) (fun _ _ _ h => h) (Or.inl ⟨by rfl, ?_⟩) (by assumption) ?_; rotate_left; · ((intro w hSw; (try dsimp only at hSw); go_simp) <;> with_reducible rfl)
    try simp only [Act.put, List.setIfInBounds_toArray, List.set_cons_zero, List.set_cons_succ]
    refine wpAnyH_take (i := 11) (oi := { dst := some 5, op := Op.assign (Operand.tmp 24), type := 3, pos := "suite.go:197", after := #[{ on := 9, ground := Ground.data }, { on := 0, ground := Ground.phase }, { on := 1, ground := Ground.phase }, { on := 2, ground := Ground.phase }, { on := 3, ground := Ground.phase }, { on := 4, ground := Ground.phase }, { on := 5, ground := Ground.phase }, { on := 6, ground := Ground.phase }, { on := 7, ground := Ground.phase }, { on := 8, ground := Ground.phase }, { on := 9, ground := Ground.phase }, { on := 10, ground := Ground.textOnly Go.Departure.lateStores }], guard := none }) (v := ?_) rfl (by kernel_rfl) (by kernel_rfl) (by kernel_rfl) (fun _ _ _ h => h) (Or.inl ⟨by rfl, ?_⟩) (by assumption) ?_; rotate_left; · ((intro w hSw; (try dsimp only at hSw); go_simp) <;> with_reducible rfl)
    try simp only [Act.put, List.setIfInBounds_toArray, List.set_cons_zero, List.set_cons_succ]
    refine wpAnyH_take (i := 12) (oi := { dst := some 6, op := Op.assign (Operand.tmp 25), type := 4, pos := "suite.go:197", after := #[{ on := 10, ground := Ground.data }, { on := 11, ground := Ground.chain }, { on := 0, ground := Ground.phase }, { on := 1, ground := Ground.phase }, { on := 2, ground := Ground.phase }, { on := 3, ground := Ground.phase }, { on := 4, ground := Ground.phase }, { on := 5, ground := Ground.phase }, { on := 6, ground := Ground.phase }, { on := 7, ground := Ground.phase }, { on := 8, ground := Ground.phase }, { on := 9, ground := Ground.phase }, { on := 10, ground := Ground.phase }, { on := 11, ground := Ground.phase }], guard := none }) (v := ?_) rfl (by kernel_rfl) (by kernel_rfl) (by kernel_rfl) (fun _ _ _ h => h) (Or.inl ⟨by rfl, ?_⟩) (by assumption) ?_; rotate_left; · ((intro w hSw; (try dsimp only at hSw); go_simp) <;> with_reducible rfl)
    try simp only [Act.put, List.setIfInBounds_toArray, List.set_cons_zero, List.set_cons_succ]
    refine wpAnyH_done (by kernel_rfl) ?_ _
    go_wp2_with fail
    refine wp_region_held_drew (S := (fun w' => w'.cell? ⟨g, 1, none⟩ = some (.map (some b)) ∧ (convert 23 9 (.slice A T.length c)).run Try.prog w' = .ok (.string ⟨T.toArray⟩) w')) (by kernel_rfl) (by exact ⟨c1, hcv2⟩) (fun hHeld => ?_)
    refine wpAnyH_take (i := 0) (oi := { dst := some 34, op := Op.move (Operand.tmp 0), type := 29, pos := "suite.go:200", after := #[], guard := none }) (v := ?_) rfl (by kernel_rfl) (by kernel_rfl) (by kernel_rfl) (fun _ _ _ h => h) (Or.inl ⟨by rfl, ?_⟩) (by assumption) ?_; rotate_left; · ((intro w hSw; (try dsimp only at hSw); go_simp) <;> with_reducible rfl)
    try simp only [Act.put, List.setIfInBounds_toArray, List.set_cons_zero, List.set_cons_succ]
    refine wpAnyH_take (i := 1) (oi := { dst := some 35, op := Op.nilCheck (Operand.tmp 34), type := 0, pos := "suite.go:200", after := #[{ on := 0, ground := Ground.data }], guard := none }) (v := ?_) rfl (by kernel_rfl) (by kernel_rfl) (by kernel_rfl) (fun _ _ _ h => h) (Or.inl ⟨by rfl, ?_⟩) (by assumption) ?_; rotate_left; · ((intro w hSw; (try dsimp only at hSw); go_simp) <;> with_reducible rfl)
    try simp only [Act.put, List.setIfInBounds_toArray, List.set_cons_zero, List.set_cons_succ]
    refine wpAnyH_take (i := 2) (oi := { dst := some 36, op := Op.fieldAddr 71 (Operand.tmp 35) 0, type := 0, pos := "suite.go:200", after := #[{ on := 1, ground := Ground.data }], guard := none }) (v := ?_) rfl (by kernel_rfl) (by kernel_rfl) (by kernel_rfl) (fun _ _ _ h => h) (Or.inl ⟨by rfl, ?_⟩) (by assumption) ?_; rotate_left; · ((intro w hSw; (try dsimp only at hSw); go_simp) <;> with_reducible rfl)
    try simp only [Act.put, List.setIfInBounds_toArray, List.set_cons_zero, List.set_cons_succ]
    refine wpAnyH_take (i := 3) (oi := { dst := some 37, op := Op.fieldAddr 68 (Operand.tmp 36) 1, type := 0, pos := "suite.go:200", after := #[{ on := 2, ground := Ground.data }], guard := none }) (v := ?_) rfl (by kernel_rfl) (by kernel_rfl) (by kernel_rfl) (fun _ _ _ h => h) (Or.inl ⟨by rfl, ?_⟩) (by assumption) ?_; rotate_left; · ((intro w hSw; (try dsimp only at hSw); go_simp) <;> with_reducible rfl)
    try simp only [Act.put, List.setIfInBounds_toArray, List.set_cons_zero, List.set_cons_succ]
    refine wpAnyH_take (i := 4) (oi := { dst := some 38, op := Op.load 66 (Operand.tmp 37), type := 66, pos := "suite.go:200", after := #[{ on := 3, ground := Ground.data }], guard := none }) (v := ?_) rfl (by kernel_rfl) (by kernel_rfl) (by kernel_rfl) (fun _ _ _ h => h) (Or.inl ⟨by rfl, ?_⟩) (by assumption) ?_; rotate_left; · ((intro w hSw; (try dsimp only at hSw); go_simp) <;> with_reducible rfl)
    try simp only [Act.put, List.setIfInBounds_toArray, List.set_cons_zero, List.set_cons_succ]
    refine wpAnyH_take (i := 5) (oi := { dst := some 39, op := Op.move (Operand.tmp 1), type := 23, pos := "suite.go:200", after := #[], guard := none }) (v := ?_) rfl (by kernel_rfl) (by kernel_rfl) (by kernel_rfl) (fun _ _ _ h => h) (Or.inl ⟨by rfl, ?_⟩) (by assumption) ?_; rotate_left; · ((intro w hSw; (try dsimp only at hSw); go_simp) <;> with_reducible rfl)
    try simp only [Act.put, List.setIfInBounds_toArray, List.set_cons_zero, List.set_cons_succ]
    refine wpAnyH_take (i := 6) (oi := { dst := some 40, op := Op.convert 23 9 (Operand.tmp 39), type := 9, pos := "suite.go:200", after := #[{ on := 5, ground := Ground.data }], guard := none }) (v := ?_) rfl (by kernel_rfl) (by kernel_rfl) (by kernel_rfl) (fun _ _ _ h => h) (Or.inl ⟨by rfl, ?_⟩) (by assumption) ?_; rotate_left; · ((intro w hSw; (try dsimp only at hSw); go_simp) <;> with_reducible rfl)
    try simp only [Act.put, List.setIfInBounds_toArray, List.set_cons_zero, List.set_cons_succ]
    refine wpAnyH_take (i := 7) (oi := { dst := some 41, op := Op.move (Operand.tmp 5), type := 3, pos := "suite.go:200", after := #[], guard := none }) (v := ?_) rfl (by kernel_rfl) (by kernel_rfl) (by kernel_rfl) (fun _ _ _ h => h) (Or.inl ⟨by rfl, ?_⟩) (by assumption) ?_; rotate_left; · ((intro w hSw; (try dsimp only at hSw); go_simp) <;> with_reducible rfl)
    try simp only [Act.put, List.setIfInBounds_toArray, List.set_cons_zero, List.set_cons_succ]
    refine wpAnyH_ready (rs := [8]) (by kernel_rfl) (by simp) ?_
    refine AllReadyH.cons (o := { dst := none, op := Op.mapUpdate 66 (Operand.tmp 38) (Operand.tmp 40) (Operand.tmp 41), type := 0, pos := "suite.go:200", after := #[{ on := 4, ground := Ground.data }, { on := 6, ground := Ground.data }, { on := 7, ground := Ground.data }, { on := 0, ground := Ground.phase }, { on := 1, ground := Ground.phase }, { on := 2, ground := Ground.phase }, { on := 3, ground := Ground.phase }, { on := 4, ground := Ground.phase }, { on := 5, ground := Ground.phase }, { on := 6, ground := Ground.phase }, { on := 7, ground := Ground.phase }], guard := none }) rfl (fun K hK => ?_) AllReadyH.nil
    go_simp; skip; (try (go_wp2_with fail)); refine hK.out _ _ (by first | exact ⟨e1, hcv3⟩ | ((try dsimp only); exact ⟨e1, hcv3⟩)) (fun hHeld => ?_)
    clear hK K
    try simp only [Act.put, List.setIfInBounds_toArray, List.set_cons_zero, List.set_cons_succ]
    refine wpAnyH_done (by kernel_rfl) ?_ _
    go_wp2_with fail
    refine hM.out.mono ?_
    rintro e w4 ⟨A2, d2, rfl, own2, b2⟩
    rw [mark_len]
    rw [mark_len] at own2
    go_wp2
    go_ret
    rw [hso.out, hsa.out]
    exact ⟨A2, d2, rfl, own_base own2 hG.out.size, (Keep.of_grown hG.out (fun g hg => by injection hg with hg; simp [hg])).trans (Keep.of_below b2 [b]) (Fresh.refl _ _), HS.out.on b2⟩
set_option maxHeartbeats 1000000 in
theorem check_sym (w : World) (g b : Nat) (l : List (List UInt8)) (h : SymAt w g b l) (A B : Option Addr) (T s : List UInt8) (n c o d : Nat) (hn : n = T.length) (ho : o = s.length) (hr : Rd w w.heap.size A (T.map e8)) (hs : Rd w w.heap.size B (s.map e8)) (hT : T.length ≤ 1000000) (hl : l.length ≤ 1000000) :
    Calls Try.prog 37 #[.pointer (some ⟨g, 0, none⟩), .slice A n c, .slice B o d] w fun e w' => e = .returned (.bool (checkOf l T s)) ∧ Below w.heap.size w w' := by
  subst hn ho
  have hN := Lib.hid (sNone_sym w g b l h)
  have hRe := Lib.hid (sReal_sym w g b l h)
  obtain ⟨⟨k, hblk⟩, hsums⟩ := h
  obtain ⟨c0, c1, c2⟩ := three hblk
  have hbd : Below w.heap.size w w.drew := (Below.refl w.heap.size w).drew
  have hcv := run_conv_rd (P := Try.prog) 23 9 5 T.length c rfl Try.underlying23 Try.underlying5 Try.underlying9 (hr.on hbd)
  obtain ⟨v, hlk, hv⟩ := (hsums.on hbd).look T hT
  obtain ⟨is, his⟩ : ∃ x, x = decide (T ∈ l) := ⟨_, rfl⟩
  rw [← his] at hlk
  have Hs := Lib.hid (hs.on hbd)
  clear hsums hr hs
  cases is with
  | true =>
    have hm : T ∈ l := of_decide_eq_true his.symm
    have hvv := hv hm
    rw [hvv] at hlk
    have hso := Lib.hid (show checkOf l T s = R1.sameB (mark (l.idxOf T)) s by unfold checkOf; rw [decide_eq_true hm, Bool.true_and])
    have hil : l.idxOf T ≤ 1000000 := Nat.le_trans List.idxOf_le_length hl
    have hM := Lib.hid (mark_any (l.idxOf T) w.drew hil)
    clear his hv hvv hm
    obtain ⟨q, hq⟩ : ∃ q, q = l.idxOf T := ⟨_, rfl⟩
    rw [← hq] at hlk hso hM hil
    clear hq
    go_enter Try.func37, Try.ntmps37
    go_wp2_with fail
    refine hN.out.mono ?_
    rintro e w1 ⟨rfl, rfl⟩
    go_wp2_with fail
    refine hRe.out.mono ?_
    rintro e w1 ⟨rfl, rfl⟩
    go_wp2_with fail
    refine wp_region_held_drew (S := (fun w' => w'.cell? ⟨g, 1, none⟩ = some (.map (some b)) ∧ (convert 23 9 (.slice A T.length c)).run Try.prog w' = .ok (.string ⟨T.toArray⟩) w' ∧ (Instr.lookup 66 (.map (some b)) (.string ⟨T.toArray⟩) true).run Try.prog w' = .ok (.tuple #[.int .i64 (q : Int), .bool true]) w')) (by kernel_rfl) (by exact ⟨c1, hcv, hlk⟩) (fun hHeld => ?_)
    refine wpAnyH_take (i := 0) (oi := { dst := some 20, op := Op.move (Operand.tmp 0), type := 29, pos := "suite.go:215", after := #[], guard := none }) (v := ?_) rfl (by kernel_rfl) (by kernel_rfl) (by kernel_rfl) (fun _ _ _ h => h) (Or.inl ⟨by rfl, ?_⟩) (by assumption) ?_; rotate_left; · ((intro w hSw; (try dsimp only at hSw); go_simp) <;> with_reducible rfl)
    try simp only [Act.put, List.setIfInBounds_toArray, List.set_cons_zero, List.set_cons_succ]
    refine wpAnyH_take (i := 1) (oi := { dst := some 21, op := Op.nilCheck (Operand.tmp 20), type := 0, pos := "suite.go:215", after := #[{ on := 0, ground := Ground.data }], guard := none }) (v := ?_) rfl (by kernel_rfl) (by kernel_rfl) (by kernel_rfl) (fun _ _ _ h => h) (Or.inl ⟨by rfl, ?_⟩) (by assumption) ?_; rotate_left; · ((intro w hSw; (try dsimp only at hSw); go_simp) <;> with_reducible rfl)
    try simp only [Act.put, List.setIfInBounds_toArray, List.set_cons_zero, List.set_cons_succ]
    refine wpAnyH_take (i := 2) (oi := { dst := some 22, op := Op.fieldAddr 71 (Operand.tmp 21) 0, type := 0, pos := "suite.go:215", after := #[{ on := 1, ground := Ground.data }], guard := none }) (v := ?_) rfl (by kernel_rfl) (by kernel_rfl) (by kernel_rfl) (fun _ _ _ h => h) (Or.inl ⟨by rfl, ?_⟩) (by assumption) ?_; rotate_left; · ((intro w hSw; (try dsimp only at hSw); go_simp) <;> with_reducible rfl)
    try simp only [Act.put, List.setIfInBounds_toArray, List.set_cons_zero, List.set_cons_succ]
    refine wpAnyH_take (i := 3) (oi := { dst := some 23, op := Op.fieldAddr 68 (Operand.tmp 22) 1, type := 0, pos := "suite.go:215", after := #[{ on := 2, ground := Ground.data }], guard := none }) (v := ?_) rfl (by kernel_rfl) (by kernel_rfl) (by kernel_rfl) (fun _ _ _ h => h) (Or.inl ⟨by rfl, ?_⟩) (by assumption) ?_; rotate_left; · ((intro w hSw; (try dsimp only at hSw); go_simp) <;> with_reducible rfl)
    try simp only [Act.put, List.setIfInBounds_toArray, List.set_cons_zero, List.set_cons_succ]
    refine wpAnyH_take (i := 4) (oi := { dst := some 24, op := Op.load 66 (Operand.tmp 23), type := 66, pos := "suite.go:215", after := #[{ on := 3, ground := Ground.data }], guard := none }) (v := ?_) rfl (by kernel_rfl) (by kernel_rfl) (by kernel_rfl) (fun _ _ _ h => h) (Or.inl ⟨by rfl, ?_⟩) (by assumption) ?_; rotate_left; · ((intro w hSw; (try dsimp only at hSw); go_simp) <;> with_reducible rfl)
    try simp only [Act.put, List.setIfInBounds_toArray, List.set_cons_zero, List.set_cons_succ]
    refine wpAnyH_take (i := 5) (oi := { dst := some 25, op := Op.move (Operand.tmp 1), type := 23, pos := "suite.go:215", after := #[], guard := none }) (v := ?_) rfl (by kernel_rfl) (by kernel_rfl) (by kernel_rfl) (fun _ _ _ h => h) (Or.inl ⟨by rfl, ?_⟩) (by assumption) ?_; rotate_left; · ((intro w hSw; (try dsimp only at hSw); go_simp) <;> with_reducible rfl)
    try simp only [Act.put, List.setIfInBounds_toArray, List.set_cons_zero, List.set_cons_succ]
    refine wpAnyH_take (i := 6) (oi := { dst := some 26, op := Op.convert 23 9 (Operand.tmp 25), type := 9, pos := "suite.go:215", after := #[{ on := 5, ground := Ground.data }], guard := none }) (v := ?_) rfl (by kernel_rfl) (by kernel_rfl) (by kernel_rfl) (fun _ _ _ h => h) (Or.inl ⟨by rfl, ?_⟩) (by assumption) ?_; rotate_left; · ((intro w hSw; (try dsimp only at hSw); go_simp) <;> with_reducible rfl)
    try simp only [Act.put, List.setIfInBounds_toArray, List.set_cons_zero, List.set_cons_succ]
    refine wpAnyH_take (i := 7) (oi := { dst := some 27, op := Op.lookup 66 (Operand.tmp 24) (Operand.tmp 26) true, type := 108, pos := "suite.go:215", after := #[{ on := 4, ground := Ground.data }, { on := 6, ground := Ground.data }], guard := none }) (v := ?_) rfl (by kernel_rfl) (by kernel_rfl) (by kernel_rfl) (fun _ _ _ h => h) (Or.inl ⟨by rfl, ?_⟩) (by assumption) ?_; rotate_left; · ((intro w hSw; (try dsimp only at hSw); go_simp) <;> with_reducible rfl)
    try simp only [Act.put, List.setIfInBounds_toArray, List.set_cons_zero, List.set_cons_succ]
    refine wpAnyH_take (i := 8) (oi := { dst := some 19, op := Op.move (Operand.tmp 27), type := 108, pos := "suite.go:215", after := #[{ on := 7, ground := Ground.data }], guard := none }) (v := ?_) rfl (by kernel_rfl) (by kernel_rfl) (by kernel_rfl) (fun _ _ _ h => h) (Or.inl ⟨by rfl, ?_⟩) (by assumption) ?_; rotate_left; · ((intro w hSw; (try dsimp only at hSw); go_simp) <;> with_reducible rfl)
    try simp only [Act.put, List.setIfInBounds_toArray, List.set_cons_zero, List.set_cons_succ]
    refine wpAnyH_take (i := 9) (oi := { dst := some 28, op := Op.extract (Operand.tmp 19) 0, type := 3, pos := "suite.go:215", after := #[{ on := 8, ground := Ground.data }], guard := none }) (v := ?_) rfl (by kernel_rfl) (by kernel_rfl) (by kernel_rfl) (fun _ _ _ h => h) (Or.inl ⟨by rfl, ?_⟩) (by assumption) ?_; rotate_left; · ((intro w hSw; (try dsimp only at hSw); go_simp) <;> with_reducible rfl)
    try simp only [Act.put, List.setIfInBounds_toArray, List.set_cons_zero, List.set_cons_succ]
    refine wpAnyH_take (i := 10) (oi := { dst := some 29, op := Op.extract (Operand.tmp 19) 1, type := 4, pos := "suite.go:215", after := #[{ on := 8, ground := Ground.data }, { on := 11, ground := Ground.gcOnly Go.Departure.lateStores }], guard := none }) (v := ?_) rfl (by kernel_rfl) (by kernel_rfl) (by kernel_rfl) (fun _ _ _ h => h) (Or.inl ⟨by rfl, ?_⟩) (by assumption) ?_; rotate_left; · ((intro w hSw; (try dsimp only at hSw); go_simp) <;> with_reducible rfl)
    try simp only [Act.put, List.setIfInBounds_toArray, List.set_cons_zero, List.set_cons_succ]
    refine wpAnyH_take (i := 11) (oi := { dst := some 7, op := Op.assign (Operand.tmp 28), type := 3, pos := "suite.go:215", after := #[{ on := 9, ground := Ground.data }, { on := 0, ground := Ground.phase }, { on := 1, ground := Ground.phase }, { on := 2, ground := Ground.phase }, { on := 3, ground := Ground.phase }, { on := 4, ground := Ground.phase }, { on := 5, ground := Ground.phase }, { on := 6, ground := Ground.phase }, { on := 7, ground := Ground.phase }, { on := 8, ground := Ground.phase }, { on := 9, ground := Ground.phase }, { on := 10, ground := Ground.textOnly Go.Departure.lateStores }], guard := none }) (v := ?_) rfl (by kernel_rfl) (by kernel_rfl) (by kernel_rfl) (fun _ _ _ h => h) (Or.inl ⟨by rfl, ?_⟩) (by assumption) ?_; rotate_left; · ((intro w hSw; (try dsimp only at hSw); go_simp) <;> with_reducible rfl)
    try simp only [Act.put, List.setIfInBounds_toArray, List.set_cons_zero, List.set_cons_succ]
    refine wpAnyH_take (i := 12) (oi := { dst := some 8, op := Op.assign (Operand.tmp 29), type := 4, pos := "suite.go:215", after := #[{ on := 10, ground := Ground.data }, { on := 11, ground := Ground.chain }, { on := 0, ground := Ground.phase }, { on := 1, ground := Ground.phase }, { on := 2, ground := Ground.phase }, { on := 3, ground := Ground.phase }, { on := 4, ground := Ground.phase }, { on := 5, ground := Ground.phase }, { on := 6, ground := Ground.phase }, { on := 7, ground := Ground.phase }, { on := 8, ground := Ground.phase }, { on := 9, ground := Ground.phase }, { on := 10, ground := Ground.phase }, { on := 11, ground := Ground.phase }], guard := none }) (v := ?_) rfl (by kernel_rfl) (by kernel_rfl) (by kernel_rfl) (fun _ _ _ h => h) (Or.inl ⟨by rfl, ?_⟩) (by assumption) ?_; rotate_left; · ((intro w hSw; (try dsimp only at hSw); go_simp) <;> with_reducible rfl)
    try simp only [Act.put, List.setIfInBounds_toArray, List.set_cons_zero, List.set_cons_succ]
    refine wpAnyH_done (by kernel_rfl) ?_ _
    go_wp2_with fail
    refine hM.out.mono ?_
    rintro e w2 ⟨A2, d2, rfl, own2, b2⟩
    go_wp2_with fail
    refine (nsame_any A2 B (mark q) s _ _ d2 d w2 rfl rfl (Rd.own own2) (Hs.out.on b2)).mono ?_
    rintro e w3 ⟨rfl, rfl⟩
    go_wp2
    go_ret
    rw [hso.out]
    exact ⟨rfl, ⟨b2.os, b2.tape, b2.output, b2.size, b2.block⟩⟩
  | false =>
    have hm : T ∉ l := of_decide_eq_false his.symm
    have hso := Lib.hid (show checkOf l T s = false by unfold checkOf; rw [decide_eq_false hm, Bool.false_and])
    clear his hv hm
    go_enter Try.func37, Try.ntmps37
    go_wp2_with fail
    refine hN.out.mono ?_
    rintro e w1 ⟨rfl, rfl⟩
    go_wp2_with fail
    refine hRe.out.mono ?_
    rintro e w1 ⟨rfl, rfl⟩
    go_wp2_with fail
    refine wp_region_held_drew (S := (fun w' => w'.cell? ⟨g, 1, none⟩ = some (.map (some b)) ∧ (convert 23 9 (.slice A T.length c)).run Try.prog w' = .ok (.string ⟨T.toArray⟩) w' ∧ (Instr.lookup 66 (.map (some b)) (.string ⟨T.toArray⟩) true).run Try.prog w' = .ok (.tuple #[.int .i64 v, .bool false]) w')) (by kernel_rfl) (by exact ⟨c1, hcv, hlk⟩) (fun hHeld => ?_)
    refine wpAnyH_take (i := 0) (oi := { dst := some 20, op := Op.move (Operand.tmp 0), type := 29, pos := "suite.go:215", after := #[], guard := none }) (v := ?_) rfl (by kernel_rfl) (by kernel_rfl) (by kernel_rfl) (fun _ _ _ h => h) (Or.inl ⟨by rfl, ?_⟩) (by assumption) ?_; rotate_left; · ((intro w hSw; (try dsimp only at hSw); go_simp) <;> with_reducible rfl)
    try simp only [Act.put, List.setIfInBounds_toArray, List.set_cons_zero, List.set_cons_succ]
    refine wpAnyH_take (i := 1) (oi := { dst := some 21, op := Op.nilCheck (Operand.tmp 20), type := 0, pos := "suite.go:215", after := #[{ on := 0, ground := Ground.data }], guard := none }) (v := ?_) rfl (by kernel_rfl) (by kernel_rfl) (by kernel_rfl) (fun _ _ _ h => h) (Or.inl ⟨by rfl, ?_⟩) (by assumption) ?_; rotate_left; · ((intro w hSw; (try dsimp only at hSw); go_simp) <;> with_reducible rfl)
    try simp only [Act.put, List.setIfInBounds_toArray, List.set_cons_zero, List.set_cons_succ]
    refine wpAnyH_take (i := 2) (oi := { dst := some 22, op := Op.fieldAddr 71 (Operand.tmp 21) 0, type := 0, pos := "suite.go:215", after := #[{ on := 1, ground := Ground.data }], guard := none }) (v := ?_) rfl (by kernel_rfl) (by kernel_rfl) (by kernel_rfl) (fun _ _ _ h => h) (Or.inl ⟨by rfl, ?_⟩) (by assumption) ?_; rotate_left; · ((intro w hSw; (try dsimp only at hSw); go_simp) <;> with_reducible rfl)
    try simp only [Act.put, List.setIfInBounds_toArray, List.set_cons_zero, List.set_cons_succ]
    refine wpAnyH_take (i := 3) (oi := { dst := some 23, op := Op.fieldAddr 68 (Operand.tmp 22) 1, type := 0, pos := "suite.go:215", after := #[{ on := 2, ground := Ground.data }], guard := none }) (v := ?_) rfl (by kernel_rfl) (by kernel_rfl) (by kernel_rfl) (fun _ _ _ h => h) (Or.inl ⟨by rfl, ?_⟩) (by assumption) ?_; rotate_left; · ((intro w hSw; (try dsimp only at hSw); go_simp) <;> with_reducible rfl)
    try simp only [Act.put, List.setIfInBounds_toArray, List.set_cons_zero, List.set_cons_succ]
    refine wpAnyH_take (i := 4) (oi := { dst := some 24, op := Op.load 66 (Operand.tmp 23), type := 66, pos := "suite.go:215", after := #[{ on := 3, ground := Ground.data }], guard := none }) (v := ?_) rfl (by kernel_rfl) (by kernel_rfl) (by kernel_rfl) (fun _ _ _ h => h) (Or.inl ⟨by rfl, ?_⟩) (by assumption) ?_; rotate_left; · ((intro w hSw; (try dsimp only at hSw); go_simp) <;> with_reducible rfl)
    try simp only [Act.put, List.setIfInBounds_toArray, List.set_cons_zero, List.set_cons_succ]
    refine wpAnyH_take (i := 5) (oi := { dst := some 25, op := Op.move (Operand.tmp 1), type := 23, pos := "suite.go:215", after := #[], guard := none }) (v := ?_) rfl (by kernel_rfl) (by kernel_rfl) (by kernel_rfl) (fun _ _ _ h => h) (Or.inl ⟨by rfl, ?_⟩) (by assumption) ?_; rotate_left; · ((intro w hSw; (try dsimp only at hSw); go_simp) <;> with_reducible rfl)
    try simp only [Act.put, List.setIfInBounds_toArray, List.set_cons_zero, List.set_cons_succ]
    refine wpAnyH_take (i := 6) (oi := { dst := some 26, op := Op.convert 23 9 (Operand.tmp 25), type := 9, pos := "suite.go:215", after := #[{ on := 5, ground := Ground.data }], guard := none }) (v := ?_) rfl (by kernel_rfl) (by kernel_rfl) (by kernel_rfl) (fun _ _ _ h => h) (Or.inl ⟨by rfl, ?_⟩) (by assumption) ?_; rotate_left; · ((intro w hSw; (try dsimp only at hSw); go_simp) <;> with_reducible rfl)
    try simp only [Act.put, List.setIfInBounds_toArray, List.set_cons_zero, List.set_cons_succ]
    refine wpAnyH_take (i := 7) (oi := { dst := some 27, op := Op.lookup 66 (Operand.tmp 24) (Operand.tmp 26) true, type := 108, pos := "suite.go:215", after := #[{ on := 4, ground := Ground.data }, { on := 6, ground := Ground.data }], guard := none }) (v := ?_) rfl (by kernel_rfl) (by kernel_rfl) (by kernel_rfl) (fun _ _ _ h => h) (Or.inl ⟨by rfl, ?_⟩) (by assumption) ?_; rotate_left; · ((intro w hSw; (try dsimp only at hSw); go_simp) <;> with_reducible rfl)
    try simp only [Act.put, List.setIfInBounds_toArray, List.set_cons_zero, List.set_cons_succ]
    refine wpAnyH_take (i := 8) (oi := { dst := some 19, op := Op.move (Operand.tmp 27), type := 108, pos := "suite.go:215", after := #[{ on := 7, ground := Ground.data }], guard := none }) (v := ?_) rfl (by kernel_rfl) (by kernel_rfl) (by kernel_rfl) (fun _ _ _ h => h) (Or.inl ⟨by rfl, ?_⟩) (by assumption) ?_; rotate_left; · ((intro w hSw; (try dsimp only at hSw); go_simp) <;> with_reducible rfl)
    try simp only [Act.put, List.setIfInBounds_toArray, List.set_cons_zero, List.set_cons_succ]
    refine wpAnyH_take (i := 9) (oi := { dst := some 28, op := Op.extract (Operand.tmp 19) 0, type := 3, pos := "suite.go:215", after := #[{ on := 8, ground := Ground.data }], guard := none }) (v := ?_) rfl (by kernel_rfl) (by kernel_rfl) (by kernel_rfl) (fun _ _ _ h => h) (Or.inl ⟨by rfl, ?_⟩) (by assumption) ?_; rotate_left; · ((intro w hSw; (try dsimp only at hSw); go_simp) <;> with_reducible rfl)
    try simp only [Act.put, List.setIfInBounds_toArray, List.set_cons_zero, List.set_cons_succ]
    refine wpAnyH_take (i := 10) (oi := { dst := some 29, op := Op.extract (Operand.tmp 19) 1, type := 4, pos := "suite.go:215", after := #[{ on := 8, ground := Ground.data }, { on := 11, ground := Ground.gcOnly Go.Departure.lateStores }], guard := none }) (v := ?_) rfl (by kernel_rfl) (by kernel_rfl) (by kernel_rfl) (fun _ _ _ h => h) (Or.inl ⟨by rfl, ?_⟩) (by assumption) ?_; rotate_left; · ((intro w hSw; (try dsimp only at hSw); go_simp) <;> with_reducible rfl)
    try simp only [Act.put, List.setIfInBounds_toArray, List.set_cons_zero, List.set_cons_succ]
    refine wpAnyH_take (i := 11) (oi := { dst := some 7, op := Op.assign (Operand.tmp 28), type := 3, pos := "suite.go:215", after := #[{ on := 9, ground := Ground.data }, { on := 0, ground := Ground.phase }, { on := 1, ground := Ground.phase }, { on := 2, ground := Ground.phase }, { on := 3, ground := Ground.phase }, { on := 4, ground := Ground.phase }, { on := 5, ground := Ground.phase }, { on := 6, ground := Ground.phase }, { on := 7, ground := Ground.phase }, { on := 8, ground := Ground.phase }, { on := 9, ground := Ground.phase }, { on := 10, ground := Ground.textOnly Go.Departure.lateStores }], guard := none }) (v := ?_) rfl (by kernel_rfl) (by kernel_rfl) (by kernel_rfl) (fun _ _ _ h => h) (Or.inl ⟨by rfl, ?_⟩) (by assumption) ?_; rotate_left; · ((intro w hSw; (try dsimp only at hSw); go_simp) <;> with_reducible rfl)
    try simp only [Act.put, List.setIfInBounds_toArray, List.set_cons_zero, List.set_cons_succ]
    refine wpAnyH_take (i := 12) (oi := { dst := some 8, op := Op.assign (Operand.tmp 29), type := 4, pos := "suite.go:215", after := #[{ on := 10, ground := Ground.data }, { on := 11, ground := Ground.chain }, { on := 0, ground := Ground.phase }, { on := 1, ground := Ground.phase }, { on := 2, ground := Ground.phase }, { on := 3, ground := Ground.phase }, { on := 4, ground := Ground.phase }, { on := 5, ground := Ground.phase }, { on := 6, ground := Ground.phase }, { on := 7, ground := Ground.phase }, { on := 8, ground := Ground.phase }, { on := 9, ground := Ground.phase }, { on := 10, ground := Ground.phase }, { on := 11, ground := Ground.phase }], guard := none }) (v := ?_) rfl (by kernel_rfl) (by kernel_rfl) (by kernel_rfl) (fun _ _ _ h => h) (Or.inl ⟨by rfl, ?_⟩) (by assumption) ?_; rotate_left; · ((intro w hSw; (try dsimp only at hSw); go_simp) <;> with_reducible rfl)
    try simp only [Act.put, List.setIfInBounds_toArray, List.set_cons_zero, List.set_cons_succ]
    refine wpAnyH_done (by kernel_rfl) ?_ _
    go_wp2
    go_ret
    rw [hso.out]
    exact ⟨rfl, hbd⟩
end Go.Proofs.Ytkapamolligmkaa.Sec

/- What is written of a sector is read as it was, at its place alone: plain. -/
namespace Go.Proofs.Ytkapamolligmkaa.Sec
open Go.RowKit
open Go.Proofs.Ytkapamolligmkaa.Num (putL getN putL_len getN_putL)
open Go.Proofs.Ytkapamolligmkaa.Mac (padTo)
set_option linter.unusedVariables false
theorem padTo_eq {l : List UInt8} {n : Nat} (h : l.length ≤ n) : padTo l n = l ++ List.replicate (n - l.length) 0 := by unfold padTo; rw [List.take_of_length_le h]
theorem text_form {p : Int} {x : X} (h : rightF p x = 0) : text p x = head p x ++ (x.body ++ List.replicate (479 - x.body.length) 0) := by
  have hb := (right_of h).2.2.2.2.2.2
  unfold text
  rw [padTo_eq (by rw [List.length_append, head_len]; omega), List.append_assoc, List.length_append, head_len, show 504 - (25 + x.body.length) = 479 - x.body.length by omega]
theorem cut_app (a b : List UInt8) (i n : Nat) (h : i + n ≤ a.length) : cut (a ++ b) i n = cut a i n := by
  unfold cut
  rw [List.drop_append_of_le_length (by omega), List.take_append_of_le_length (by rw [List.length_drop]; omega)]
theorem cut_mid (a b c : List UInt8) (i n : Nat) (hi : i = a.length) (hn : n = b.length) : cut (a ++ (b ++ c)) i n = b := by
  subst hi hn
  unfold cut
  rw [List.drop_left, List.take_left]
theorem of_text {p : Int} {x : X} (h : rightF p x = 0) : lenB (text p x) = x.body.length ∧ ofB (text p x) = x := by
  obtain ⟨h1, h2, h3, h4, h5, h6, h7⟩ := right_of h
  have hl : lenB (text p x) = x.body.length := by
    unfold lenB
    rw [text_form h, cut_app _ _ _ _ (by rw [head_len]; decide)]
    unfold head
    rw [show putL x.kind.toNat 1 ++ putL p.toNat 2 ++ putL x.life.toNat 8 ++ putL x.seq.toNat 4 ++ putL x.gen.toNat 8 ++ putL x.body.length 2 = (putL x.kind.toNat 1 ++ putL p.toNat 2 ++ putL x.life.toNat 8 ++ putL x.seq.toNat 4 ++ putL x.gen.toNat 8) ++ (putL x.body.length 2 ++ []) by simp]
    rw [cut_mid _ _ _ _ _ (by simp [putL_len]) (by simp [putL_len]), getN_putL]
    exact Nat.mod_eq_of_lt (by simp only [Nat.reducePow]; omega)
  refine ⟨hl, ?_⟩
  have f0 : cut (text p x) 0 1 = putL x.kind.toNat 1 := by
    rw [text_form h, cut_app _ _ _ _ (by rw [head_len]; omega)]
    unfold head
    rw [show putL x.kind.toNat 1 ++ putL p.toNat 2 ++ putL x.life.toNat 8 ++ putL x.seq.toNat 4 ++ putL x.gen.toNat 8 ++ putL x.body.length 2 = [] ++ (putL x.kind.toNat 1 ++ (putL p.toNat 2 ++ putL x.life.toNat 8 ++ putL x.seq.toNat 4 ++ putL x.gen.toNat 8 ++ putL x.body.length 2)) by simp]
    rw [cut_mid [] _ _ 0 1 rfl (by simp [putL_len])]
  have f3 : cut (text p x) 3 8 = putL x.life.toNat 8 := by
    rw [text_form h, cut_app _ _ _ _ (by rw [head_len]; omega)]
    unfold head
    rw [show putL x.kind.toNat 1 ++ putL p.toNat 2 ++ putL x.life.toNat 8 ++ putL x.seq.toNat 4 ++ putL x.gen.toNat 8 ++ putL x.body.length 2 = (putL x.kind.toNat 1 ++ putL p.toNat 2) ++ (putL x.life.toNat 8 ++ (putL x.seq.toNat 4 ++ putL x.gen.toNat 8 ++ putL x.body.length 2)) by simp]
    rw [cut_mid _ _ _ _ _ (by simp [putL_len]) (by simp [putL_len])]
  have f11 : cut (text p x) 11 4 = putL x.seq.toNat 4 := by
    rw [text_form h, cut_app _ _ _ _ (by rw [head_len]; omega)]
    unfold head
    rw [show putL x.kind.toNat 1 ++ putL p.toNat 2 ++ putL x.life.toNat 8 ++ putL x.seq.toNat 4 ++ putL x.gen.toNat 8 ++ putL x.body.length 2 = (putL x.kind.toNat 1 ++ putL p.toNat 2 ++ putL x.life.toNat 8) ++ (putL x.seq.toNat 4 ++ (putL x.gen.toNat 8 ++ putL x.body.length 2)) by simp]
    rw [cut_mid _ _ _ _ _ (by simp [putL_len]) (by simp [putL_len])]
  have f15 : cut (text p x) 15 8 = putL x.gen.toNat 8 := by
    rw [text_form h, cut_app _ _ _ _ (by rw [head_len]; omega)]
    unfold head
    rw [show putL x.kind.toNat 1 ++ putL p.toNat 2 ++ putL x.life.toNat 8 ++ putL x.seq.toNat 4 ++ putL x.gen.toNat 8 ++ putL x.body.length 2 = (putL x.kind.toNat 1 ++ putL p.toNat 2 ++ putL x.life.toNat 8 ++ putL x.seq.toNat 4) ++ (putL x.gen.toNat 8 ++ putL x.body.length 2) by simp]
    rw [cut_mid _ _ _ _ _ (by simp [putL_len]) (by simp [putL_len])]
  have fb : cut (text p x) 25 x.body.length = x.body := by
    rw [text_form h, cut_mid _ _ _ _ _ (by rw [head_len]) rfl]
  have e8 : (256 : Nat) ^ 8 = 18446744073709551616 := rfl
  unfold ofB
  rw [hl, f0, f3, f11, f15, fb, getN_putL, getN_putL, getN_putL, getN_putL]
  have hk : ((x.kind.toNat % 256 ^ 1 : Nat) : Int) = x.kind := by simp only [Nat.pow_one]; omega
  have hs : ((x.seq.toNat % 256 ^ 4 : Nat) : Int) = x.seq := by simp only [Nat.reducePow]; omega
  have hl8 : UInt64.ofNat (x.life.toNat % 256 ^ 8) = x.life := by rw [e8, Nat.mod_eq_of_lt x.life.toNat_lt]; simp
  have hg8 : UInt64.ofNat (x.gen.toNat % 256 ^ 8) = x.gen := by rw [e8, Nat.mod_eq_of_lt x.gen.toNat_lt]; simp
  rw [hk, hs, hl8, hg8]
theorem reads_text {p : Int} {x : X} (h : rightF p x = 0) : reads p (text p x) = some x := by
  obtain ⟨h1, h2⟩ := of_text h
  have hb := (right_of h).2.2.2.2.2.2
  have := reads_yes (p := p) (b := text p x) (by omega) (by rw [h2]; exact h) (by rw [h2])
  rw [h2] at this; exact this
theorem place_of {p q : Int} {x : X} (h : rightF p x = 0) (h' : rightF q x = 0) (he : text q x = text p x) : q = p := by
  have key : ∀ r, rightF r x = 0 → cut (text r x) 1 2 = putL r.toNat 2 := fun r hr => by
    rw [text_form hr, cut_app _ _ _ _ (by rw [head_len]; omega)]
    unfold head
    rw [show putL x.kind.toNat 1 ++ putL r.toNat 2 ++ putL x.life.toNat 8 ++ putL x.seq.toNat 4 ++ putL x.gen.toNat 8 ++ putL x.body.length 2 = (putL x.kind.toNat 1) ++ (putL r.toNat 2 ++ (putL x.life.toNat 8 ++ putL x.seq.toNat 4 ++ putL x.gen.toNat 8 ++ putL x.body.length 2)) by simp]
    rw [cut_mid _ _ _ _ _ (by simp [putL_len]) (by simp [putL_len])]
  have h3 := key p h
  have h4 := key q h'
  rw [he, h3] at h4
  have h5 := congrArg getN h4
  rw [getN_putL, getN_putL] at h5
  have := right_of h
  have := right_of h'
  simp only [Nat.reducePow] at h5
  omega
theorem reads_else {p q : Int} {x : X} (h : rightF p x = 0) (hq : q ≠ p) : reads q (text p x) = none := by
  obtain ⟨h1, h2⟩ := of_text h
  by_cases hr : rightF q x = 0
  · exact reads_un (by rw [h2]; intro e; exact hq (place_of h hr e))
  · exact reads_bad (by rw [h2]; exact hr)
theorem text_blank {p : Int} {x : X} (h : rightF p x = 0) (s : List UInt8) : ¬ blankB (text p x ++ s) = true := by
  intro hb
  have hb : text p x ++ s = zero512 := of_decide_eq_true hb
  have h1 := right_of h
  have e1 : cut (text p x ++ s) 0 1 = putL x.kind.toNat 1 := by
    rw [cut_app _ _ _ _ (by rw [text_len]; omega), text_form h, cut_app _ _ _ _ (by rw [head_len]; omega)]
    unfold head
    rw [show putL x.kind.toNat 1 ++ putL p.toNat 2 ++ putL x.life.toNat 8 ++ putL x.seq.toNat 4 ++ putL x.gen.toNat 8 ++ putL x.body.length 2 = [] ++ (putL x.kind.toNat 1 ++ (putL p.toNat 2 ++ putL x.life.toNat 8 ++ putL x.seq.toNat 4 ++ putL x.gen.toNat 8 ++ putL x.body.length 2)) by simp]
    rw [cut_mid [] _ _ 0 1 rfl (by simp [putL_len])]
  rw [hb] at e1
  have h5 := congrArg getN e1
  rw [getN_putL] at h5
  have h6 : getN (cut zero512 0 1) = 0 := by decide +kernel
  rw [h6] at h5
  simp only [Nat.pow_one] at h5
  omega
/-- read as it was written -/
theorem dec_back {p : Int} {x : X} (h : rightF p x = 0) (s : List UInt8) (hs : s.length = 8) : decode true p (text p x ++ s) = (x, 0) :=
  dec_yes (by rw [List.length_append, text_len, hs]) (text_blank h s) (by rw [List.take_left' (text_len p x)]; exact reads_text h)
theorem dec_else {p q : Int} {x : X} (h : rightF p x = 0) (hq : q ≠ p) (ck : Bool) (s : List UInt8) (hs : s.length = 8) : decode ck q (text p x ++ s) = (X0, 11) :=
  dec_none (by rw [List.length_append, text_len, hs]) (text_blank h s) (by rw [List.take_left' (text_len p x)]; exact reads_else h hq)
theorem dec_fault {ck : Bool} {p : Int} {b : List UInt8} (h : ck = false) : (decode ck p b).2 ≠ 0 := by
  subst h
  unfold decode
  split
  · decide
  · split
    · decide
    · split <;> simp
/-- what was not written is not right by terms -/
theorem check_else {b T : List UInt8} (hb : b.length = 512) (hT : T.length = 504) (hne : b ≠ T ++ mark 0) : checkOf [T] (b.take 504) (b.drop 504) = false := by
  unfold checkOf
  by_cases h : b.take 504 = T
  · have h2 : b.drop 504 ≠ mark 0 := fun e => hne (by rw [← h, ← e, List.take_append_drop])
    rw [h]
    simp [R1.sameB]
    exact fun e => h2 e.symm
  · simp [h]
theorem check_own (T : List UInt8) : checkOf [T] T (mark 0) = true := by simp [checkOf, R1.sameB]
theorem sumOf_nil (T : List UInt8) : sumOf [] T = mark 0 := by simp [sumOf]
theorem sumAfter_nil (T : List UInt8) : sumAfter [] T = [T] := by simp [sumAfter]
end Go.Proofs.Ytkapamolligmkaa.Sec

/- Encode and Decode by terms. -/
namespace Go.Proofs.Ytkapamolligmkaa.Sec
open Go.RowKit
open Go.Proofs.Ytkapamolligmkaa.Num (putL getN)
set_option linter.unusedVariables false
set_option maxRecDepth 100000
/-- is the sum of 512 bytes right, by terms? -/
def ckS (l : List (List UInt8)) (b : List UInt8) : Bool := checkOf l (b.take 504) (b.drop 504)
theorem decode_sym (p : Int) (g bS : Nat) (l : List (List UInt8)) (A : Option Addr) (b : List UInt8) (n c : Nat) (w : World) (hg : SymAt w g bS l) (hl1 : l.length ≤ 1000000) (hp0 : -9223372036854775808 ≤ p) (hp1 : p ≤ 9223372036854775807) (hn : n = b.length) (hr : Rd w w.heap.size A (b.map e8)) (hl : b.length ≤ 100000) (hc : n ≤ c) (hcm : c ≤ maxLen) :
    Calls Try.prog 13 #[.pointer (some ⟨g, 0, none⟩), .int .i64 p, .slice A n c] w fun e w' => RetX (decode (ckS l b) p b).1 (.int .i64 (decode (ckS l b) p b).2) w e w' ∧ Below w.heap.size w w' :=
  decode_gen p g (ckS l b) A b n c w hp0 hp1 hn hr hl hc hcm fun h5 W bW A1 A2 c1 c2 r1 r2 =>
    check_sym W g bS l (hg.on bW) A1 A2 (b.take 504) (b.drop 504) 504 c1 8 c2 (by rw [List.length_take]; omega) (by rw [List.length_drop]; omega) r1 r2 (by rw [List.length_take]; omega) hl1
theorem sumOf_len (l : List (List UInt8)) (T : List UInt8) : (sumOf l T).length = 8 := mark_len _
theorem encode_sym (p : Int) (g bS : Nat) (l : List (List UInt8)) (x : X) (A : Option Addr) (c : Nat) (w : World) (hg : SymAt w g bS l) (hl1 : l.length ≤ 1000000) (hr : Rd w w.heap.size A (x.body.map e8)) (h : rightF p x = 0) :
    Calls Try.prog 19 #[.pointer (some ⟨g, 0, none⟩), .int .i64 p, .agg #[.int .i64 x.kind, .int .u64 (x.life.toNat : Int), .int .i64 x.seq, .int .u64 (x.gen.toNat : Int), .slice A x.body.length c]] w fun e w' =>
      ∃ A' c', e = .returned (.tuple #[.slice A' 512 c', .int .i64 0]) ∧ w'.ownsRow w.heap.size 5 1 (.slice A' 512 c') 512 ((text p x ++ sumOf l (text p x)).map e8) ∧ Keep [bS] w w' ∧ SymAt w' g bS (sumAfter l (text p x)) := by
  have hlt := hg.lt
  refine encode_gen p g x A c w hr h (sumOf l (text p x)) (sumOf_len _ _) [bS] (fun j hj => by rw [List.mem_singleton] at hj; subst hj; exact hlt.2) (fun W => SymAt W g bS (sumAfter l (text p x))) (fun W W' r hW hgr hrr => hW.grown hgr (fun e => by have := hrr _ e.symm; omega) (fun e => by have := hrr _ e.symm; omega)) ?_
  intro W bW A1 c1 r1 ha
  refine (sum_sym W g bS l (hg.on bW) A1 (text p x) 504 c1 (text_len _ _).symm r1 (fun a he e => by have := ha a he; injection e with e; omega) (by rw [text_len]; omega) hl1).mono ?_
  rintro e W' ⟨A2, c2, he, own2, k2, s2⟩
  exact ⟨A2, c2, he, Rd.own own2, k2, s2⟩
theorem ckR_own (T : List UInt8) (h : T.length = 504) : ckR (T ++ Crc.sumB T) = true := by
  unfold ckR
  rw [List.take_left' h, List.drop_left' h, R1.sameB_self]
theorem ckS_own (T : List UInt8) (h : T.length = 504) : ckS [T] (T ++ mark 0) = true := by
  unfold ckS
  rw [List.take_left' h, List.drop_left' h, check_own]
theorem dec_other {p q : Int} {x : X} (h : rightF p x = 0) (s : List UInt8) (hs : s.length = 8) : ∃ y F, decode true q (text p x ++ s) = (y, F) ∧ ((q = p ∧ F = 0) ∨ (q ≠ p ∧ F = 11)) := by
  by_cases e : q = p
  · subst e; exact ⟨_, _, dec_back h s hs, .inl ⟨rfl, rfl⟩⟩
  · exact ⟨_, _, dec_else h e true s hs, .inr ⟨e, rfl⟩⟩
end Go.Proofs.Ytkapamolligmkaa.Sec

/- A disk and a suite of terms that lie beside each other, in blocks of their own. No statement is proved here. -/
namespace Go.Proofs.Ytkapamolligmkaa
open Go.RowKit
open Go.Proofs.Ytkapamolligmkaa.Disk (St DAt Did)
open Go.Proofs.Ytkapamolligmkaa.Sec (SymAt SumsAt)
set_option linter.unusedVariables false
theorem Sec.SymAt.keepK {w w' : World} {g b : Nat} {l : List (List UInt8)} {fp : List Nat} (h : SymAt w g b l) (k : Keep fp w w') (h1 : g ∉ fp) (h2 : b ∉ fp) : SymAt w' g b l := by
  obtain ⟨⟨q, hq⟩, n, D, ⟨es, clock, hb, F, hs, hD⟩, r⟩ := h
  exact ⟨⟨q, (k.block (lt_of_block hq) h1).trans hq⟩, n, D, ⟨es, clock, (k.block (lt_of_block hb) h2).trans hb, F, hs, hD⟩, r⟩
/-- a disk and a suite of terms -/
structure Both (w : World) (g : Nat) (fp : List Nat) (s : St) (gS bS : Nat) (l : List (List UInt8)) : Prop where
  disk : DAt w g fp s
  sym : SymAt w gS bS l
  nS : gS ∉ fp
  nB : bS ∉ fp
theorem Both.on {w w' : World} {g : Nat} {fp : List Nat} {s : St} {gS bS : Nat} {l : List (List UInt8)} (h : Both w g fp s gS bS l) (b : Below w.heap.size w w') : Both w' g fp s gS bS l :=
  ⟨h.disk.on b, h.sym.on b, h.nS, h.nB⟩
theorem Both.did {w w' : World} {g : Nat} {fp fp' : List Nat} {s s' : St} {gS bS : Nat} {l : List (List UInt8)} (h : Both w g fp s gS bS l) (d : DAt w' g fp' s') (k : Keep fp w w') (f : Fresh w fp fp') : Both w' g fp' s' gS bS l :=
  ⟨d, h.sym.keepK k h.nS h.nB, f.out h.sym.lt.1 h.nS, f.out h.sym.lt.2 h.nB⟩
theorem Both.summed {w w' : World} {g : Nat} {fp : List Nat} {s : St} {gS bS : Nat} {l l' : List (List UInt8)} (h : Both w g fp s gS bS l) (d : SymAt w' gS bS l') (k : Keep [bS] w w') : Both w' g fp s gS bS l' :=
  ⟨h.disk.keep k (fun j hj e => h.nB (by rw [List.mem_singleton] at e; exact e ▸ hj)), d, h.nS, h.nB⟩
/-- turned by a call, to a state and to sums -/
def Turn (w : World) (g : Nat) (fp : List Nat) (gS bS : Nat) (s' : St) (l' : List (List UInt8)) (w' : World) : Prop := ∃ fp', Both w' g fp' s' gS bS l' ∧ Keep (bS :: fp) w w' ∧ Fresh w fp fp'
theorem Turn.same {w : World} {g : Nat} {fp : List Nat} {s : St} {gS bS : Nat} {l : List (List UInt8)} (h : Both w g fp s gS bS l) : Turn w g fp gS bS s l w := ⟨fp, h, Keep.refl _ _, Fresh.refl _ _⟩
theorem Turn.below {w w' : World} {g : Nat} {fp : List Nat} {s : St} {gS bS : Nat} {l : List (List UInt8)} (h : Both w g fp s gS bS l) (b : Below w.heap.size w w') : Turn w g fp gS bS s l w' := ⟨fp, h.on b, Keep.of_below b _, Fresh.refl _ _⟩
theorem Turn.trans {w w1 w2 : World} {g : Nat} {fp fp1 : List Nat} {s2 : St} {gS bS : Nat} {l2 : List (List UInt8)} (k : Keep (bS :: fp) w w1) (f : Fresh w fp fp1) (h : Turn w1 g fp1 gS bS s2 l2 w2) : Turn w g fp gS bS s2 l2 w2 := by
  obtain ⟨fp2, b2, k2, f2⟩ := h
  refine ⟨fp2, b2, k.trans k2 ?_, f.trans k.size f2⟩
  intro j hj
  rcases List.mem_cons.1 hj with e | e
  · exact .inl (by rw [e]; simp)
  · exact (f j e).imp (fun h => List.mem_cons_of_mem _ h) id
theorem Turn.ofDid {w w' : World} {g : Nat} {fp : List Nat} {s : St} {gS bS : Nat} {l : List (List UInt8)} {r : St × Int} {e : Ending} (h : Both w g fp s gS bS l) (d : Did w g fp r e w') : e = .returned (.int .i64 r.2) ∧ Turn w g fp gS bS r.1 l w' := by
  obtain ⟨he, fp', d, k, f⟩ := d
  exact ⟨he, fp', h.did d k f, k.more (fun j hj => List.mem_cons_of_mem _ hj), f⟩
theorem keepB {fp : List Nat} {bS : Nat} {w w' : World} (k : Keep [bS] w w') : Keep (bS :: fp) w w' := k.more (fun j hj => by rw [List.mem_singleton] at hj; rw [hj]; simp)
theorem keepF {fp : List Nat} {bS : Nat} {w w' : World} (k : Keep fp w w') : Keep (bS :: fp) w w' := k.more (fun j hj => List.mem_cons_of_mem _ hj)
theorem keepT {fp fp1 : List Nat} {bS : Nat} {w w1 w2 : World} (k : Keep (bS :: fp) w w1) (f : Fresh w fp fp1) (k2 : Keep (bS :: fp1) w1 w2) : Keep (bS :: fp) w w2 := by
  refine k.trans k2 ?_
  intro j hj
  rcases List.mem_cons.1 hj with e | e
  · exact .inl (by rw [e]; simp)
  · exact (f j e).imp (fun h => List.mem_cons_of_mem _ h) id
theorem Fresh.on {w w1 : World} {fp fp1 fp2 : List Nat} (h : Fresh w fp fp1) (hs : w.heap.size ≤ w1.heap.size) (k : Fresh w1 fp1 fp2) : Fresh w fp fp2 := h.trans hs k
/-- in a law: both lie in blocks that the law made -/
structure Here (w0 w : World) (g : Nat) (fp : List Nat) (s : St) (gS bS : Nat) (l : List (List UInt8)) : Prop where
  both : Both w g fp s gS bS l
  bel : Below w0.heap.size w0 w
  own : ∀ j ∈ bS :: fp, w0.heap.size ≤ j
theorem Here.on {w0 w w' : World} {g : Nat} {fp : List Nat} {s : St} {gS bS : Nat} {l : List (List UInt8)} (h : Here w0 w g fp s gS bS l) (b : Below w.heap.size w w') : Here w0 w' g fp s gS bS l := ⟨h.both.on b, bt h.bel b, h.own⟩
theorem Here.turn {w0 w w' : World} {g : Nat} {fp : List Nat} {s s' : St} {gS bS : Nat} {l l' : List (List UInt8)} (h : Here w0 w g fp s gS bS l) (t : Turn w g fp gS bS s' l' w') : ∃ fp', Here w0 w' g fp' s' gS bS l' ∧ Keep (bS :: fp) w w' ∧ Fresh w fp fp' := by
  obtain ⟨fp', b, k, f⟩ := t
  refine ⟨fp', ⟨b, h.bel.trans (k.below h.own h.bel.size), fun j hj => ?_⟩, k, f⟩
  rcases List.mem_cons.1 hj with e | e
  · exact h.own j (by rw [e]; simp)
  · exact f.ge (fun i hi => h.own i (List.mem_cons_of_mem _ hi)) h.bel.size j e
theorem Here.did {w0 w w' : World} {g : Nat} {fp : List Nat} {s : St} {gS bS : Nat} {l : List (List UInt8)} {r : St × Int} {e : Ending} (h : Here w0 w g fp s gS bS l) (d : Did w g fp r e w') : e = .returned (.int .i64 r.2) ∧ ∃ fp', Here w0 w' g fp' r.1 gS bS l ∧ Keep (bS :: fp) w w' ∧ Fresh w fp fp' := by
  obtain ⟨he, t⟩ := Turn.ofDid h.both d
  exact ⟨he, h.turn t⟩
theorem Here.rd {w0 w : World} {g : Nat} {fp : List Nat} {s : St} {gS bS : Nat} {l : List (List UInt8)} {A : Option Addr} {xs : List Value} (h : Here w0 w g fp s gS bS l) (r : Rd w0 w0.heap.size A xs) : Rd w w.heap.size A xs := (r.below h.bel).more h.bel.size
theorem Here.rdN {w0 w : World} {g : Nat} {fp : List Nat} {s : St} {gS bS : Nat} {l : List (List UInt8)} {A : Option Addr} {xs : List Value} (h : Here w0 w g fp s gS bS l) (r : Rd w0 w0.heap.size A xs) : RdN w (bS :: fp) A xs := RdN.of (r.below h.bel) h.own h.bel.size
theorem Here.start {w w1 w2 : World} {g : Nat} {fp : List Nat} {s : St} {gS bS : Nat} {l : List (List UInt8)} (hD : DAt w1 g fp s) (hfp : ∀ j ∈ fp, w.heap.size ≤ j) (b1 : Below w.heap.size w w1) (hS : SymAt w2 gS bS l) (hg : w1.heap.size ≤ gS) (hb : w1.heap.size ≤ bS) (b2 : Below w1.heap.size w1 w2) : Here w w2 g fp s gS bS l := by
  have hlt := hD.lt
  have h1 := b1.size
  refine ⟨⟨hD.on b2, hS, fun e => ?_, fun e => ?_⟩, bt b1 b2, fun j hj => ?_⟩
  · have := hlt _ e; omega
  · have := hlt _ e; omega
  · rcases List.mem_cons.1 hj with e | e
    · omega
    · exact hfp j e
theorem Here.moved {w0 w w' : World} {g : Nat} {fp fp' : List Nat} {s s' : St} {gS bS : Nat} {l : List (List UInt8)} (h : Here w0 w g fp s gS bS l) (d : DAt w' g fp' s') (k : Keep fp w w') (f : Fresh w fp fp') : Here w0 w' g fp' s' gS bS l := by
  refine ⟨h.both.did d k f, h.bel.trans ((keepF (bS := bS) k).below h.own h.bel.size), fun j hj => ?_⟩
  rcases List.mem_cons.1 hj with e | e
  · exact h.own j (by rw [e]; simp)
  · exact f.ge (fun i hi => h.own i (List.mem_cons_of_mem _ hi)) h.bel.size j e
theorem RdN.less {w : World} {fp fp' : List Nat} {A : Option Addr} {xs : List Value} (h : RdN w fp A xs) (hf : ∀ j ∈ fp', j ∈ fp) : RdN w fp' A xs := fun hne => by
  obtain ⟨b, off, rfl, hb, hn, hc⟩ := h hne
  exact ⟨b, off, rfl, hb, fun e => hn (hf b e), hc⟩
theorem Disk.DAt.inG {w : World} {g : Nat} {fp : List Nat} {s : St} (h : DAt w g fp s) : g ∈ fp := by obtain ⟨_, _, _, _, h⟩ := h; exact h.inG
theorem Here.armed {w0 w w' : World} {g : Nat} {fp : List Nat} {s s' : St} {gS bS : Nat} {l : List (List UInt8)} (h : Here w0 w g fp s gS bS l) (d : DAt w' g fp s') (k : Keep [g] w w') : Here w0 w' g fp s' gS bS l :=
  h.moved d (k.more (fun j hj => by rw [List.mem_singleton] at hj; rw [hj]; exact h.both.disk.inG)) (Fresh.refl _ _)
theorem Here.rdD {w0 w : World} {g : Nat} {fp : List Nat} {s : St} {gS bS : Nat} {l : List (List UInt8)} {A : Option Addr} {xs : List Value} (h : Here w0 w g fp s gS bS l) (r : Rd w0 w0.heap.size A xs) : RdN w fp A xs := (h.rdN r).less (fun j hj => List.mem_cons_of_mem _ hj)
theorem Here.summed {w0 w w' : World} {g : Nat} {fp : List Nat} {s : St} {gS bS : Nat} {l l' : List (List UInt8)} (h : Here w0 w g fp s gS bS l) (d : SymAt w' gS bS l') (k : Keep [bS] w w') : Here w0 w' g fp s gS bS l' :=
  ⟨h.both.summed d k, h.bel.trans ((keepB (fp := fp) k).below h.own h.bel.size), h.own⟩
theorem Blk.keepK {w w' : World} {g : Nat} {xs : List Value} {fp : List Nat} (h : Blk w g xs) (k : Keep fp w w') (hn : g ∉ fp) : Blk w' g xs := h.elim fun t hh => ⟨t, (k.block (lt_of_block hh) hn).trans hh⟩
end Go.Proofs.Ytkapamolligmkaa

/- The key above all: root.write, Put, Erase, Blank and what they come to. -/
namespace Go.Proofs.Ytkapamolligmkaa.Rt
open Go.RowKit
open Go.Proofs.Ytkapamolligmkaa.Disk (St DAt Did write_any flush_any read_any New8 Told8)
open Go.Proofs.Ytkapamolligmkaa.Sec (X SymAt text sumOf sumAfter ckS blankB rightF encode_sym decode_sym isBlank_any)
set_option linter.unusedVariables false
set_option maxRecDepth 100000
theorem _root_.Go.Proofs.Ytkapamolligmkaa.Keep.of_below5 {w w5 w' : World} {fp : List Nat} (k : Keep fp w5 w') (b : Below w.heap.size w w5) : Keep fp w w' := (Keep.of_below b fp).trans k (Fresh.refl _ _)
theorem _root_.Go.Proofs.Ytkapamolligmkaa.Fresh.of_size {w w5 : World} {fp fp' : List Nat} (f : Fresh w5 fp fp') (b : Below w.heap.size w w5) : Fresh w fp fp' := fun j hj => (f j hj).imp id (fun h => Nat.le_trans b.size h)
def place (gen : UInt64) : Int := (gen.toNat : Int) % 2
theorem place_ok (gen : UInt64) : 0 ≤ place gen ∧ place gen ≤ 1 := by unfold place; omega
/-- bytes at the place of a gen, flushed -/
def wr (s : St) (gen : UInt64) (b : List UInt8) : St × Int := if (Disk.write s (place gen) b).2 = 0 then Disk.flush (Disk.write s (place gen) b).1 else Disk.write s (place gen) b
theorem wr_no {s : St} {gen : UInt64} {b : List UInt8} (h : (Disk.write s (place gen) b).2 ≠ 0) : wr s gen b = Disk.write s (place gen) b := if_neg h
theorem wr_yes {s : St} {gen : UInt64} {b : List UInt8} (h : (Disk.write s (place gen) b).2 = 0) : wr s gen b = Disk.flush (Disk.write s (place gen) b).1 := if_pos h
theorem wr_sz (s : St) (gen : UInt64) (b : List UInt8) : (wr s gen b).1.sz ≤ s.sz + 3 := by
  unfold wr
  have h1 := Disk.sz_write s (place gen) b
  split
  · have h2 := Disk.sz_flush (Disk.write s (place gen) b).1
    omega
  · omega
theorem root_any (gen : UInt64) (m : Int) (hm : m = (gen.toNat : Int)) (w : World) : Calls Try.prog 26 #[.int .u64 m] w fun e w' => e = .returned (.int .i64 (place gen)) ∧ w = w' := by
  have hl := gen.toNat_lt
  have h1 : (gen.toNat : Int) % 2 = (gen.toNat : Int).tmod 2 := by rw [Int.tmod_eq_emod_of_nonneg (by omega)]
  subst hm
  have hw : IntKind.i64.wrap ((gen.toNat : Int) % 2) = (gen.toNat : Int) % 2 := wrap_small (by omega) (by omega)
  go_enter Try.func26, Try.ntmps26
  go_wp2
  go_ret
  exact ⟨rfl, rfl⟩
theorem write1_any (g : Nat) (fp : List Nat) (s : St) (p : Int) (A : Option Addr) (n c : Nat) (b : List UInt8) (a0 a1 a2 : Nat) (w : World) (h : DAt w g fp s) (hs : s.sz ≤ 999999999) (hn : n = b.length) (hr : RdN w fp A (b.map e8))
    (c0 : w.cell? ⟨a0, 0, none⟩ = some (.pointer (some ⟨g, 0, none⟩))) (c1 : w.cell? ⟨a1, 0, none⟩ = some (.int .i64 p)) (c2 : w.cell? ⟨a2, 0, none⟩ = some (.slice A n c)) :
    Calls Try.prog 43 #[.pointer (some ⟨a0, 0, none⟩), .pointer (some ⟨a1, 0, none⟩), .pointer (some ⟨a2, 0, none⟩)] w (Did w g fp (Disk.write s p b)) := by
  subst hn
  have hw := write_any g fp s p A _ c b w h hs rfl hr
  obtain ⟨r, hr⟩ : ∃ r, r = Disk.write s p b := ⟨_, rfl⟩
  rw [← hr] at hw ⊢
  have HW := Lib.hid hw
  clear hw hr
  go_enter Try.func43, Try.ntmps43
  go_wp2_with (go_at_call 44; refine (HW.out).mono ?_; rintro e w' ⟨rfl, hd⟩)
  go_ret
  exact ⟨rfl, hd⟩
set_option maxHeartbeats 1000000 in
theorem wr_any (g : Nat) (fp : List Nat) (s : St) (gen : UInt64) (m : Int) (hm : m = (gen.toNat : Int)) (A : Option Addr) (n c : Nat) (b : List UInt8) (w : World) (h : DAt w g fp s) (hs : s.sz ≤ 90000000) (hn : n = b.length) (hr : RdN w fp A (b.map e8)) :
    Calls Try.prog 27 #[.pointer (some ⟨g, 0, none⟩), .int .u64 m, .slice A n c] w (Did w g fp (wr s gen b)) := by
  subst hn
  subst hm
  have hm1 : ∀ (x : Array Value) (w : World), Sem.run Try.prog (callFunc 43 x) w = .ok (.enter 43 x) w := by intro x w; simp [go_sem]
  have hm2 : ∀ (x : Array Value) (w : World), Sem.run Try.prog (callFunc 45 x) w = .ok (.enter 45 x) w := by intro x w; simp [go_sem]
  have zF := Lib.hid (show ∀ w, (zeroValue 95).run Try.prog w = .ok (arrV [.nilFunc, .nilFunc]) w from fun w => by kernel_rfl)
  have szF : (Try.prog.info? 95).map (·.size) = some 2 := by kernel_rfl
  have b3 := b3alloc w (.cells #[.pointer (some ⟨g, 0, none⟩)] 25) (.cells #[.slice A b.length c] 23) (.cells #[.int .i64 (place gen)] 3)
  have q0 : Box (((w.alloc (.cells #[.pointer (some ⟨g, 0, none⟩)] 25)).alloc (.cells #[.slice A b.length c] 23)).alloc (.cells #[.int .i64 (place gen)] 3)) w.heap.size _ := ((Box.new w _ _).alloc _).alloc _
  have q1 : Box (((w.alloc (.cells #[.pointer (some ⟨g, 0, none⟩)] 25)).alloc (.cells #[.slice A b.length c] 23)).alloc (.cells #[.int .i64 (place gen)] 3)) (w.heap.size + 1) (.slice A b.length c) := by simpa using (Box.new (w.alloc (.cells #[.pointer (some ⟨g, 0, none⟩)] 25)) 23 (.slice A b.length c)).alloc (.cells #[.int .i64 (place gen)] 3)
  have q2 : Box (((w.alloc (.cells #[.pointer (some ⟨g, 0, none⟩)] 25)).alloc (.cells #[.slice A b.length c] 23)).alloc (.cells #[.int .i64 (place gen)] 3)) (w.heap.size + 1 + 1) (.int .i64 (place gen)) := by simpa using Box.new ((w.alloc (.cells #[.pointer (some ⟨g, 0, none⟩)] 25)).alloc (.cells #[.slice A b.length c] 23)) 3 (.int .i64 (place gen))
  go_enter Try.func27, Try.ntmps27
  go_wp2
  go_step3
  go_wp2_with (first
    | (go_at_call 26; refine (root_any gen _ (by rfl) _).mono ?_; rintro e w' ⟨rfl, rfl⟩)
    | ((with_reducible show wpList _ _ _ (⟨some 8, _, _, _, _, _⟩ :: _) _ _); refine Disk.wpList_allocT rfl _ rfl [.nilFunc, .nilFunc] zF.out ?_; intro w4 hb4 bw4)
    | ((with_reducible show wpList _ _ _ (⟨none, .store 95 _ _, _, _, _, _⟩ :: _) _ _); refine Disk.wpList_storeT rfl _ _ _ rfl rfl (ys := [.func (.func 43) #[] #[.pointer (some ⟨w.heap.size, 0, none⟩), .pointer (some ⟨w.heap.size + 1 + 1, 0, none⟩), .pointer (some ⟨w.heap.size + 1, 0, none⟩)], .func (.func 45) #[.pointer (some ⟨g, 0, none⟩)] #[]]) rfl hb4 rfl (by simp [Value.oneCell']) szF ?_; intro w5 hb5 hg5)
    | ((with_reducible show wpList _ _ _ (⟨some 18, _, _, _, _, _⟩ :: _) _ _); refine wpList_loadA rfl _ _ rfl rfl hb5.blk Try.underlying95 szF ?_))
  go_frame
  go_step3
  go_wp2_with ((with_reducible show wpList _ _ _ (⟨some 18, _, _, _, _, _⟩ :: _) _ _); refine wpList_loadA rfl _ _ rfl rfl hb5.blk Try.underlying95 szF ?_)
  have hsz4 := bw4.size
  have hszW : (((w.alloc (.cells #[.pointer (some ⟨g, 0, none⟩)] 25)).alloc (.cells #[.slice A b.length c] 23)).alloc (.cells #[.int .i64 (place gen)] 3)).heap.size = w.heap.size + 1 + 1 + 1 := by simp
  have bel5 : Below w.heap.size w w5 := below_row (bt b3 bw4) hg5 (by omega) (bt b3 bw4).size
  have k0 := ((q0.below bw4 (by omega)).kept hg5 (by rw [hszW]; simp; omega)).cell
  have k1 := ((q1.below bw4 (by omega)).kept hg5 (by rw [hszW]; simp)).cell
  have k2 := ((q2.below bw4 (by omega)).kept hg5 (by rw [hszW]; simp)).cell
  have hlt5 : w.heap.size + 1 + 1 + 1 < w5.heap.size := by have := hg5.size; have := hb4.blk.lt; omega
  clear hszW hsz4 q0 q1 q2 b3 bw4 hg5 hb4 hb5
  obtain ⟨r1, hr1⟩ : ∃ r, r = Disk.write s (place gen) b := ⟨_, rfl⟩
  obtain ⟨R, hR⟩ : ∃ r, r = wr s gen b := ⟨_, rfl⟩
  rw [← hR]
  have Hr1 := Lib.hid hr1
  have HR := Lib.hid hR
  have HRn := Lib.hid (show r1.2 ≠ 0 → R = r1 from fun h => by rw [hR, hr1]; exact wr_no (by rw [← hr1]; exact h))
  have HRy := Lib.hid (show r1.2 = 0 → R = Disk.flush r1.1 from fun h => by rw [hR, hr1]; exact wr_yes (by rw [← hr1]; exact h))
  have hz1 : r1.1.sz ≤ s.sz + 2 := by rw [hr1]; exact Disk.sz_write _ _ _
  clear hr1 hR
  have Hc1 := Lib.hid (write1_any g fp s (place gen) A _ c b w.heap.size (w.heap.size + 1 + 1) (w.heap.size + 1) w5 (h.on bel5) (by omega) rfl (hr.on bel5) k0 k2 k1)
  rw [← Hr1.out] at Hc1
  have i0 : ∀ W, (Instr.index 95 (arrV [.func (.func 43) #[] #[.pointer (some ⟨w.heap.size, 0, none⟩), .pointer (some ⟨w.heap.size + 1 + 1, 0, none⟩), .pointer (some ⟨w.heap.size + 1, 0, none⟩)], .func (.func 45) #[.pointer (some ⟨g, 0, none⟩)] #[]]) (.int .i64 0)).run Try.prog W = .ok (.func (.func 43) #[] #[.pointer (some ⟨w.heap.size, 0, none⟩), .pointer (some ⟨w.heap.size + 1 + 1, 0, none⟩), .pointer (some ⟨w.heap.size + 1, 0, none⟩)]) W := fun W => by kernel_rfl
  have i1 : ∀ W, (Instr.index 95 (arrV [.func (.func 43) #[] #[.pointer (some ⟨w.heap.size, 0, none⟩), .pointer (some ⟨w.heap.size + 1 + 1, 0, none⟩), .pointer (some ⟨w.heap.size + 1, 0, none⟩)], .func (.func 45) #[.pointer (some ⟨g, 0, none⟩)] #[]]) (.int .i64 1)).run Try.prog W = .ok (.func (.func 45) #[.pointer (some ⟨g, 0, none⟩)] #[]) W := fun W => by kernel_rfl
  go_loopw [19] (fun i wr => ∃ k : Nat, k ≤ 2 ∧ i = .int .i64 k ∧ Below w.heap.size w w5 ∧ ((k = 0 ∧ wr = w5) ∨ (k = 1 ∧ r1.2 = 0 ∧ ∃ fp1, DAt wr g fp1 r1.1 ∧ Keep fp w wr ∧ Fresh w fp fp1) ∨ (k = 2 ∧ R.2 = 0 ∧ ∃ fp1, DAt wr g fp1 R.1 ∧ Keep fp w wr ∧ Fresh w fp fp1))) (fun i _ => 2 - (intOf i).toNat)
  case atStart => exact ⟨0, by omega, rfl, bel5, .inl ⟨rfl, rfl⟩⟩
  case round =>
    obtain ⟨k, hk, rfl, _, hcs⟩ := hrel
    rcases hcs with ⟨rfl, rfl⟩ | ⟨rfl, h0, fp1, hD1, hK1, hF1⟩ | ⟨rfl, h0, fp1, hD1, hK1, hF1⟩
    · by_cases h0 : r1.2 = 0
      · have t0 := bne_no h0
        go_wp2_with (go_at_call 43; refine (Hc1.out).mono ?_; rintro e w' ⟨rfl, fp1, hD1, hK1, hF1⟩)
        case roundEnd => exact ⟨⟨1, by omega, rfl, bel5, .inr (.inl ⟨rfl, h0, fp1, hD1, hK1.of_below5 bel5, hF1.of_size bel5⟩)⟩, by simp [intOf]⟩
      · have t0 := bne_yes h0
        go_wp2_with (go_at_call 43; refine (Hc1.out).mono ?_; rintro e w' ⟨rfl, fp1, hD1, hK1, hF1⟩)
        try rw [Exit.noGoto_ret]
        go_ret
        rw [HRn.out h0]
        exact ⟨rfl, fp1, hD1, hK1.of_below5 bel5, hF1.of_size bel5⟩
    · have hz2 : r1.1.sz ≤ 100000000 := by omega
      have Hc2 := Lib.hid (Disk.flush_any g fp1 r1.1 wr hD1 hz2)
      rw [← HRy.out h0] at Hc2
      by_cases h1 : R.2 = 0
      · have t0 := bne_no h1
        go_wp2_with (go_at_call 45; refine (Hc2.out).mono ?_; rintro e w' ⟨rfl, fp2, hD2, hK2, hF2⟩)
        case roundEnd => exact ⟨⟨2, by omega, rfl, bel5, .inr (.inr ⟨rfl, h1, fp2, hD2, hK1.trans hK2 hF1, hF1.trans hK1.size hF2⟩)⟩, by simp [intOf]⟩
      · have t0 := bne_yes h1
        go_wp2_with (go_at_call 45; refine (Hc2.out).mono ?_; rintro e w' ⟨rfl, fp2, hD2, hK2, hF2⟩)
        try rw [Exit.noGoto_ret]
        go_ret
        exact ⟨rfl, fp2, hD2, hK1.trans hK2 hF1, hF1.trans hK1.size hF2⟩
    · go_wp2
      try rw [Exit.noGoto_ret]
      go_ret
      rw [← HR.out]
      exact ⟨by rw [h0]; rfl, fp1, hD1, hK1, hF1⟩
end Go.Proofs.Ytkapamolligmkaa.Rt

/- The key above all: root.Put, Erase, Blank, Get, Settle and what they come to. -/
namespace Go.Proofs.Ytkapamolligmkaa.Rt
open Go.RowKit
open Go.Proofs.Ytkapamolligmkaa.Disk (St DAt Did write_any flush_any read_any New8 Told8)
open Go.Proofs.Ytkapamolligmkaa.Sec (X SymAt text sumOf sumAfter ckS blankB rightF encode_sym decode_sym isBlank_any right_0 xv)
set_option linter.unusedVariables false
set_option maxRecDepth 100000
def xOf (gen : UInt64) (key : List UInt8) : X := ⟨1, 0, 0, gen, key⟩
theorem xOf_right {gen : UInt64} {key : List UInt8} (h : key.length = 32) : rightF (place gen) (xOf gen key) = 0 := by
  have hp := place_ok gen
  exact right_0 (by unfold xOf; simp only []; omega) (by unfold xOf; simp only []; omega)
/-- what stands at the place of a gen that is put -/
def bOf (l : List (List UInt8)) (gen : UInt64) (key : List UInt8) : List UInt8 := text (place gen) (xOf gen key) ++ sumOf l (text (place gen) (xOf gen key))
def lOf (l : List (List UInt8)) (gen : UInt64) (key : List UInt8) : List (List UInt8) := sumAfter l (text (place gen) (xOf gen key))
theorem bOf_len (l : List (List UInt8)) (gen : UInt64) (key : List UInt8) : (bOf l gen key).length = 512 := by
  unfold bOf; rw [List.length_append, Sec.text_len, Sec.sumOf_len]
theorem enc_any (g : Nat) (fp : List Nat) (s : St) (gS bS : Nat) (l : List (List UInt8)) (gen : UInt64) (key : List UInt8) (A : Option Addr) (c : Nat) (w : World) (h : Both w g fp s gS bS l) (hl : l.length ≤ 1000000) (hk : key.length = 32) (hr : Rd w w.heap.size A (key.map e8)) :
    Calls Try.prog 19 #[.pointer (some ⟨gS, 0, none⟩), .int .i64 (place gen), .agg #[.int .i64 1, .int .u64 0, .int .i64 0, .int .u64 (gen.toNat : Int), .slice A 32 c]] w fun e w' =>
      ∃ A' c', e = .returned (.tuple #[.slice A' 512 c', .int .i64 0]) ∧ RdN w' fp A' ((bOf l gen key).map e8) ∧ Both w' g fp s gS bS (lOf l gen key) ∧ Keep [bS] w w' := by
  have he := encode_sym (place gen) gS bS l (xOf gen key) A c w h.sym hl hr (xOf_right hk)
  rw [show (xOf gen key).body.length = 32 from hk] at he
  refine he.mono ?_
  rintro e w' ⟨A', c', he, own, k, sy⟩
  exact ⟨A', c', he, RdN.own own h.disk.lt, h.summed sy k, k⟩
theorem putD_nil (v : Value) (m : Int) (A : Option Addr) (n c : Nat) (w : World) : Calls Try.prog 9 #[.pointer none, v, .int .u64 m, .slice A n c] w fun e w' => e = .returned (.int .i64 1) ∧ w = w' := by
  go_enter Try.func9, Try.ntmps9
  go_wp2
  go_ret
  exact ⟨rfl, rfl⟩
theorem putS_nil (g : Nat) (m : Int) (A : Option Addr) (n c : Nat) (w : World) : Calls Try.prog 9 #[.pointer (some ⟨g, 0, none⟩), .pointer none, .int .u64 m, .slice A n c] w fun e w' => e = .returned (.int .i64 1) ∧ w = w' := by
  go_enter Try.func9, Try.ntmps9
  go_wp2
  go_ret
  exact ⟨rfl, rfl⟩
theorem put_form (g gS : Nat) (m : Int) (A : Option Addr) (n c : Nat) (w : World) (hn : n ≠ 32) : Calls Try.prog 9 #[.pointer (some ⟨g, 0, none⟩), .pointer (some ⟨gS, 0, none⟩), .int .u64 m, .slice A n c] w fun e w' => e = .returned (.int .i64 4) ∧ w = w' := by
  have t0 := bne_yes (show (n : Int) ≠ 32 by omega)
  go_enter Try.func9, Try.ntmps9
  go_wp2
  go_ret
  exact ⟨rfl, rfl⟩
set_option maxHeartbeats 1000000 in
theorem put_any (g : Nat) (fp : List Nat) (s : St) (gS bS : Nat) (l : List (List UInt8)) (gen : UInt64) (key : List UInt8) (A : Option Addr) (c : Nat) (w : World) (h : Both w g fp s gS bS l) (hl : l.length ≤ 1000000) (hs : s.sz ≤ 90000000) (hk : key.length = 32) (hr : Rd w w.heap.size A (key.map e8)) :
    Calls Try.prog 9 #[.pointer (some ⟨g, 0, none⟩), .pointer (some ⟨gS, 0, none⟩), .int .u64 (gen.toNat : Int), .slice A 32 c] w fun e w' => e = .returned (.int .i64 (wr s gen (bOf l gen key)).2) ∧ Turn w g fp gS bS (wr s gen (bOf l gen key)).1 (lOf l gen key) w' := by
  have HE := Lib.hid (enc_any g fp s gS bS l gen key A c w h hl hk hr)
  have hW := fun A' c' W hD hr' => wr_any g fp s gen _ rfl A' 512 c' (bOf l gen key) W hD hs (bOf_len l gen key).symm hr'
  obtain ⟨R, hR⟩ : ∃ r, r = wr s gen (bOf l gen key) := ⟨_, rfl⟩
  rw [← hR] at hW ⊢
  obtain ⟨b, hb⟩ : ∃ r, r = bOf l gen key := ⟨_, rfl⟩
  rw [← hb] at HE hW
  obtain ⟨l', hl'⟩ : ∃ r, r = lOf l gen key := ⟨_, rfl⟩
  rw [← hl'] at HE ⊢
  have HW := Lib.hid hW
  clear hW hR hb hl' hk
  go_enter Try.func9, Try.ntmps9
  go_wp2_with (first
    | (go_at_call 26; refine (root_any gen _ (by rfl) _).mono ?_; rintro e w' ⟨rfl, rfl⟩)
    | (go_at_call 19; refine (HE.out).mono ?_; rintro e w' ⟨A1, c1, rfl, hr1, hB1, k1⟩)
    | (go_at_call 27; refine (HW.out _ _ _ hB1.disk hr1).mono ?_; rintro e w' ⟨rfl, fp2, hD2, k2, f2⟩))
  go_ret
  exact ⟨rfl, fp2, hB1.did hD2 k2 f2, keepT (keepB k1) (Fresh.refl _ _) (keepF k2), fun j hj => (f2 j hj).imp id (fun h => Nat.le_trans k1.size h)⟩
theorem erase_nil (m : Int) (w : World) : Calls Try.prog 11 #[.pointer none, .int .u64 m] w fun e w' => e = .returned (.int .i64 1) ∧ w = w' := by
  go_enter Try.func11, Try.ntmps11
  go_wp2
  go_ret
  exact ⟨rfl, rfl⟩
set_option maxHeartbeats 1000000 in
theorem erase_any (g : Nat) (fp : List Nat) (s : St) (gen : UInt64) (w : World) (h : DAt w g fp s) (hs : s.sz ≤ 90000000) :
    Calls Try.prog 11 #[.pointer (some ⟨g, 0, none⟩), .int .u64 (gen.toNat : Int)] w (Did w g fp (wr s gen Disk.zero512)) := by
  have hB := Sec.blank_any w
  have hW := fun A' c' W hD hr' => wr_any g fp s gen _ rfl A' 512 c' Disk.zero512 W hD hs Disk.zero512_len.symm hr'
  obtain ⟨R, hR⟩ : ∃ r, r = wr s gen Disk.zero512 := ⟨_, rfl⟩
  rw [← hR] at hW ⊢
  rw [show Sec.zero512 = Disk.zero512 from rfl] at hB
  obtain ⟨z, hz⟩ : ∃ z, z = Disk.zero512 := ⟨_, rfl⟩
  have hzl : z.length = 512 := by rw [hz]; exact Disk.zero512_len
  rw [← hz] at hW hB
  unfold RetB at hB
  rw [hzl] at hB
  have HB := Lib.hid hB
  have HW := Lib.hid hW
  clear hB hW hR hz hzl
  go_enter Try.func11, Try.ntmps11
  go_wp2_with (first
    | (go_at_call 30; refine (HB.out).mono ?_; rintro e w' ⟨A1, c1, rfl, own1, b1⟩)
    | (go_at_call 27; refine (HW.out _ _ _ (h.on b1) (RdN.own own1 h.lt)).mono ?_; rintro e w' ⟨rfl, fp2, hD2, k2, f2⟩))
  go_ret
  exact ⟨rfl, fp2, hD2, k2.of_below5 b1, f2.of_size b1⟩
def blank (s : St) (gen : UInt64) : Bool × Int := (decide ((Disk.read s (place gen)).2 = 0) && blankB (Disk.read s (place gen)).1, (Disk.read s (place gen)).2)
theorem blank_nil (m : Int) (w : World) : Calls Try.prog 12 #[.pointer none, .int .u64 m] w fun e w' => e = .returned (.tuple #[.bool false, .int .i64 1]) ∧ w = w' := by
  go_enter Try.func12, Try.ntmps12
  go_wp2
  go_ret2
  exact ⟨rfl, rfl⟩
set_option maxHeartbeats 1000000 in
theorem blank_any (g : Nat) (fp : List Nat) (s : St) (gen : UInt64) (w : World) (h : DAt w g fp s) (hs : s.sz ≤ 90000000) :
    Calls Try.prog 12 #[.pointer (some ⟨g, 0, none⟩), .int .u64 (gen.toNat : Int)] w fun e w' => e = .returned (.tuple #[.bool (blank s gen).1, .int .i64 (blank s gen).2]) ∧ Below w.heap.size w w' := by
  have hR := read_any g fp s (place gen) w h (by omega)
  unfold blank
  obtain ⟨r, hr⟩ : ∃ r, r = Disk.read s (place gen) := ⟨_, rfl⟩
  rw [← hr] at hR ⊢
  have HR := Lib.hid hR
  clear hr hR
  by_cases h0 : r.2 = 0
  · have t0 := beq_yes h0
    rw [show decide (r.2 = 0) = true by simpa using h0, Bool.true_and]
    have HI := Lib.hid (fun A c W h1 => isBlank_any A r.1 r.1.length c W rfl h1)
    have H0 := Lib.hid h0
    clear h0
    go_enter Try.func12, Try.ntmps12
    go_wp2_with (first
      | (go_at_call 26; refine (root_any gen _ (by rfl) _).mono ?_; rintro e w' ⟨rfl, rfl⟩)
      | (go_at_call 28; refine HR.out.mono ?_; rintro e w1 ⟨v, rfl, hN, b1⟩; obtain ⟨A1, c1, rfl, _, _, rd1⟩ := hN.rdN (fp := []) (by simp)))
    go_wp2_with (first
      | (go_at_call 31; refine (HI.out _ _ _ rd1.rd).mono ?_; rintro e w' ⟨rfl, b2⟩))
    go_ret2
    exact ⟨rfl, bt b1 b2⟩
  · have t0 := beq_no h0
    rw [show decide (r.2 = 0) = false by simpa using h0, Bool.false_and]
    go_enter Try.func12, Try.ntmps12
    go_wp2_with (first
      | (go_at_call 26; refine (root_any gen _ (by rfl) _).mono ?_; rintro e w' ⟨rfl, rfl⟩)
      | (go_at_call 28; refine HR.out.mono ?_; rintro e w1 ⟨v, rfl, hN, b1⟩; obtain ⟨A1, c1, rfl, _, _, rd1⟩ := hN.rdN (fp := []) (by simp)))
    go_ret2
    exact ⟨rfl, b1⟩
end Go.Proofs.Ytkapamolligmkaa.Rt

/- The key above all: root.Get and Settle and what they come to. -/
namespace Go.Proofs.Ytkapamolligmkaa.Rt
open Go.RowKit
open Go.Proofs.Ytkapamolligmkaa.Disk (St DAt Did write_any flush_any read_any New8 Told8)
open Go.Proofs.Ytkapamolligmkaa.Sec (X SymAt text sumOf sumAfter ckS blankB rightF encode_sym decode_sym isBlank_any right_0 xv RetX X0 five5x)
set_option linter.unusedVariables false
set_option maxRecDepth 100000
theorem _root_.Go.Proofs.Ytkapamolligmkaa.Box.on' {w w' : World} {g : Nat} {v : Value} (h : Box w g v) (b : Below w.heap.size w w') : Box w' g v := h.below b h.lt
/-- is what was read the root of a gen? -/
def isRoot (gen : UInt64) (d : X × Int) : Bool := decide (d.2 = 0) && decide (d.1.kind = 1) && decide (d.1.life = 0) && decide (d.1.seq = 0) && decide (d.1.gen = gen) && decide (d.1.body.length = 32)
def dec (l : List (List UInt8)) (gen : UInt64) (b : List UInt8) : X × Int := Sec.decode (ckS l b) (place gen) b
/-- the key of a gen -/
def got (l : List (List UInt8)) (s : St) (gen : UInt64) : List UInt8 × Int :=
  if (Disk.read s (place gen)).2 ≠ 0 then ([], (Disk.read s (place gen)).2)
  else if isRoot gen (dec l gen (Disk.read s (place gen)).1) = true then ((dec l gen (Disk.read s (place gen)).1).1.body, 0) else ([], 11)
set_option maxHeartbeats 1000000 in
theorem get1_any (gen : UInt64) (d : X × Int) (A : Option Addr) (c : Nat) (a0 a1 a2 : Nat) (w : World) (h0 : w.cell? ⟨a0, 0, none⟩ = some (.int .i64 d.2)) (h1 : Blk w a1 [.int .i64 d.1.kind, .int .u64 (d.1.life.toNat : Int), .int .i64 d.1.seq, .int .u64 (d.1.gen.toNat : Int), .slice A d.1.body.length c]) (h2 : w.cell? ⟨a2, 0, none⟩ = some (.int .u64 (gen.toNat : Int))) :
    Calls Try.prog 29 #[.pointer (some ⟨a0, 0, none⟩), .pointer (some ⟨a1, 0, none⟩), .pointer (some ⟨a2, 0, none⟩)] w fun e w' => e = .returned (.bool (isRoot gen d)) ∧ w = w' := by
  obtain ⟨z0, z1, z2, z3, z4⟩ := five5x h1
  by_cases e0 : d.2 = 0
  rotate_left
  · have hn := Lib.hid (show isRoot gen d = false by simp [isRoot, e0])
    have t0 := beq_no e0
    clear e0
    go_enter Try.func29, Try.ntmps29
    go_wp2
    go_ret
    exact ⟨ret_bool hn.out.symm, rfl⟩
  have t0 := beq_yes e0
  by_cases e1 : d.1.kind = 1
  rotate_left
  · have hn := Lib.hid (show isRoot gen d = false by simp [isRoot, e1])
    have t1 := beq_no e1
    clear e0 e1
    go_enter Try.func29, Try.ntmps29
    go_wp2
    go_ret
    exact ⟨ret_bool hn.out.symm, rfl⟩
  have t1 := beq_yes e1
  by_cases e2 : d.1.life = 0
  rotate_left
  · have hn := Lib.hid (show isRoot gen d = false by simp [isRoot, e2])
    have t2 := beq_no (show (d.1.life.toNat : Int) ≠ 0 from fun e => e2 (UInt64.toNat_inj.1 (by rw [show (0 : UInt64).toNat = 0 from rfl]; omega)))
    clear e0 e1 e2
    go_enter Try.func29, Try.ntmps29
    go_wp2
    go_ret
    exact ⟨ret_bool hn.out.symm, rfl⟩
  have t2 := beq_yes (show (d.1.life.toNat : Int) = 0 by rw [e2]; rfl)
  by_cases e3 : d.1.seq = 0
  rotate_left
  · have hn := Lib.hid (show isRoot gen d = false by simp [isRoot, e3])
    have t3 := beq_no e3
    clear e0 e1 e2 e3
    go_enter Try.func29, Try.ntmps29
    go_wp2
    go_ret
    exact ⟨ret_bool hn.out.symm, rfl⟩
  have t3 := beq_yes e3
  by_cases e4 : d.1.gen = gen
  rotate_left
  · have hn := Lib.hid (show isRoot gen d = false by simp [isRoot, e4])
    have t4 := beq_no (show (d.1.gen.toNat : Int) ≠ (gen.toNat : Int) from fun e => e4 (UInt64.toNat_inj.1 (by omega)))
    clear e0 e1 e2 e3 e4
    go_enter Try.func29, Try.ntmps29
    go_wp2
    go_ret
    exact ⟨ret_bool hn.out.symm, rfl⟩
  have t4 := beq_yes (show (d.1.gen.toNat : Int) = (gen.toNat : Int) by rw [e4])
  by_cases e5 : d.1.body.length = 32
  · have hn := Lib.hid (show isRoot gen d = true by simp [isRoot, e0, e1, e2, e3, e4, e5])
    have t5 := beq_yes (show (d.1.body.length : Int) = 32 by omega)
    clear e0 e1 e2 e3 e4 e5
    go_enter Try.func29, Try.ntmps29
    go_wp2
    go_ret
    exact ⟨ret_bool hn.out.symm, rfl⟩
  · have hn := Lib.hid (show isRoot gen d = false by simp [isRoot, e5])
    have t5 := beq_no (show (d.1.body.length : Int) ≠ 32 by omega)
    clear e0 e1 e2 e3 e4 e5
    go_enter Try.func29, Try.ntmps29
    go_wp2
    go_ret
    exact ⟨ret_bool hn.out.symm, rfl⟩
theorem getD_nil (v : Value) (m : Int) (w : World) : Calls Try.prog 10 #[.pointer none, v, .int .u64 m] w fun e w' => e = .returned (.tuple #[.slice none 0 0, .int .i64 1]) ∧ Below w.heap.size w w' := by
  go_enter Try.func10, Try.ntmps10
  go_wp2
  go_ret2
  exact ⟨rfl, b1alloc _ _⟩
/-- new bytes and a fault come back -/
def RetG (w : World) (r : List UInt8 × Int) (e : Ending) (w' : World) : Prop := ∃ A c, e = .returned (.tuple #[.slice A r.1.length c, .int .i64 r.2]) ∧ r.1.length ≤ c ∧ c ≤ maxLen ∧ ∀ fp, (∀ j ∈ fp, j < w.heap.size) → RdN w' fp A (r.1.map e8)
set_option maxHeartbeats 1000000 in
theorem get_any (g : Nat) (fp : List Nat) (s : St) (gS bS : Nat) (l : List (List UInt8)) (gen : UInt64) (w : World) (h : Both w g fp s gS bS l) (hl : l.length ≤ 1000000) (hs : s.sz ≤ 90000000) :
    Calls Try.prog 10 #[.pointer (some ⟨g, 0, none⟩), .pointer (some ⟨gS, 0, none⟩), .int .u64 (gen.toNat : Int)] w fun e w' => RetG w (got l s gen) e w' ∧ Below w.heap.size w w' := by
  have hR := fun W (bW : Below w.heap.size w W) => read_any g fp s (place gen) W (h.disk.on bW) (by omega)
  have hlen : (Disk.read s (place gen)).1.length ≤ 100000 := by
    unfold Disk.read
    split
    · simp
    · split
      · simp
      · rw [Disk.kept_len (n := s.size) (fun x hx => (List.mem_append.1 hx).elim (h.disk.ok.all x) (h.disk.ok.pend x))]; omega
  unfold got dec
  have hp := place_ok gen
  obtain ⟨r, hr⟩ : ∃ r, r = Disk.read s (place gen) := ⟨_, rfl⟩
  rw [← hr] at hR hlen ⊢
  have hD := fun W (bW : Below w.heap.size w W) A c hrd hc hcm => decode_sym (place gen) gS bS l A r.1 _ c W (h.sym.on bW) hl (by omega) (by omega) rfl hrd hlen hc hcm
  have HR := Lib.hid hR
  have bz := b1alloc w (.cells #[.int .u64 (gen.toNat : Int)] 22)
  have HN := Lib.hid hr
  by_cases h0 : r.2 = 0
  rotate_left
  · have t0 := bne_yes h0
    rw [if_pos h0]
    clear hr hR hD hlen
    go_enter Try.func10, Try.ntmps10
    go_wp2_with (first
      | (go_at_call 26; refine (root_any gen _ (by rfl) _).mono ?_; rintro e w' ⟨rfl, rfl⟩)
      | (go_at_call 28; refine (HR.out _ bz).mono ?_; rintro e w1 ⟨v, rfl, hN, b1⟩; obtain ⟨A1, c1, rfl, hc1, hm1, rd1⟩ := hN.rdN (fp := []) (by simp)))
    go_ret2
    exact ⟨⟨none, 0, rfl, Nat.le_refl _, by unfold maxLen; omega, fun _ _ => RdN.nil _ _ _⟩, bt bz b1⟩
  have t0 := bne_no h0
  rw [if_neg (by simpa using h0)]
  obtain ⟨d, hd⟩ : ∃ d, d = Sec.decode (ckS l r.1) (place gen) r.1 := ⟨_, rfl⟩
  rw [← hd] at hD ⊢
  have HD := Lib.hid hD
  clear hr hR hD hlen hd h0
  have hmf : ∀ (x : Array Value) (w : World), Sem.run Try.prog (callFunc 29 x) w = .ok (.enter 29 x) w := by intro x w; simp [go_sem]
  cases hq : isRoot gen d with
  | true =>
    rw [if_pos rfl]
    go_enter Try.func10, Try.ntmps10
    go_wp2_with (first
      | (go_at_call 26; refine (root_any gen _ (by rfl) _).mono ?_; rintro e w' ⟨rfl, rfl⟩)
      | (go_at_call 28; refine (HR.out _ bz).mono ?_; rintro e w1 ⟨v, rfl, hN, b1⟩; obtain ⟨A1, c1, rfl, hc1, hm1, rd1⟩ := hN.rdN (fp := []) (by simp); have b2 := bt bz b1)
      | (go_at_call 13; refine (HD.out _ b2 _ _ rd1.rd hc1 hm1).mono ?_; rintro e w3 ⟨⟨A3, c3, rfl, own3⟩, b3⟩; unfold xv; have b4 := bt b2 b3))
    have hb0 := Blk.new w3 [.int .i64 d.1.kind, .int .u64 (d.1.life.toNat : Int), .int .i64 d.1.seq, .int .u64 (d.1.gen.toNat : Int), .slice A3 d.1.body.length c3] 38
    obtain ⟨W, hW⟩ : ∃ W, W = (w3.alloc (.cells #[.int .i64 d.1.kind, .int .u64 (d.1.life.toNat : Int), .int .i64 d.1.seq, .int .u64 (d.1.gen.toNat : Int), .slice A3 d.1.body.length c3] 38)).alloc (.cells #[.int .i64 d.2] 26) := ⟨_, rfl⟩
    have hb1 : Blk W w3.heap.size [.int .i64 d.1.kind, .int .u64 (d.1.life.toNat : Int), .int .i64 d.1.seq, .int .u64 (d.1.gen.toNat : Int), .slice A3 d.1.body.length c3] := by rw [hW]; exact hb0.alloc _
    have hb2 : Box W (w3.heap.size + 1) (.int .i64 d.2) := by rw [hW]; simpa using Box.new (w3.alloc (.cells #[.int .i64 d.1.kind, .int .u64 (d.1.life.toNat : Int), .int .i64 d.1.seq, .int .u64 (d.1.gen.toNat : Int), .slice A3 d.1.body.length c3] 38)) 26 (.int .i64 d.2)
    have b5 : Below w3.heap.size w3 W := by rw [hW]; exact b2alloc _ _ _
    have hbx := ((Box.new w 22 (.int .u64 (gen.toNat : Int))).on' (bt (bt b1 b3) b5)).cell
    rw [← hW]
    have own5 := own_on own3 b5
    have hcap := own_cap own3
    clear hW hb0
    refine (get1_any gen d A3 c3 _ _ _ W hb2.cell hb1 hbx).mono ?_
    rintro e w6 ⟨rfl, rfl⟩
    obtain ⟨z0, z1, z2, z3, z4⟩ := five5x hb1
    go_wp2
    go_ret2
    exact ⟨⟨A3, c3, rfl, hcap.1, hcap.2, fun _ hf => RdN.own (own_base own5 b2.size) hf⟩, bt b4 b5⟩
  | false =>
    rw [if_neg (by simp)]
    go_enter Try.func10, Try.ntmps10
    go_wp2_with (first
      | (go_at_call 26; refine (root_any gen _ (by rfl) _).mono ?_; rintro e w' ⟨rfl, rfl⟩)
      | (go_at_call 28; refine (HR.out _ bz).mono ?_; rintro e w1 ⟨v, rfl, hN, b1⟩; obtain ⟨A1, c1, rfl, hc1, hm1, rd1⟩ := hN.rdN (fp := []) (by simp); have b2 := bt bz b1)
      | (go_at_call 13; refine (HD.out _ b2 _ _ rd1.rd hc1 hm1).mono ?_; rintro e w3 ⟨⟨A3, c3, rfl, own3⟩, b3⟩; unfold xv; have b4 := bt b2 b3))
    have hb0 := Blk.new w3 [.int .i64 d.1.kind, .int .u64 (d.1.life.toNat : Int), .int .i64 d.1.seq, .int .u64 (d.1.gen.toNat : Int), .slice A3 d.1.body.length c3] 38
    obtain ⟨W, hW⟩ : ∃ W, W = (w3.alloc (.cells #[.int .i64 d.1.kind, .int .u64 (d.1.life.toNat : Int), .int .i64 d.1.seq, .int .u64 (d.1.gen.toNat : Int), .slice A3 d.1.body.length c3] 38)).alloc (.cells #[.int .i64 d.2] 26) := ⟨_, rfl⟩
    have hb1 : Blk W w3.heap.size [.int .i64 d.1.kind, .int .u64 (d.1.life.toNat : Int), .int .i64 d.1.seq, .int .u64 (d.1.gen.toNat : Int), .slice A3 d.1.body.length c3] := by rw [hW]; exact hb0.alloc _
    have hb2 : Box W (w3.heap.size + 1) (.int .i64 d.2) := by rw [hW]; simpa using Box.new (w3.alloc (.cells #[.int .i64 d.1.kind, .int .u64 (d.1.life.toNat : Int), .int .i64 d.1.seq, .int .u64 (d.1.gen.toNat : Int), .slice A3 d.1.body.length c3] 38)) 26 (.int .i64 d.2)
    have b5 : Below w3.heap.size w3 W := by rw [hW]; exact b2alloc _ _ _
    have hbx := ((Box.new w 22 (.int .u64 (gen.toNat : Int))).on' (bt (bt b1 b3) b5)).cell
    rw [← hW]
    have own5 := own_on own3 b5
    have hcap := own_cap own3
    clear hW hb0
    refine (get1_any gen d A3 c3 _ _ _ W hb2.cell hb1 hbx).mono ?_
    rintro e w6 ⟨rfl, rfl⟩
    go_wp2
    go_ret2
    exact ⟨⟨none, 0, rfl, Nat.le_refl _, by unfold maxLen; omega, fun _ _ => RdN.nil _ _ _⟩, bt b4 b5⟩
def settle (l : List (List UInt8)) (s : St) (gen : UInt64) : St × List UInt8 × Int :=
  if (got l s gen).2 ≠ 0 then (s, [], (got l s gen).2) else if (blank s (gen ^^^ 1)).2 ≠ 0 then (s, [], (blank s (gen ^^^ 1)).2) else if (blank s (gen ^^^ 1)).1 = true then (s, (got l s gen).1, 0)
  else if (wr s (gen ^^^ 1) Disk.zero512).2 ≠ 0 then ((wr s (gen ^^^ 1) Disk.zero512).1, [], (wr s (gen ^^^ 1) Disk.zero512).2) else ((wr s (gen ^^^ 1) Disk.zero512).1, (got l s gen).1, 0)
theorem RetG.nil (w w' : World) (f : Int) : RetG w ([], f) (.returned (.tuple #[.slice none 0 0, .int .i64 f])) w' := ⟨none, 0, rfl, Nat.le_refl _, by unfold maxLen; omega, fun _ _ => RdN.nil _ _ _⟩
set_option maxHeartbeats 1000000 in
theorem settle_any (g : Nat) (fp : List Nat) (s : St) (gS bS : Nat) (l : List (List UInt8)) (gen : UInt64) (w : World) (h : Both w g fp s gS bS l) (hl : l.length ≤ 1000000) (hs : s.sz ≤ 90000000) :
    Calls Try.prog 22 #[.pointer (some ⟨g, 0, none⟩), .pointer (some ⟨gS, 0, none⟩), .int .u64 (gen.toNat : Int)] w fun e w' => RetG w (settle l s gen).2 e w' ∧ Turn w g fp gS bS (settle l s gen).1 l w' := by
  have hG := get_any g fp s gS bS l gen w h hl hs
  unfold settle
  obtain ⟨k, hk⟩ : ∃ k, k = got l s gen := ⟨_, rfl⟩
  have hx : bits .xor .u64 (gen.toNat : Int) 1 = ((gen ^^^ 1).toNat : Int) := xor64 gen 1
  obtain ⟨o, ho⟩ : ∃ o, o = gen ^^^ 1 := ⟨_, rfl⟩
  have hB := fun W (bW : Below w.heap.size w W) => blank_any g fp s o W (h.disk.on bW) hs
  have hE := fun W (bW : Below w.heap.size w W) => erase_any g fp s o W (h.disk.on bW) hs
  obtain ⟨q, hq⟩ : ∃ q, q = blank s o := ⟨_, rfl⟩
  obtain ⟨R, hR⟩ : ∃ R, R = wr s o Disk.zero512 := ⟨_, rfl⟩
  rw [← hk] at hG
  rw [← ho] at hx
  rw [← hq] at hB
  rw [← hR] at hE
  rw [← hk, ← ho, ← hq, ← hR]
  have HG := Lib.hid hG
  have HB := Lib.hid hB
  have HE := Lib.hid hE
  clear hG hB hE hk ho hq hR
  by_cases h0 : k.2 = 0
  rotate_left
  · have t0 := bne_yes h0
    rw [if_pos h0]
    go_enter Try.func22, Try.ntmps22
    go_wp2_with (first
      | (go_at_call 10; refine HG.out.mono ?_; rintro e w1 ⟨⟨A1, c1, rfl, hc1, hm1, rd1⟩, b1⟩))
    go_ret2
    exact ⟨RetG.nil _ _ _, Turn.below h b1⟩
  have t0 := bne_no h0
  rw [if_neg (by simpa using h0)]
  by_cases h1 : q.2 = 0
  rotate_left
  · have t1 := bne_yes h1
    have t2 := beq_no h1
    rw [if_pos h1]
    go_enter Try.func22, Try.ntmps22
    go_wp2_with (first
      | (go_at_call 10; refine HG.out.mono ?_; rintro e w1 ⟨⟨A1, c1, rfl, hc1, hm1, rd1⟩, b1⟩)
      | (go_at_call 12; refine (HB.out _ b1).mono ?_; rintro e w2 ⟨rfl, b2⟩))
    go_ret2
    exact ⟨RetG.nil _ _ _, Turn.below h (bt b1 b2)⟩
  have t1 := bne_no h1
  have t2 := beq_yes h1
  rw [if_neg (by simpa using h1)]
  cases h2 : q.1 with
  | true =>
    rw [if_pos rfl]
    go_enter Try.func22, Try.ntmps22
    go_wp2_with (first
      | (go_at_call 10; refine HG.out.mono ?_; rintro e w1 ⟨⟨A1, c1, rfl, hc1, hm1, rd1⟩, b1⟩)
      | (go_at_call 12; refine (HB.out _ b1).mono ?_; rintro e w2 ⟨rfl, b2⟩; rw [h2]))
    go_ret2
    exact ⟨⟨A1, c1, rfl, hc1, hm1, fun fp0 hf => (rd1 fp0 hf).on b2⟩, Turn.below h (bt b1 b2)⟩
  | false =>
    rw [if_neg (by simp)]
    by_cases h3 : R.2 = 0
    rotate_left
    · have t3 := bne_yes h3
      rw [if_pos h3]
      go_enter Try.func22, Try.ntmps22
      go_wp2_with (first
        | (go_at_call 10; refine HG.out.mono ?_; rintro e w1 ⟨⟨A1, c1, rfl, hc1, hm1, rd1⟩, b1⟩)
        | (go_at_call 12; refine (HB.out _ b1).mono ?_; rintro e w2 ⟨rfl, b2⟩; rw [h2]; have b12 := bt b1 b2)
        | (go_at_call 11; refine (HE.out _ b12).mono ?_; rintro e w3 ⟨rfl, fp3, hD3, k3, f3⟩))
      go_ret2
      exact ⟨RetG.nil _ _ _, fp3, (h.on b12).did hD3 k3 f3, keepF (k3.of_below5 b12), f3.of_size b12⟩
    · have t3 := bne_no h3
      rw [if_neg (by simpa using h3)]
      go_enter Try.func22, Try.ntmps22
      go_wp2_with (first
        | (go_at_call 10; refine HG.out.mono ?_; rintro e w1 ⟨⟨A1, c1, rfl, hc1, hm1, rd1⟩, b1⟩)
        | (go_at_call 12; refine (HB.out _ b1).mono ?_; rintro e w2 ⟨rfl, b2⟩; rw [h2]; have b12 := bt b1 b2)
        | (go_at_call 11; refine (HE.out _ b12).mono ?_; rintro e w3 ⟨rfl, fp3, hD3, k3, f3⟩))
      go_ret2
      refine ⟨⟨A1, c1, rfl, hc1, hm1, fun fp0 hf => ?_⟩, fp3, (h.on b12).did hD3 k3 f3, keepF (k3.of_below5 b12), f3.of_size b12⟩
      have r2 := (rd1 (fp ++ fp0) (fun j hj => (List.mem_append.1 hj).elim (h.disk.lt j) (hf j))).on b2
      exact r2.keep (k3.more (fun j hj => List.mem_append_left _ hj)) (fun j hj => .inl (List.mem_append_right _ hj))
end Go.Proofs.Ytkapamolligmkaa.Rt

/- The key above all, in plain Lean: what stands behind a put, an erase, a settle, and a power that goes. -/
namespace Go.Proofs.Ytkapamolligmkaa.Rt
open Go.RowKit
open Go.Proofs.Ytkapamolligmkaa.Disk (St write flush read kept burn restart fates fate keptAt new zero512)
open Go.Proofs.Ytkapamolligmkaa.Sec (X text text_len sumOf sumOf_len sumAfter ckS checkOf blankB rightF dec_back dec_blank X0 mark)
set_option linter.unusedVariables false
theorem ckS_own' (l : List (List UInt8)) (T : List UInt8) (hT : T.length = 504) : ckS (sumAfter l T) (T ++ sumOf l T) = true := by
  unfold ckS checkOf sumAfter sumOf
  rw [List.take_left' hT, List.drop_left' hT]
  by_cases h : T ∈ l
  · simp [h, R1.sameB_self]
  · simp [h, List.idxOf_append, R1.sameB_self]
theorem ckS_more {l : List (List UInt8)} {b : List UInt8} (T : List UInt8) (h : ckS l b = true) : ckS (sumAfter l T) b = true := by
  unfold ckS checkOf at *
  unfold sumAfter
  split
  · exact h
  · rw [Bool.and_eq_true] at h ⊢
    have h1 : b.take 504 ∈ l := of_decide_eq_true h.1
    refine ⟨by simp [h1], ?_⟩
    rw [List.idxOf_append, if_pos h1]; exact h.2
/-- bytes that are a sector's at a place, by these sums -/
def Good (l : List (List UInt8)) (p : Int) (x : X) (b : List UInt8) : Prop := rightF p x = 0 ∧ ckS l b = true ∧ ∃ s, s.length = 8 ∧ b = text p x ++ s
theorem Good.dec {l : List (List UInt8)} {p : Int} {x : X} {b : List UInt8} (h : Good l p x b) : Sec.decode (ckS l b) p b = (x, 0) := by
  obtain ⟨h1, h2, s, hs, rfl⟩ := h
  rw [h2]; exact dec_back h1 s hs
theorem Good.len {l : List (List UInt8)} {p : Int} {x : X} {b : List UInt8} (h : Good l p x b) : b.length = 512 := by
  obtain ⟨h1, h2, s, hs, rfl⟩ := h
  rw [List.length_append, text_len, hs]
theorem Good.more {l : List (List UInt8)} {p : Int} {x : X} {b : List UInt8} (h : Good l p x b) (T : List UInt8) : Good (sumAfter l T) p x b := ⟨h.1, ckS_more T h.2.1, h.2.2⟩
theorem Good.made (l : List (List UInt8)) {p : Int} {x : X} (h : rightF p x = 0) : Good (sumAfter l (text p x)) p x (text p x ++ sumOf l (text p x)) := ⟨h, ckS_own' l _ (text_len _ _), _, sumOf_len _ _, rfl⟩
theorem bOf_good (l : List (List UInt8)) {gen : UInt64} {key : List UInt8} (h : key.length = 32) : Good (lOf l gen key) (place gen) (xOf gen key) (bOf l gen key) := Good.made l (xOf_right h)
theorem dec_zero (ck : Bool) (p : Int) : Sec.decode ck p zero512 = (X0, 7) := dec_blank Disk.zero512_len (decide_eq_true rfl)
/-! a disk of two sectors whose power is there, and nothing is pending -/
structure Up (s : St) : Prop where
  size : s.size = 2
  pend : s.pend = []
  down : s.down = false
  fuse : s.fuse < 0
theorem up_new : Up (new 2) := ⟨rfl, rfl, rfl, by simp [new]⟩
theorem placeN (gen : UInt64) : (place gen).toNat = gen.toNat % 2 := by unfold place; omega
theorem wr_cases {s : St} (h2 : s.size = 2) (hp : s.pend = []) (hd : s.down = false) (gen : UInt64) {b : List UInt8} (hb : b.length = 512) :
    ((wr s gen b).2 = 12 ∧ (wr s gen b).1.down = true ∧ (wr s gen b).1.pend = [((place gen).toNat, b)] ∧ (wr s gen b).1.all = s.all ∧ (wr s gen b).1.size = 2 ∧ ¬ s.fuse < 0) ∨
    ((wr s gen b).2 = 0 ∧ (wr s gen b).1.down = false ∧ (wr s gen b).1.pend = [] ∧ (wr s gen b).1.all = s.all ++ [((place gen).toNat, b)] ∧ (wr s gen b).1.size = 2 ∧ (s.fuse < 0 → (wr s gen b).1.fuse < 0)) := by
  obtain ⟨hp0, hp1⟩ := place_ok gen
  obtain ⟨size, pend, all, fuse, calls, down⟩ := s
  simp only at h2 hp hd
  subst h2 hp hd
  have hw : write ⟨2, [], all, fuse, calls, false⟩ (place gen) b = burn ⟨2, [((place gen).toNat, b)], all, fuse, calls, false⟩ := by
    unfold write; rw [if_neg (by simp), if_neg (by simp; omega), if_neg (by simpa using hb)]; rfl
  unfold wr
  rw [hw]
  by_cases h0 : fuse = 0
  · subst h0
    simp [burn]
  · by_cases h1 : 0 < fuse
    · have hb1 : burn ⟨2, [((place gen).toNat, b)], all, fuse, calls, false⟩ = (⟨2, [((place gen).toNat, b)], all, fuse - 1, calls + 1, false⟩, 0) := by unfold burn; simp [h0, h1]
      rw [hb1]
      simp only [if_true]
      by_cases h3 : fuse - 1 = 0
      · have : flush ⟨2, [((place gen).toNat, b)], all, fuse - 1, calls + 1, false⟩ = (⟨2, [((place gen).toNat, b)], all, fuse - 1, calls + 1 + 1, true⟩, 12) := by unfold flush burn; simp [h3]
        rw [this]; simp; omega
      · have : flush ⟨2, [((place gen).toNat, b)], all, fuse - 1, calls + 1, false⟩ = (⟨2, [], all ++ [((place gen).toNat, b)], fuse - 1 - 1, calls + 1 + 1, false⟩, 0) := by
          have h4 : 0 < fuse - 1 := by omega
          have h5 : burn ⟨2, [((place gen).toNat, b)], all, fuse - 1, calls + 1, false⟩ = (⟨2, [((place gen).toNat, b)], all, fuse - 1 - 1, calls + 1 + 1, false⟩, 0) := by unfold burn; rw [if_neg h3, if_pos h4]
          unfold flush; rw [if_neg (by simp), h5]; rfl
        rw [this]; simp; omega
    · have hb1 : burn ⟨2, [((place gen).toNat, b)], all, fuse, calls, false⟩ = (⟨2, [((place gen).toNat, b)], all, fuse, calls + 1, false⟩, 0) := by unfold burn; simp [h0, h1]
      rw [hb1]
      simp only [if_true]
      have : flush ⟨2, [((place gen).toNat, b)], all, fuse, calls + 1, false⟩ = (⟨2, [], all ++ [((place gen).toNat, b)], fuse, calls + 1 + 1, false⟩, 0) := by unfold flush burn; simp [h0, h1]
      rw [this]; simp
theorem Up.wr {s : St} (h : Up s) (gen : UInt64) {b : List UInt8} (hb : b.length = 512) : (wr s gen b).2 = 0 ∧ Up (wr s gen b).1 ∧ (wr s gen b).1.all = s.all ++ [((place gen).toNat, b)] := by
  rcases wr_cases h.size h.pend h.down gen hb with ⟨_, _, _, _, _, h6⟩ | ⟨h1, h2, h3, h4, h5, h6⟩
  · exact absurd h.fuse h6
  · exact ⟨h1, ⟨h5, h3, h2, h6 h.fuse⟩, h4⟩
theorem Up.read {s : St} (h : Up s) (gen : UInt64) : read s (place gen) = (kept s.all (place gen).toNat, 0) := by
  obtain ⟨hp0, hp1⟩ := place_ok gen
  unfold Disk.read
  rw [if_neg (by rw [h.down]; simp), if_neg (by rw [h.size]; omega), h.pend, List.append_nil]
theorem Up.keptAt {s : St} (h : Up s) (gen : UInt64) : keptAt s (place gen) = kept s.all (place gen).toNat := by
  obtain ⟨hp0, hp1⟩ := place_ok gen
  unfold Disk.keptAt
  rw [if_neg (by rw [h.size]; omega)]
theorem isRoot_own {gen : UInt64} {key : List UInt8} (h : key.length = 32) : isRoot gen (xOf gen key, 0) = true := by simp [isRoot, xOf, h]
theorem isRoot_other {gen other : UInt64} {key : List UInt8} (h : other ≠ gen) : isRoot other (xOf gen key, 0) = false := by
  have : ¬ gen = other := fun e => h e.symm
  simp [isRoot, xOf, this]
theorem isRoot_fault {gen : UInt64} {d : X × Int} (h : d.2 ≠ 0) : isRoot gen d = false := by simp [isRoot, h]
theorem Up.got_good {l : List (List UInt8)} {s : St} (h : Up s) {gen : UInt64} {x : X} (hg : Good l (place gen) x (kept s.all (place gen).toNat)) : got l s gen = if isRoot gen (x, 0) = true then (x.body, 0) else ([], 11) := by
  unfold got dec
  rw [h.read gen]
  simp only [ne_eq, not_true, if_false]
  rw [hg.dec]
theorem Up.got_zero {l : List (List UInt8)} {s : St} (h : Up s) {gen : UInt64} (hg : kept s.all (place gen).toNat = zero512) : got l s gen = ([], 11) := by
  unfold got dec
  rw [h.read gen, hg]
  simp only [ne_eq, not_true, if_false]
  rw [dec_zero, isRoot_fault (by simp)]; simp
theorem Up.blank {s : St} (h : Up s) (gen : UInt64) : blank s gen = (blankB (kept s.all (place gen).toNat), 0) := by
  unfold Rt.blank
  rw [h.read gen]; simp
theorem place_xor (gen : UInt64) : place (gen ^^^ 1) = 1 - place gen := by
  unfold place
  have h1 : (gen ^^^ 1).toNat = gen.toNat ^^^ 1 := by simp
  have h2 : (gen.toNat ^^^ 1) % 2 = (gen.toNat % 2) ^^^ 1 := by
    have := Nat.xor_mod_two_pow (a := gen.toNat) (b := 1) (n := 1)
    simpa using this
  rw [h1]
  have h3 : ((gen.toNat ^^^ 1 : Nat) : Int) % 2 = (((gen.toNat ^^^ 1) % 2 : Nat) : Int) := by omega
  rw [h3, h2]
  rcases (show gen.toNat % 2 = 0 ∨ gen.toNat % 2 = 1 by omega) with h | h <;> rw [h] <;> simp <;> omega
theorem place_next (gen : UInt64) : place (gen + 1) = 1 - place gen := by
  unfold place
  have h1 : (gen + 1).toNat = (gen.toNat + 1) % 18446744073709551616 := by simp [UInt64.toNat_add]
  rw [h1]; omega
theorem kept_after (l : List Disk.Wr) (p : Nat) (b : List UInt8) : kept (l ++ [(p, b)]) p = b := by rw [Disk.kept_snoc]; simp
theorem kept_beside (l : List Disk.Wr) {p q : Nat} (b : List UInt8) (h : q ≠ p) : kept (l ++ [(q, b)]) p = kept l p := by rw [Disk.kept_snoc]; simp [h]
/-- behind Settle -/
theorem Up.settle {l : List (List UInt8)} {s : St} (h : Up s) {gen : UInt64} {x : X} (hg : Good l (place gen) x (kept s.all (place gen).toNat)) (hx : isRoot gen (x, 0) = true) :
    (settle l s gen).2 = (x.body, 0) ∧ Up (settle l s gen).1 ∧ kept (settle l s gen).1.all (place (gen ^^^ 1)).toNat = zero512 := by
  have hk : got l s gen = (x.body, 0) := by rw [h.got_good hg, if_pos hx]
  have hz : zero512.length = 512 := Disk.zero512_len
  unfold Rt.settle
  rw [hk]
  simp only [ne_eq, not_true, if_false]
  rw [h.blank]
  simp only [not_true, if_false]
  obtain ⟨h1, h2, h3⟩ := h.wr (gen ^^^ 1) hz
  split
  · rename_i hb
    exact ⟨rfl, h, of_decide_eq_true hb⟩
  · exact ⟨rfl, h2, by rw [h3, kept_after]⟩
theorem settle_fault {l : List (List UInt8)} {s : St} {gen : UInt64} (h : got l s gen = ([], 11)) : settle l s gen = (s, [], 11) := by
  unfold Rt.settle
  rw [h]; simp
/-- behind a power that went while one write was pending, or none -/
theorem restart_one {s : St} {q : Nat} {b : List UInt8} (h2 : s.size = 2) (hp : s.pend = [(q, b)] ∨ s.pend = []) (keep : List Int) (t a : Int) :
    Up (restart s keep t a) ∧ ((restart s keep t a).all = s.all ∨ ∃ z, (restart s keep t a).all = s.all ++ [(q, z)]) := by
  refine ⟨⟨h2, rfl, rfl, by simp [restart]⟩, ?_⟩
  unfold restart
  rcases hp with hp | hp
  · rw [hp]
    simp only [fates]
    unfold fate
    split
    · exact .inr ⟨_, rfl⟩
    · split
      · exact .inr ⟨_, rfl⟩
      · exact .inl rfl
  · rw [hp]; exact .inl rfl
end Go.Proofs.Ytkapamolligmkaa.Rt

/- What the root laws share: a disk and a suite that were just made, the reference's Sector and Is, the example. -/
namespace Go.Proofs.Ytkapamolligmkaa.Rt
open Go.RowKit
open Go.Proofs.Ytkapamolligmkaa.Disk (St DAt Did write_any flush_any read_any New8 Told8 new)
open Go.Proofs.Ytkapamolligmkaa.Sec (X SymAt text sumOf sumAfter ckS blankB rightF encode_sym decode_sym isBlank_any right_0 xv RetX X0 five5x symbolic_any)
set_option linter.unusedVariables false
set_option maxRecDepth 100000
theorem new2_any (w : World) : Calls Try.prog 7 #[.int .i64 2] w fun e w' => ∃ g fp, e = .returned (.tuple #[.pointer (some ⟨g, 0, none⟩), .int .i64 0]) ∧ DAt w' g fp (new 2) ∧ (∀ j ∈ fp, w.heap.size ≤ j) ∧ Below w.heap.size w w' := by
  refine (Disk.new_any 2 w (by omega) (by omega)).mono ?_
  rintro e w' ⟨h, b⟩
  rw [if_neg (by omega)] at h
  obtain ⟨g, fp, he, hd, hf⟩ := h
  exact ⟨g, fp, he, hd, hf, b⟩
theorem rsector_any (gen : UInt64) (A : Option Addr) (n c : Nat) (w : World) : Calls Try.prog 16 #[.int .u64 (gen.toNat : Int), .slice A n c] w fun e w' => e = .returned (.agg #[.int .i64 1, .int .u64 0, .int .i64 0, .int .u64 (gen.toNat : Int), .slice A n c]) ∧ Below w.heap.size w w' := by
  go_enter Try.func16, Try.ntmps16
  go_wp2
  refine bodyPost_ret (v := .agg #[.int .i64 1, .int .u64 0, .int .i64 0, .int .u64 (gen.toNat : Int), .slice A n c]) (by simp [results, Try.results16, go_sem]) rfl ⟨rfl, ?_⟩
  first | exact b1alloc _ _ | exact bset5 (b1alloc _ _) (Nat.le_refl _) | (repeat refine bset ?_ (Nat.le_refl _) _); exact b1alloc _ _
set_option maxHeartbeats 1000000 in
theorem ris_any (gen : UInt64) (x : X) (A : Option Addr) (c : Nat) (w : World) :
    Calls Try.prog 21 #[.int .u64 (gen.toNat : Int), .agg #[.int .i64 x.kind, .int .u64 (x.life.toNat : Int), .int .i64 x.seq, .int .u64 (x.gen.toNat : Int), .slice A x.body.length c]] w fun e w' => e = .returned (.bool (isRoot gen (x, 0))) ∧ Below w.heap.size w w' := by
  obtain ⟨z0, z1, z2, z3, z4⟩ := five5x (Blk.new w [.int .i64 x.kind, .int .u64 (x.life.toNat : Int), .int .i64 x.seq, .int .u64 (x.gen.toNat : Int), .slice A x.body.length c] 43)
  by_cases e1 : x.kind = 1
  rotate_left
  · have hn := Lib.hid (show isRoot gen (x, 0) = false by simp [isRoot, e1])
    have t1 := beq_no e1
    clear e1
    go_enter Try.func21, Try.ntmps21
    go_wp2
    go_ret
    exact ⟨ret_bool hn.out.symm, b1alloc _ _⟩
  have t1 := beq_yes e1
  by_cases e2 : x.life = 0
  rotate_left
  · have hn := Lib.hid (show isRoot gen (x, 0) = false by simp [isRoot, e2])
    have t2 := beq_no (show (x.life.toNat : Int) ≠ 0 from fun e => e2 (UInt64.toNat_inj.1 (by rw [show (0 : UInt64).toNat = 0 from rfl]; omega)))
    clear e1 e2
    go_enter Try.func21, Try.ntmps21
    go_wp2
    go_ret
    exact ⟨ret_bool hn.out.symm, b1alloc _ _⟩
  have t2 := beq_yes (show (x.life.toNat : Int) = 0 by rw [e2]; rfl)
  by_cases e3 : x.seq = 0
  rotate_left
  · have hn := Lib.hid (show isRoot gen (x, 0) = false by simp [isRoot, e3])
    have t3 := beq_no e3
    clear e1 e2 e3
    go_enter Try.func21, Try.ntmps21
    go_wp2
    go_ret
    exact ⟨ret_bool hn.out.symm, b1alloc _ _⟩
  have t3 := beq_yes e3
  by_cases e4 : x.gen = gen
  rotate_left
  · have hn := Lib.hid (show isRoot gen (x, 0) = false by simp [isRoot, e4])
    have t4 := beq_no (show (x.gen.toNat : Int) ≠ (gen.toNat : Int) from fun e => e4 (UInt64.toNat_inj.1 (by omega)))
    clear e1 e2 e3 e4
    go_enter Try.func21, Try.ntmps21
    go_wp2
    go_ret
    exact ⟨ret_bool hn.out.symm, b1alloc _ _⟩
  have t4 := beq_yes (show (x.gen.toNat : Int) = (gen.toNat : Int) by rw [e4])
  by_cases e5 : x.body.length = 32
  rotate_left
  · have hn := Lib.hid (show isRoot gen (x, 0) = false by simp [isRoot, e5])
    have t5 := beq_no (show (x.body.length : Int) ≠ 32 by omega)
    clear e1 e2 e3 e4 e5
    go_enter Try.func21, Try.ntmps21
    go_wp2
    go_ret
    exact ⟨ret_bool hn.out.symm, b1alloc _ _⟩
  have hn := Lib.hid (show isRoot gen (x, 0) = true by simp [isRoot, e1, e2, e3, e4, e5])
  have t5 := beq_yes (show (x.body.length : Int) = 32 by omega)
  clear e1 e2 e3 e4 e5
  go_enter Try.func21, Try.ntmps21
  go_wp2
  go_ret
  exact ⟨ret_bool hn.out.symm, b1alloc _ _⟩
set_option maxHeartbeats 1000000 in
theorem alive_any (w : World) : Calls Try.prog 6 #[] w fun e w' => e = .returned (.bool true) ∧ Below w.heap.size w w' := by
  obtain ⟨i0, hi0, hz0, hz1, hz2⟩ := info_parts Sec.info8'
  obtain ⟨key, hkey⟩ : ∃ key, key = List.replicate 32 (0 : UInt8) := ⟨_, rfl⟩
  have hkl : key.length = 32 := by rw [hkey]; simp
  have hcells : (List.replicate 32 (Value.int .u8 0)) = key.map e8 := by rw [hkey]; rfl
  have hp : (place 3).toNat = 1 := by decide
  have hp1 : (place 1).toNat = 1 := by decide
  obtain ⟨q1, q2, q3⟩ := up_new.wr 3 (bOf_len [] 3 key)
  have hst : Disk.kept (wr (new 2) 3 (bOf [] 3 key)).1.all (place 3).toNat = bOf [] 3 key := by rw [q3, kept_after]
  have g3 : got (lOf [] 3 key) (wr (new 2) 3 (bOf [] 3 key)).1 3 = (key, 0) := by rw [q2.got_good (x := xOf 3 key) (by rw [hst]; exact bOf_good [] hkl), isRoot_own hkl]; rfl
  have g1 : got (lOf [] 3 key) (wr (new 2) 3 (bOf [] 3 key)).1 1 = ([], 11) := by
    rw [q2.got_good (gen := 1) (x := xOf 3 key) (by rw [show (place 1).toNat = (place 3).toNat from rfl, hst]; exact bOf_good [] hkl), isRoot_other (by decide)]; rfl
  have hz := wr_sz (new 2) 3 (bOf [] 3 key)
  have h0 : (new 2).sz = 0 := rfl
  have hll : (lOf [] 3 key).length ≤ 1000000 := by unfold lOf sumAfter; simp
  have hP := fun g fp gS bS A c W h hr => put_any g fp (new 2) gS bS [] 3 key A c W h (by simp) (by rw [h0]; omega) hkl hr
  obtain ⟨R, hR⟩ : ∃ R, R = wr (new 2) 3 (bOf [] 3 key) := ⟨_, rfl⟩
  obtain ⟨L, hL⟩ : ∃ L, L = lOf [] 3 key := ⟨_, rfl⟩
  rw [← hR] at q1 hP g3 g1 hz
  rw [← hL] at hP g3 g1 hll
  rw [q1] at hP
  have hG1 := fun g fp gS bS W h => get_any g fp R.1 gS bS L 1 W h hll (by omega)
  have hG3 := fun g fp gS bS W h => get_any g fp R.1 gS bS L 3 W h hll (by omega)
  rw [g1] at hG1
  rw [g3] at hG3
  rw [show (((3 : UInt64).toNat : Nat) : Int) = 3 from rfl] at hP hG3
  rw [show (((1 : UInt64).toNat : Nat) : Int) = 1 from rfl] at hG1
  have HP := Lib.hid hP
  have HG1 := Lib.hid hG1
  have HG3 := Lib.hid hG3
  have HC := Lib.hid hcells
  have HKL := Lib.hid hkl
  clear q1 q2 q3 hst g3 g1 hP hG1 hG3 hR hL hcells hkey hp hp1 hkl
  go_enter Try.func6, Try.ntmps6
  go_wp2_with (first
    | (go_at_call 7; refine (new2_any w).mono ?_; rintro e w1 ⟨g, fp, rfl, hD, hfp, b1⟩)
    | (go_at_call 8; refine (symbolic_any _).mono ?_; rintro e w2 ⟨gS, bS, rfl, hS, hgS, hbS, b2⟩; have H2 := Here.start hD hfp b1 hS hgS hbS b2)
    | (at_make; refine wpList_make_full _ rfl _ _ _ rfl w2.heap.size 5 i0 _ 1 Try.underlying23 hi0 hz0 hz1 _ _ _ _ 32 rfl rfl rfl rfl (by rw [hz2]; omega) (by simp only [maxLen]; omega) (Nat.le_refl _) ?_; intro w3 own3 b3))
  have b3' : Below w2.heap.size w2 w3 := (Below.refl _ _).grown b3 (Nat.le_refl _) (by simp)
  rw [made_int, HC.out] at own3
  have H3 := H2.on b3'
  have tG : True := trivial
  go_wp2_with (first
    | (go_at_call 9; refine (HP.out _ _ _ _ _ _ _ H3.both (Rd.own own3)).mono ?_; rintro e w4 ⟨rfl, T4⟩; obtain ⟨fp4, H4, _, _⟩ := H3.turn T4)
    | (go_at_call 10; have _t := tG; refine (HG1.out _ _ _ _ _ H4.both).mono ?_; rintro e w5 ⟨⟨A5, c5, rfl, _, _, _⟩, b5⟩; have H5 := H4.on b5; clear tG)
    | (go_at_call 10; refine (HG3.out _ _ _ _ _ H5.both).mono ?_; rintro e w6 ⟨⟨A6, c6, rfl, _, _, _⟩, b6⟩; rw [HKL.out]; have H6 := H5.on b6))
  go_ret
  exact ⟨rfl, H6.bel⟩
end Go.Proofs.Ytkapamolligmkaa.Rt

/- The key above all, in plain Lean: whatever the power does while the next root is put, or the one ahead is erased. -/
namespace Go.Proofs.Ytkapamolligmkaa.Rt
open Go.RowKit
open Go.Proofs.Ytkapamolligmkaa.Disk (St write flush read kept burn restart fates fate keptAt new zero512 arm)
open Go.Proofs.Ytkapamolligmkaa.Sec (X text text_len sumOf sumOf_len sumAfter ckS checkOf blankB rightF dec_back dec_blank X0 mark)
set_option linter.unusedVariables false
theorem place_ne (gen : UInt64) : (place gen).toNat ≠ (place (gen + 1)).toNat := by
  have := place_ok gen
  rw [place_next]; omega
theorem place_back (gen : UInt64) : place ((gen + 1) ^^^ 1) = place gen := by rw [place_xor, place_next]; omega
theorem place_fwd (gen : UInt64) : place (gen ^^^ 1) = place (gen + 1) := by rw [place_xor, place_next]
theorem blankZ : blankB zero512 = true := decide_eq_true rfl
/-- the states, one behind the other -/
structure Went (L1 L2 : List (List UInt8)) (gen : UInt64) (key next : List UInt8) (s1 : St) (W : St × Int) (keep : List Int) (t a : Int) : Prop where
  down : W.2 = 12 → (settle L2 (restart W.1 keep t a) gen).2 = (key, 0) ∧ blank (settle L2 (restart W.1 keep t a) gen).1 (gen + 1) = (true, 0)
  up : W.2 ≠ 12 → W.2 = 0 ∧ ((wr W.1 gen zero512).2 = 0 ∨ (wr W.1 gen zero512).2 = 12) ∧ (settle L2 (restart (wr W.1 gen zero512).1 keep t a) (gen + 1)).2 = (next, 0) ∧ blank (settle L2 (restart (wr W.1 gen zero512).1 keep t a) (gen + 1)).1 gen = (true, 0)
theorem went {gen : UInt64} {key next : List UInt8} (hk : key.length = 32) (hn : next.length = 32) (fuse : Int) (keep : List Int) (t a : Int) {s1 sA : St} (hs1 : s1 = (wr (new 2) gen (bOf [] gen key)).1) (hsA : sA = arm s1 fuse) {L1 L2 : List (List UInt8)} (hL1 : L1 = lOf [] gen key) (hL2 : L2 = lOf L1 (gen + 1) next) {W : St × Int} (hW : W = wr sA (gen + 1) (bOf L1 (gen + 1) next)) :
    Went L1 L2 gen key next s1 W keep t a := by
  obtain ⟨q1, q2, q3⟩ := up_new.wr gen (bOf_len [] gen key)
  rw [← hs1] at q2 q3
  have g1 : Good L1 (place gen) (xOf gen key) (bOf [] gen key) := by rw [hL1]; exact bOf_good [] hk
  have g1' : Good L2 (place gen) (xOf gen key) (bOf [] gen key) := by rw [hL2]; exact g1.more _
  have g2 : Good L2 (place (gen + 1)) (xOf (gen + 1) next) (bOf L1 (gen + 1) next) := by rw [hL2]; exact bOf_good L1 hn
  have hne := place_ne gen
  have hall : sA.all = [((place gen).toNat, bOf [] gen key)] := by rw [hsA]; exact q3
  have hw := wr_cases (s := sA) (by rw [hsA]; exact q2.size) (by rw [hsA]; exact q2.pend) (by rw [hsA]; exact q2.down) (gen + 1) g2.len
  rw [← hW] at hw
  constructor
  · intro h12
    rcases hw with ⟨_, _, hp, ha, hz, _⟩ | ⟨h0, _⟩
    · obtain ⟨hu, hc⟩ := restart_one hz (.inl hp) keep t a
      have hst : kept (restart W.1 keep t a).all (place gen).toNat = bOf [] gen key := by
        rcases hc with hc | ⟨z, hc⟩
        · rw [hc, ha, hall]; exact kept_after [] _ _
        · rw [hc, ha, hall, kept_beside _ _ (fun e => hne e.symm)]; exact kept_after [] _ _
      obtain ⟨e1, e2, e3⟩ := hu.settle (l := L2) (gen := gen) (x := xOf gen key) (by rw [hst]; exact g1') (isRoot_own hk)
      refine ⟨e1, ?_⟩
      rw [e2.blank, ← place_fwd, e3, blankZ]
    · rw [h0] at h12; cases h12
  · intro h12
    rcases hw with ⟨h0, _⟩ | ⟨h0, hd, hp, ha, hz, _⟩
    · exact absurd h0 h12
    · have hw2 := wr_cases hz hp hd gen Disk.zero512_len
      have hall2 : W.1.all = [((place gen).toNat, bOf [] gen key), ((place (gen + 1)).toNat, bOf L1 (gen + 1) next)] := by rw [ha, hall]; rfl
      have hkp : kept W.1.all (place (gen + 1)).toNat = bOf L1 (gen + 1) next := by rw [ha]; exact kept_after _ _ _
      have hres : Up (restart (wr W.1 gen zero512).1 keep t a) ∧ kept (restart (wr W.1 gen zero512).1 keep t a).all (place (gen + 1)).toNat = bOf L1 (gen + 1) next ∧ ((wr W.1 gen zero512).2 = 0 ∨ (wr W.1 gen zero512).2 = 12) := by
        rcases hw2 with ⟨h3, _, hp2, ha2, hz2, _⟩ | ⟨h3, _, hp2, ha2, hz2, _⟩
        · obtain ⟨hu, hc⟩ := restart_one hz2 (.inl hp2) keep t a
          refine ⟨hu, ?_, .inr h3⟩
          rcases hc with hc | ⟨z, hc⟩
          · rw [hc, ha2]; exact hkp
          · rw [hc, ha2, kept_beside _ _ hne]; exact hkp
        · obtain ⟨hu, hc⟩ := restart_one (q := (place gen).toNat) (b := zero512) hz2 (.inr hp2) keep t a
          refine ⟨hu, ?_, .inl h3⟩
          rcases hc with hc | ⟨z, hc⟩
          · rw [hc, ha2, kept_beside _ _ hne]; exact hkp
          · rw [hc, ha2, kept_beside _ _ hne, kept_beside _ _ hne]; exact hkp
      obtain ⟨hu, hst, hor⟩ := hres
      obtain ⟨e1, e2, e3⟩ := hu.settle (l := L2) (gen := gen + 1) (x := xOf (gen + 1) next) (by rw [hst]; exact g2) (isRoot_own hn)
      refine ⟨h0, hor, e1, ?_⟩
      rw [place_back] at e3
      rw [e2.blank, e3, blankZ]
theorem settle_sz (l : List (List UInt8)) (s : St) (gen : UInt64) : (settle l s gen).1.sz ≤ s.sz + 3 := by
  have := wr_sz s (gen ^^^ 1) zero512
  unfold settle
  split
  · simp
  · split
    · simp
    · split
      · simp
      · split <;> simpa using this
theorem lOf_len (l : List (List UInt8)) (gen : UInt64) (key : List UInt8) : (lOf l gen key).length ≤ l.length + 1 := by unfold lOf sumAfter; split <;> simp
end Go.Proofs.Ytkapamolligmkaa.Rt

/- The key above all, in plain Lean: which key is read of any sectors at both places. -/
namespace Go.Proofs.Ytkapamolligmkaa.Rt
open Go.RowKit
open Go.Proofs.Ytkapamolligmkaa.Disk (St write flush read kept burn restart fates fate keptAt new zero512 arm)
open Go.Proofs.Ytkapamolligmkaa.Sec (X text text_len sumOf sumOf_len sumAfter ckS checkOf blankB rightF dec_back dec_blank X0 mark)
set_option linter.unusedVariables false
def bytesAt (q : List (List UInt8) × St) (i : Int) (x : X) : List UInt8 := text i x ++ sumOf q.1 (text i x)
theorem bytesAt_len (q : List (List UInt8) × St) (i : Int) (x : X) : (bytesAt q i x).length = 512 := by unfold bytesAt; rw [List.length_append, text_len, sumOf_len]
/-- a sector is put at a place, if it may be -/
def stp (q : List (List UInt8) × St) (i : Int) (x : X) : List (List UInt8) × St := if rightF i x = 0 then (sumAfter q.1 (text i x), (Disk.put q.2 i (bytesAt q i x)).1) else q
theorem stp_yes {q : List (List UInt8) × St} {i : Int} {x : X} (h : rightF i x = 0) : stp q i x = (sumAfter q.1 (text i x), (Disk.put q.2 i (bytesAt q i x)).1) := if_pos h
theorem stp_no {q : List (List UInt8) × St} {i : Int} {x : X} (h : rightF i x ≠ 0) : stp q i x = q := if_neg h
theorem put_up {s : St} (h : Up s) {i : Int} (h0 : 0 ≤ i) (h1 : i ≤ 1) {b : List UInt8} (hb : b.length = 512) : Up (Disk.put s i b).1 ∧ (Disk.put s i b).1.all = s.all ++ [(i.toNat, b)] ∧ (Disk.put s i b).1.sz ≤ s.sz + 1 := by
  refine ⟨?_, ?_, Disk.sz_put _ _ _⟩ <;> unfold Disk.put <;> rw [if_neg (by rw [h.size]; omega), if_neg (by omega)]
  exact ⟨h.size, h.pend, h.down, h.fuse⟩
/-- what stands at both places -/
structure Stand (q : List (List UInt8) × St) (a b : X) : Prop where
  up : Up q.2
  len : q.1.length ≤ 2
  sz : q.2.sz ≤ 2
  a1 : rightF 0 a = 0 → Good q.1 0 a (kept q.2.all 0)
  a0 : rightF 0 a ≠ 0 → kept q.2.all 0 = zero512
  b1 : rightF 1 b = 0 → Good q.1 1 b (kept q.2.all 1)
  b0 : rightF 1 b ≠ 0 → kept q.2.all 1 = zero512
theorem sumAfter_len (l : List (List UInt8)) (T : List UInt8) : (sumAfter l T).length ≤ l.length + 1 := by unfold sumAfter; split <;> simp
theorem stand1 (a : X) : Up (stp ([], new 2) 0 a).2 ∧ (stp ([], new 2) 0 a).1.length ≤ 1 ∧ (stp ([], new 2) 0 a).2.sz ≤ 1 ∧ (rightF 0 a = 0 → Good (stp ([], new 2) 0 a).1 0 a (kept (stp ([], new 2) 0 a).2.all 0)) ∧ (rightF 0 a ≠ 0 → kept (stp ([], new 2) 0 a).2.all 0 = zero512) ∧ kept (stp ([], new 2) 0 a).2.all 1 = zero512 := by
  by_cases h : rightF 0 a = 0
  · rw [stp_yes h]
    obtain ⟨u, e, z⟩ := put_up up_new (i := 0) (by omega) (by omega) (bytesAt_len ([], new 2) 0 a)
    refine ⟨u, sumAfter_len [] (text 0 a), z, fun _ => ?_, fun h2 => absurd h h2, ?_⟩
    · rw [e, show ((0 : Int).toNat) = 0 from rfl, kept_after]; exact Good.made [] h
    · rw [e, kept_beside _ _ (by decide)]; rfl
  · rw [stp_no h]
    exact ⟨up_new, by simp, by decide, fun h2 => absurd h2 h, fun _ => rfl, rfl⟩
theorem stand (a b : X) : Stand (stp (stp ([], new 2) 0 a) 1 b) a b := by
  obtain ⟨u, l, z, g1, g0, k1⟩ := stand1 a
  obtain ⟨q, hq⟩ : ∃ q, q = stp ([], new 2) 0 a := ⟨_, rfl⟩
  rw [← hq] at u l z g1 g0 k1 ⊢
  by_cases h : rightF 1 b = 0
  · rw [stp_yes h]
    obtain ⟨u2, e, z2⟩ := put_up u (i := 1) (by omega) (by omega) (bytesAt_len q 1 b)
    have hl := sumAfter_len q.1 (text 1 b)
    refine ⟨u2, by simp only []; omega, by simp only []; omega, fun h2 => ?_, fun h2 => ?_, fun _ => ?_, fun h2 => absurd h h2⟩
    · simp only []; rw [e, kept_beside _ _ (by decide)]; exact (g1 h2).more _
    · simp only []; rw [e, kept_beside _ _ (by decide)]; exact g0 h2
    · simp only []; rw [e, show ((1 : Int).toNat) = 1 from rfl, kept_after]; exact Good.made q.1 h
  · rw [stp_no h]
    exact ⟨u, by omega, by omega, g1, g0, fun h2 => absurd h2 h, fun _ => k1⟩
theorem Stand.got0 {q : List (List UInt8) × St} {a b : X} (h : Stand q a b) {gen : UInt64} (hp : place gen = 0) : got q.1 q.2 gen = if rightF 0 a = 0 ∧ isRoot gen (a, 0) = true then (a.body, 0) else ([], 11) := by
  by_cases h1 : rightF 0 a = 0
  · rw [h.up.got_good (gen := gen) (x := a) (by rw [hp]; exact h.a1 h1)]; simp [h1]
  · rw [h.up.got_zero (gen := gen) (by rw [hp]; exact h.a0 h1)]; simp [h1]
theorem Stand.got1 {q : List (List UInt8) × St} {a b : X} (h : Stand q a b) {gen : UInt64} (hp : place gen = 1) : got q.1 q.2 gen = if rightF 1 b = 0 ∧ isRoot gen (b, 0) = true then (b.body, 0) else ([], 11) := by
  by_cases h1 : rightF 1 b = 0
  · rw [h.up.got_good (gen := gen) (x := b) (by rw [hp]; exact h.b1 h1)]; simp [h1]
  · rw [h.up.got_zero (gen := gen) (by rw [hp]; exact h.b0 h1)]; simp [h1]
theorem isRoot_len {gen : UInt64} {x : X} (h : isRoot gen (x, 0) = true) : x.body.length = 32 := by
  simp [isRoot] at h; omega
/-- behind Settle, where there was the gen's root -/
theorem settle_yes {l : List (List UInt8)} {s : St} (h : Up s) {gen : UInt64} {k : List UInt8} (hk : got l s gen = (k, 0)) : (settle l s gen).2 = (k, 0) ∧ Up (settle l s gen).1 ∧ kept (settle l s gen).1.all (place (gen ^^^ 1)).toNat = zero512 := by
  have hz : zero512.length = 512 := Disk.zero512_len
  unfold Rt.settle
  rw [hk]
  simp only [ne_eq, not_true, if_false]
  rw [h.blank]
  simp only [not_true, if_false]
  obtain ⟨h1, h2, h3⟩ := h.wr (gen ^^^ 1) hz
  split
  · rename_i hb
    exact ⟨rfl, h, of_decide_eq_true hb⟩
  · exact ⟨rfl, h2, by rw [h3, kept_after]⟩
end Go.Proofs.Ytkapamolligmkaa.Rt

/- The arguments of a law, opened: slices of bytes and of numbers as lists; numbers as words. -/
namespace Go.Proofs.Ytkapamolligmkaa
open Go.ChangeShapes Go.WideShapes Go.ChangeAt Go.RowKit Go.Joins
open Go.ChangeMaps (open_string shut_string)
set_option linter.unusedVariables false

theorem own : ownKnob Try.prog.godebug = none := by kernel_rfl
theorem laidOut : laidOutB Try.prog = true := by kernel_rfl
abbrev ei (n : Int) : Value := .int .i64 n

theorem rd_row {w : World} {k : IntKind} {x : Addr} {len cap : Nat} {zs : List Int} (hl : len ≤ cap) (hz : zs.length = cap) (hc : ∀ i, i < zs.length → w.cell? (x.add i) = some (.int k (zs.getD i 0))) :
    Rd w w.heap.size (some x) ((zs.take len).map (Value.int k)) := by
  intro hne
  have hlen : 0 < len := by
    rcases Nat.eq_zero_or_pos len with h | h
    · subst h; simp at hne
    · exact h
  obtain ⟨b, off, spot⟩ := x
  have h0 := hc 0 (by omega)
  have hspot : spot = none := by simpa [Addr.add] using World.cell?_spot h0
  subst hspot
  refine ⟨b, off, rfl, ?_, fun i hi => ?_⟩
  · have h0' : w.cell? ⟨b, off, none⟩ ≠ none := by
      have : (⟨b, off, none⟩ : Addr).add 0 = ⟨b, off, none⟩ := by simp [Addr.add]
      rw [this] at h0; rw [h0]; simp
    rcases Nat.lt_or_ge b w.heap.size with h | h
    · exact h
    · exact absurd (by simp [World.cell?, Array.getElem?_eq_none h]) h0'
  · have hi' : i < len := by simpa [hz, Nat.min_eq_left hl] using hi
    have := hc i (by omega)
    rw [Addr.add_lit] at this
    rw [this]
    simp [List.getD, List.getElem?_eq_getElem (show i < zs.length by omega)]

theorem bytes_of {w : World} {A : Option Addr} {len cap : Nat} {E : Type} {P : Program} {enc : TypeId × Value → E} {t e : TypeId} {spare : Nat → Bool} {held : Bool} {fuel : Nat} {x : DataW E × List MemPlace}
    (hs : spare = fun _ => true) (ht : P.underlying t = some (.slice e)) (he : P.underlying e = some (.int .u8)) (hc : P.cellsOf e = 1) (h : DataW.trod enc P w 0 spare held fuel t (Value.slice A len cap).cells.toList = some x) :
    ∃ l : List UInt8, l.length = len ∧ Rd w w.heap.size A (l.map e8) ∧ len ≤ cap ∧ cap ≤ maxLen := by
  subst hs
  rcases open_ints ht he hc h with ⟨hcs, _⟩ | ⟨x, l, c, zs, hcs, _, hl, hm, hz, _, hcell, hwz⟩
  · simp [Value.cells] at hcs
    obtain ⟨rfl, rfl, rfl⟩ := hcs
    exact ⟨[], rfl, Rd.nil _ _ _, by omega, by unfold maxLen; omega⟩
  · simp [Value.cells] at hcs
    obtain ⟨rfl, rfl, rfl⟩ := hcs
    obtain ⟨l, rfl⟩ := list8 zs hwz
    have hz' : l.length = cap := by simpa using hz
    refine ⟨l.take len, by simp; omega, ?_, hl, hm⟩
    have := rd_row (len := len) hl (by simpa using hz') hcell
    simpa [List.map_take, Function.comp_def] using this

theorem ints_of {w : World} {A : Option Addr} {len cap : Nat} {E : Type} {P : Program} {enc : TypeId × Value → E} {t e : TypeId} {spare : Nat → Bool} {held : Bool} {fuel : Nat} {x : DataW E × List MemPlace}
    (hs : spare = fun _ => true) (ht : P.underlying t = some (.slice e)) (he : P.underlying e = some (.int .i64)) (hc : P.cellsOf e = 1) (h : DataW.trod enc P w 0 spare held fuel t (Value.slice A len cap).cells.toList = some x) :
    ∃ l : List Int, l.length = len ∧ Rd w w.heap.size A (l.map ei) ∧ len ≤ cap ∧ cap ≤ maxLen ∧ (∀ n ∈ l, -9223372036854775808 ≤ n ∧ n ≤ 9223372036854775807) := by
  subst hs
  rcases open_ints ht he hc h with ⟨hcs, _⟩ | ⟨x, l, c, zs, hcs, _, hl, hm, hz, _, hcell, hwz⟩
  · simp [Value.cells] at hcs
    obtain ⟨rfl, rfl, rfl⟩ := hcs
    exact ⟨[], rfl, Rd.nil _ _ _, by omega, by unfold maxLen; omega, by simp⟩
  · simp [Value.cells] at hcs
    obtain ⟨rfl, rfl, rfl⟩ := hcs
    have hz' : zs.length = cap := by simpa using hz
    refine ⟨zs.take len, by simp; omega, ?_, hl, hm, fun n hn => ?_⟩
    · have := rd_row (len := len) hl hz' hcell
      simpa [List.map_take, Function.comp_def] using this
    · have := hwz n (List.mem_of_mem_take hn)
      simp [Lit.wf, IntKind.min, IntKind.max, IntKind.signed, IntKind.bits] at this
      omega

section
theorem okWide_arr' {P : Program} {w : World} {r : Reach} {base : Nat} {t e : TypeId} {n : Nat} {v : Value} (ht : P.underlying t = some (.array n e)) (h : Value.okWide P w r base t v) : ∃ cs, v = .agg cs ∧ cs.size = P.cellsOf t := by
  simp only [Value.okWide, ht] at h
  obtain ⟨cs, h1, h2, _⟩ := h
  exact ⟨cs, h1, h2⟩
/-- an argument that is an array of numbers -/
theorem arr_ints {H : Type} {enc : TypeId × Value → H} {P : Program} {w : World} {r : Reach} {base : Nat} {v : Value} {d : DataW H} {p : List MemPlace} {t e : TypeId} {n : Nat} {k : IntKind} (ht : P.underlying t = some (.array n e)) (he : P.underlying e = some (.int k))
    (hc : P.cellsOf t = n) (hc1 : P.cellsOf e = 1) (hv : Value.okWide P w r base t v) (h : DataW.Trod enc P w 0 (fun _ => true) true t v d p) :
    ∃ zs : List Int, zs.length = n ∧ v = .agg (zs.map (Value.int k)).toArray ∧ ∀ z ∈ zs, (Lit.int k z).wf = true := by
  obtain ⟨cs, rfl, hsz⟩ := okWide_arr' ht hv
  rw [hc] at hsz
  obtain ⟨fuel, hf⟩ := h
  obtain ⟨xs, m, _, _, _, hl, hi⟩ := DataW.trod_array ht hf
  have key : ∀ i (hi' : i < n), ∃ z : Int, cs[i]'(by omega) = Value.int k z ∧ (Lit.int k z).wf = true := fun i hi' => by
    have g1 := hi i hi'
    rw [hc1] at g1
    have h2 : (Value.agg cs).cells.toList = cs.toList := rfl
    rw [h2] at g1
    have h3 : (cs.toList.drop (i * 1)).take 1 = [cs[i]'(by omega)] := by
      rw [Nat.mul_one, List.drop_eq_getElem_cons (by simp; omega)]; simp
    rw [h3, List.getElem?_eq_getElem (by omega)] at g1
    obtain ⟨z, e1, _, wn⟩ := DataW.trod_int he g1
    simp only [List.cons.injEq, and_true] at e1
    exact ⟨z, e1, wn⟩
  refine ⟨(List.range n).map (fun i : Nat => ((cs[i]?).map intOf).getD 0), by simp, ?_, ?_⟩
  · congr 1
    apply Array.ext
    · simp [hsz]
    · intro i g1 g2
      obtain ⟨z, e, _⟩ := key i (by omega)
      simp [Array.getElem?_eq_getElem g1, e, intOf]
  · intro z hz
    simp only [List.mem_map, List.mem_range] at hz
    obtain ⟨i, hin, rfl⟩ := hz
    obtain ⟨z', e, wf⟩ := key i hin
    rw [Array.getElem?_eq_getElem (by omega), e]
    simpa [intOf] using wf
end
theorem wf8 {n : Int} (h : (Lit.int .u8 n).wf = true) : ∃ x : UInt8, n = (x.toNat : Int) := by
  simp [Lit.wf, IntKind.min, IntKind.max, IntKind.signed, IntKind.bits] at h; exact to8 n (by omega) (by omega)
theorem wf32 {n : Int} (h : (Lit.int .u32 n).wf = true) : ∃ x : UInt32, n = (x.toNat : Int) := by
  simp [Lit.wf, IntKind.min, IntKind.max, IntKind.signed, IntKind.bits] at h; exact to32 n (by omega) (by omega)
theorem wf64 {n : Int} (h : (Lit.int .u64 n).wf = true) : ∃ x : UInt64, n = (x.toNat : Int) := by
  simp [Lit.wf, IntKind.min, IntKind.max, IntKind.signed, IntKind.bits] at h; exact to64 n (by omega) (by omega)
theorem wfi {n : Int} (h : (Lit.int .i64 n).wf = true) : -9223372036854775808 ≤ n ∧ n ≤ 9223372036854775807 := by
  simp [Lit.wf, IntKind.min, IntKind.max, IntKind.signed, IntKind.bits] at h; omega
theorem places_lt {H : Type} {enc : TypeId × Value → H} {P : Program} {W : World} {t : TypeId} {v : Value} {d : DataW H} {p : List MemPlace} (k : DataW.Trod enc P W 0 (fun _ => true) true t v d p) : ∀ x ∈ p, x.block < W.heap.size := by
  obtain ⟨m, hm⟩ := k; exact DataW.trod_lt m _ _ _ hm
section
open Go.Deep
variable {H : Type} {enc : TypeId × Value → H} {P : Program} {w : World} {base : Nat} {spare : Nat → Bool} {held : Bool}
/-- a slice of structs of one-cell fields -/
theorem open_slice_fields {t e : TypeId} {fs : Array Field} {fuel : Nat} {cs : List Value} {x : DataW H × List MemPlace} (ht : P.underlying t = some (.slice e)) (he : P.underlying e = some (.struct fs))
    (hone : oneCellFields P fs = true) (hC : P.cellsOf e = fs.size) (h : DataW.trod enc P w base spare held fuel t cs = some x) :
    cs = [.slice none 0 0] ∨ ∃ (a : Addr) (len cap m : Nat), cs = [.slice (some a) len cap] ∧ base ≤ a.block ∧ len ≤ cap ∧ cap ≤ maxLen ∧ m = (if spare a.block then cap else len) ∧
      ∀ i, i < m → ∃ (ys : List (DataW H × List MemPlace)) (n : Nat), 
        ∀ (j : Nat) (f : Field), fs[j]? = some f → ∃ (v : Value) (y : DataW H × List MemPlace), w.cell? (a.add (i * fs.size + j)) = some v ∧ ys[j]? = some y ∧ DataW.trod enc P w base spare held n f.type [v] = some y := by
  rcases open_slice ht h with h0 | ⟨a, len, cap, m, n, D, Pl, hcs, hb, hl, hm, hmm, hx, hi⟩
  · exact .inl h0.1
  · refine .inr ⟨a, len, cap, m, hcs, hb, hl, hm, hmm, fun i him => ?_⟩
    obtain ⟨cs', hc, ht'⟩ := hi i him
    rw [hC] at hc
    obtain ⟨ys, n', hn', hy, hlen, hyl, hf⟩ := DataW.trod_struct he ht'
    obtain ⟨_, hcl, hat⟩ := World.cells?_some hc
    refine ⟨ys, n', fun j f hj => ?_⟩
    obtain ⟨ho, hk⟩ := hone_of hone j f hj
    have hjl : j < fs.size := (Array.getElem?_eq_some_iff.1 hj).1
    have hcell := hat j hjl
    have hv : cs'[j]? = some (cs'[j]'(by omega)) := List.getElem?_eq_getElem (by omega)
    have h1 := hf j f hj
    rw [ho, hk] at h1
    have hone' : (cs'.drop j).take 1 = [cs'[j]'(by omega)] := by
      rw [List.drop_eq_getElem_cons (by omega)]
      rfl
    rw [hone'] at h1
    have hys : ys[j]? = some (ys[j]'(by omega)) := List.getElem?_eq_getElem (by omega)
    refine ⟨_, _, ?_, hys, h1.trans hys⟩
    rw [← Go.Deep.add_add, hcell, hv]
theorem bytes_of1 {E : Type} {enc : TypeId × Value → E} {t e : TypeId} {fuel : Nat} {v : Value} {yy : DataW E × List MemPlace}
    (ht : P.underlying t = some (.slice e)) (he : P.underlying e = some (.int .u8)) (hc : P.cellsOf e = 1) (h : DataW.trod enc P w 0 (fun _ => true) held fuel t [v] = some yy) :
    ∃ (A : Option Addr) (l : List UInt8) (c : Nat), v = .slice A l.length c ∧ Rd w w.heap.size A (l.map e8) ∧ l.length ≤ c ∧ c ≤ maxLen := by
  have h0 := h
  rcases open_ints ht he hc h with ⟨hcs, _⟩ | ⟨x, l, c, zs, hcs, _, hl, hm, hz, _, hcell, hwz⟩
  · simp only [List.cons.injEq, and_true] at hcs
    exact ⟨none, [], 0, hcs, Rd.nil _ _ _, by simp, by unfold maxLen; omega⟩
  · simp only [List.cons.injEq, and_true] at hcs
    subst hcs
    obtain ⟨A, hA⟩ : ∃ A, A = some x := ⟨_, rfl⟩
    have h' : DataW.trod enc P w 0 (fun _ => true) held fuel t (Value.slice A l c).cells.toList = some yy := by rw [hA]; exact h0
    obtain ⟨ll, h1, h2, h3, h4⟩ := bytes_of rfl ht he hc h'
    subst h1
    exact ⟨A, ll, c, by rw [hA], h2, h3, h4⟩
theorem choose_list {α : Type} {n : Nat} {p : Nat → α → Prop} (h : ∀ i, i < n → ∃ a, p i a) : ∃ l : List α, l.length = n ∧ ∀ i (hi : i < l.length), p i l[i] := by
  induction n with
  | zero => exact ⟨[], rfl, fun i hi => absurd hi (by simp)⟩
  | succ n ih =>
    obtain ⟨l, hl, hp⟩ := ih fun i hi => h i (by omega)
    obtain ⟨a, ha⟩ := h n (by omega)
    refine ⟨l ++ [a], by simp [hl], fun i hi => ?_⟩
    rw [List.getElem_append]
    by_cases e : i < l.length
    · rw [dif_pos e]; exact hp i e
    · rw [dif_neg e]
      have : i = n := by simp at hi; omega
      subst this
      simpa using ha
end
end Go.Proofs.Ytkapamolligmkaa

/- How a sector (a struct of five fields, one of them a slice of bytes) comes in as an argument. -/
namespace Go.Proofs.Ytkapamolligmkaa
open Go.ChangeShapes Go.WideShapes Go.ChangeAt Go.RowKit Go.Joins Go.Deep
set_option maxRecDepth 100000
set_option linter.unusedVariables false
theorem array5 {α : Type} {cs : Array α} (h : cs.size = 5) : ∃ c0 c1 c2 c3 c4, cs = #[c0, c1, c2, c3, c4] := by
  obtain ⟨l⟩ := cs
  match l, h with
  | [c0, c1, c2, c3, c4], _ => exact ⟨c0, c1, c2, c3, c4, rfl⟩
theorem open_agg5 {H : Type} {enc : TypeId × Value → H} {P : Program} {w : World} {base : Nat} {spare : Nat → Bool} {held : Bool} {r : Reach} {b0 : Nat} {t : TypeId} {f0 f1 f2 f3 f4 : Field} {v : Value} {d : DataW H} {p : List MemPlace}
    (hs : P.underlying t = some (.struct #[f0, f1, f2, f3, f4])) (hone : oneCellFields P #[f0, f1, f2, f3, f4] = true) (hC : P.cellsOf t = 5)
    (hv : Value.okWide P w r b0 t v) (h : DataW.Trod enc P w base spare held t v d p) :
    ∃ (v0 v1 v2 v3 v4 : Value) (y0 y1 y2 y3 y4 : DataW H × List MemPlace) (n : Nat), v = .agg #[v0, v1, v2, v3, v4] ∧
      DataW.trod enc P w base spare held n f0.type [v0] = some y0 ∧ DataW.trod enc P w base spare held n f1.type [v1] = some y1 ∧ DataW.trod enc P w base spare held n f2.type [v2] = some y2 ∧ DataW.trod enc P w base spare held n f3.type [v3] = some y3 ∧ DataW.trod enc P w base spare held n f4.type [v4] = some y4 := by
  obtain ⟨cs, rfl, hsz⟩ := okWide_struct hs hv
  obtain ⟨c0, c1, c2, c3, c4, rfl⟩ := array5 (hsz.trans hC)
  obtain ⟨fuel, hf⟩ := h
  obtain ⟨ys, n, _, hx, hl, hlen, hf⟩ := DataW.trod_struct hs hf
  obtain ⟨o0, k0⟩ := hone_of hone 0 f0 rfl
  obtain ⟨o1, k1⟩ := hone_of hone 1 f1 rfl
  obtain ⟨o2, k2⟩ := hone_of hone 2 f2 rfl
  obtain ⟨o3, k3⟩ := hone_of hone 3 f3 rfl
  obtain ⟨o4, k4⟩ := hone_of hone 4 f4 rfl
  match ys, hlen with
  | [y0, y1, y2, y3, y4], _ =>
    have e0 := hf 0 f0 rfl
    have e1 := hf 1 f1 rfl
    have e2 := hf 2 f2 rfl
    have e3 := hf 3 f3 rfl
    have e4 := hf 4 f4 rfl
    exact ⟨c0, c1, c2, c3, c4, y0, y1, y2, y3, y4, n, rfl, by simpa [Value.cells, o0, k0] using e0, by simpa [Value.cells, o1, k1] using e1, by simpa [Value.cells, o2, k2] using e2, by simpa [Value.cells, o3, k3] using e3, by simpa [Value.cells, o4, k4] using e4⟩
theorem sector_of {H : Type} {enc : TypeId × Value → H} {w : World} {r : Reach} {b0 : Nat} {v : Value} {d : DataW H} {p : List MemPlace} (hv : Value.okWide Try.prog w r b0 43 v) (h : DataW.Trod enc Try.prog w 0 (fun _ => true) true 43 v d p) :
    ∃ (x : Sec.X) (A : Option Addr) (c : Nat), v = .agg #[.int .i64 x.kind, .int .u64 (x.life.toNat : Int), .int .i64 x.seq, .int .u64 (x.gen.toNat : Int), .slice A x.body.length c] ∧ Rd w w.heap.size A (x.body.map e8) ∧ x.body.length ≤ c ∧ c ≤ maxLen := by
  obtain ⟨v0, v1, v2, v3, v4, y0, y1, y2, y3, y4, n, rfl, t0, t1, t2, t3, t4⟩ := open_agg5 Try.underlying43 (by kernel_rfl) (by kernel_rfl) hv h
  obtain ⟨k, e0, _, wk⟩ := DataW.trod_int Try.underlying3 t0
  obtain ⟨u1, e1, _, w1⟩ := DataW.trod_int Try.underlying22 t1
  obtain ⟨s, e2, _, ws⟩ := DataW.trod_int Try.underlying3 t2
  obtain ⟨u3, e3, _, w3⟩ := DataW.trod_int Try.underlying22 t3
  obtain ⟨A4, l4, c4, e4, r4, q4, m4⟩ := bytes_of1 Try.underlying23 Try.underlying5 (by kernel_rfl) t4
  simp only [List.cons.injEq, and_true] at e0 e1 e2 e3
  subst e0 e1 e2 e3 e4
  obtain ⟨u1', rfl⟩ := wf64 w1
  obtain ⟨u3', rfl⟩ := wf64 w3
  exact ⟨⟨k, u1', s, u3', l4⟩, A4, c4, rfl, r4, q4, m4⟩
end Go.Proofs.Ytkapamolligmkaa
