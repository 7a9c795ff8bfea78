/- Texts of this claim, joined: SecSym3, SecBackPlain, Sec10, Both, Geom, Geom2, Geom3, Geom4, Sup1, Sup2, Open, OpenRows, Snap1, Snap2, Snap3. -/
import Derived.Test.YtchcmklelmlbgaaGreatStoreNilsC
import Derived.Deep.RegionHeld3
import Derived.Test.YtchcmklelmlbgaaGreatStoreNilsB
import Derived.Test.YtchcmklelmlbgaaGreatStoreNilsA
import Derived.Test.YtchcmklelmlbgaaGreatRows
import Derived.Outline
import Derived.Deep.RegionWith
import Derived.WalkMore
import Derived.ProofKit
import Derived.OpenShut
import Derived.ShutString
import Derived.ChangeOld
import Derived.Lib.SmallJoins
import Derived.Deep.Slices
import Derived.Deep.Fields
import Derived.ChangeSame
/- The suite of terms: Sum, Check. -/
namespace Go.Proofs.YtchcmklelmlbgaaGreat.Sec
open Go.RowKit
open Go.Proofs.YtchcmklelmlbgaaGreat.Num (putL getN)
set_option linter.unusedVariables false
set_option maxRecDepth 100000
/-- the sum of a text by those that were summed, and those behind it -/
def sumOf (l : List (List UInt8)) (T : List UInt8) : List UInt8 := mark (if T ∈ l then l.idxOf T else l.length)
def sumAfter (l : List (List UInt8)) (T : List UInt8) : List (List UInt8) := if T ∈ l then l else l ++ [T]
def checkOf (l : List (List UInt8)) (T s : List UInt8) : Bool := decide (T ∈ l) && R1.sameB (mark (l.idxOf T)) s
theorem rd_grown {w w' : World} {A : Option Addr} {xs : List Value} {r : Option Nat} (h : Rd w w.heap.size A xs) (g : w.grownBy w' r) (hb : ∀ a, A = some a → r ≠ some a.block) : Rd w' w'.heap.size A xs := by
  intro hne
  obtain ⟨b, off, rfl, hl, hc⟩ := h hne
  exact ⟨b, off, rfl, Nat.lt_of_lt_of_le hl g.size, fun i hi => (World.cell?_of_block (g.block b hl (fun e => hb _ rfl e.symm))).trans (hc i hi)⟩
set_option maxHeartbeats 1000000 in
theorem sum_sym (w : World) (g b : Nat) (l : List (List UInt8)) (h : SymAt w g b l) (A : Option Addr) (T : List UInt8) (n c : Nat) (hn : n = T.length) (hr : Rd w w.heap.size A (T.map e8)) (hAb : ∀ a, A = some a → some b ≠ some a.block) (hT : T.length ≤ 1000000) (hl : l.length ≤ 1000000) :
    Calls Tryz.prog 124 #[.pointer (some ⟨g, 0, none⟩), .slice A n c] w fun e w' => ∃ A2 c2, e = .returned (.slice A2 8 c2) ∧ w'.ownsRow w.heap.size 5 1 (.slice A2 8 c2) 8 ((sumOf l T).map e8) ∧ Keep [b] w w' ∧ SymAt w' g b (sumAfter l T) := by
  subst hn
  have hgb := h.ne
  have hblt := h.lt.2
  have hN := Lib.hid (sNone_sym w g b l h)
  have hRe := Lib.hid (sReal_sym w g b l h)
  obtain ⟨⟨k, hblk⟩, hsums⟩ := h
  obtain ⟨c0, c1, c2⟩ := three hblk
  have hcv := run_conv_rd (P := Tryz.prog) 51 9 5 T.length c rfl Tryz.underlying51 Tryz.underlying5 Tryz.underlying9 (hr.on ((Below.refl w.heap.size w).drew))
  obtain ⟨v, hlk, hv⟩ := (hsums.on ((Below.refl w.heap.size w).drew)).look T hT
  by_cases hm : T ∈ l
  · have hvv := hv hm
    have hd := decide_eq_true hm
    rw [hd, hvv] at hlk
    have hso := Lib.hid (show sumOf l T = mark (l.idxOf T) by unfold sumOf; rw [if_pos hm])
    have hsa := Lib.hid (show sumAfter l T = l by unfold sumAfter; rw [if_pos hm])
    have hil : l.idxOf T ≤ 1000000 := Nat.le_trans List.idxOf_le_length hl
    have hM := Lib.hid (mark_any (l.idxOf T) w.drew hil)
    have HS := Lib.hid (show SymAt w.drew g b l from ⟨⟨k, hblk⟩, hsums.on ((Below.refl w.heap.size w).drew)⟩)
    clear hd hv hvv hm hsums hr
    obtain ⟨q, hq⟩ : ∃ q, q = l.idxOf T := ⟨_, rfl⟩
    rw [← hq] at hlk hso hM hil
    clear hq
    go_enter Tryz.func124, Tryz.ntmps124
    go_wp2_with fail
    refine hN.out.mono ?_
    rintro e w1 ⟨rfl, rfl⟩
    go_wp2_with fail
    refine hRe.out.mono ?_
    rintro e w1 ⟨rfl, rfl⟩
    go_wp2_with fail
    refine wp_region_held_drew (S := (fun w' => w'.cell? ⟨g, 1, none⟩ = some (.map (some b)) ∧ (convert 51 9 (.slice A T.length c)).run Tryz.prog w' = .ok (.string ⟨T.toArray⟩) w' ∧ (Instr.lookup 81 (.map (some b)) (.string ⟨T.toArray⟩) true).run Tryz.prog w' = .ok (.tuple #[.int .i64 (q : Int), .bool true]) w')) (by kernel_rfl) (by exact ⟨c1, hcv, hlk⟩) (fun hHeld => ?_)
    refine wpAnyH_take (i := 0) (oi := { dst := some 16, op := Op.move (Operand.tmp 0), type := 33, pos := "suite.go:197", after := #[], guard := none }) (v := ?_) rfl (by kernel_rfl) (by kernel_rfl) (by kernel_rfl) (fun _ _ _ h => h) (Or.inl ⟨by rfl, ?_⟩) (by assumption) ?_; rotate_left; · ((intro w hSw; (try dsimp only at hSw); go_simp) <;> with_reducible rfl)
    try simp only [Act.put, List.setIfInBounds_toArray, List.set_cons_zero, List.set_cons_succ]
    refine wpAnyH_take (i := 1) (oi := { dst := some 17, op := Op.nilCheck (Operand.tmp 16), type := 0, pos := "suite.go:197", after := #[{ on := 0, ground := Ground.data }], guard := none }) (v := ?_) rfl (by kernel_rfl) (by kernel_rfl) (by kernel_rfl) (fun _ _ _ h => h) (Or.inl ⟨by rfl, ?_⟩) (by assumption) ?_; rotate_left; · ((intro w hSw; (try dsimp only at hSw); go_simp) <;> with_reducible rfl)
    try simp only [Act.put, List.setIfInBounds_toArray, List.set_cons_zero, List.set_cons_succ]
    refine wpAnyH_take (i := 2) (oi := { dst := some 18, op := Op.fieldAddr 86 (Operand.tmp 17) 0, type := 0, pos := "suite.go:197", after := #[{ on := 1, ground := Ground.data }], guard := none }) (v := ?_) rfl (by kernel_rfl) (by kernel_rfl) (by kernel_rfl) (fun _ _ _ h => h) (Or.inl ⟨by rfl, ?_⟩) (by assumption) ?_; rotate_left; · ((intro w hSw; (try dsimp only at hSw); go_simp) <;> with_reducible rfl)
    try simp only [Act.put, List.setIfInBounds_toArray, List.set_cons_zero, List.set_cons_succ]
    refine wpAnyH_take (i := 3) (oi := { dst := some 19, op := Op.fieldAddr 83 (Operand.tmp 18) 1, type := 0, pos := "suite.go:197", after := #[{ on := 2, ground := Ground.data }], guard := none }) (v := ?_) rfl (by kernel_rfl) (by kernel_rfl) (by kernel_rfl) (fun _ _ _ h => h) (Or.inl ⟨by rfl, ?_⟩) (by assumption) ?_; rotate_left; · ((intro w hSw; (try dsimp only at hSw); go_simp) <;> with_reducible rfl)
    try simp only [Act.put, List.setIfInBounds_toArray, List.set_cons_zero, List.set_cons_succ]
    refine wpAnyH_take (i := 4) (oi := { dst := some 20, op := Op.load 81 (Operand.tmp 19), type := 81, pos := "suite.go:197", after := #[{ on := 3, ground := Ground.data }], guard := none }) (v := ?_) rfl (by kernel_rfl) (by kernel_rfl) (by kernel_rfl) (fun _ _ _ h => h) (Or.inl ⟨by rfl, ?_⟩) (by assumption) ?_; rotate_left; · ((intro w hSw; (try dsimp only at hSw); go_simp) <;> with_reducible rfl)
    try simp only [Act.put, List.setIfInBounds_toArray, List.set_cons_zero, List.set_cons_succ]
    refine wpAnyH_take (i := 5) (oi := { dst := some 21, op := Op.move (Operand.tmp 1), type := 51, pos := "suite.go:197", after := #[], guard := none }) (v := ?_) rfl (by kernel_rfl) (by kernel_rfl) (by kernel_rfl) (fun _ _ _ h => h) (Or.inl ⟨by rfl, ?_⟩) (by assumption) ?_; rotate_left; · ((intro w hSw; (try dsimp only at hSw); go_simp) <;> with_reducible rfl)
    try simp only [Act.put, List.setIfInBounds_toArray, List.set_cons_zero, List.set_cons_succ]
    refine wpAnyH_take (i := 6) (oi := { dst := some 22, op := Op.convert 51 9 (Operand.tmp 21), type := 9, pos := "suite.go:197", after := #[{ on := 5, ground := Ground.data }], guard := none }) (v := ?_) rfl (by kernel_rfl) (by kernel_rfl) (by kernel_rfl) (fun _ _ _ h => h) (Or.inl ⟨by rfl, ?_⟩) (by assumption) ?_; rotate_left; · ((intro w hSw; (try dsimp only at hSw); go_simp) <;> with_reducible rfl)
    try simp only [Act.put, List.setIfInBounds_toArray, List.set_cons_zero, List.set_cons_succ]
    refine wpAnyH_take (i := 7) (oi := { dst := some 23, op := Op.lookup 81 (Operand.tmp 20) (Operand.tmp 22) true, type := 202, pos := "suite.go:197", after := #[{ on := 4, ground := Ground.data }, { on := 6, ground := Ground.data }], guard := none }) (v := ?_) rfl (by kernel_rfl) (by kernel_rfl) (by kernel_rfl) (fun _ _ _ h => h) (Or.inl ⟨by rfl, ?_⟩) (by assumption) ?_; rotate_left; · ((intro w hSw; (try dsimp only at hSw); go_simp) <;> with_reducible rfl)
    try simp only [Act.put, List.setIfInBounds_toArray, List.set_cons_zero, List.set_cons_succ]
    refine wpAnyH_take (i := 8) (oi := { dst := some 15, op := Op.move (Operand.tmp 23), type := 202, pos := "suite.go:197", after := #[{ on := 7, ground := Ground.data }], guard := none }) (v := ?_) rfl (by kernel_rfl) (by kernel_rfl) (by kernel_rfl) (fun _ _ _ h => h) (Or.inl ⟨by rfl, ?_⟩) (by assumption) ?_; rotate_left; · ((intro w hSw; (try dsimp only at hSw); go_simp) <;> with_reducible rfl)
    try simp only [Act.put, List.setIfInBounds_toArray, List.set_cons_zero, List.set_cons_succ]
    refine wpAnyH_take (i := 9) (oi := { dst := some 24, op := Op.extract (Operand.tmp 15) 0, type := 3, pos := "suite.go:197", after := #[{ on := 8, ground := Ground.data }], guard := none }) (v := ?_) rfl (by kernel_rfl) (by kernel_rfl) (by kernel_rfl) (fun _ _ _ h => h) (Or.inl ⟨by rfl, ?_⟩) (by assumption) ?_; rotate_left; · ((intro w hSw; (try dsimp only at hSw); go_simp) <;> with_reducible rfl)
    try simp only [Act.put, List.setIfInBounds_toArray, List.set_cons_zero, List.set_cons_succ]
    refine wpAnyH_take (i := 10) (oi := { dst := some 25, op := Op.extract (Operand.tmp 15) 1, type := 4, pos := "suite.go:197", after := #[{ on := 8, ground := Ground.data }, { on := 11, ground := Ground.gcOnly Go.Departure.lateStores }], guard := none }) (v := ?_) rfl (by kernel_rfl) (by kernel_rfl) (by kernel_rfl) (fun _ _ _ h => h) (Or.inl ⟨by rfl, ?_⟩) (by assumption) ?_; rotate_left; · ((intro w hSw; (try dsimp only at hSw); go_simp) <;> with_reducible rfl)
    try simp only [Act.put, List.setIfInBounds_toArray, List.set_cons_zero, List.set_cons_succ]
    refine wpAnyH_take (i := 11) (oi := { dst := some 5, op := Op.assign (Operand.tmp 24), type := 3, pos := "suite.go:197", after := #[{ on := 9, ground := Ground.data }, { on := 0, ground := Ground.phase }, { on := 1, ground := Ground.phase }, { on := 2, ground := Ground.phase }, { on := 3, ground := Ground.phase }, { on := 4, ground := Ground.phase }, { on := 5, ground := Ground.phase }, { on := 6, ground := Ground.phase }, { on := 7, ground := Ground.phase }, { on := 8, ground := Ground.phase }, { on := 9, ground := Ground.phase }, { on := 10, ground := Ground.textOnly Go.Departure.lateStores }], guard := none }) (v := ?_) rfl (by kernel_rfl) (by kernel_rfl) (by kernel_rfl) (fun _ _ _ h => h) (Or.inl ⟨by rfl, ?_⟩) (by assumption) ?_; rotate_left; · ((intro w hSw; (try dsimp only at hSw); go_simp) <;> with_reducible rfl)
    try simp only [Act.put, List.setIfInBounds_toArray, List.set_cons_zero, List.set_cons_succ]
    refine wpAnyH_take (i := 12) (oi := { dst := some 6, op := Op.assign (Operand.tmp 25), type := 4, pos := "suite.go:197", after := #[{ on := 10, ground := Ground.data }, { on := 11, ground := Ground.chain }, { on := 0, ground := Ground.phase }, { on := 1, ground := Ground.phase }, { on := 2, ground := Ground.phase }, { on := 3, ground := Ground.phase }, { on := 4, ground := Ground.phase }, { on := 5, ground := Ground.phase }, { on := 6, ground := Ground.phase }, { on := 7, ground := Ground.phase }, { on := 8, ground := Ground.phase }, { on := 9, ground := Ground.phase }, { on := 10, ground := Ground.phase }, { on := 11, ground := Ground.phase }], guard := none }) (v := ?_) rfl (by kernel_rfl) (by kernel_rfl) (by kernel_rfl) (fun _ _ _ h => h) (Or.inl ⟨by rfl, ?_⟩) (by assumption) ?_; rotate_left; · ((intro w hSw; (try dsimp only at hSw); go_simp) <;> with_reducible rfl)
    try simp only [Act.put, List.setIfInBounds_toArray, List.set_cons_zero, List.set_cons_succ]
    refine wpAnyH_done (by kernel_rfl) ?_ _
    go_wp2_with fail
    refine hM.out.mono ?_
    rintro e w2 ⟨A2, d2, rfl, own2, b2⟩
    rw [mark_len]
    rw [mark_len] at own2
    go_wp2
    go_ret
    rw [hso.out, hsa.out]
    exact ⟨A2, d2, rfl, own2, (Keep.of_below b2 [b]), HS.out.on b2⟩
  · have hd : decide (T ∈ l) = false := decide_eq_false hm
    rw [hd] at hlk
    have hso := Lib.hid (show sumOf l T = mark l.length by unfold sumOf; rw [if_neg hm])
    have hsa := Lib.hid (show sumAfter l T = l ++ [T] by unfold sumAfter; rw [if_neg hm])
    have hdd : Below w.heap.size w w.drew.drew := ((Below.refl w.heap.size w).drew).drew
    have hlen := fun ty => (hsums.on ((Below.refl w.heap.size w).drew)).len ty
    obtain ⟨w3, hup, hs3, hg3⟩ := (hsums.on hdd).put T hT hm hl
    have hg3' : w.grownBy w3 (some b) := ⟨hg3.os, hg3.tape, hg3.output, hg3.size, hg3.block⟩
    have hcv2 := run_conv_rd (P := Tryz.prog) 51 9 5 T.length c rfl Tryz.underlying51 Tryz.underlying5 Tryz.underlying9 (hr.on hdd)
    have hcv3 := run_conv_rd (P := Tryz.prog) 51 9 5 T.length c rfl Tryz.underlying51 Tryz.underlying5 Tryz.underlying9 (rd_grown hr hg3' hAb)
    have hblk3 := (hg3'.block g (lt_of_block hblk) (fun e => hgb (by injection e))).trans hblk
    obtain ⟨e0, e1, e2⟩ := three hblk3
    have hM := Lib.hid (mark_any l.length w3 hl)
    have HS := Lib.hid (show SymAt w3 g b (l ++ [T]) from ⟨⟨k, hblk3⟩, hs3⟩)
    have hG := Lib.hid hg3'
    clear hd hv hm hsums hr hs3 hblk3 hg3 hg3' hdd
    obtain ⟨m, hm⟩ : ∃ q, q = l.length := ⟨_, rfl⟩
    rw [← hm] at hso hM hl hup
    simp only [← hm] at hlen
    clear hm
    go_enter Tryz.func124, Tryz.ntmps124
    go_wp2_with fail
    refine hN.out.mono ?_
    rintro e w1 ⟨rfl, rfl⟩
    go_wp2_with fail
    refine hRe.out.mono ?_
    rintro e w1 ⟨rfl, rfl⟩
    go_wp2_with fail
    refine wp_region_held_drew (S := (fun w' => w'.cell? ⟨g, 1, none⟩ = some (.map (some b)) ∧ (convert 51 9 (.slice A T.length c)).run Tryz.prog w' = .ok (.string ⟨T.toArray⟩) w' ∧ (Instr.lookup 81 (.map (some b)) (.string ⟨T.toArray⟩) true).run Tryz.prog w' = .ok (.tuple #[.int .i64 v, .bool false]) w')) (by kernel_rfl) (by exact ⟨c1, hcv, hlk⟩) (fun hHeld => ?_)
    refine wpAnyH_take (i := 0) (oi := { dst := some 16, op := Op.move (Operand.tmp 0), type := 33, pos := "suite.go:197", after := #[], guard := none }) (v := ?_) rfl (by kernel_rfl) (by kernel_rfl) (by kernel_rfl) (fun _ _ _ h => h) (Or.inl ⟨by rfl, ?_⟩) (by assumption) ?_; rotate_left; · ((intro w hSw; (try dsimp only at hSw); go_simp) <;> with_reducible rfl)
    try simp only [Act.put, List.setIfInBounds_toArray, List.set_cons_zero, List.set_cons_succ]
    refine wpAnyH_take (i := 1) (oi := { dst := some 17, op := Op.nilCheck (Operand.tmp 16), type := 0, pos := "suite.go:197", after := #[{ on := 0, ground := Ground.data }], guard := none }) (v := ?_) rfl (by kernel_rfl) (by kernel_rfl) (by kernel_rfl) (fun _ _ _ h => h) (Or.inl ⟨by rfl, ?_⟩) (by assumption) ?_; rotate_left; · ((intro w hSw; (try dsimp only at hSw); go_simp) <;> with_reducible rfl)
    try simp only [Act.put, List.setIfInBounds_toArray, List.set_cons_zero, List.set_cons_succ]
    refine wpAnyH_take (i := 2) (oi := { dst := some 18, op := Op.fieldAddr 86 (Operand.tmp 17) 0, type := 0, pos := "suite.go:197", after := #[{ on := 1, ground := Ground.data }], guard := none }) (v := ?_) rfl (by kernel_rfl) (by kernel_rfl) (by kernel_rfl) (fun _ _ _ h => h) (Or.inl ⟨by rfl, ?_⟩) (by assumption) ?_; rotate_left; · ((intro w hSw; (try dsimp only at hSw); go_simp) <;> with_reducible rfl)
    try simp only [Act.put, List.setIfInBounds_toArray, List.set_cons_zero, List.set_cons_succ]
    refine wpAnyH_take (i := 3) (oi := { dst := some 19, op := Op.fieldAddr 83 (Operand.tmp 18) 1, type := 0, pos := "suite.go:197", after := #[{ on := 2, ground := Ground.data }], guard := none }) (v := ?_) rfl (by kernel_rfl) (by kernel_rfl) (by kernel_rfl) (fun _ _ _ h => h) (Or.inl ⟨by rfl, ?_⟩) (by assumption) ?_; rotate_left; · ((intro w hSw; (try dsimp only at hSw); go_simp) <;> with_reducible rfl)
    try simp only [Act.put, List.setIfInBounds_toArray, List.set_cons_zero, List.set_cons_succ]
    refine wpAnyH_take (i := 4) (oi := { dst := some 20, op := Op.load 81 (Operand.tmp 19), type := 81, pos := "suite.go:197", after := #[{ on := 3, ground := Ground.data }], guard := none }) (v := ?_) rfl (by kernel_rfl) (by kernel_rfl) (by kernel_rfl) (fun _ _ _ h => h) (Or.inl ⟨by rfl, ?_⟩) (by assumption) ?_; rotate_left; · ((intro w hSw; (try dsimp only at hSw); go_simp) <;> with_reducible rfl)
    try simp only [Act.put, List.setIfInBounds_toArray, List.set_cons_zero, List.set_cons_succ]
    refine wpAnyH_take (i := 5) (oi := { dst := some 21, op := Op.move (Operand.tmp 1), type := 51, pos := "suite.go:197", after := #[], guard := none }) (v := ?_) rfl (by kernel_rfl) (by kernel_rfl) (by kernel_rfl) (fun _ _ _ h => h) (Or.inl ⟨by rfl, ?_⟩) (by assumption) ?_; rotate_left; · ((intro w hSw; (try dsimp only at hSw); go_simp) <;> with_reducible rfl)
    try simp only [Act.put, List.setIfInBounds_toArray, List.set_cons_zero, List.set_cons_succ]
    refine wpAnyH_take (i := 6) (oi := { dst := some 22, op := Op.convert 51 9 (Operand.tmp 21), type := 9, pos := "suite.go:197", after := #[{ on := 5, ground := Ground.data }], guard := none }) (v := ?_) rfl (by kernel_rfl) (by kernel_rfl) (by kernel_rfl) (fun _ _ _ h => h) (Or.inl ⟨by rfl, ?_⟩) (by assumption) ?_; rotate_left; · ((intro w hSw; (try dsimp only at hSw); go_simp) <;> with_reducible rfl)
    try simp only [Act.put, List.setIfInBounds_toArray, List.set_cons_zero, List.set_cons_succ]
    refine wpAnyH_take (i := 7) (oi := { dst := some 23, op := Op.lookup 81 (Operand.tmp 20) (Operand.tmp 22) true, type := 202, pos := "suite.go:197", after := #[{ on := 4, ground := Ground.data }, { on := 6, ground := Ground.data }], guard := none }) (v := ?_) rfl (by kernel_rfl) (by kernel_rfl) (by kernel_rfl) (fun _ _ _ h => h) (Or.inl ⟨by rfl, ?_⟩) (by assumption) ?_; rotate_left; · ((intro w hSw; (try dsimp only at hSw); go_simp) <;> with_reducible rfl)
    try simp only [Act.put, List.setIfInBounds_toArray, List.set_cons_zero, List.set_cons_succ]
    refine wpAnyH_take (i := 8) (oi := { dst := some 15, op := Op.move (Operand.tmp 23), type := 202, pos := "suite.go:197", after := #[{ on := 7, ground := Ground.data }], guard := none }) (v := ?_) rfl (by kernel_rfl) (by kernel_rfl) (by kernel_rfl) (fun _ _ _ h => h) (Or.inl ⟨by rfl, ?_⟩) (by assumption) ?_; rotate_left; · ((intro w hSw; (try dsimp only at hSw); go_simp) <;> with_reducible rfl)
    try simp only [Act.put, List.setIfInBounds_toArray, List.set_cons_zero, List.set_cons_succ]
    refine wpAnyH_take (i := 9) (oi := { dst := some 24, op := Op.extract (Operand.tmp 15) 0, type := 3, pos := "suite.go:197", after := #[{ on := 8, ground := Ground.data }], guard := none }) (v := ?_) rfl (by kernel_rfl) (by kernel_rfl) (by kernel_rfl) (fun _ _ _ h => h) (Or.inl ⟨by rfl, ?_⟩) (by assumption) ?_; rotate_left; · ((intro w hSw; (try dsimp only at hSw); go_simp) <;> with_reducible rfl)
    try simp only [Act.put, List.setIfInBounds_toArray, List.set_cons_zero, List.set_cons_succ]
    refine wpAnyH_take (i := 10) (oi := { dst := some 25, op := Op.extract (Operand.tmp 15) 1, type := 4, pos := "suite.go:197", after := #[{ on := 8, ground := Ground.data }, { on := 11, ground := Ground.gcOnly Go.Departure.lateStores }], guard := none }) (v := ?_) rfl (by kernel_rfl) (by kernel_rfl) (by kernel_rfl) (fun _ _ _ h => h) (Or.inl ⟨by rfl, ?_⟩) (by assumption) ?_; rotate_left; · ((intro w hSw; (try dsimp only at hSw); go_simp) <;> with_reducible rfl)
    try simp only [Act.put, List.setIfInBounds_toArray, List.set_cons_zero, List.set_cons_succ]
    refine wpAnyH_take (i := 11) (oi := { dst := some 5, op := Op.assign (Operand.tmp 24), type := 3, pos := "suite.go:197", after := #[{ on := 9, ground := Ground.data }, { on := 0, ground := Ground.phase }, { on := 1, ground := Ground.phase }, { on := 2, ground := Ground.phase }, { on := 3, ground := Ground.phase }, { on := 4, ground := Ground.phase }, { on := 5, ground := Ground.phase }, { on := 6, ground := Ground.phase }, { on := 7, ground := Ground.phase }, { on := 8, ground := Ground.phase }, { on := 9, ground := Ground.phase }, { on := 10, ground := Ground.textOnly Go.Departure.lateStores }], guard := none }) (v := ?_) rfl (by kernel_rfl) (by kernel_rfl) (by kernel_rfl) (fun _ _ _ h => h) (Or.inl ⟨by rfl, ?_⟩) (by assumption) ?_; rotate_left; · ((intro w hSw; (try dsimp only at hSw); go_simp) <;> with_reducible rfl)
    try simp only [Act.put, List.setIfInBounds_toArray, List.set_cons_zero, List.set_cons_succ]
    refine wpAnyH_take (i := 12) (oi := { dst := some 6, op := Op.assign (Operand.tmp 25), type := 4, pos := "suite.go:197", after := #[{ on := 10, ground := Ground.data }, { on := 11, ground := Ground.chain }, { on := 0, ground := Ground.phase }, { on := 1, ground := Ground.phase }, { on := 2, ground := Ground.phase }, { on := 3, ground := Ground.phase }, { on := 4, ground := Ground.phase }, { on := 5, ground := Ground.phase }, { on := 6, ground := Ground.phase }, { on := 7, ground := Ground.phase }, { on := 8, ground := Ground.phase }, { on := 9, ground := Ground.phase }, { on := 10, ground := Ground.phase }, { on := 11, ground := Ground.phase }], guard := none }) (v := ?_) rfl (by kernel_rfl) (by kernel_rfl) (by kernel_rfl) (fun _ _ _ h => h) (Or.inl ⟨by rfl, ?_⟩) (by assumption) ?_; rotate_left; · ((intro w hSw; (try dsimp only at hSw); go_simp) <;> with_reducible rfl)
    try simp only [Act.put, List.setIfInBounds_toArray, List.set_cons_zero, List.set_cons_succ]
    refine wpAnyH_done (by kernel_rfl) ?_ _
    go_wp2_with fail
    refine wp_region_held_drew (S := (fun w' => w'.cell? ⟨g, 1, none⟩ = some (.map (some b)) ∧ (convert 51 9 (.slice A T.length c)).run Tryz.prog w' = .ok (.string ⟨T.toArray⟩) w')) (by kernel_rfl) (by exact ⟨c1, hcv2⟩) (fun hHeld => ?_)
    refine wpAnyH_take (i := 0) (oi := { dst := some 34, op := Op.move (Operand.tmp 0), type := 33, pos := "suite.go:200", after := #[], guard := none }) (v := ?_) rfl (by kernel_rfl) (by kernel_rfl) (by kernel_rfl) (fun _ _ _ h => h) (Or.inl ⟨by rfl, ?_⟩) (by assumption) ?_; rotate_left; · ((intro w hSw; (try dsimp only at hSw); go_simp) <;> with_reducible rfl)
    try simp only [Act.put, List.setIfInBounds_toArray, List.set_cons_zero, List.set_cons_succ]
    refine wpAnyH_take (i := 1) (oi := { dst := some 35, op := Op.nilCheck (Operand.tmp 34), type := 0, pos := "suite.go:200", after := #[{ on := 0, ground := Ground.data }], guard := none }) (v := ?_) rfl (by kernel_rfl) (by kernel_rfl) (by kernel_rfl) (fun _ _ _ h => h) (Or.inl ⟨by rfl, ?_⟩) (by assumption) ?_; rotate_left; · ((intro w hSw; (try dsimp only at hSw); go_simp) <;> with_reducible rfl)
    try simp only [Act.put, List.setIfInBounds_toArray, List.set_cons_zero, List.set_cons_succ]
    refine wpAnyH_take (i := 2) (oi := { dst := some 36, op := Op.fieldAddr 86 (Operand.tmp 35) 0, type := 0, pos := "suite.go:200", after := #[{ on := 1, ground := Ground.data }], guard := none }) (v := ?_) rfl (by kernel_rfl) (by kernel_rfl) (by kernel_rfl) (fun _ _ _ h => h) (Or.inl ⟨by rfl, ?_⟩) (by assumption) ?_; rotate_left; · ((intro w hSw; (try dsimp only at hSw); go_simp) <;> with_reducible rfl)
    try simp only [Act.put, List.setIfInBounds_toArray, List.set_cons_zero, List.set_cons_succ]
    refine wpAnyH_take (i := 3) (oi := { dst := some 37, op := Op.fieldAddr 83 (Operand.tmp 36) 1, type := 0, pos := "suite.go:200", after := #[{ on := 2, ground := Ground.data }], guard := none }) (v := ?_) rfl (by kernel_rfl) (by kernel_rfl) (by kernel_rfl) (fun _ _ _ h => h) (Or.inl ⟨by rfl, ?_⟩) (by assumption) ?_; rotate_left; · ((intro w hSw; (try dsimp only at hSw); go_simp) <;> with_reducible rfl)
    try simp only [Act.put, List.setIfInBounds_toArray, List.set_cons_zero, List.set_cons_succ]
    refine wpAnyH_take (i := 4) (oi := { dst := some 38, op := Op.load 81 (Operand.tmp 37), type := 81, pos := "suite.go:200", after := #[{ on := 3, ground := Ground.data }], guard := none }) (v := ?_) rfl (by kernel_rfl) (by kernel_rfl) (by kernel_rfl) (fun _ _ _ h => h) (Or.inl ⟨by rfl, ?_⟩) (by assumption) ?_; rotate_left; · ((intro w hSw; (try dsimp only at hSw); go_simp) <;> with_reducible rfl)
    try simp only [Act.put, List.setIfInBounds_toArray, List.set_cons_zero, List.set_cons_succ]
    refine wpAnyH_take (i := 5) (oi := { dst := some 39, op := Op.move (Operand.tmp 1), type := 51, pos := "suite.go:200", after := #[], guard := none }) (v := ?_) rfl (by kernel_rfl) (by kernel_rfl) (by kernel_rfl) (fun _ _ _ h => h) (Or.inl ⟨by rfl, ?_⟩) (by assumption) ?_; rotate_left; · ((intro w hSw; (try dsimp only at hSw); go_simp) <;> with_reducible rfl)
    try simp only [Act.put, List.setIfInBounds_toArray, List.set_cons_zero, List.set_cons_succ]
    refine wpAnyH_take (i := 6) (oi := { dst := some 40, op := Op.convert 51 9 (Operand.tmp 39), type := 9, pos := "suite.go:200", after := #[{ on := 5, ground := Ground.data }], guard := none }) (v := ?_) rfl (by kernel_rfl) (by kernel_rfl) (by kernel_rfl) (fun _ _ _ h => h) (Or.inl ⟨by rfl, ?_⟩) (by assumption) ?_; rotate_left; · ((intro w hSw; (try dsimp only at hSw); go_simp) <;> with_reducible rfl)
    try simp only [Act.put, List.setIfInBounds_toArray, List.set_cons_zero, List.set_cons_succ]
    refine wpAnyH_take (i := 7) (oi := { dst := some 41, op := Op.move (Operand.tmp 5), type := 3, pos := "suite.go:200", after := #[], guard := none }) (v := ?_) rfl (by kernel_rfl) (by kernel_rfl) (by kernel_rfl) (fun _ _ _ h => h) (Or.inl ⟨by rfl, ?_⟩) (by assumption) ?_; rotate_left; · ((intro w hSw; (try dsimp only at hSw); go_simp) <;> with_reducible rfl)
    try simp only [Act.put, List.setIfInBounds_toArray, List.set_cons_zero, List.set_cons_succ]
    refine wpAnyH_ready (rs := [8]) (by kernel_rfl) (by simp) ?_
    refine AllReadyH.cons (o := { dst := none, op := Op.mapUpdate 81 (Operand.tmp 38) (Operand.tmp 40) (Operand.tmp 41), type := 0, pos := "suite.go:200", after := #[{ on := 4, ground := Ground.data }, { on := 6, ground := Ground.data }, { on := 7, ground := Ground.data }, { on := 0, ground := Ground.phase }, { on := 1, ground := Ground.phase }, { on := 2, ground := Ground.phase }, { on := 3, ground := Ground.phase }, { on := 4, ground := Ground.phase }, { on := 5, ground := Ground.phase }, { on := 6, ground := Ground.phase }, { on := 7, ground := Ground.phase }], guard := none }) rfl (fun K hK => ?_) AllReadyH.nil
    go_simp; skip; (try (go_wp2_with fail)); refine hK.out _ _ (by first | exact ⟨e1, hcv3⟩ | ((try dsimp only); exact ⟨e1, hcv3⟩)) (fun hHeld => ?_)
    clear hK K
    try simp only [Act.put, List.setIfInBounds_toArray, List.set_cons_zero, List.set_cons_succ]
    refine wpAnyH_done (by kernel_rfl) ?_ _
    go_wp2_with fail
    refine hM.out.mono ?_
    rintro e w4 ⟨A2, d2, rfl, own2, b2⟩
    rw [mark_len]
    rw [mark_len] at own2
    go_wp2
    go_ret
    rw [hso.out, hsa.out]
    exact ⟨A2, d2, rfl, own_base own2 hG.out.size, (Keep.of_grown hG.out (fun g hg => by injection hg with hg; simp [hg])).trans (Keep.of_below b2 [b]) (Fresh.refl _ _), HS.out.on b2⟩
set_option maxHeartbeats 1000000 in
theorem check_sym (w : World) (g b : Nat) (l : List (List UInt8)) (h : SymAt w g b l) (A B : Option Addr) (T s : List UInt8) (n c o d : Nat) (hn : n = T.length) (ho : o = s.length) (hr : Rd w w.heap.size A (T.map e8)) (hs : Rd w w.heap.size B (s.map e8)) (hT : T.length ≤ 1000000) (hl : l.length ≤ 1000000) :
    Calls Tryz.prog 129 #[.pointer (some ⟨g, 0, none⟩), .slice A n c, .slice B o d] w fun e w' => e = .returned (.bool (checkOf l T s)) ∧ Below w.heap.size w w' := by
  subst hn ho
  have hN := Lib.hid (sNone_sym w g b l h)
  have hRe := Lib.hid (sReal_sym w g b l h)
  obtain ⟨⟨k, hblk⟩, hsums⟩ := h
  obtain ⟨c0, c1, c2⟩ := three hblk
  have hbd : Below w.heap.size w w.drew := (Below.refl w.heap.size w).drew
  have hcv := run_conv_rd (P := Tryz.prog) 51 9 5 T.length c rfl Tryz.underlying51 Tryz.underlying5 Tryz.underlying9 (hr.on hbd)
  obtain ⟨v, hlk, hv⟩ := (hsums.on hbd).look T hT
  obtain ⟨is, his⟩ : ∃ x, x = decide (T ∈ l) := ⟨_, rfl⟩
  rw [← his] at hlk
  have Hs := Lib.hid (hs.on hbd)
  clear hsums hr hs
  cases is with
  | true =>
    have hm : T ∈ l := of_decide_eq_true his.symm
    have hvv := hv hm
    rw [hvv] at hlk
    have hso := Lib.hid (show checkOf l T s = R1.sameB (mark (l.idxOf T)) s by unfold checkOf; rw [decide_eq_true hm, Bool.true_and])
    have hil : l.idxOf T ≤ 1000000 := Nat.le_trans List.idxOf_le_length hl
    have hM := Lib.hid (mark_any (l.idxOf T) w.drew hil)
    clear his hv hvv hm
    obtain ⟨q, hq⟩ : ∃ q, q = l.idxOf T := ⟨_, rfl⟩
    rw [← hq] at hlk hso hM hil
    clear hq
    go_enter Tryz.func129, Tryz.ntmps129
    go_wp2_with fail
    refine hN.out.mono ?_
    rintro e w1 ⟨rfl, rfl⟩
    go_wp2_with fail
    refine hRe.out.mono ?_
    rintro e w1 ⟨rfl, rfl⟩
    go_wp2_with fail
    refine wp_region_held_drew (S := (fun w' => w'.cell? ⟨g, 1, none⟩ = some (.map (some b)) ∧ (convert 51 9 (.slice A T.length c)).run Tryz.prog w' = .ok (.string ⟨T.toArray⟩) w' ∧ (Instr.lookup 81 (.map (some b)) (.string ⟨T.toArray⟩) true).run Tryz.prog w' = .ok (.tuple #[.int .i64 (q : Int), .bool true]) w')) (by kernel_rfl) (by exact ⟨c1, hcv, hlk⟩) (fun hHeld => ?_)
    refine wpAnyH_take (i := 0) (oi := { dst := some 20, op := Op.move (Operand.tmp 0), type := 33, pos := "suite.go:215", after := #[], guard := none }) (v := ?_) rfl (by kernel_rfl) (by kernel_rfl) (by kernel_rfl) (fun _ _ _ h => h) (Or.inl ⟨by rfl, ?_⟩) (by assumption) ?_; rotate_left; · ((intro w hSw; (try dsimp only at hSw); go_simp) <;> with_reducible rfl)
    try simp only [Act.put, List.setIfInBounds_toArray, List.set_cons_zero, List.set_cons_succ]
    refine wpAnyH_take (i := 1) (oi := { dst := some 21, op := Op.nilCheck (Operand.tmp 20), type := 0, pos := "suite.go:215", after := #[{ on := 0, ground := Ground.data }], guard := none }) (v := ?_) rfl (by kernel_rfl) (by kernel_rfl) (by kernel_rfl) (fun _ _ _ h => h) (Or.inl ⟨by rfl, ?_⟩) (by assumption) ?_; rotate_left; · ((intro w hSw; (try dsimp only at hSw); go_simp) <;> with_reducible rfl)
    try simp only [Act.put, List.setIfInBounds_toArray, List.set_cons_zero, List.set_cons_succ]
    refine wpAnyH_take (i := 2) (oi := { dst := some 22, op := Op.fieldAddr 86 (Operand.tmp 21) 0, type := 0, pos := "suite.go:215", after := #[{ on := 1, ground := Ground.data }], guard := none }) (v := ?_) rfl (by kernel_rfl) (by kernel_rfl) (by kernel_rfl) (fun _ _ _ h => h) (Or.inl ⟨by rfl, ?_⟩) (by assumption) ?_; rotate_left; · ((intro w hSw; (try dsimp only at hSw); go_simp) <;> with_reducible rfl)
    try simp only [Act.put, List.setIfInBounds_toArray, List.set_cons_zero, List.set_cons_succ]
    refine wpAnyH_take (i := 3) (oi := { dst := some 23, op := Op.fieldAddr 83 (Operand.tmp 22) 1, type := 0, pos := "suite.go:215", after := #[{ on := 2, ground := Ground.data }], guard := none }) (v := ?_) rfl (by kernel_rfl) (by kernel_rfl) (by kernel_rfl) (fun _ _ _ h => h) (Or.inl ⟨by rfl, ?_⟩) (by assumption) ?_; rotate_left; · ((intro w hSw; (try dsimp only at hSw); go_simp) <;> with_reducible rfl)
    try simp only [Act.put, List.setIfInBounds_toArray, List.set_cons_zero, List.set_cons_succ]
    refine wpAnyH_take (i := 4) (oi := { dst := some 24, op := Op.load 81 (Operand.tmp 23), type := 81, pos := "suite.go:215", after := #[{ on := 3, ground := Ground.data }], guard := none }) (v := ?_) rfl (by kernel_rfl) (by kernel_rfl) (by kernel_rfl) (fun _ _ _ h => h) (Or.inl ⟨by rfl, ?_⟩) (by assumption) ?_; rotate_left; · ((intro w hSw; (try dsimp only at hSw); go_simp) <;> with_reducible rfl)
    try simp only [Act.put, List.setIfInBounds_toArray, List.set_cons_zero, List.set_cons_succ]
    refine wpAnyH_take (i := 5) (oi := { dst := some 25, op := Op.move (Operand.tmp 1), type := 51, pos := "suite.go:215", after := #[], guard := none }) (v := ?_) rfl (by kernel_rfl) (by kernel_rfl) (by kernel_rfl) (fun _ _ _ h => h) (Or.inl ⟨by rfl, ?_⟩) (by assumption) ?_; rotate_left; · ((intro w hSw; (try dsimp only at hSw); go_simp) <;> with_reducible rfl)
    try simp only [Act.put, List.setIfInBounds_toArray, List.set_cons_zero, List.set_cons_succ]
    refine wpAnyH_take (i := 6) (oi := { dst := some 26, op := Op.convert 51 9 (Operand.tmp 25), type := 9, pos := "suite.go:215", after := #[{ on := 5, ground := Ground.data }], guard := none }) (v := ?_) rfl (by kernel_rfl) (by kernel_rfl) (by kernel_rfl) (fun _ _ _ h => h) (Or.inl ⟨by rfl, ?_⟩) (by assumption) ?_; rotate_left; · ((intro w hSw; (try dsimp only at hSw); go_simp) <;> with_reducible rfl)
    try simp only [Act.put, List.setIfInBounds_toArray, List.set_cons_zero, List.set_cons_succ]
    refine wpAnyH_take (i := 7) (oi := { dst := some 27, op := Op.lookup 81 (Operand.tmp 24) (Operand.tmp 26) true, type := 202, pos := "suite.go:215", after := #[{ on := 4, ground := Ground.data }, { on := 6, ground := Ground.data }], guard := none }) (v := ?_) rfl (by kernel_rfl) (by kernel_rfl) (by kernel_rfl) (fun _ _ _ h => h) (Or.inl ⟨by rfl, ?_⟩) (by assumption) ?_; rotate_left; · ((intro w hSw; (try dsimp only at hSw); go_simp) <;> with_reducible rfl)
    try simp only [Act.put, List.setIfInBounds_toArray, List.set_cons_zero, List.set_cons_succ]
    refine wpAnyH_take (i := 8) (oi := { dst := some 19, op := Op.move (Operand.tmp 27), type := 202, pos := "suite.go:215", after := #[{ on := 7, ground := Ground.data }], guard := none }) (v := ?_) rfl (by kernel_rfl) (by kernel_rfl) (by kernel_rfl) (fun _ _ _ h => h) (Or.inl ⟨by rfl, ?_⟩) (by assumption) ?_; rotate_left; · ((intro w hSw; (try dsimp only at hSw); go_simp) <;> with_reducible rfl)
    try simp only [Act.put, List.setIfInBounds_toArray, List.set_cons_zero, List.set_cons_succ]
    refine wpAnyH_take (i := 9) (oi := { dst := some 28, op := Op.extract (Operand.tmp 19) 0, type := 3, pos := "suite.go:215", after := #[{ on := 8, ground := Ground.data }], guard := none }) (v := ?_) rfl (by kernel_rfl) (by kernel_rfl) (by kernel_rfl) (fun _ _ _ h => h) (Or.inl ⟨by rfl, ?_⟩) (by assumption) ?_; rotate_left; · ((intro w hSw; (try dsimp only at hSw); go_simp) <;> with_reducible rfl)
    try simp only [Act.put, List.setIfInBounds_toArray, List.set_cons_zero, List.set_cons_succ]
    refine wpAnyH_take (i := 10) (oi := { dst := some 29, op := Op.extract (Operand.tmp 19) 1, type := 4, pos := "suite.go:215", after := #[{ on := 8, ground := Ground.data }, { on := 11, ground := Ground.gcOnly Go.Departure.lateStores }], guard := none }) (v := ?_) rfl (by kernel_rfl) (by kernel_rfl) (by kernel_rfl) (fun _ _ _ h => h) (Or.inl ⟨by rfl, ?_⟩) (by assumption) ?_; rotate_left; · ((intro w hSw; (try dsimp only at hSw); go_simp) <;> with_reducible rfl)
    try simp only [Act.put, List.setIfInBounds_toArray, List.set_cons_zero, List.set_cons_succ]
    refine wpAnyH_take (i := 11) (oi := { dst := some 7, op := Op.assign (Operand.tmp 28), type := 3, pos := "suite.go:215", after := #[{ on := 9, ground := Ground.data }, { on := 0, ground := Ground.phase }, { on := 1, ground := Ground.phase }, { on := 2, ground := Ground.phase }, { on := 3, ground := Ground.phase }, { on := 4, ground := Ground.phase }, { on := 5, ground := Ground.phase }, { on := 6, ground := Ground.phase }, { on := 7, ground := Ground.phase }, { on := 8, ground := Ground.phase }, { on := 9, ground := Ground.phase }, { on := 10, ground := Ground.textOnly Go.Departure.lateStores }], guard := none }) (v := ?_) rfl (by kernel_rfl) (by kernel_rfl) (by kernel_rfl) (fun _ _ _ h => h) (Or.inl ⟨by rfl, ?_⟩) (by assumption) ?_; rotate_left; · ((intro w hSw; (try dsimp only at hSw); go_simp) <;> with_reducible rfl)
    try simp only [Act.put, List.setIfInBounds_toArray, List.set_cons_zero, List.set_cons_succ]
    refine wpAnyH_take (i := 12) (oi := { dst := some 8, op := Op.assign (Operand.tmp 29), type := 4, pos := "suite.go:215", after := #[{ on := 10, ground := Ground.data }, { on := 11, ground := Ground.chain }, { on := 0, ground := Ground.phase }, { on := 1, ground := Ground.phase }, { on := 2, ground := Ground.phase }, { on := 3, ground := Ground.phase }, { on := 4, ground := Ground.phase }, { on := 5, ground := Ground.phase }, { on := 6, ground := Ground.phase }, { on := 7, ground := Ground.phase }, { on := 8, ground := Ground.phase }, { on := 9, ground := Ground.phase }, { on := 10, ground := Ground.phase }, { on := 11, ground := Ground.phase }], guard := none }) (v := ?_) rfl (by kernel_rfl) (by kernel_rfl) (by kernel_rfl) (fun _ _ _ h => h) (Or.inl ⟨by rfl, ?_⟩) (by assumption) ?_; rotate_left; · ((intro w hSw; (try dsimp only at hSw); go_simp) <;> with_reducible rfl)
    try simp only [Act.put, List.setIfInBounds_toArray, List.set_cons_zero, List.set_cons_succ]
    refine wpAnyH_done (by kernel_rfl) ?_ _
    go_wp2_with fail
    refine hM.out.mono ?_
    rintro e w2 ⟨A2, d2, rfl, own2, b2⟩
    go_wp2_with fail
    refine (nsame_any A2 B (mark q) s _ _ d2 d w2 rfl rfl (Rd.own own2) (Hs.out.on b2)).mono ?_
    rintro e w3 ⟨rfl, rfl⟩
    go_wp2
    go_ret
    rw [hso.out]
    exact ⟨rfl, ⟨b2.os, b2.tape, b2.output, b2.size, b2.block⟩⟩
  | false =>
    have hm : T ∉ l := of_decide_eq_false his.symm
    have hso := Lib.hid (show checkOf l T s = false by unfold checkOf; rw [decide_eq_false hm, Bool.false_and])
    clear his hv hm
    go_enter Tryz.func129, Tryz.ntmps129
    go_wp2_with fail
    refine hN.out.mono ?_
    rintro e w1 ⟨rfl, rfl⟩
    go_wp2_with fail
    refine hRe.out.mono ?_
    rintro e w1 ⟨rfl, rfl⟩
    go_wp2_with fail
    refine wp_region_held_drew (S := (fun w' => w'.cell? ⟨g, 1, none⟩ = some (.map (some b)) ∧ (convert 51 9 (.slice A T.length c)).run Tryz.prog w' = .ok (.string ⟨T.toArray⟩) w' ∧ (Instr.lookup 81 (.map (some b)) (.string ⟨T.toArray⟩) true).run Tryz.prog w' = .ok (.tuple #[.int .i64 v, .bool false]) w')) (by kernel_rfl) (by exact ⟨c1, hcv, hlk⟩) (fun hHeld => ?_)
    refine wpAnyH_take (i := 0) (oi := { dst := some 20, op := Op.move (Operand.tmp 0), type := 33, pos := "suite.go:215", after := #[], guard := none }) (v := ?_) rfl (by kernel_rfl) (by kernel_rfl) (by kernel_rfl) (fun _ _ _ h => h) (Or.inl ⟨by rfl, ?_⟩) (by assumption) ?_; rotate_left; · ((intro w hSw; (try dsimp only at hSw); go_simp) <;> with_reducible rfl)
    try simp only [Act.put, List.setIfInBounds_toArray, List.set_cons_zero, List.set_cons_succ]
    refine wpAnyH_take (i := 1) (oi := { dst := some 21, op := Op.nilCheck (Operand.tmp 20), type := 0, pos := "suite.go:215", after := #[{ on := 0, ground := Ground.data }], guard := none }) (v := ?_) rfl (by kernel_rfl) (by kernel_rfl) (by kernel_rfl) (fun _ _ _ h => h) (Or.inl ⟨by rfl, ?_⟩) (by assumption) ?_; rotate_left; · ((intro w hSw; (try dsimp only at hSw); go_simp) <;> with_reducible rfl)
    try simp only [Act.put, List.setIfInBounds_toArray, List.set_cons_zero, List.set_cons_succ]
    refine wpAnyH_take (i := 2) (oi := { dst := some 22, op := Op.fieldAddr 86 (Operand.tmp 21) 0, type := 0, pos := "suite.go:215", after := #[{ on := 1, ground := Ground.data }], guard := none }) (v := ?_) rfl (by kernel_rfl) (by kernel_rfl) (by kernel_rfl) (fun _ _ _ h => h) (Or.inl ⟨by rfl, ?_⟩) (by assumption) ?_; rotate_left; · ((intro w hSw; (try dsimp only at hSw); go_simp) <;> with_reducible rfl)
    try simp only [Act.put, List.setIfInBounds_toArray, List.set_cons_zero, List.set_cons_succ]
    refine wpAnyH_take (i := 3) (oi := { dst := some 23, op := Op.fieldAddr 83 (Operand.tmp 22) 1, type := 0, pos := "suite.go:215", after := #[{ on := 2, ground := Ground.data }], guard := none }) (v := ?_) rfl (by kernel_rfl) (by kernel_rfl) (by kernel_rfl) (fun _ _ _ h => h) (Or.inl ⟨by rfl, ?_⟩) (by assumption) ?_; rotate_left; · ((intro w hSw; (try dsimp only at hSw); go_simp) <;> with_reducible rfl)
    try simp only [Act.put, List.setIfInBounds_toArray, List.set_cons_zero, List.set_cons_succ]
    refine wpAnyH_take (i := 4) (oi := { dst := some 24, op := Op.load 81 (Operand.tmp 23), type := 81, pos := "suite.go:215", after := #[{ on := 3, ground := Ground.data }], guard := none }) (v := ?_) rfl (by kernel_rfl) (by kernel_rfl) (by kernel_rfl) (fun _ _ _ h => h) (Or.inl ⟨by rfl, ?_⟩) (by assumption) ?_; rotate_left; · ((intro w hSw; (try dsimp only at hSw); go_simp) <;> with_reducible rfl)
    try simp only [Act.put, List.setIfInBounds_toArray, List.set_cons_zero, List.set_cons_succ]
    refine wpAnyH_take (i := 5) (oi := { dst := some 25, op := Op.move (Operand.tmp 1), type := 51, pos := "suite.go:215", after := #[], guard := none }) (v := ?_) rfl (by kernel_rfl) (by kernel_rfl) (by kernel_rfl) (fun _ _ _ h => h) (Or.inl ⟨by rfl, ?_⟩) (by assumption) ?_; rotate_left; · ((intro w hSw; (try dsimp only at hSw); go_simp) <;> with_reducible rfl)
    try simp only [Act.put, List.setIfInBounds_toArray, List.set_cons_zero, List.set_cons_succ]
    refine wpAnyH_take (i := 6) (oi := { dst := some 26, op := Op.convert 51 9 (Operand.tmp 25), type := 9, pos := "suite.go:215", after := #[{ on := 5, ground := Ground.data }], guard := none }) (v := ?_) rfl (by kernel_rfl) (by kernel_rfl) (by kernel_rfl) (fun _ _ _ h => h) (Or.inl ⟨by rfl, ?_⟩) (by assumption) ?_; rotate_left; · ((intro w hSw; (try dsimp only at hSw); go_simp) <;> with_reducible rfl)
    try simp only [Act.put, List.setIfInBounds_toArray, List.set_cons_zero, List.set_cons_succ]
    refine wpAnyH_take (i := 7) (oi := { dst := some 27, op := Op.lookup 81 (Operand.tmp 24) (Operand.tmp 26) true, type := 202, pos := "suite.go:215", after := #[{ on := 4, ground := Ground.data }, { on := 6, ground := Ground.data }], guard := none }) (v := ?_) rfl (by kernel_rfl) (by kernel_rfl) (by kernel_rfl) (fun _ _ _ h => h) (Or.inl ⟨by rfl, ?_⟩) (by assumption) ?_; rotate_left; · ((intro w hSw; (try dsimp only at hSw); go_simp) <;> with_reducible rfl)
    try simp only [Act.put, List.setIfInBounds_toArray, List.set_cons_zero, List.set_cons_succ]
    refine wpAnyH_take (i := 8) (oi := { dst := some 19, op := Op.move (Operand.tmp 27), type := 202, pos := "suite.go:215", after := #[{ on := 7, ground := Ground.data }], guard := none }) (v := ?_) rfl (by kernel_rfl) (by kernel_rfl) (by kernel_rfl) (fun _ _ _ h => h) (Or.inl ⟨by rfl, ?_⟩) (by assumption) ?_; rotate_left; · ((intro w hSw; (try dsimp only at hSw); go_simp) <;> with_reducible rfl)
    try simp only [Act.put, List.setIfInBounds_toArray, List.set_cons_zero, List.set_cons_succ]
    refine wpAnyH_take (i := 9) (oi := { dst := some 28, op := Op.extract (Operand.tmp 19) 0, type := 3, pos := "suite.go:215", after := #[{ on := 8, ground := Ground.data }], guard := none }) (v := ?_) rfl (by kernel_rfl) (by kernel_rfl) (by kernel_rfl) (fun _ _ _ h => h) (Or.inl ⟨by rfl, ?_⟩) (by assumption) ?_; rotate_left; · ((intro w hSw; (try dsimp only at hSw); go_simp) <;> with_reducible rfl)
    try simp only [Act.put, List.setIfInBounds_toArray, List.set_cons_zero, List.set_cons_succ]
    refine wpAnyH_take (i := 10) (oi := { dst := some 29, op := Op.extract (Operand.tmp 19) 1, type := 4, pos := "suite.go:215", after := #[{ on := 8, ground := Ground.data }, { on := 11, ground := Ground.gcOnly Go.Departure.lateStores }], guard := none }) (v := ?_) rfl (by kernel_rfl) (by kernel_rfl) (by kernel_rfl) (fun _ _ _ h => h) (Or.inl ⟨by rfl, ?_⟩) (by assumption) ?_; rotate_left; · ((intro w hSw; (try dsimp only at hSw); go_simp) <;> with_reducible rfl)
    try simp only [Act.put, List.setIfInBounds_toArray, List.set_cons_zero, List.set_cons_succ]
    refine wpAnyH_take (i := 11) (oi := { dst := some 7, op := Op.assign (Operand.tmp 28), type := 3, pos := "suite.go:215", after := #[{ on := 9, ground := Ground.data }, { on := 0, ground := Ground.phase }, { on := 1, ground := Ground.phase }, { on := 2, ground := Ground.phase }, { on := 3, ground := Ground.phase }, { on := 4, ground := Ground.phase }, { on := 5, ground := Ground.phase }, { on := 6, ground := Ground.phase }, { on := 7, ground := Ground.phase }, { on := 8, ground := Ground.phase }, { on := 9, ground := Ground.phase }, { on := 10, ground := Ground.textOnly Go.Departure.lateStores }], guard := none }) (v := ?_) rfl (by kernel_rfl) (by kernel_rfl) (by kernel_rfl) (fun _ _ _ h => h) (Or.inl ⟨by rfl, ?_⟩) (by assumption) ?_; rotate_left; · ((intro w hSw; (try dsimp only at hSw); go_simp) <;> with_reducible rfl)
    try simp only [Act.put, List.setIfInBounds_toArray, List.set_cons_zero, List.set_cons_succ]
    refine wpAnyH_take (i := 12) (oi := { dst := some 8, op := Op.assign (Operand.tmp 29), type := 4, pos := "suite.go:215", after := #[{ on := 10, ground := Ground.data }, { on := 11, ground := Ground.chain }, { on := 0, ground := Ground.phase }, { on := 1, ground := Ground.phase }, { on := 2, ground := Ground.phase }, { on := 3, ground := Ground.phase }, { on := 4, ground := Ground.phase }, { on := 5, ground := Ground.phase }, { on := 6, ground := Ground.phase }, { on := 7, ground := Ground.phase }, { on := 8, ground := Ground.phase }, { on := 9, ground := Ground.phase }, { on := 10, ground := Ground.phase }, { on := 11, ground := Ground.phase }], guard := none }) (v := ?_) rfl (by kernel_rfl) (by kernel_rfl) (by kernel_rfl) (fun _ _ _ h => h) (Or.inl ⟨by rfl, ?_⟩) (by assumption) ?_; rotate_left; · ((intro w hSw; (try dsimp only at hSw); go_simp) <;> with_reducible rfl)
    try simp only [Act.put, List.setIfInBounds_toArray, List.set_cons_zero, List.set_cons_succ]
    refine wpAnyH_done (by kernel_rfl) ?_ _
    go_wp2
    go_ret
    rw [hso.out]
    exact ⟨rfl, hbd⟩
end Go.Proofs.YtchcmklelmlbgaaGreat.Sec

/- What is written of a sector is read as it was, at its place alone: plain. -/
namespace Go.Proofs.YtchcmklelmlbgaaGreat.Sec
open Go.RowKit
open Go.Proofs.YtchcmklelmlbgaaGreat.Num (putL getN putL_len getN_putL)
open Go.Proofs.YtchcmklelmlbgaaGreat.Mac (padTo)
set_option linter.unusedVariables false
theorem padTo_eq {l : List UInt8} {n : Nat} (h : l.length ≤ n) : padTo l n = l ++ List.replicate (n - l.length) 0 := by unfold padTo; rw [List.take_of_length_le h]
theorem text_form {p : Int} {x : X} (h : rightF p x = 0) : text p x = head p x ++ (x.body ++ List.replicate (479 - x.body.length) 0) := by
  have hb := (right_of h).2.2.2.2.2.2
  unfold text
  rw [padTo_eq (by rw [List.length_append, head_len]; omega), List.append_assoc, List.length_append, head_len, show 504 - (25 + x.body.length) = 479 - x.body.length by omega]
theorem cut_app (a b : List UInt8) (i n : Nat) (h : i + n ≤ a.length) : cut (a ++ b) i n = cut a i n := by
  unfold cut
  rw [List.drop_append_of_le_length (by omega), List.take_append_of_le_length (by rw [List.length_drop]; omega)]
theorem cut_mid (a b c : List UInt8) (i n : Nat) (hi : i = a.length) (hn : n = b.length) : cut (a ++ (b ++ c)) i n = b := by
  subst hi hn
  unfold cut
  rw [List.drop_left, List.take_left]
theorem of_text {p : Int} {x : X} (h : rightF p x = 0) : lenB (text p x) = x.body.length ∧ ofB (text p x) = x := by
  obtain ⟨h1, h2, h3, h4, h5, h6, h7⟩ := right_of h
  have hl : lenB (text p x) = x.body.length := by
    unfold lenB
    rw [text_form h, cut_app _ _ _ _ (by rw [head_len]; decide)]
    unfold head
    rw [show putL x.kind.toNat 1 ++ putL p.toNat 2 ++ putL x.life.toNat 8 ++ putL x.seq.toNat 4 ++ putL x.gen.toNat 8 ++ putL x.body.length 2 = (putL x.kind.toNat 1 ++ putL p.toNat 2 ++ putL x.life.toNat 8 ++ putL x.seq.toNat 4 ++ putL x.gen.toNat 8) ++ (putL x.body.length 2 ++ []) by simp]
    rw [cut_mid _ _ _ _ _ (by simp [putL_len]) (by simp [putL_len]), getN_putL]
    exact Nat.mod_eq_of_lt (by simp only [Nat.reducePow]; omega)
  refine ⟨hl, ?_⟩
  have f0 : cut (text p x) 0 1 = putL x.kind.toNat 1 := by
    rw [text_form h, cut_app _ _ _ _ (by rw [head_len]; omega)]
    unfold head
    rw [show putL x.kind.toNat 1 ++ putL p.toNat 2 ++ putL x.life.toNat 8 ++ putL x.seq.toNat 4 ++ putL x.gen.toNat 8 ++ putL x.body.length 2 = [] ++ (putL x.kind.toNat 1 ++ (putL p.toNat 2 ++ putL x.life.toNat 8 ++ putL x.seq.toNat 4 ++ putL x.gen.toNat 8 ++ putL x.body.length 2)) by simp]
    rw [cut_mid [] _ _ 0 1 rfl (by simp [putL_len])]
  have f3 : cut (text p x) 3 8 = putL x.life.toNat 8 := by
    rw [text_form h, cut_app _ _ _ _ (by rw [head_len]; omega)]
    unfold head
    rw [show putL x.kind.toNat 1 ++ putL p.toNat 2 ++ putL x.life.toNat 8 ++ putL x.seq.toNat 4 ++ putL x.gen.toNat 8 ++ putL x.body.length 2 = (putL x.kind.toNat 1 ++ putL p.toNat 2) ++ (putL x.life.toNat 8 ++ (putL x.seq.toNat 4 ++ putL x.gen.toNat 8 ++ putL x.body.length 2)) by simp]
    rw [cut_mid _ _ _ _ _ (by simp [putL_len]) (by simp [putL_len])]
  have f11 : cut (text p x) 11 4 = putL x.seq.toNat 4 := by
    rw [text_form h, cut_app _ _ _ _ (by rw [head_len]; omega)]
    unfold head
    rw [show putL x.kind.toNat 1 ++ putL p.toNat 2 ++ putL x.life.toNat 8 ++ putL x.seq.toNat 4 ++ putL x.gen.toNat 8 ++ putL x.body.length 2 = (putL x.kind.toNat 1 ++ putL p.toNat 2 ++ putL x.life.toNat 8) ++ (putL x.seq.toNat 4 ++ (putL x.gen.toNat 8 ++ putL x.body.length 2)) by simp]
    rw [cut_mid _ _ _ _ _ (by simp [putL_len]) (by simp [putL_len])]
  have f15 : cut (text p x) 15 8 = putL x.gen.toNat 8 := by
    rw [text_form h, cut_app _ _ _ _ (by rw [head_len]; omega)]
    unfold head
    rw [show putL x.kind.toNat 1 ++ putL p.toNat 2 ++ putL x.life.toNat 8 ++ putL x.seq.toNat 4 ++ putL x.gen.toNat 8 ++ putL x.body.length 2 = (putL x.kind.toNat 1 ++ putL p.toNat 2 ++ putL x.life.toNat 8 ++ putL x.seq.toNat 4) ++ (putL x.gen.toNat 8 ++ putL x.body.length 2) by simp]
    rw [cut_mid _ _ _ _ _ (by simp [putL_len]) (by simp [putL_len])]
  have fb : cut (text p x) 25 x.body.length = x.body := by
    rw [text_form h, cut_mid _ _ _ _ _ (by rw [head_len]) rfl]
  have e8 : (256 : Nat) ^ 8 = 18446744073709551616 := rfl
  unfold ofB
  rw [hl, f0, f3, f11, f15, fb, getN_putL, getN_putL, getN_putL, getN_putL]
  have hk : ((x.kind.toNat % 256 ^ 1 : Nat) : Int) = x.kind := by simp only [Nat.pow_one]; omega
  have hs : ((x.seq.toNat % 256 ^ 4 : Nat) : Int) = x.seq := by simp only [Nat.reducePow]; omega
  have hl8 : UInt64.ofNat (x.life.toNat % 256 ^ 8) = x.life := by rw [e8, Nat.mod_eq_of_lt x.life.toNat_lt]; simp
  have hg8 : UInt64.ofNat (x.gen.toNat % 256 ^ 8) = x.gen := by rw [e8, Nat.mod_eq_of_lt x.gen.toNat_lt]; simp
  rw [hk, hs, hl8, hg8]
theorem reads_text {p : Int} {x : X} (h : rightF p x = 0) : reads p (text p x) = some x := by
  obtain ⟨h1, h2⟩ := of_text h
  have hb := (right_of h).2.2.2.2.2.2
  have := reads_yes (p := p) (b := text p x) (by omega) (by rw [h2]; exact h) (by rw [h2])
  rw [h2] at this; exact this
theorem place_of {p q : Int} {x : X} (h : rightF p x = 0) (h' : rightF q x = 0) (he : text q x = text p x) : q = p := by
  have key : ∀ r, rightF r x = 0 → cut (text r x) 1 2 = putL r.toNat 2 := fun r hr => by
    rw [text_form hr, cut_app _ _ _ _ (by rw [head_len]; omega)]
    unfold head
    rw [show putL x.kind.toNat 1 ++ putL r.toNat 2 ++ putL x.life.toNat 8 ++ putL x.seq.toNat 4 ++ putL x.gen.toNat 8 ++ putL x.body.length 2 = (putL x.kind.toNat 1) ++ (putL r.toNat 2 ++ (putL x.life.toNat 8 ++ putL x.seq.toNat 4 ++ putL x.gen.toNat 8 ++ putL x.body.length 2)) by simp]
    rw [cut_mid _ _ _ _ _ (by simp [putL_len]) (by simp [putL_len])]
  have h3 := key p h
  have h4 := key q h'
  rw [he, h3] at h4
  have h5 := congrArg getN h4
  rw [getN_putL, getN_putL] at h5
  have := right_of h
  have := right_of h'
  simp only [Nat.reducePow] at h5
  omega
theorem reads_else {p q : Int} {x : X} (h : rightF p x = 0) (hq : q ≠ p) : reads q (text p x) = none := by
  obtain ⟨h1, h2⟩ := of_text h
  by_cases hr : rightF q x = 0
  · exact reads_un (by rw [h2]; intro e; exact hq (place_of h hr e))
  · exact reads_bad (by rw [h2]; exact hr)
theorem text_blank {p : Int} {x : X} (h : rightF p x = 0) (s : List UInt8) : ¬ blankB (text p x ++ s) = true := by
  intro hb
  have hb : text p x ++ s = zero512 := of_decide_eq_true hb
  have h1 := right_of h
  have e1 : cut (text p x ++ s) 0 1 = putL x.kind.toNat 1 := by
    rw [cut_app _ _ _ _ (by rw [text_len]; omega), text_form h, cut_app _ _ _ _ (by rw [head_len]; omega)]
    unfold head
    rw [show putL x.kind.toNat 1 ++ putL p.toNat 2 ++ putL x.life.toNat 8 ++ putL x.seq.toNat 4 ++ putL x.gen.toNat 8 ++ putL x.body.length 2 = [] ++ (putL x.kind.toNat 1 ++ (putL p.toNat 2 ++ putL x.life.toNat 8 ++ putL x.seq.toNat 4 ++ putL x.gen.toNat 8 ++ putL x.body.length 2)) by simp]
    rw [cut_mid [] _ _ 0 1 rfl (by simp [putL_len])]
  rw [hb] at e1
  have h5 := congrArg getN e1
  rw [getN_putL] at h5
  have h6 : getN (cut zero512 0 1) = 0 := by decide +kernel
  rw [h6] at h5
  simp only [Nat.pow_one] at h5
  omega
/-- read as it was written -/
theorem dec_back {p : Int} {x : X} (h : rightF p x = 0) (s : List UInt8) (hs : s.length = 8) : decode true p (text p x ++ s) = (x, 0) :=
  dec_yes (by rw [List.length_append, text_len, hs]) (text_blank h s) (by rw [List.take_left' (text_len p x)]; exact reads_text h)
theorem dec_else {p q : Int} {x : X} (h : rightF p x = 0) (hq : q ≠ p) (ck : Bool) (s : List UInt8) (hs : s.length = 8) : decode ck q (text p x ++ s) = (X0, 11) :=
  dec_none (by rw [List.length_append, text_len, hs]) (text_blank h s) (by rw [List.take_left' (text_len p x)]; exact reads_else h hq)
theorem dec_fault {ck : Bool} {p : Int} {b : List UInt8} (h : ck = false) : (decode ck p b).2 ≠ 0 := by
  subst h
  unfold decode
  split
  · decide
  · split
    · decide
    · split <;> simp
/-- what was not written is not right by terms -/
theorem check_else {b T : List UInt8} (hb : b.length = 512) (hT : T.length = 504) (hne : b ≠ T ++ mark 0) : checkOf [T] (b.take 504) (b.drop 504) = false := by
  unfold checkOf
  by_cases h : b.take 504 = T
  · have h2 : b.drop 504 ≠ mark 0 := fun e => hne (by rw [← h, ← e, List.take_append_drop])
    rw [h]
    simp [R1.sameB]
    exact fun e => h2 e.symm
  · simp [h]
theorem check_own (T : List UInt8) : checkOf [T] T (mark 0) = true := by simp [checkOf, R1.sameB]
theorem sumOf_nil (T : List UInt8) : sumOf [] T = mark 0 := by simp [sumOf]
theorem sumAfter_nil (T : List UInt8) : sumAfter [] T = [T] := by simp [sumAfter]
end Go.Proofs.YtchcmklelmlbgaaGreat.Sec

/- Encode and Decode by terms. -/
namespace Go.Proofs.YtchcmklelmlbgaaGreat.Sec
open Go.RowKit
open Go.Proofs.YtchcmklelmlbgaaGreat.Num (putL getN)
set_option linter.unusedVariables false
set_option maxRecDepth 100000
/-- is the sum of 512 bytes right, by terms? -/
def ckS (l : List (List UInt8)) (b : List UInt8) : Bool := checkOf l (b.take 504) (b.drop 504)
theorem decode_sym (p : Int) (g bS : Nat) (l : List (List UInt8)) (A : Option Addr) (b : List UInt8) (n c : Nat) (w : World) (hg : SymAt w g bS l) (hl1 : l.length ≤ 1000000) (hp0 : -9223372036854775808 ≤ p) (hp1 : p ≤ 9223372036854775807) (hn : n = b.length) (hr : Rd w w.heap.size A (b.map e8)) (hl : b.length ≤ 100000) (hc : n ≤ c) (hcm : c ≤ maxLen) :
    Calls Tryz.prog 112 #[.pointer (some ⟨g, 0, none⟩), .int .i64 p, .slice A n c] w fun e w' => RetX (decode (ckS l b) p b).1 (.int .i64 (decode (ckS l b) p b).2) w e w' ∧ Below w.heap.size w w' :=
  decode_gen p g (ckS l b) A b n c w hp0 hp1 hn hr hl hc hcm fun h5 W bW A1 A2 c1 c2 r1 r2 =>
    check_sym W g bS l (hg.on bW) A1 A2 (b.take 504) (b.drop 504) 504 c1 8 c2 (by rw [List.length_take]; omega) (by rw [List.length_drop]; omega) r1 r2 (by rw [List.length_take]; omega) hl1
theorem sumOf_len (l : List (List UInt8)) (T : List UInt8) : (sumOf l T).length = 8 := mark_len _
theorem encode_sym (p : Int) (g bS : Nat) (l : List (List UInt8)) (x : X) (A : Option Addr) (c : Nat) (w : World) (hg : SymAt w g bS l) (hl1 : l.length ≤ 1000000) (hr : Rd w w.heap.size A (x.body.map e8)) (h : rightF p x = 0) :
    Calls Tryz.prog 105 #[.pointer (some ⟨g, 0, none⟩), .int .i64 p, .agg #[.int .i64 x.kind, .int .u64 (x.life.toNat : Int), .int .i64 x.seq, .int .u64 (x.gen.toNat : Int), .slice A x.body.length c]] w fun e w' =>
      ∃ A' c', e = .returned (.tuple #[.slice A' 512 c', .int .i64 0]) ∧ w'.ownsRow w.heap.size 5 1 (.slice A' 512 c') 512 ((text p x ++ sumOf l (text p x)).map e8) ∧ Keep [bS] w w' ∧ SymAt w' g bS (sumAfter l (text p x)) := by
  have hlt := hg.lt
  refine encode_gen p g x A c w hr h (sumOf l (text p x)) (sumOf_len _ _) [bS] (fun j hj => by rw [List.mem_singleton] at hj; subst hj; exact hlt.2) (fun W => SymAt W g bS (sumAfter l (text p x))) (fun W W' r hW hgr hrr => hW.grown hgr (fun e => by have := hrr _ e.symm; omega) (fun e => by have := hrr _ e.symm; omega)) ?_
  intro W bW A1 c1 r1 ha
  refine (sum_sym W g bS l (hg.on bW) A1 (text p x) 504 c1 (text_len _ _).symm r1 (fun a he e => by have := ha a he; injection e with e; omega) (by rw [text_len]; omega) hl1).mono ?_
  rintro e W' ⟨A2, c2, he, own2, k2, s2⟩
  exact ⟨A2, c2, he, Rd.own own2, k2, s2⟩
theorem ckR_own (T : List UInt8) (h : T.length = 504) : ckR (T ++ Crc.sumB T) = true := by
  unfold ckR
  rw [List.take_left' h, List.drop_left' h, R1.sameB_self]
theorem ckS_own (T : List UInt8) (h : T.length = 504) : ckS [T] (T ++ mark 0) = true := by
  unfold ckS
  rw [List.take_left' h, List.drop_left' h, check_own]
theorem dec_other {p q : Int} {x : X} (h : rightF p x = 0) (s : List UInt8) (hs : s.length = 8) : ∃ y F, decode true q (text p x ++ s) = (y, F) ∧ ((q = p ∧ F = 0) ∨ (q ≠ p ∧ F = 11)) := by
  by_cases e : q = p
  · subst e; exact ⟨_, _, dec_back h s hs, .inl ⟨rfl, rfl⟩⟩
  · exact ⟨_, _, dec_else h e true s hs, .inr ⟨e, rfl⟩⟩
end Go.Proofs.YtchcmklelmlbgaaGreat.Sec

/- A disk and a suite of terms that lie beside each other, in blocks of their own. No statement is proved here. -/
namespace Go.Proofs.YtchcmklelmlbgaaGreat
open Go.RowKit
open Go.Proofs.YtchcmklelmlbgaaGreat.Disk (St DAt Did)
open Go.Proofs.YtchcmklelmlbgaaGreat.Sec (SymAt SumsAt)
set_option linter.unusedVariables false
theorem Sec.SymAt.keepK {w w' : World} {g b : Nat} {l : List (List UInt8)} {fp : List Nat} (h : SymAt w g b l) (k : Keep fp w w') (h1 : g ∉ fp) (h2 : b ∉ fp) : SymAt w' g b l := by
  obtain ⟨⟨q, hq⟩, n, D, ⟨es, clock, hb, F, hs, hD⟩, r⟩ := h
  exact ⟨⟨q, (k.block (lt_of_block hq) h1).trans hq⟩, n, D, ⟨es, clock, (k.block (lt_of_block hb) h2).trans hb, F, hs, hD⟩, r⟩
/-- a disk and a suite of terms -/
structure Both (w : World) (g : Nat) (fp : List Nat) (s : St) (gS bS : Nat) (l : List (List UInt8)) : Prop where
  disk : DAt w g fp s
  sym : SymAt w gS bS l
  nS : gS ∉ fp
  nB : bS ∉ fp
theorem Both.on {w w' : World} {g : Nat} {fp : List Nat} {s : St} {gS bS : Nat} {l : List (List UInt8)} (h : Both w g fp s gS bS l) (b : Below w.heap.size w w') : Both w' g fp s gS bS l :=
  ⟨h.disk.on b, h.sym.on b, h.nS, h.nB⟩
theorem Both.did {w w' : World} {g : Nat} {fp fp' : List Nat} {s s' : St} {gS bS : Nat} {l : List (List UInt8)} (h : Both w g fp s gS bS l) (d : DAt w' g fp' s') (k : Keep fp w w') (f : Fresh w fp fp') : Both w' g fp' s' gS bS l :=
  ⟨d, h.sym.keepK k h.nS h.nB, f.out h.sym.lt.1 h.nS, f.out h.sym.lt.2 h.nB⟩
theorem Both.summed {w w' : World} {g : Nat} {fp : List Nat} {s : St} {gS bS : Nat} {l l' : List (List UInt8)} (h : Both w g fp s gS bS l) (d : SymAt w' gS bS l') (k : Keep [bS] w w') : Both w' g fp s gS bS l' :=
  ⟨h.disk.keep k (fun j hj e => h.nB (by rw [List.mem_singleton] at e; exact e ▸ hj)), d, h.nS, h.nB⟩
/-- turned by a call, to a state and to sums -/
def Turn (w : World) (g : Nat) (fp : List Nat) (gS bS : Nat) (s' : St) (l' : List (List UInt8)) (w' : World) : Prop := ∃ fp', Both w' g fp' s' gS bS l' ∧ Keep (bS :: fp) w w' ∧ Fresh w fp fp'
theorem Turn.same {w : World} {g : Nat} {fp : List Nat} {s : St} {gS bS : Nat} {l : List (List UInt8)} (h : Both w g fp s gS bS l) : Turn w g fp gS bS s l w := ⟨fp, h, Keep.refl _ _, Fresh.refl _ _⟩
theorem Turn.below {w w' : World} {g : Nat} {fp : List Nat} {s : St} {gS bS : Nat} {l : List (List UInt8)} (h : Both w g fp s gS bS l) (b : Below w.heap.size w w') : Turn w g fp gS bS s l w' := ⟨fp, h.on b, Keep.of_below b _, Fresh.refl _ _⟩
theorem Turn.trans {w w1 w2 : World} {g : Nat} {fp fp1 : List Nat} {s2 : St} {gS bS : Nat} {l2 : List (List UInt8)} (k : Keep (bS :: fp) w w1) (f : Fresh w fp fp1) (h : Turn w1 g fp1 gS bS s2 l2 w2) : Turn w g fp gS bS s2 l2 w2 := by
  obtain ⟨fp2, b2, k2, f2⟩ := h
  refine ⟨fp2, b2, k.trans k2 ?_, f.trans k.size f2⟩
  intro j hj
  rcases List.mem_cons.1 hj with e | e
  · exact .inl (by rw [e]; simp)
  · exact (f j e).imp (fun h => List.mem_cons_of_mem _ h) id
theorem Turn.ofDid {w w' : World} {g : Nat} {fp : List Nat} {s : St} {gS bS : Nat} {l : List (List UInt8)} {r : St × Int} {e : Ending} (h : Both w g fp s gS bS l) (d : Did w g fp r e w') : e = .returned (.int .i64 r.2) ∧ Turn w g fp gS bS r.1 l w' := by
  obtain ⟨he, fp', d, k, f⟩ := d
  exact ⟨he, fp', h.did d k f, k.more (fun j hj => List.mem_cons_of_mem _ hj), f⟩
theorem keepB {fp : List Nat} {bS : Nat} {w w' : World} (k : Keep [bS] w w') : Keep (bS :: fp) w w' := k.more (fun j hj => by rw [List.mem_singleton] at hj; rw [hj]; simp)
theorem keepF {fp : List Nat} {bS : Nat} {w w' : World} (k : Keep fp w w') : Keep (bS :: fp) w w' := k.more (fun j hj => List.mem_cons_of_mem _ hj)
theorem keepT {fp fp1 : List Nat} {bS : Nat} {w w1 w2 : World} (k : Keep (bS :: fp) w w1) (f : Fresh w fp fp1) (k2 : Keep (bS :: fp1) w1 w2) : Keep (bS :: fp) w w2 := by
  refine k.trans k2 ?_
  intro j hj
  rcases List.mem_cons.1 hj with e | e
  · exact .inl (by rw [e]; simp)
  · exact (f j e).imp (fun h => List.mem_cons_of_mem _ h) id
theorem Fresh.on {w w1 : World} {fp fp1 fp2 : List Nat} (h : Fresh w fp fp1) (hs : w.heap.size ≤ w1.heap.size) (k : Fresh w1 fp1 fp2) : Fresh w fp fp2 := h.trans hs k
/-- in a law: both lie in blocks that the law made -/
structure Here (w0 w : World) (g : Nat) (fp : List Nat) (s : St) (gS bS : Nat) (l : List (List UInt8)) : Prop where
  both : Both w g fp s gS bS l
  bel : Below w0.heap.size w0 w
  own : ∀ j ∈ bS :: fp, w0.heap.size ≤ j
theorem Here.on {w0 w w' : World} {g : Nat} {fp : List Nat} {s : St} {gS bS : Nat} {l : List (List UInt8)} (h : Here w0 w g fp s gS bS l) (b : Below w.heap.size w w') : Here w0 w' g fp s gS bS l := ⟨h.both.on b, bt h.bel b, h.own⟩
theorem Here.turn {w0 w w' : World} {g : Nat} {fp : List Nat} {s s' : St} {gS bS : Nat} {l l' : List (List UInt8)} (h : Here w0 w g fp s gS bS l) (t : Turn w g fp gS bS s' l' w') : ∃ fp', Here w0 w' g fp' s' gS bS l' ∧ Keep (bS :: fp) w w' ∧ Fresh w fp fp' := by
  obtain ⟨fp', b, k, f⟩ := t
  refine ⟨fp', ⟨b, h.bel.trans (k.below h.own h.bel.size), fun j hj => ?_⟩, k, f⟩
  rcases List.mem_cons.1 hj with e | e
  · exact h.own j (by rw [e]; simp)
  · exact f.ge (fun i hi => h.own i (List.mem_cons_of_mem _ hi)) h.bel.size j e
theorem Here.did {w0 w w' : World} {g : Nat} {fp : List Nat} {s : St} {gS bS : Nat} {l : List (List UInt8)} {r : St × Int} {e : Ending} (h : Here w0 w g fp s gS bS l) (d : Did w g fp r e w') : e = .returned (.int .i64 r.2) ∧ ∃ fp', Here w0 w' g fp' r.1 gS bS l ∧ Keep (bS :: fp) w w' ∧ Fresh w fp fp' := by
  obtain ⟨he, t⟩ := Turn.ofDid h.both d
  exact ⟨he, h.turn t⟩
theorem Here.rd {w0 w : World} {g : Nat} {fp : List Nat} {s : St} {gS bS : Nat} {l : List (List UInt8)} {A : Option Addr} {xs : List Value} (h : Here w0 w g fp s gS bS l) (r : Rd w0 w0.heap.size A xs) : Rd w w.heap.size A xs := (r.below h.bel).more h.bel.size
theorem Here.rdN {w0 w : World} {g : Nat} {fp : List Nat} {s : St} {gS bS : Nat} {l : List (List UInt8)} {A : Option Addr} {xs : List Value} (h : Here w0 w g fp s gS bS l) (r : Rd w0 w0.heap.size A xs) : RdN w (bS :: fp) A xs := RdN.of (r.below h.bel) h.own h.bel.size
theorem Here.start {w w1 w2 : World} {g : Nat} {fp : List Nat} {s : St} {gS bS : Nat} {l : List (List UInt8)} (hD : DAt w1 g fp s) (hfp : ∀ j ∈ fp, w.heap.size ≤ j) (b1 : Below w.heap.size w w1) (hS : SymAt w2 gS bS l) (hg : w1.heap.size ≤ gS) (hb : w1.heap.size ≤ bS) (b2 : Below w1.heap.size w1 w2) : Here w w2 g fp s gS bS l := by
  have hlt := hD.lt
  have h1 := b1.size
  refine ⟨⟨hD.on b2, hS, fun e => ?_, fun e => ?_⟩, bt b1 b2, fun j hj => ?_⟩
  · have := hlt _ e; omega
  · have := hlt _ e; omega
  · rcases List.mem_cons.1 hj with e | e
    · omega
    · exact hfp j e
theorem Here.moved {w0 w w' : World} {g : Nat} {fp fp' : List Nat} {s s' : St} {gS bS : Nat} {l : List (List UInt8)} (h : Here w0 w g fp s gS bS l) (d : DAt w' g fp' s') (k : Keep fp w w') (f : Fresh w fp fp') : Here w0 w' g fp' s' gS bS l := by
  refine ⟨h.both.did d k f, h.bel.trans ((keepF (bS := bS) k).below h.own h.bel.size), fun j hj => ?_⟩
  rcases List.mem_cons.1 hj with e | e
  · exact h.own j (by rw [e]; simp)
  · exact f.ge (fun i hi => h.own i (List.mem_cons_of_mem _ hi)) h.bel.size j e
theorem RdN.less {w : World} {fp fp' : List Nat} {A : Option Addr} {xs : List Value} (h : RdN w fp A xs) (hf : ∀ j ∈ fp', j ∈ fp) : RdN w fp' A xs := fun hne => by
  obtain ⟨b, off, rfl, hb, hn, hc⟩ := h hne
  exact ⟨b, off, rfl, hb, fun e => hn (hf b e), hc⟩
theorem Disk.DAt.inG {w : World} {g : Nat} {fp : List Nat} {s : St} (h : DAt w g fp s) : g ∈ fp := by obtain ⟨_, _, _, _, h⟩ := h; exact h.inG
theorem Here.armed {w0 w w' : World} {g : Nat} {fp : List Nat} {s s' : St} {gS bS : Nat} {l : List (List UInt8)} (h : Here w0 w g fp s gS bS l) (d : DAt w' g fp s') (k : Keep [g] w w') : Here w0 w' g fp s' gS bS l :=
  h.moved d (k.more (fun j hj => by rw [List.mem_singleton] at hj; rw [hj]; exact h.both.disk.inG)) (Fresh.refl _ _)
theorem Here.rdD {w0 w : World} {g : Nat} {fp : List Nat} {s : St} {gS bS : Nat} {l : List (List UInt8)} {A : Option Addr} {xs : List Value} (h : Here w0 w g fp s gS bS l) (r : Rd w0 w0.heap.size A xs) : RdN w fp A xs := (h.rdN r).less (fun j hj => List.mem_cons_of_mem _ hj)
theorem Here.summed {w0 w w' : World} {g : Nat} {fp : List Nat} {s : St} {gS bS : Nat} {l l' : List (List UInt8)} (h : Here w0 w g fp s gS bS l) (d : SymAt w' gS bS l') (k : Keep [bS] w w') : Here w0 w' g fp s gS bS l' :=
  ⟨h.both.summed d k, h.bel.trans ((keepB (fp := fp) k).below h.own h.bel.size), h.own⟩
theorem Blk.keepK {w w' : World} {g : Nat} {xs : List Value} {fp : List Nat} (h : Blk w g xs) (k : Keep fp w w') (hn : g ∉ fp) : Blk w' g xs := h.elim fun t hh => ⟨t, (k.block (lt_of_block hh) hn).trans hh⟩
end Go.Proofs.YtchcmklelmlbgaaGreat

/- The walks of the package geom and of its reference. -/
namespace Go.Proofs.YtchcmklelmlbgaaGreat.Geom
open Go.RowKit
set_option linter.unusedVariables false

def least (a d : Int) : Int := if 2 ≤ a ∧ a ≤ 4 ∧ 1 ≤ d ∧ d ≤ 3 then d + 2 else 0
theorem least_in {a d : Int} (h1 : 2 ≤ a) (h2 : a ≤ 4) (h3 : 1 ≤ d) (h4 : d ≤ 3) : least a d = d + 2 := if_pos ⟨h1, h2, h3, h4⟩
theorem least_out {a d : Int} (h : a < 2 ∨ 4 < a ∨ d < 1 ∨ 3 < d) : least a d = 0 := if_neg (by omega)
def right (a d g : Int) : Bool := decide (2 ≤ a ∧ a ≤ 4 ∧ 1 ≤ d ∧ d ≤ 3 ∧ d + 2 ≤ g ∧ g ≤ 64)

set_option maxHeartbeats 400000 in
theorem least_any (a d g : Int) (w : World) (ha0 : -9223372036854775808 ≤ a) (ha1 : a ≤ 9223372036854775807) (hd0 : -9223372036854775808 ≤ d) (hd1 : d ≤ 9223372036854775807) :
    Calls Tryz.prog 96 #[.agg #[.int .i64 a, .int .i64 d, .int .i64 g]] w fun e w' => e = .returned (.int .i64 (least a d)) ∧ Below w.heap.size w w' := by
  by_cases h1 : a < 2
  · rw [least_out (by omega)]
    go_enter Tryz.func96, Tryz.ntmps96
    go_wp2
    go_ret
    exact ⟨rfl, below_lit _ _⟩
  by_cases h2 : 4 < a
  · rw [least_out (by omega)]
    go_enter Tryz.func96, Tryz.ntmps96
    go_wp2
    go_ret
    exact ⟨rfl, below_lit _ _⟩
  by_cases h3 : d < 1
  · rw [least_out (by omega)]
    go_enter Tryz.func96, Tryz.ntmps96
    go_wp2
    go_ret
    exact ⟨rfl, below_lit _ _⟩
  by_cases h4 : 3 < d
  · rw [least_out (by omega)]
    go_enter Tryz.func96, Tryz.ntmps96
    go_wp2
    go_ret
    exact ⟨rfl, below_lit _ _⟩
  rw [least_in (by omega) (by omega) (by omega) (by omega)]
  go_enter Tryz.func96, Tryz.ntmps96
  go_wp2
  go_ret
  exact ⟨rfl, below_lit _ _⟩

set_option maxHeartbeats 400000 in
theorem right_any (a d g : Int) (w : World) (ha0 : -9223372036854775808 ≤ a) (ha1 : a ≤ 9223372036854775807) (hd0 : -9223372036854775808 ≤ d) (hd1 : d ≤ 9223372036854775807) (hg0 : -9223372036854775808 ≤ g) (hg1 : g ≤ 9223372036854775807) :
    Calls Tryz.prog 67 #[.agg #[.int .i64 a, .int .i64 d, .int .i64 g]] w fun e w' => e = .returned (.bool (right a d g)) ∧ Below w.heap.size w w' := by
  by_cases h1 : 2 ≤ a ∧ a ≤ 4 ∧ 1 ≤ d ∧ d ≤ 3
  · obtain ⟨h1, h2, h3, h4⟩ := h1
    by_cases h5 : d + 2 ≤ g
    · have hr := Lib.hid (show right a d g = decide (g ≤ 64) by unfold right; simp [h1, h2, h3, h4, h5])
      go_enter Tryz.func67, Tryz.ntmps67
      go_wp2_with fail
      refine (least_any _ _ _ _ (by omega) (by omega) (by omega) (by omega)).mono ?_
      rintro e w1 ⟨rfl, b1⟩
      rw [least_in h1 h2 h3 h4]
      have hc := b1.cell (p := ⟨w.heap.size, 2, none⟩) (by simp)
      simp at hc
      go_wp2
      go_ret
      exact ⟨ret_bool hr.out.symm, (below_lit _ _).trans (b1.mono (by simp))⟩
    · have hr := Lib.hid (show right a d g = false by unfold right; simp; omega)
      go_enter Tryz.func67, Tryz.ntmps67
      go_wp2_with fail
      refine (least_any _ _ _ _ (by omega) (by omega) (by omega) (by omega)).mono ?_
      rintro e w1 ⟨rfl, b1⟩
      rw [least_in h1 h2 h3 h4]
      have hc := b1.cell (p := ⟨w.heap.size, 2, none⟩) (by simp)
      simp at hc
      go_wp2
      go_ret
      exact ⟨ret_bool (by rw [hr.out]), (below_lit _ _).trans (b1.mono (by simp))⟩
  · have hr := Lib.hid (show right a d g = false by unfold right; simp; omega)
    go_enter Tryz.func67, Tryz.ntmps67
    go_wp2_with fail
    refine (least_any _ _ _ _ (by omega) (by omega) (by omega) (by omega)).mono ?_
    rintro e w1 ⟨rfl, b1⟩
    rw [least_out (by omega)]
    have hc := b1.cell (p := ⟨w.heap.size, 2, none⟩) (by simp)
    simp at hc
    go_wp2
    go_ret
    exact ⟨ret_bool (by rw [hr.out]), (below_lit _ _).trans (b1.mono (by simp))⟩
/-- how many nodes lie above depth d, how many leaves at it -/
def nodes (a d : Int) : Int := if d = 1 then 1 else if d = 2 then 1 + a else 1 + a + a * a
def leaves (a d : Int) : Int := if d = 1 then a else if d = 2 then a * a else a * a * a
theorem nine {P : Int → Int → Prop} {a d : Int} (h1 : 2 ≤ a) (h2 : a ≤ 4) (h3 : 1 ≤ d) (h4 : d ≤ 3) (h : P 2 1 ∧ P 3 1 ∧ P 4 1 ∧ P 2 2 ∧ P 3 2 ∧ P 4 2 ∧ P 2 3 ∧ P 3 3 ∧ P 4 3) : P a d := by
  obtain rfl | rfl | rfl : a = 2 ∨ a = 3 ∨ a = 4 := by omega
  all_goals obtain rfl | rfl | rfl : d = 1 ∨ d = 2 ∨ d = 3 := by omega
  all_goals simp [h]
theorem right_yes {a d g : Int} (h : right a d g = true) : 2 ≤ a ∧ a ≤ 4 ∧ 1 ≤ d ∧ d ≤ 3 ∧ d + 2 ≤ g ∧ g ≤ 64 := by simpa [right] using h
/-- the sums on the way -/
def nUp (a : Int) (k : Nat) : Int := if k = 0 then 0 else nodes a k
def lUp (a : Int) (k : Nat) : Int := if k = 0 then 1 else leaves a k
theorem nUp_succ (a : Int) (k : Nat) (hk : k < 3) : nUp a (k + 1) = nUp a k + lUp a k := by
  obtain rfl | rfl | rfl : k = 0 ∨ k = 1 ∨ k = 2 := by omega
  all_goals simp [nUp, lUp, nodes, leaves]
theorem lUp_succ (a : Int) (k : Nat) (hk : k < 3) : lUp a (k + 1) = lUp a k * a := by
  obtain rfl | rfl | rfl : k = 0 ∨ k = 1 ∨ k = 2 := by omega
  all_goals simp [lUp, leaves]
theorem lUp_bd {a : Int} (k : Nat) (hk : k ≤ 3) (h1 : 2 ≤ a) (h2 : a ≤ 4) : 1 ≤ lUp a k ∧ lUp a k ≤ 64 := by
  obtain rfl | rfl | rfl | rfl : k = 0 ∨ k = 1 ∨ k = 2 ∨ k = 3 := by omega
  all_goals obtain rfl | rfl | rfl : a = 2 ∨ a = 3 ∨ a = 4 := by omega
  all_goals decide
theorem nUp_bd {a : Int} (k : Nat) (hk : k ≤ 3) (h1 : 2 ≤ a) (h2 : a ≤ 4) : 0 ≤ nUp a k ∧ nUp a k ≤ 21 := by
  obtain rfl | rfl | rfl | rfl : k = 0 ∨ k = 1 ∨ k = 2 ∨ k = 3 := by omega
  all_goals obtain rfl | rfl | rfl : a = 2 ∨ a = 3 ∨ a = 4 := by omega
  all_goals decide
theorem up_all {a d : Int} (h3 : 1 ≤ d) (h4 : d ≤ 3) : nUp a d.toNat = nodes a d ∧ lUp a d.toNat = leaves a d := by
  obtain rfl | rfl | rfl : d = 1 ∨ d = 2 ∨ d = 3 := by omega
  all_goals exact ⟨rfl, rfl⟩
def nodesOf (a d g : Int) : Int := if right a d g then nodes a d else 0
def leavesOf (a d g : Int) : Int := if right a d g then leaves a d else 0

set_option maxHeartbeats 400000 in
theorem levels_any (a d g : Int) (w : World) (ha0 : -9223372036854775808 ≤ a) (ha1 : a ≤ 9223372036854775807) (hd0 : -9223372036854775808 ≤ d) (hd1 : d ≤ 9223372036854775807) (hg0 : -9223372036854775808 ≤ g) (hg1 : g ≤ 9223372036854775807) :
    Calls Tryz.prog 98 #[.agg #[.int .i64 a, .int .i64 d, .int .i64 g]] w fun e w' => e = .returned (.tuple #[.int .i64 (nodesOf a d g), .int .i64 (leavesOf a d g)]) ∧ Below w.heap.size w w' := by
  by_cases hr : right a d g = true
  · obtain ⟨h1, h2, h3, h4, h5, h6⟩ := right_yes hr
    have hno := Lib.hid (show nodesOf a d g = nodes a d by simp [nodesOf, hr])
    have hle := Lib.hid (show leavesOf a d g = leaves a d by simp [leavesOf, hr])
    have hup := Lib.hid (up_all (a := a) h3 h4)
    have Hr := Lib.hid hr
    clear hr
    go_enter Tryz.func98, Tryz.ntmps98
    go_wp2_with fail
    refine (right_any _ _ _ _ (by omega) (by omega) (by omega) (by omega) (by omega) (by omega)).mono ?_
    rintro e w1 ⟨rfl, b1⟩
    rw [Hr.out]
    have hc := b1.cell (p := ⟨w.heap.size, 0, none⟩) (by simp)
    have hc' := b1.cell (p := ⟨w.heap.size, 1, none⟩) (by simp)
    simp at hc hc'
    have bw := (below_lit w _).trans (b1.mono (by simp))
    go_wp2
    go_loop [2, 3, 9] (fun n l i => ∃ k : Nat, (k : Int) ≤ d ∧ i = .int .i64 k ∧ n = .int .i64 (nUp a k) ∧ l = .int .i64 (lUp a k)) (fun _ _ i => (d - intOf i).toNat)
    case atStart => exact ⟨0, by omega, rfl, rfl, rfl⟩
    case round =>
      obtain ⟨k, hk, rfl, rfl, rfl⟩ := hrel
      by_cases hlt : (k : Int) < d
      · have e1 := Lib.hid (nUp_succ a k (by omega))
        have e2 := Lib.hid (lUp_succ a k (by omega))
        have l1 := lUp_bd k (by omega) h1 h2
        have l2 := lUp_bd (k + 1) (by omega) h1 h2
        rw [e2.out] at l2
        have n1 := nUp_bd k (by omega) h1 h2
        go_wp2
        go_round
        case rel => exact ⟨k + 1, by omega, by go_num, by rw [e1.out], by rw [e2.out]⟩
        case measure => simp [intOf]; omega
      · obtain rfl : d = (k : Int) := by omega
        go_wp2
        go_ret2
        exact ⟨by rw [hno.out, hle.out, ← hup.out.1, ← hup.out.2]; rfl, bw⟩
  · have hr' : right a d g = false := by simpa using hr
    have hno := Lib.hid (show nodesOf a d g = 0 by simp [nodesOf, hr'])
    have hle := Lib.hid (show leavesOf a d g = 0 by simp [leavesOf, hr'])
    have Hr := Lib.hid hr'
    clear hr hr'
    go_enter Tryz.func98, Tryz.ntmps98
    go_wp2_with fail
    refine (right_any _ _ _ _ (by omega) (by omega) (by omega) (by omega) (by omega) (by omega)).mono ?_
    rintro e w1 ⟨rfl, b1⟩
    rw [Hr.out]
    go_wp2
    go_ret2
    exact ⟨by rw [hno.out, hle.out]; rfl, (below_lit w _).trans (b1.mono (by simp))⟩
end Go.Proofs.YtchcmklelmlbgaaGreat.Geom

/- The walks of the package geom and of its reference: pages, parts, the reference's conditions. -/
namespace Go.Proofs.YtchcmklelmlbgaaGreat.Geom
open Go.RowKit
set_option linter.unusedVariables false
abbrev lo : Int := -9223372036854775808
abbrev hi : Int := 9223372036854775807
def pagesOf (a d g : Int) : Int := nodesOf a d g + leavesOf a d g
theorem nodesOf_bd (a d g : Int) : 0 ≤ nodesOf a d g ∧ nodesOf a d g ≤ 21 := by
  unfold nodesOf
  by_cases h : right a d g = true
  · rw [if_pos h]
    obtain ⟨h1, h2, h3, h4, _⟩ := right_yes h
    exact nine (P := fun a d => 0 ≤ nodes a d ∧ nodes a d ≤ 21) h1 h2 h3 h4 (by decide)
  · rw [if_neg h]; omega
theorem leavesOf_bd (a d g : Int) : 0 ≤ leavesOf a d g ∧ leavesOf a d g ≤ 64 := by
  unfold leavesOf
  by_cases h : right a d g = true
  · rw [if_pos h]
    obtain ⟨h1, h2, h3, h4, _⟩ := right_yes h
    exact nine (P := fun a d => 0 ≤ leaves a d ∧ leaves a d ≤ 64) h1 h2 h3 h4 (by decide)
  · rw [if_neg h]; omega
theorem pagesOf_bd (a d g : Int) : 0 ≤ pagesOf a d g ∧ pagesOf a d g ≤ 85 := by
  have := nodesOf_bd a d g; have := leavesOf_bd a d g; unfold pagesOf; omega















set_option maxHeartbeats 400000 in
theorem pages_any (a d g : Int) (w : World) (ha0 : lo ≤ a) (ha1 : a ≤ hi) (hd0 : lo ≤ d) (hd1 : d ≤ hi) (hg0 : lo ≤ g) (hg1 : g ≤ hi) :
    Calls Tryz.prog 70 #[.agg #[.int .i64 a, .int .i64 d, .int .i64 g]] w fun e w' => e = .returned (.int .i64 (pagesOf a d g)) ∧ Below w.heap.size w w' := by
  have h1 := nodesOf_bd a d g
  have h2 := leavesOf_bd a d g
  go_enter Tryz.func70, Tryz.ntmps70
  go_wp2_with (go_at_call 98; refine (levels_any _ _ _ _ ha0 ha1 hd0 hd1 hg0 hg1).mono ?_; rintro e w' ⟨rfl, b1⟩)
  go_ret
  exact ⟨rfl, (below_lit w _).trans (b1.mono (by simp))⟩

def partsV (a d g : Int) : Value := .agg #[.string ⟨#[114, 111, 111, 116]⟩, .int .i64 2, .string ⟨#[115, 117, 112, 101, 114]⟩, .int .i64 2, .string ⟨#[108, 111, 103]⟩, .int .i64 g, .string ⟨#[97, 114, 101, 97]⟩, .int .i64 (2 * pagesOf a d g)]
set_option maxHeartbeats 800000 in
theorem parts_any (a d g : Int) (w : World) (ha0 : lo ≤ a) (ha1 : a ≤ hi) (hd0 : lo ≤ d) (hd1 : d ≤ hi) (hg0 : lo ≤ g) (hg1 : g ≤ hi) :
    Calls Tryz.prog 97 #[.agg #[.int .i64 a, .int .i64 d, .int .i64 g]] w fun e w' => e = .returned (partsV a d g) ∧ Below w.heap.size w w' := by
  have h1 := pagesOf_bd a d g
  have hwr : IntKind.i64.wrap (2 * pagesOf a d g) = 2 * pagesOf a d g := IntWalk.i64_in _ (by omega)
  go_enter Tryz.func97, Tryz.ntmps97
  go_wp2
  go_region_with (go_at_call 70; refine (pages_any _ _ _ _ ha0 ha1 hd0 hd1 hg0 hg1).mono ?_; rintro e w1 ⟨rfl, b1⟩; obtain ⟨hc1, hf1, hs1⟩ := bcell b1; simp at hs1)
  all_goals go_wp2
  all_goals
    refine bodyPost_ret (v := partsV a d g) (by unfold partsV; simp [results, Tryz.results97, go_sem, hc1]) rfl ⟨rfl, ?_⟩
    repeat refine Below.setCell ?_ (by simp) _
    exact bt (b2alloc _ _ _).drew b1
def psum (g p : Int) : Nat → Int | 0 => 0 | 1 => 2 | 2 => 4 | 3 => 4 + g | _ => 4 + g + p
def sizeOf (a d g : Int) : Int := if right a d g then 4 + g + 2 * pagesOf a d g else 0
set_option maxHeartbeats 800000 in
theorem size_any (a d g : Int) (w : World) (ha0 : lo ≤ a) (ha1 : a ≤ hi) (hd0 : lo ≤ d) (hd1 : d ≤ hi) (hg0 : lo ≤ g) (hg1 : g ≤ hi) :
    Calls Tryz.prog 69 #[.agg #[.int .i64 a, .int .i64 d, .int .i64 g]] w fun e w' => e = .returned (.int .i64 (sizeOf a d g)) ∧ Below w.heap.size w w' := by
  by_cases hr : right a d g = true
  · obtain ⟨h1, h2, h3, h4, h5, h6⟩ := right_yes hr
    have hsz := Lib.hid (show sizeOf a d g = 4 + g + 2 * pagesOf a d g by simp [sizeOf, hr])
    have hp := pagesOf_bd a d g
    have Hr := Lib.hid hr
    clear hr
    obtain ⟨p, hpe⟩ : ∃ p, p = 2 * pagesOf a d g := ⟨_, rfl⟩
    have hp1 : 0 ≤ p := by omega
    have hp2 : p ≤ 170 := by omega
    have Hp := Lib.hid hpe
    have i0 : ∀ w, (Instr.index 164 (.agg #[.string ⟨#[114, 111, 111, 116]⟩, .int .i64 2, .string ⟨#[115, 117, 112, 101, 114]⟩, .int .i64 2, .string ⟨#[108, 111, 103]⟩, .int .i64 g, .string ⟨#[97, 114, 101, 97]⟩, .int .i64 p]) (.int .i64 0)).run Tryz.prog w = .ok (.agg #[.string ⟨#[114, 111, 111, 116]⟩, .int .i64 2]) w := fun _ => by kernel_rfl
    have i1 : ∀ w, (Instr.index 164 (.agg #[.string ⟨#[114, 111, 111, 116]⟩, .int .i64 2, .string ⟨#[115, 117, 112, 101, 114]⟩, .int .i64 2, .string ⟨#[108, 111, 103]⟩, .int .i64 g, .string ⟨#[97, 114, 101, 97]⟩, .int .i64 p]) (.int .i64 1)).run Tryz.prog w = .ok (.agg #[.string ⟨#[115, 117, 112, 101, 114]⟩, .int .i64 2]) w := fun _ => by kernel_rfl
    have i2 : ∀ w, (Instr.index 164 (.agg #[.string ⟨#[114, 111, 111, 116]⟩, .int .i64 2, .string ⟨#[115, 117, 112, 101, 114]⟩, .int .i64 2, .string ⟨#[108, 111, 103]⟩, .int .i64 g, .string ⟨#[97, 114, 101, 97]⟩, .int .i64 p]) (.int .i64 2)).run Tryz.prog w = .ok (.agg #[.string ⟨#[108, 111, 103]⟩, .int .i64 g]) w := fun _ => by kernel_rfl
    have i3 : ∀ w, (Instr.index 164 (.agg #[.string ⟨#[114, 111, 111, 116]⟩, .int .i64 2, .string ⟨#[115, 117, 112, 101, 114]⟩, .int .i64 2, .string ⟨#[108, 111, 103]⟩, .int .i64 g, .string ⟨#[97, 114, 101, 97]⟩, .int .i64 p]) (.int .i64 3)).run Tryz.prog w = .ok (.agg #[.string ⟨#[97, 114, 101, 97]⟩, .int .i64 p]) w := fun _ => by kernel_rfl
    go_enter Tryz.func69, Tryz.ntmps69
    go_wp2_with fail
    refine (right_any _ _ _ _ ha0 ha1 hd0 hd1 hg0 hg1).mono ?_
    rintro e w1 ⟨rfl, b1⟩
    rw [Hr.out]
    obtain ⟨hc1, hf1, hs1⟩ := bcell b1
    simp at hs1
    have bw := (below_lit w _).trans (b1.mono (by simp))
    go_wp2_with fail
    refine (parts_any _ _ _ _ ha0 ha1 hd0 hd1 hg0 hg1).mono ?_
    rintro e w2 ⟨rfl, b2⟩
    unfold partsV
    rw [← hpe]
    clear hpe hc1 hf1
    have bw2 := bw.trans (b2.mono bw.size)
    go_wp2_with fail
    go_loopw [2, 4, 10] (fun n _ i wr => ∃ k : Nat, k ≤ 4 ∧ i = .int .i64 k ∧ n = .int .i64 (psum g p k) ∧ Below w.heap.size w wr) (fun _ _ i _ => (4 - intOf i).toNat)
    case atStart => exact ⟨0, by omega, rfl, rfl, bw2⟩
    case round =>
      obtain ⟨k, hk, rfl, rfl, hbel⟩ := hrel
      have hbs := hbel.size
      obtain rfl | rfl | rfl | rfl | rfl : k = 0 ∨ k = 1 ∨ k = 2 ∨ k = 3 ∨ k = 4 := by omega
      · simp only [psum, Int.cast_ofNat_Int]
        go_wp2
        go_roundw
        case rel => exact ⟨1, by omega, rfl, rfl, hbel.alloc hbs _⟩
        case measure => simp [intOf]
      · simp only [psum, Int.cast_ofNat_Int]
        go_wp2
        go_roundw
        case rel => exact ⟨2, by omega, rfl, rfl, hbel.alloc hbs _⟩
        case measure => simp [intOf]
      · simp only [psum, Int.cast_ofNat_Int]
        go_wp2
        go_roundw
        case rel => exact ⟨3, by omega, rfl, rfl, hbel.alloc hbs _⟩
        case measure => simp [intOf]
      · simp only [psum, Int.cast_ofNat_Int]
        go_wp2
        go_roundw
        case rel => exact ⟨4, by omega, rfl, rfl, hbel.alloc hbs _⟩
        case measure => simp [intOf]
      · simp only [psum, Int.cast_ofNat_Int]
        go_wp2
        go_ret
        exact ⟨ret_int (by rw [hsz.out, ← Hp.out]), hbel⟩
  · have hr' : right a d g = false := by simpa using hr
    have hsz := Lib.hid (show sizeOf a d g = 0 by simp [sizeOf, hr'])
    have Hr := Lib.hid hr'
    clear hr hr'
    go_enter Tryz.func69, Tryz.ntmps69
    go_wp2_with fail
    refine (right_any _ _ _ _ ha0 ha1 hd0 hd1 hg0 hg1).mono ?_
    rintro e w1 ⟨rfl, b1⟩
    rw [Hr.out]
    go_wp2
    go_ret
    exact ⟨ret_int hsz.out.symm, bt (below_lit w _) b1⟩
end Go.Proofs.YtchcmklelmlbgaaGreat.Geom

/- The walks of geom's places, and of its reference. -/
namespace Go.Proofs.YtchcmklelmlbgaaGreat.Geom
open Go.RowKit
set_option linter.unusedVariables false










set_option maxHeartbeats 400000 in
theorem super_any (n : UInt64) (m : Int) (hm : m = (n.toNat : Int)) (w : World) : Calls Tryz.prog 99 #[.int .u64 m] w fun e w' => e = .returned (.int .i64 (2 + (n.toNat : Int) % 2)) ∧ w = w' := by
  subst hm
  have h0 : (0 : Int) ≤ (n.toNat : Int) := by omega
  have h1 : (n.toNat : Int) ≤ 18446744073709551615 := by have := n.toNat_lt; omega
  go_enter Tryz.func99, Tryz.ntmps99
  go_wp2
  go_ret
  exact ⟨rfl, rfl⟩

def logAt (a d g i : Int) : Int := if right a d g = true ∧ 0 ≤ i then 4 + i % g else -1
set_option maxHeartbeats 400000 in
theorem log_any (a d g i : Int) (w : World) (ha0 : lo ≤ a) (ha1 : a ≤ hi) (hd0 : lo ≤ d) (hd1 : d ≤ hi) (hg0 : lo ≤ g) (hg1 : g ≤ hi) (hi0 : lo ≤ i) (hi1 : i ≤ hi) :
    Calls Tryz.prog 76 #[.agg #[.int .i64 a, .int .i64 d, .int .i64 g], .int .i64 i] w fun e w' => e = .returned (.int .i64 (logAt a d g i)) ∧ Below w.heap.size w w' := by
  by_cases hr : right a d g = true
  · obtain ⟨h1, h2, h3, h4, h5, h6⟩ := right_yes hr
    by_cases hi : 0 ≤ i
    · have hl := Lib.hid (show logAt a d g i = 4 + i % g from if_pos ⟨hr, hi⟩)
      have Hr := Lib.hid hr
      clear hr
      have hb0 := Int.emod_nonneg i (by omega : g ≠ 0)
      have hb1 := Int.emod_lt_of_pos i (by omega : 0 < g)
      go_enter Tryz.func76, Tryz.ntmps76
      go_wp2_with fail
      refine (right_any _ _ _ _ ha0 ha1 hd0 hd1 hg0 hg1).mono ?_
      rintro e w1 ⟨rfl, b1⟩
      rw [Hr.out]
      obtain ⟨hc1, hf1, hs1⟩ := bcell b1
      simp at hs1
      go_wp2
      go_ret
      exact ⟨ret_int hl.out.symm, bt (below_lit w _) b1⟩
    · have hl := Lib.hid (show logAt a d g i = -1 from if_neg (by omega))
      have Hr := Lib.hid hr
      clear hr
      go_enter Tryz.func76, Tryz.ntmps76
      go_wp2_with fail
      refine (right_any _ _ _ _ ha0 ha1 hd0 hd1 hg0 hg1).mono ?_
      rintro e w1 ⟨rfl, b1⟩
      rw [Hr.out]
      go_wp2
      go_ret
      exact ⟨ret_int hl.out.symm, bt (below_lit w _) b1⟩
  · have hr' : right a d g = false := by simpa using hr
    have hl := Lib.hid (show logAt a d g i = -1 from if_neg (by simp [hr']))
    have Hr := Lib.hid hr'
    clear hr hr'
    go_enter Tryz.func76, Tryz.ntmps76
    go_wp2_with fail
    refine (right_any _ _ _ _ ha0 ha1 hd0 hd1 hg0 hg1).mono ?_
    rintro e w1 ⟨rfl, b1⟩
    rw [Hr.out]
    go_wp2
    go_ret
    exact ⟨ret_int hl.out.symm, bt (below_lit w _) b1⟩

def areaAt (a d g n i : Int) : Int := if 0 ≤ i ∧ i < pagesOf a d g then 4 + g + n % 2 * pagesOf a d g + i else -1
theorem pages_right {a d g i : Int} (h0 : 0 ≤ i) (h : i < pagesOf a d g) : right a d g = true := by
  by_cases hr : right a d g = true
  · exact hr
  · simp [pagesOf, nodesOf, leavesOf, hr] at h; omega
set_option maxHeartbeats 400000 in
theorem area_any (a d g : Int) (n : UInt64) (m : Int) (hm : m = (n.toNat : Int)) (i : Int) (w : World) (ha0 : lo ≤ a) (ha1 : a ≤ hi) (hd0 : lo ≤ d) (hd1 : d ≤ hi) (hg0 : lo ≤ g) (hg1 : g ≤ hi) (hi0 : lo ≤ i) (hi1 : i ≤ hi) :
    Calls Tryz.prog 116 #[.agg #[.int .i64 a, .int .i64 d, .int .i64 g], .int .u64 m, .int .i64 i] w fun e w' => e = .returned (.int .i64 (areaAt a d g n.toNat i)) ∧ Below w.heap.size w w' := by
  subst hm
  have h0 : (0 : Int) ≤ (n.toNat : Int) := by omega
  have h1 : (n.toNat : Int) ≤ 18446744073709551615 := by have := n.toNat_lt; omega
  have hp := pagesOf_bd a d g
  by_cases hi : 0 ≤ i
  · by_cases hj : i < pagesOf a d g
    · obtain ⟨r1, r2, r3, r4, r5, r6⟩ := right_yes (pages_right hi hj)
      have hl := Lib.hid (show areaAt a d g n.toNat i = 4 + g + n.toNat % 2 * pagesOf a d g + i from if_pos ⟨hi, hj⟩)
      have hm2 : (0 : Int) ≤ (n.toNat : Int) % 2 * pagesOf a d g ∧ (n.toNat : Int) % 2 * pagesOf a d g ≤ 85 := by
        rcases (by omega : (n.toNat : Int) % 2 = 0 ∨ (n.toNat : Int) % 2 = 1) with e | e <;> rw [e] <;> omega
      go_enter Tryz.func116, Tryz.ntmps116
      go_wp2_with fail
      refine (pages_any _ _ _ _ ha0 ha1 hd0 hd1 hg0 hg1).mono ?_
      rintro e w1 ⟨rfl, b1⟩
      obtain ⟨hc1, hf1, hs1⟩ := bcell b1
      simp at hs1
      go_wp2
      go_ret
      exact ⟨ret_int hl.out.symm, bt (below_lit w _) b1⟩
    · have hl := Lib.hid (show areaAt a d g n.toNat i = -1 from if_neg (by omega))
      go_enter Tryz.func116, Tryz.ntmps116
      go_wp2_with fail
      refine (pages_any _ _ _ _ ha0 ha1 hd0 hd1 hg0 hg1).mono ?_
      rintro e w1 ⟨rfl, b1⟩
      go_wp2
      go_ret
      exact ⟨ret_int hl.out.symm, bt (below_lit w _) b1⟩
  · have hl := Lib.hid (show areaAt a d g n.toNat i = -1 from if_neg (by omega))
    go_enter Tryz.func116, Tryz.ntmps116
    go_wp2_with fail
    refine (pages_any _ _ _ _ ha0 ha1 hd0 hd1 hg0 hg1).mono ?_
    rintro e w1 ⟨rfl, b1⟩
    go_wp2
    go_ret
    exact ⟨ret_int hl.out.symm, bt (below_lit w _) b1⟩

set_option maxHeartbeats 400000 in
theorem rleast_any (a d g : Int) (w : World) (ha0 : -9223372036854775808 ≤ a) (ha1 : a ≤ 9223372036854775807) (hd0 : -9223372036854775808 ≤ d) (hd1 : d ≤ 9223372036854775807) :
    Calls Tryz.prog 34 #[.agg #[.int .i64 a, .int .i64 d, .int .i64 g]] w fun e w' => e = .returned (.int .i64 (least a d)) ∧ Below w.heap.size w w' := by
  by_cases h1 : a < 2
  · rw [least_out (by omega)]
    go_enter Tryz.func34, Tryz.ntmps34
    go_wp2
    go_ret
    exact ⟨rfl, below_lit _ _⟩
  by_cases h2 : 4 < a
  · rw [least_out (by omega)]
    go_enter Tryz.func34, Tryz.ntmps34
    go_wp2
    go_ret
    exact ⟨rfl, below_lit _ _⟩
  by_cases h3 : d < 1
  · rw [least_out (by omega)]
    go_enter Tryz.func34, Tryz.ntmps34
    go_wp2
    go_ret
    exact ⟨rfl, below_lit _ _⟩
  by_cases h4 : 3 < d
  · rw [least_out (by omega)]
    go_enter Tryz.func34, Tryz.ntmps34
    go_wp2
    go_ret
    exact ⟨rfl, below_lit _ _⟩
  rw [least_in (by omega) (by omega) (by omega) (by omega)]
  go_enter Tryz.func34, Tryz.ntmps34
  go_wp2
  go_ret
  exact ⟨rfl, below_lit _ _⟩


set_option maxHeartbeats 800000 in
theorem rright_any (a d g : Int) (w : World) (ha0 : lo ≤ a) (ha1 : a ≤ hi) (hd0 : lo ≤ d) (hd1 : d ≤ hi) (hg0 : lo ≤ g) (hg1 : g ≤ hi) :
    Calls Tryz.prog 9 #[.agg #[.int .i64 a, .int .i64 d, .int .i64 g]] w fun e w' => e = .returned (.bool (right a d g)) ∧ Below w.heap.size w w' := by
  by_cases h1 : 2 ≤ a ∧ a ≤ 4 ∧ 1 ≤ d ∧ d ≤ 3
  · obtain ⟨h1, h2, h3, h4⟩ := h1
    have hl := Lib.hid (least_in h1 h2 h3 h4)
    have hp : (0 : Int) < d + 2 := by omega
    by_cases h5 : d + 2 ≤ g
    · by_cases h6 : g ≤ 64
      · have hr := Lib.hid (show right a d g = true by unfold right; simp [h1, h2, h3, h4, h5, h6])
        go_enter Tryz.func9, Tryz.ntmps9
        go_wp2
        refine region_inb (by kernel_rfl) (by kernel_rfl) ?_
        have inbNe := InB.some
        have inbW := @wrap_small
        have inbU := IntKind.wrap_u8'
        repeat (refine wpQuiet_step (fun K hK => ?_); go_simp; first | (refine hK _ ?_; clear hK K) | (apply Exists.intro; refine ⟨?_, hK _ ?_⟩; (· (intro w' hw'; first | (go_at_call 34; refine (rleast_any _ _ _ _ ha0 ha1 hd0 hd1).mono ?_; rintro e w1 ⟨rfl, b1⟩; rw [hl.out]; exact ⟨rfl, hw'.on b1⟩) | (have hcw := hw'.cell; go_simp; exact rfl))); clear hK K))
        refine wpQuiet_nil ?_
        intro wq hq
        clear inbNe inbW inbU
        go_wp2
        go_ret
        exact ⟨ret_bool hr.out.symm, bt (b1alloc _ _) hq⟩
      · have hr := Lib.hid (show right a d g = false by unfold right; simp; omega)
        have h7 : decide (g ≤ 64) = false := by simp; omega
        go_enter Tryz.func9, Tryz.ntmps9
        go_wp2
        refine region_inb (by kernel_rfl) (by kernel_rfl) ?_
        have inbNe := InB.some
        have inbW := @wrap_small
        have inbU := IntKind.wrap_u8'
        repeat (refine wpQuiet_step (fun K hK => ?_); go_simp; first | (refine hK _ ?_; clear hK K) | (apply Exists.intro; refine ⟨?_, hK _ ?_⟩; (· (intro w' hw'; first | (go_at_call 34; refine (rleast_any _ _ _ _ ha0 ha1 hd0 hd1).mono ?_; rintro e w1 ⟨rfl, b1⟩; rw [hl.out]; exact ⟨rfl, hw'.on b1⟩) | (have hcw := hw'.cell; go_simp; exact rfl))); clear hK K))
        refine wpQuiet_nil ?_
        intro wq hq
        clear inbNe inbW inbU
        go_wp2
        go_ret
        exact ⟨ret_bool hr.out.symm, bt (b1alloc _ _) hq⟩
    · have hr := Lib.hid (show right a d g = false by unfold right; simp; omega)
      have h7 : decide (d + 2 ≤ g) = false := by simp; omega
      go_enter Tryz.func9, Tryz.ntmps9
      go_wp2
      refine region_inb (by kernel_rfl) (by kernel_rfl) ?_
      have inbNe := InB.some
      have inbW := @wrap_small
      have inbU := IntKind.wrap_u8'
      repeat (refine wpQuiet_step (fun K hK => ?_); go_simp; first | (refine hK _ ?_; clear hK K) | (apply Exists.intro; refine ⟨?_, hK _ ?_⟩; (· (intro w' hw'; first | (go_at_call 34; refine (rleast_any _ _ _ _ ha0 ha1 hd0 hd1).mono ?_; rintro e w1 ⟨rfl, b1⟩; rw [hl.out]; exact ⟨rfl, hw'.on b1⟩) | (have hcw := hw'.cell; go_simp; exact rfl))); clear hK K))
      refine wpQuiet_nil ?_
      intro wq hq
      clear inbNe inbW inbU
      go_wp2
      go_ret
      exact ⟨ret_bool hr.out.symm, bt (b1alloc _ _) hq⟩
  · have hr := Lib.hid (show right a d g = false by unfold right; simp; omega)
    have hl := Lib.hid (least_out (a := a) (d := d) (by omega))
    go_enter Tryz.func9, Tryz.ntmps9
    go_wp2
    refine region_inb (by kernel_rfl) (by kernel_rfl) ?_
    have inbNe := InB.some
    have inbW := @wrap_small
    have inbU := IntKind.wrap_u8'
    repeat (refine wpQuiet_step (fun K hK => ?_); go_simp; first | (refine hK _ ?_; clear hK K) | (apply Exists.intro; refine ⟨?_, hK _ ?_⟩; (· (intro w' hw'; first | (go_at_call 34; refine (rleast_any _ _ _ _ ha0 ha1 hd0 hd1).mono ?_; rintro e w1 ⟨rfl, b1⟩; rw [hl.out]; exact ⟨rfl, hw'.on b1⟩) | (have hcw := hw'.cell; go_simp; exact rfl))); clear hK K))
    refine wpQuiet_nil ?_
    intro wq hq
    clear inbNe inbW inbU
    go_wp2
    go_ret
    exact ⟨ret_bool hr.out.symm, bt (b1alloc _ _) hq⟩

set_option maxHeartbeats 400000 in
theorem rleaves_any (a d g : Int) (w : World) (ha0 : lo ≤ a) (ha1 : a ≤ hi) (hd0 : lo ≤ d) (hd1 : d ≤ hi) (hg0 : lo ≤ g) (hg1 : g ≤ hi) :
    Calls Tryz.prog 59 #[.agg #[.int .i64 a, .int .i64 d, .int .i64 g]] w fun e w' => e = .returned (.int .i64 (leavesOf a d g)) ∧ Below w.heap.size w w' := by
  by_cases hr : right a d g = true
  · obtain ⟨h1, h2, h3, h4, h5, h6⟩ := right_yes hr
    have hle := Lib.hid (show leavesOf a d g = leaves a d by simp [leavesOf, hr])
    have hup := Lib.hid (up_all (a := a) h3 h4)
    have Hr := Lib.hid hr
    clear hr
    go_enter Tryz.func59, Tryz.ntmps59
    go_wp2_with fail
    refine (rright_any _ _ _ _ ha0 ha1 hd0 hd1 hg0 hg1).mono ?_
    rintro e w1 ⟨rfl, b1⟩
    rw [Hr.out]
    have hc := b1.cell (p := ⟨w.heap.size, 0, none⟩) (by simp)
    have hc' := b1.cell (p := ⟨w.heap.size, 1, none⟩) (by simp)
    simp at hc hc'
    have bw := bt (below_lit w _) b1
    go_wp2
    go_loop [3, 4] (fun l i => ∃ k : Nat, (k : Int) ≤ d ∧ i = .int .i64 k ∧ l = .int .i64 (lUp a k)) (fun _ i => (d - intOf i).toNat)
    case atStart => exact ⟨0, by omega, rfl, rfl⟩
    case round =>
      obtain ⟨k, hk, rfl, rfl⟩ := hrel
      by_cases hlt : (k : Int) < d
      · have e2 := Lib.hid (lUp_succ a k (by omega))
        have l1 := lUp_bd k (by omega) h1 h2
        have l2 := lUp_bd (k + 1) (by omega) h1 h2
        rw [e2.out] at l2
        go_wp2
        go_round
        case rel => exact ⟨k + 1, by omega, by go_num, by rw [e2.out]⟩
        case measure => simp [intOf]; omega
      · obtain rfl : d = (k : Int) := by omega
        go_wp2
        go_ret
        exact ⟨ret_int (by rw [hle.out, ← hup.out.2]; rfl), bw⟩
  · have hr' : right a d g = false := by simpa using hr
    have hle := Lib.hid (show leavesOf a d g = 0 by simp [leavesOf, hr'])
    have Hr := Lib.hid hr'
    clear hr hr'
    go_enter Tryz.func59, Tryz.ntmps59
    go_wp2_with fail
    refine (rright_any _ _ _ _ ha0 ha1 hd0 hd1 hg0 hg1).mono ?_
    rintro e w1 ⟨rfl, b1⟩
    rw [Hr.out]
    go_wp2
    go_ret
    exact ⟨ret_int hle.out.symm, bt (below_lit w _) b1⟩

set_option maxHeartbeats 400000 in
theorem rnodes_any (a d g : Int) (w : World) (ha0 : lo ≤ a) (ha1 : a ≤ hi) (hd0 : lo ≤ d) (hd1 : d ≤ hi) (hg0 : lo ≤ g) (hg1 : g ≤ hi) :
    Calls Tryz.prog 58 #[.agg #[.int .i64 a, .int .i64 d, .int .i64 g]] w fun e w' => e = .returned (.int .i64 (nodesOf a d g)) ∧ Below w.heap.size w w' := by
  by_cases hr : right a d g = true
  · obtain ⟨h1, h2, h3, h4, h5, h6⟩ := right_yes hr
    have hno := Lib.hid (show nodesOf a d g = nodes a d by simp [nodesOf, hr])
    have hup := Lib.hid (up_all (a := a) h3 h4)
    have Hr := Lib.hid hr
    clear hr
    go_enter Tryz.func58, Tryz.ntmps58
    go_wp2_with fail
    refine (rright_any _ _ _ _ ha0 ha1 hd0 hd1 hg0 hg1).mono ?_
    rintro e w1 ⟨rfl, b1⟩
    rw [Hr.out]
    have hc := b1.cell (p := ⟨w.heap.size, 0, none⟩) (by simp)
    have hc' := b1.cell (p := ⟨w.heap.size, 1, none⟩) (by simp)
    simp at hc hc'
    have bw := bt (below_lit w _) b1
    go_wp2
    go_loop [3, 4, 5] (fun l n i => ∃ k : Nat, (k : Int) ≤ d ∧ i = .int .i64 k ∧ l = .int .i64 (lUp a k) ∧ n = .int .i64 (nUp a k)) (fun _ _ i => (d - intOf i).toNat)
    case atStart => exact ⟨0, by omega, rfl, rfl, rfl⟩
    case round =>
      obtain ⟨k, hk, rfl, rfl, rfl⟩ := hrel
      by_cases hlt : (k : Int) < d
      · have e1 := Lib.hid (nUp_succ a k (by omega))
        have e2 := Lib.hid (lUp_succ a k (by omega))
        have l1 := lUp_bd k (by omega) h1 h2
        have l2 := lUp_bd (k + 1) (by omega) h1 h2
        rw [e2.out] at l2
        have n1 := nUp_bd k (by omega) h1 h2
        go_wp2
        go_round
        case rel => exact ⟨k + 1, by omega, by go_num, by rw [e2.out], by rw [e1.out]⟩
        case measure => simp [intOf]; omega
      · obtain rfl : d = (k : Int) := by omega
        go_wp2
        go_ret
        exact ⟨ret_int (by rw [hno.out, ← hup.out.1]; rfl), bw⟩
  · have hr' : right a d g = false := by simpa using hr
    have hno := Lib.hid (show nodesOf a d g = 0 by simp [nodesOf, hr'])
    have Hr := Lib.hid hr'
    clear hr hr'
    go_enter Tryz.func58, Tryz.ntmps58
    go_wp2_with fail
    refine (rright_any _ _ _ _ ha0 ha1 hd0 hd1 hg0 hg1).mono ?_
    rintro e w1 ⟨rfl, b1⟩
    rw [Hr.out]
    go_wp2
    go_ret
    exact ⟨ret_int hno.out.symm, bt (below_lit w _) b1⟩

set_option maxHeartbeats 400000 in
theorem rpages_any (a d g : Int) (w : World) (ha0 : lo ≤ a) (ha1 : a ≤ hi) (hd0 : lo ≤ d) (hd1 : d ≤ hi) (hg0 : lo ≤ g) (hg1 : g ≤ hi) :
    Calls Tryz.prog 22 #[.agg #[.int .i64 a, .int .i64 d, .int .i64 g]] w fun e w' => e = .returned (.int .i64 (pagesOf a d g)) ∧ Below w.heap.size w w' := by
  have h1 := nodesOf_bd a d g
  have h2 := leavesOf_bd a d g
  have hwr : IntKind.i64.wrap (nodesOf a d g + leavesOf a d g) = nodesOf a d g + leavesOf a d g := IntWalk.i64_in _ (by omega)
  go_enter Tryz.func22, Tryz.ntmps22
  go_wp2
  refine region_inb (by kernel_rfl) (by kernel_rfl) ?_
  have inbNe := InB.some
  have inbW := @wrap_small
  have inbU := IntKind.wrap_u8'
  repeat (refine wpQuiet_step (fun K hK => ?_); go_simp; first | (refine hK _ ?_; clear hK K) | (apply Exists.intro; refine ⟨?_, hK _ ?_⟩; (· (intro w' hw'; first | (go_at_call 58; refine (rnodes_any _ _ _ _ ha0 ha1 hd0 hd1 hg0 hg1).mono ?_; rintro e w1 ⟨rfl, b1⟩; exact ⟨rfl, hw'.on b1⟩) | (go_at_call 59; refine (rleaves_any _ _ _ _ ha0 ha1 hd0 hd1 hg0 hg1).mono ?_; rintro e w1 ⟨rfl, b1⟩; exact ⟨rfl, hw'.on b1⟩) | (have hcw := hw'.cell; go_simp; exact rfl))); clear hK K))
  refine wpQuiet_nil ?_
  intro wq hq
  clear inbNe inbW inbU
  go_wp2
  go_ret
  exact ⟨rfl, bt (b1alloc _ _) hq⟩
end Go.Proofs.YtchcmklelmlbgaaGreat.Geom

/- The walks of geom.Where and of the reference's sizes and places. -/
namespace Go.Proofs.YtchcmklelmlbgaaGreat.Geom
open Go.RowKit
set_option linter.unusedVariables false

set_option maxHeartbeats 400000 in
theorem rsize_any (a d g : Int) (w : World) (ha0 : lo ≤ a) (ha1 : a ≤ hi) (hd0 : lo ≤ d) (hd1 : d ≤ hi) (hg0 : lo ≤ g) (hg1 : g ≤ hi) :
    Calls Tryz.prog 12 #[.agg #[.int .i64 a, .int .i64 d, .int .i64 g]] w fun e w' => e = .returned (.int .i64 (sizeOf a d g)) ∧ Below w.heap.size w w' := by
  by_cases hr : right a d g = true
  · obtain ⟨h1, h2, h3, h4, h5, h6⟩ := right_yes hr
    have hsz := Lib.hid (show sizeOf a d g = 4 + g + 2 * pagesOf a d g by simp [sizeOf, hr])
    have hp := pagesOf_bd a d g
    have Hr := Lib.hid hr
    clear hr
    have hwr : IntKind.i64.wrap (2 * pagesOf a d g) = 2 * pagesOf a d g := IntWalk.i64_in _ (by omega)
    have hwr2 : IntKind.i64.wrap (4 + g) = 4 + g := IntWalk.i64_in _ (by omega)
    have hwr3 : IntKind.i64.wrap (4 + g + 2 * pagesOf a d g) = 4 + g + 2 * pagesOf a d g := IntWalk.i64_in _ (by omega)
    go_enter Tryz.func12, Tryz.ntmps12
    go_wp2_with fail
    refine (rright_any _ _ _ _ ha0 ha1 hd0 hd1 hg0 hg1).mono ?_
    rintro e w1 ⟨rfl, b1⟩
    rw [Hr.out]
    have hc := b1.cell (p := ⟨w.heap.size, 0, none⟩) (by simp)
    have hc' := b1.cell (p := ⟨w.heap.size, 1, none⟩) (by simp)
    have hc'' := b1.cell (p := ⟨w.heap.size, 2, none⟩) (by simp)
    have hs : w.heap.size < w1.heap.size := by have := b1.size; simp at this; omega
    simp at hc hc' hc''
    have bw := bt (below_lit w _) b1
    go_wp2
    refine region_inb (by kernel_rfl) (by kernel_rfl) ?_
    have inbNe := InB.some
    have inbW := @wrap_small
    have inbU := IntKind.wrap_u8'
    repeat (refine wpQuiet_step (fun K hK => ?_); go_simp; first | (refine hK _ ?_; clear hK K) | (apply Exists.intro; refine ⟨?_, hK _ ?_⟩; (· (intro w' hw'; first | (go_at_call 22; refine (rpages_any _ _ _ _ ha0 ha1 hd0 hd1 hg0 hg1).mono ?_; rintro e w1 ⟨rfl, b1⟩; exact ⟨rfl, hw'.on b1⟩) | (have hcw := hw'.cell; go_simp; exact rfl))); clear hK K))
    refine wpQuiet_nil ?_
    intro wq hq
    clear inbNe inbW inbU
    go_wp2
    go_ret
    exact ⟨ret_int hsz.out.symm, bt bw hq⟩
  · have hr' : right a d g = false := by simpa using hr
    have hsz := Lib.hid (show sizeOf a d g = 0 by simp [sizeOf, hr'])
    have Hr := Lib.hid hr'
    clear hr hr'
    go_enter Tryz.func12, Tryz.ntmps12
    go_wp2_with fail
    refine (rright_any _ _ _ _ ha0 ha1 hd0 hd1 hg0 hg1).mono ?_
    rintro e w1 ⟨rfl, b1⟩
    rw [Hr.out]
    go_wp2
    go_ret
    exact ⟨ret_int hsz.out.symm, bt (below_lit w _) b1⟩








































































































































theorem size_bd (a d g : Int) : 0 ≤ sizeOf a d g ∧ sizeOf a d g ≤ 238 := by
  unfold sizeOf
  by_cases h : right a d g = true
  · rw [if_pos h]
    obtain ⟨h1, h2, h3, h4, h5, h6⟩ := right_yes h
    have := pagesOf_bd a d g
    omega
  · rw [if_neg h]; omega
theorem size_right {a d g p : Int} (h0 : 0 ≤ p) (h : p < sizeOf a d g) : right a d g = true ∧ p < 4 + g + 2 * pagesOf a d g := by
  by_cases hr : right a d g = true
  · exact ⟨hr, by simpa [sizeOf, hr] using h⟩
  · simp [sizeOf, hr] at h; omega
/-- what stands at a place -/
def whereW (a d g p : Int) : ByteArray := if p < 0 ∨ sizeOf a d g ≤ p then ⟨#[]⟩ else if p < 2 then ⟨#[114, 111, 111, 116]⟩ else if p < 4 then ⟨#[115, 117, 112, 101, 114]⟩ else if p < 4 + g then ⟨#[108, 111, 103]⟩ else ⟨#[97, 114, 101, 97]⟩
def whereK (a d g p : Int) : Int := if p < 0 ∨ sizeOf a d g ≤ p then 0 else if p < 2 then p else if p < 4 then p - 2 else if p < 4 + g then p - 4 else p - 4 - g










































































set_option maxHeartbeats 1600000 in
theorem where_in (a d g q : Int) (w : World) (ha0 : lo ≤ a) (ha1 : a ≤ hi) (hd0 : lo ≤ d) (hd1 : d ≤ hi) (hg0 : lo ≤ g) (hg1 : g ≤ hi) (hq0 : 0 ≤ q) (hq1 : q < sizeOf a d g) :
    Calls Tryz.prog 110 #[.agg #[.int .i64 a, .int .i64 d, .int .i64 g], .int .i64 q] w fun e w' => e = .returned (.tuple #[.string (whereW a d g q), .int .i64 (whereK a d g q)]) ∧ Below w.heap.size w w' := by
  obtain ⟨hr, hlt⟩ := size_right hq0 hq1
  obtain ⟨r1, r2, r3, r4, r5, r6⟩ := right_yes hr
  have hn : ¬ (q < 0 ∨ sizeOf a d g ≤ q) := by omega
  have hp := pagesOf_bd a d g
  have hsb := size_bd a d g
  clear hr
  obtain ⟨p, hpe⟩ : ∃ p, p = 2 * pagesOf a d g := ⟨_, rfl⟩
  have hp1 : 0 ≤ p := by omega
  have hp2 : p ≤ 170 := by omega
  have hlt' : q < 4 + g + p := by omega
  have Hn := Lib.hid hn
  clear hn
  have i0 : ∀ w, (Instr.index 164 (.agg #[.string ⟨#[114, 111, 111, 116]⟩, .int .i64 2, .string ⟨#[115, 117, 112, 101, 114]⟩, .int .i64 2, .string ⟨#[108, 111, 103]⟩, .int .i64 g, .string ⟨#[97, 114, 101, 97]⟩, .int .i64 p]) (.int .i64 0)).run Tryz.prog w = .ok (.agg #[.string ⟨#[114, 111, 111, 116]⟩, .int .i64 2]) w := fun _ => by kernel_rfl
  have i1 : ∀ w, (Instr.index 164 (.agg #[.string ⟨#[114, 111, 111, 116]⟩, .int .i64 2, .string ⟨#[115, 117, 112, 101, 114]⟩, .int .i64 2, .string ⟨#[108, 111, 103]⟩, .int .i64 g, .string ⟨#[97, 114, 101, 97]⟩, .int .i64 p]) (.int .i64 1)).run Tryz.prog w = .ok (.agg #[.string ⟨#[115, 117, 112, 101, 114]⟩, .int .i64 2]) w := fun _ => by kernel_rfl
  have i2 : ∀ w, (Instr.index 164 (.agg #[.string ⟨#[114, 111, 111, 116]⟩, .int .i64 2, .string ⟨#[115, 117, 112, 101, 114]⟩, .int .i64 2, .string ⟨#[108, 111, 103]⟩, .int .i64 g, .string ⟨#[97, 114, 101, 97]⟩, .int .i64 p]) (.int .i64 2)).run Tryz.prog w = .ok (.agg #[.string ⟨#[108, 111, 103]⟩, .int .i64 g]) w := fun _ => by kernel_rfl
  have i3 : ∀ w, (Instr.index 164 (.agg #[.string ⟨#[114, 111, 111, 116]⟩, .int .i64 2, .string ⟨#[115, 117, 112, 101, 114]⟩, .int .i64 2, .string ⟨#[108, 111, 103]⟩, .int .i64 g, .string ⟨#[97, 114, 101, 97]⟩, .int .i64 p]) (.int .i64 3)).run Tryz.prog w = .ok (.agg #[.string ⟨#[97, 114, 101, 97]⟩, .int .i64 p]) w := fun _ => by kernel_rfl
  go_enter Tryz.func110, Tryz.ntmps110
  go_wp2_with fail
  go_step3
  go_wp2_with fail
  refine (size_any _ _ _ _ ha0 ha1 hd0 hd1 hg0 hg1).mono ?_
  rintro e w1 ⟨rfl, b1⟩
  obtain ⟨hc1, hf1, hs1⟩ := bcell b1
  simp at hs1
  have bw := bt (below_lit w _) b1
  go_wp2_with fail
  go_step3
  go_wp2_with fail
  refine (parts_any _ _ _ _ ha0 ha1 hd0 hd1 hg0 hg1).mono ?_
  rintro e w2 ⟨rfl, b2⟩
  unfold partsV
  rw [← hpe]
  clear hpe hc1 hf1 hlt hq1 hsb
  have bw2 := bt bw b2
  go_wp2_with fail
  go_loopw [1, 7, 18] (fun x _ i wr => ∃ k : Nat, k ≤ 3 ∧ i = .int .i64 k ∧ x = .int .i64 (q - psum g p k) ∧ psum g p k ≤ q ∧ Below w.heap.size w wr) (fun _ _ i _ => (4 - intOf i).toNat)
  case atStart => exact ⟨0, by omega, rfl, by simp [psum], by simpa [psum] using hq0, bw2⟩
  case round =>
    obtain ⟨k, hk, rfl, rfl, hps, hbel⟩ := hrel
    have hbs := hbel.size
    obtain rfl | rfl | rfl | rfl : k = 0 ∨ k = 1 ∨ k = 2 ∨ k = 3 := by omega
    · simp only [psum, Int.cast_ofNat_Int, Int.sub_zero] at hps ⊢
      by_cases h2 : q < 2
      · have hd := h2
        have hw := Lib.hid (show whereW a d g q = ⟨#[114, 111, 111, 116]⟩ by unfold whereW; rw [if_neg Hn.out, if_pos (by omega)])
        have hk := Lib.hid (show whereK a d g q = q by unfold whereK; rw [if_neg Hn.out, if_pos (by omega)])
        go_wp2
        rw [Exit.noGoto_ret]
        go_ret2
        exact ⟨by rw [hw.out, hk.out]; rfl, hbel.alloc hbs _⟩
      · go_wp2
        go_roundw
        case rel => exact ⟨1, by omega, rfl, by simp; try omega, by simp; omega, hbel.alloc hbs _⟩
        case measure => simp [intOf]
    · simp only [psum, Int.cast_ofNat_Int] at hps ⊢
      by_cases h2 : q < 4
      · have hd := h2
        have hw := Lib.hid (show whereW a d g q = ⟨#[115, 117, 112, 101, 114]⟩ by unfold whereW; rw [if_neg Hn.out, if_neg (by omega), if_pos (by omega)])
        have hk := Lib.hid (show whereK a d g q = q - 2 by unfold whereK; rw [if_neg Hn.out, if_neg (by omega), if_pos (by omega)])
        go_wp2
        rw [Exit.noGoto_ret]
        go_ret2
        exact ⟨by rw [hw.out, hk.out]; rfl, hbel.alloc hbs _⟩
      · go_wp2
        go_roundw
        case rel => exact ⟨2, by omega, rfl, by simp; try omega, by simp; omega, hbel.alloc hbs _⟩
        case measure => simp [intOf]
    · simp only [psum, Int.cast_ofNat_Int] at hps ⊢
      by_cases h2 : q < 4 + g
      · have hd := h2
        have hw := Lib.hid (show whereW a d g q = ⟨#[108, 111, 103]⟩ by unfold whereW; rw [if_neg Hn.out, if_neg (by omega), if_neg (by omega), if_pos (by omega)])
        have hk := Lib.hid (show whereK a d g q = q - 4 by unfold whereK; rw [if_neg Hn.out, if_neg (by omega), if_neg (by omega), if_pos (by omega)])
        go_wp2
        rw [Exit.noGoto_ret]
        go_ret2
        exact ⟨by rw [hw.out, hk.out]; rfl, hbel.alloc hbs _⟩
      · go_wp2
        go_roundw
        case rel => exact ⟨3, by omega, rfl, by simp; try omega, by simp; omega, hbel.alloc hbs _⟩
        case measure => simp [intOf]
    · simp only [psum, Int.cast_ofNat_Int] at hps ⊢
      have hw := Lib.hid (show whereW a d g q = ⟨#[97, 114, 101, 97]⟩ by unfold whereW; rw [if_neg Hn.out, if_neg (by omega), if_neg (by omega), if_neg (by omega)])
      have hk := Lib.hid (show whereK a d g q = q - (4 + g) by unfold whereK; rw [if_neg Hn.out, if_neg (by omega), if_neg (by omega), if_neg (by omega)]; omega)
      go_wp2
      rw [Exit.noGoto_ret]
      go_ret2
      exact ⟨by rw [hw.out, hk.out]; rfl, hbel.alloc hbs _⟩

set_option maxHeartbeats 400000 in
theorem where_any (a d g q : Int) (w : World) (ha0 : lo ≤ a) (ha1 : a ≤ hi) (hd0 : lo ≤ d) (hd1 : d ≤ hi) (hg0 : lo ≤ g) (hg1 : g ≤ hi) (hq0 : lo ≤ q) (hq1 : q ≤ hi) :
    Calls Tryz.prog 110 #[.agg #[.int .i64 a, .int .i64 d, .int .i64 g], .int .i64 q] w fun e w' => e = .returned (.tuple #[.string (whereW a d g q), .int .i64 (whereK a d g q)]) ∧ Below w.heap.size w w' := by
  by_cases h0 : q < 0
  · have hw := Lib.hid (show whereW a d g q = ⟨#[]⟩ from if_pos (.inl h0))
    have hk := Lib.hid (show whereK a d g q = 0 from if_pos (.inl h0))
    go_enter Tryz.func110, Tryz.ntmps110
    go_wp2_with fail
    go_step3
    go_wp2_with fail
    rw [Exit.noGoto_ret]
    go_ret2
    exact ⟨by rw [hw.out, hk.out]; rfl, below_lit w _⟩
  by_cases h1 : sizeOf a d g ≤ q
  · have hw := Lib.hid (show whereW a d g q = ⟨#[]⟩ from if_pos (.inr h1))
    have hk := Lib.hid (show whereK a d g q = 0 from if_pos (.inr h1))
    go_enter Tryz.func110, Tryz.ntmps110
    go_wp2_with fail
    go_step3
    go_wp2_with fail
    refine (size_any _ _ _ _ ha0 ha1 hd0 hd1 hg0 hg1).mono ?_
    rintro e w1 ⟨rfl, b1⟩
    go_wp2_with fail
    rw [Exit.noGoto_ret]
    go_ret2
    exact ⟨by rw [hw.out, hk.out]; rfl, bt (below_lit w _) b1⟩
  · exact where_in a d g q w ha0 ha1 hd0 hd1 hg0 hg1 (by omega) (by omega)

theorem keep3 {w wa w1 : World} {x y z : Value} (h0 : wa.cell? ⟨w.heap.size, 0, none⟩ = some x) (h1 : wa.cell? ⟨w.heap.size, 1, none⟩ = some y) (h2 : wa.cell? ⟨w.heap.size, 2, none⟩ = some z) (hs : w.heap.size < wa.heap.size) (b : Below wa.heap.size wa w1) :
    w1.cell? ⟨w.heap.size, 0, none⟩ = some x ∧ w1.cell? ⟨w.heap.size, 1, none⟩ = some y ∧ w1.cell? ⟨w.heap.size, 2, none⟩ = some z ∧ w.heap.size < w1.heap.size :=
  ⟨(b.cell (p := ⟨w.heap.size, 0, none⟩) hs).trans h0, (b.cell (p := ⟨w.heap.size, 1, none⟩) hs).trans h1, (b.cell (p := ⟨w.heap.size, 2, none⟩) hs).trans h2, Nat.lt_of_lt_of_le hs b.size⟩







































end Go.Proofs.YtchcmklelmlbgaaGreat.Geom

/- The supers: which disk is right, the mark, and what is written: super.places, right, both, Mark, Write, Clear. -/
namespace Go.Proofs.YtchcmklelmlbgaaGreat
theorem Keep.of_below5 {w w5 w' : World} {fp : List Nat} (k : Keep fp w5 w') (b : Go.RowKit.Below w.heap.size w w5) : Keep fp w w' := (Keep.of_below b fp).trans k (Fresh.refl _ _)
theorem Fresh.of_size {w w5 : World} {fp fp' : List Nat} (f : Fresh w5 fp fp') (b : Go.RowKit.Below w.heap.size w w5) : Fresh w fp fp' := fun j hj => (f j hj).imp id (fun h => Nat.le_trans b.size h)
theorem Box.on' {w w' : World} {g : Nat} {v : Value} (h : Box w g v) (b : Go.RowKit.Below w.heap.size w w') : Box w' g v := h.below b h.lt
end Go.Proofs.YtchcmklelmlbgaaGreat
namespace Go.Proofs.YtchcmklelmlbgaaGreat.Sup
open Go.RowKit
open Go.Proofs.YtchcmklelmlbgaaGreat.Geom
open Go.Proofs.YtchcmklelmlbgaaGreat.Disk (St DAt Did write_any flush_any read_any New8 Told8)
open Go.Proofs.YtchcmklelmlbgaaGreat.Sec (X SymAt text sumOf sumAfter ckS blankB rightF encode_sym decode_sym isBlank_any right_0 right_2 xv RetX X0 five5x)
set_option linter.unusedVariables false
set_option maxRecDepth 100000
/-- a geometry's numbers are Go's -/
structure Gb (a d g : Int) : Prop where
  a0 : lo ≤ a
  a1 : a ≤ hi
  d0 : lo ≤ d
  d1 : d ≤ hi
  g0 : lo ≤ g
  g1 : g ≤ hi
abbrev gv (a d g : Int) : Value := .agg #[.int .i64 a, .int .i64 d, .int .i64 g]
abbrev gcell (a d g : Int) : List Value := [.int .i64 a, .int .i64 d, .int .i64 g]
theorem gthree {w : World} {b : Nat} {u v x : Value} (h : Blk w b [u, v, x]) : w.cell? ⟨b, 0, none⟩ = some u ∧ w.cell? ⟨b, 1, none⟩ = some v ∧ w.cell? ⟨b, 2, none⟩ = some x := ⟨h.cell (k := 0) (by simp), h.cell (k := 1) (by simp), h.cell (k := 2) (by simp)⟩
def two23 : Value := .agg #[.int .i64 2, .int .i64 3]
theorem sup0 : (2 : Int) + ((0 : UInt64).toNat : Int) % 2 = 2 := by decide
theorem sup1 : (2 : Int) + ((1 : UInt64).toNat : Int) % 2 = 3 := by decide
theorem places_any (w : World) : Calls Tryz.prog 72 #[] w fun e w' => e = .returned (.agg #[.int .i64 2, .int .i64 3]) ∧ Below w.heap.size w w' := by
  have h0 := fun W => super_any 0 0 (by rfl) W
  have h1 := fun W => super_any 1 1 (by rfl) W
  rw [sup0] at h0
  rw [sup1] at h1
  have H0 := Lib.hid h0
  have H1 := Lib.hid h1
  have t0 : True := trivial
  clear h0 h1
  go_enter Tryz.func72, Tryz.ntmps72
  go_wp2_with (first
    | (go_at_call 99; have _t := t0; refine (H0.out _).mono ?_; rintro e w1 ⟨rfl, rfl⟩; clear t0)
    | (go_at_call 99; refine (H1.out _).mono ?_; rintro e w1 ⟨rfl, rfl⟩))
  refine bodyPost_ret (v := .agg #[.int .i64 2, .int .i64 3]) (by simp [results, Tryz.results72, go_sem]) rfl ⟨rfl, b1alloc _ _⟩
/-- is it a disk of a geometry? -/
def srightF (s : St) (ga gd gl : Int) : Int := if right ga gd gl = true ∧ (s.size : Int) = Geom.sizeOf ga gd gl then 0 else 2
theorem right_nil (ga gd gl : Int) (w : World) : Calls Tryz.prog 71 #[.pointer none, gv ga gd gl] w fun e w' => e = .returned (.int .i64 1) ∧ Below w.heap.size w w' := by
  go_enter Tryz.func71, Tryz.ntmps71
  go_wp2
  go_ret
  exact ⟨rfl, b1alloc _ _⟩
set_option maxHeartbeats 800000 in
theorem right_any (g : Nat) (fp : List Nat) (s : St) (ga gd gl : Int) (w : World) (hG : Gb ga gd gl) (h : DAt w g fp s) : Calls Tryz.prog 71 #[.pointer (some ⟨g, 0, none⟩), gv ga gd gl] w fun e w' => e = .returned (.int .i64 (srightF s ga gd gl)) ∧ Below w.heap.size w w' := by
  have F := Blk.new w (gcell ga gd gl) 23
  have b0 := b1alloc w (.cells (gcell ga gd gl).toArray 23)
  obtain ⟨z0, z1, z2⟩ := gthree F
  have HR := Lib.hid (fun W => Geom.right_any ga gd gl W hG.a0 hG.a1 hG.d0 hG.d1 hG.g0 hG.g1)
  have HZ := Lib.hid (fun W => Geom.size_any ga gd gl W hG.a0 hG.a1 hG.d0 hG.d1 hG.g0 hG.g1)
  have HD := Lib.hid (fun W (bW : Below w.heap.size w W) => Disk.size_any g fp s W (h.on bW))
  unfold srightF
  obtain ⟨q, hq⟩ : ∃ q, q = right ga gd gl := ⟨_, rfl⟩
  obtain ⟨z, hz⟩ : ∃ z, z = Geom.sizeOf ga gd gl := ⟨_, rfl⟩
  rw [← hq] at HR ⊢
  rw [← hz] at HZ ⊢
  clear hq hz
  cases q with
  | false =>
    rw [if_neg (by simp)]
    go_enter Tryz.func71, Tryz.ntmps71
    go_wp2_with fail
    refine region_inb (by kernel_rfl) (by kernel_rfl) ?_
    have inbNe := InB.some
    have inbW := @wrap_small
    have inbU := IntKind.wrap_u8'
    repeat (refine wpQuiet_step (fun K hK => ?_); go_simp; first | (refine hK _ ?_; clear hK K) | (apply Exists.intro; refine ⟨?_, hK _ ?_⟩; (· (intro w' hw'; first | (go_at_call 67; refine (HR.out _).mono ?_; rintro e w1 ⟨rfl, b1⟩; exact ⟨rfl, hw'.on b1⟩) | (have hcw := hw'.cell; go_simp; exact rfl))); clear hK K))
    refine wpQuiet_nil ?_
    intro wq hq
    clear inbNe inbW inbU
    go_wp2
    go_ret
    exact ⟨rfl, bt b0 hq.below⟩
  | true =>
    by_cases hs : (s.size : Int) = z
    · rw [if_pos ⟨rfl, hs⟩]
      have t0 := bne_no hs
      have Hs := Lib.hid hs
      clear hs
      go_enter Tryz.func71, Tryz.ntmps71
      go_wp2_with fail
      refine region_inb (by kernel_rfl) (by kernel_rfl) ?_
      have inbNe := InB.some
      have inbW := @wrap_small
      have inbU := IntKind.wrap_u8'
      repeat (refine wpQuiet_step (fun K hK => ?_); go_simp; first | (refine hK _ ?_; clear hK K) | (apply Exists.intro; refine ⟨?_, hK _ ?_⟩; (· (intro w' hw'; first | (go_at_call 67; refine (HR.out _).mono ?_; rintro e w1 ⟨rfl, b1⟩; exact ⟨rfl, hw'.on b1⟩) | (go_at_call 68; refine (HD.out _ (bt b0 hw'.below)).mono ?_; rintro e w1 ⟨rfl, rfl⟩; exact ⟨rfl, hw'⟩) | (go_at_call 69; refine (HZ.out _).mono ?_; rintro e w1 ⟨rfl, b1⟩; exact ⟨rfl, hw'.on b1⟩) | (have hcw := hw'.cell; go_simp; exact rfl))); clear hK K))
      refine wpQuiet_nil ?_
      intro wq hq
      clear inbNe inbW inbU
      go_wp2
      go_ret
      exact ⟨rfl, bt b0 hq.below⟩
    · rw [if_neg (fun e => hs e.2)]
      have t0 := bne_yes hs
      have Hs := Lib.hid hs
      clear hs
      go_enter Tryz.func71, Tryz.ntmps71
      go_wp2_with fail
      refine region_inb (by kernel_rfl) (by kernel_rfl) ?_
      have inbNe := InB.some
      have inbW := @wrap_small
      have inbU := IntKind.wrap_u8'
      repeat (refine wpQuiet_step (fun K hK => ?_); go_simp; first | (refine hK _ ?_; clear hK K) | (apply Exists.intro; refine ⟨?_, hK _ ?_⟩; (· (intro w' hw'; first | (go_at_call 67; refine (HR.out _).mono ?_; rintro e w1 ⟨rfl, b1⟩; exact ⟨rfl, hw'.on b1⟩) | (go_at_call 68; refine (HD.out _ (bt b0 hw'.below)).mono ?_; rintro e w1 ⟨rfl, rfl⟩; exact ⟨rfl, hw'⟩) | (go_at_call 69; refine (HZ.out _).mono ?_; rintro e w1 ⟨rfl, b1⟩; exact ⟨rfl, hw'.on b1⟩) | (have hcw := hw'.cell; go_simp; exact rfl))); clear hK K))
      refine wpQuiet_nil ?_
      intro wq hq
      clear inbNe inbW inbU
      go_wp2
      go_ret
      exact ⟨rfl, bt b0 hq.below⟩
theorem bothS_nil (v : Value) (ga gd gl : Int) (w : World) : Calls Tryz.prog 87 #[v, .pointer none, gv ga gd gl] w fun e w' => e = .returned (.int .i64 1) ∧ Below w.heap.size w w' := by
  go_enter Tryz.func87, Tryz.ntmps87
  go_wp2
  go_ret
  exact ⟨rfl, b1alloc _ _⟩
theorem bothD_nil (gS : Nat) (ga gd gl : Int) (w : World) : Calls Tryz.prog 87 #[.pointer none, .pointer (some ⟨gS, 0, none⟩), gv ga gd gl] w fun e w' => e = .returned (.int .i64 1) ∧ Below w.heap.size w w' := by
  obtain ⟨z0, z1, z2⟩ := gthree (Blk.new w (gcell ga gd gl) 23)
  go_enter Tryz.func87, Tryz.ntmps87
  go_wp2_with (go_at_call 71; refine (right_nil _ _ _ _).mono ?_; rintro e w' ⟨rfl, b1⟩)
  go_ret
  exact ⟨rfl, bt (b1alloc _ _) b1⟩
theorem both_any (g : Nat) (fp : List Nat) (s : St) (gS : Nat) (ga gd gl : Int) (w : World) (hG : Gb ga gd gl) (h : DAt w g fp s) : Calls Tryz.prog 87 #[.pointer (some ⟨g, 0, none⟩), .pointer (some ⟨gS, 0, none⟩), gv ga gd gl] w fun e w' => e = .returned (.int .i64 (srightF s ga gd gl)) ∧ Below w.heap.size w w' := by
  obtain ⟨z0, z1, z2⟩ := gthree (Blk.new w (gcell ga gd gl) 23)
  have b0 := b1alloc w (.cells (gcell ga gd gl).toArray 23)
  go_enter Tryz.func87, Tryz.ntmps87
  go_wp2_with (go_at_call 71; refine (right_any g fp s _ _ _ _ hG (h.on b0)).mono ?_; rintro e w' ⟨rfl, b1⟩)
  go_ret
  exact ⟨rfl, bt b0 b1⟩
/-- the mark of a geometry -/
def mk (ga gd gl : Int) : List UInt8 := if right ga gd gl = true then [UInt8.ofNat ga.toNat, UInt8.ofNat gd.toNat, UInt8.ofNat gl.toNat] else []
theorem mark_any (ga gd gl : Int) (w : World) (hG : Gb ga gd gl) : Calls Tryz.prog 106 #[gv ga gd gl] w (RetB 5 w (mk ga gd gl)) := by
  obtain ⟨z0, z1, z2⟩ := gthree (Blk.new w (gcell ga gd gl) 23)
  have b0 := b1alloc w (.cells (gcell ga gd gl).toArray 23)
  have HR := Lib.hid (fun W => Geom.right_any ga gd gl W hG.a0 hG.a1 hG.d0 hG.d1 hG.g0 hG.g1)
  unfold mk
  cases hq : right ga gd gl with
  | false =>
    rw [hq] at HR
    rw [if_neg (by simp)]
    go_enter Tryz.func106, Tryz.ntmps106
    go_wp2_with (go_at_call 67; refine (HR.out _).mono ?_; rintro e w' ⟨rfl, b1⟩)
    go_ret
    exact RetB.mk (own_nil _ _ _ _) rfl (bt b0 b1)
  | true =>
    rw [hq] at HR
    rw [if_pos rfl]
    have hy := Geom.right_yes hq
    obtain ⟨x, hx⟩ : ∃ x, x = UInt8.ofNat ga.toNat := ⟨_, rfl⟩
    obtain ⟨y, hY⟩ : ∃ x, x = UInt8.ofNat gd.toNat := ⟨_, rfl⟩
    obtain ⟨z, hz⟩ : ∃ x, x = UInt8.ofNat gl.toNat := ⟨_, rfl⟩
    have w1 : IntKind.u8.wrap ga = (x.toNat : Int) := by rw [hx, IntKind.wrap_u8', UInt8.toNat_ofNat']; omega
    have w2 : IntKind.u8.wrap gd = (y.toNat : Int) := by rw [hY, IntKind.wrap_u8', UInt8.toNat_ofNat']; omega
    have w3 : IntKind.u8.wrap gl = (z.toNat : Int) := by rw [hz, IntKind.wrap_u8', UInt8.toNat_ofNat']; omega
    rw [← hx, ← hY, ← hz]
    clear hx hY hz
    have F := Lib.hid (Blk.new w (gcell ga gd gl) 23)
    go_enter Tryz.func106, Tryz.ntmps106
    go_wp2_with (go_at_call 67; refine (HR.out _).mono ?_; rintro e w4 ⟨rfl, b1⟩; obtain ⟨y0, y1, y2⟩ := gthree (F.out.on b1))
    go_ret
    have hl := own_lit w4 5 #[e8 x, e8 y, e8 z] w.heap.size 3 (bt b0 b1).size rfl (by unfold maxLen; omega)
    exact RetB.mk hl rfl (bt (bt b0 b1) (b1alloc _ _))
end Go.Proofs.YtchcmklelmlbgaaGreat.Sup

/- The supers: super.Write and Clear and what they come to. -/
namespace Go.Proofs.YtchcmklelmlbgaaGreat.Sup
open Go.RowKit
open Go.Proofs.YtchcmklelmlbgaaGreat.Geom
open Go.Proofs.YtchcmklelmlbgaaGreat.Disk (St DAt Did write_any flush_any read_any New8 Told8)
open Go.Proofs.YtchcmklelmlbgaaGreat.Sec (X SymAt text sumOf sumAfter ckS blankB rightF encode_sym decode_sym isBlank_any right_0 right_2 xv RetX X0 five5x)
set_option linter.unusedVariables false
set_option maxRecDepth 100000
def sx (ga gd gl : Int) (life : UInt64) (base : Int) (gen : UInt64) : X := ⟨2, life, base, gen, mk ga gd gl⟩
def splace (life : UInt64) : Int := 2 + (life.toNat : Int) % 2
theorem splace_ok (life : UInt64) : 2 ≤ splace life ∧ splace life ≤ 3 := by unfold splace; omega
theorem mk_len (ga gd gl : Int) : (mk ga gd gl).length ≤ 3 := by unfold mk; split <;> simp
theorem sx_right {ga gd gl : Int} {life : UInt64} {base : Int} {gen : UInt64} (h0 : 0 ≤ base) (h1 : base ≤ 1073741824) : rightF (splace life) (sx ga gd gl life base gen) = 0 := by
  have hp := splace_ok life
  have := mk_len ga gd gl
  exact right_0 (by unfold sx; simp only []; omega) (by unfold sx; simp only []; omega)
theorem sx_wrong {ga gd gl : Int} {life : UInt64} {base : Int} {gen : UInt64} (h : base < 0 ∨ 1073741824 < base) : rightF (splace life) (sx ga gd gl life base gen) = 2 :=
  right_2 (by unfold sx; simp only []; omega)
/-- bytes at a place, flushed -/
def wf (s : St) (p : Int) (b : List UInt8) : St × Int := if (Disk.write s p b).2 = 0 then Disk.flush (Disk.write s p b).1 else Disk.write s p b
theorem wf_sz (s : St) (p : Int) (b : List UInt8) : (wf s p b).1.sz ≤ s.sz + 3 := by
  unfold wf
  have h1 := Disk.sz_write s p b
  split
  · have h2 := Disk.sz_flush (Disk.write s p b).1
    omega
  · omega
def sB (l : List (List UInt8)) (ga gd gl : Int) (life : UInt64) (base : Int) (gen : UInt64) : List UInt8 := text (splace life) (sx ga gd gl life base gen) ++ sumOf l (text (splace life) (sx ga gd gl life base gen))
def sL (l : List (List UInt8)) (ga gd gl : Int) (life : UInt64) (base : Int) (gen : UInt64) : List (List UInt8) := sumAfter l (text (splace life) (sx ga gd gl life base gen))
theorem sB_len (l : List (List UInt8)) (ga gd gl : Int) (life : UInt64) (base : Int) (gen : UInt64) : (sB l ga gd gl life base gen).length = 512 := by unfold sB; rw [List.length_append, Sec.text_len, Sec.sumOf_len]
abbrev sv (life : UInt64) (base : Int) (gen : UInt64) : Value := .agg #[.int .u64 (life.toNat : Int), .int .i64 base, .int .u64 (gen.toNat : Int)]
abbrev scell (life : UInt64) (base : Int) (gen : UInt64) : List Value := [.int .u64 (life.toNat : Int), .int .i64 base, .int .u64 (gen.toNat : Int)]
theorem writeD_nil (gS : Nat) (ga gd gl : Int) (life : UInt64) (base : Int) (gen : UInt64) (w : World) : Calls Tryz.prog 80 #[.pointer none, .pointer (some ⟨gS, 0, none⟩), gv ga gd gl, sv life base gen] w fun e w' => e = .returned (.int .i64 1) ∧ Below w.heap.size w w' := by
  obtain ⟨z0, z1, z2⟩ := gthree ((Blk.new w (gcell ga gd gl) 23).alloc (.cells (scell life base gen).toArray 90))
  have b0 := b2alloc w (.cells (gcell ga gd gl).toArray 23) (.cells (scell life base gen).toArray 90)
  go_enter Tryz.func80, Tryz.ntmps80
  go_wp2_with (go_at_call 87; refine (bothD_nil _ _ _ _ _).mono ?_; rintro e w' ⟨rfl, b1⟩)
  go_ret
  exact ⟨rfl, bt b0 b1⟩
theorem writeS_nil (v : Value) (ga gd gl : Int) (life : UInt64) (base : Int) (gen : UInt64) (w : World) : Calls Tryz.prog 80 #[v, .pointer none, gv ga gd gl, sv life base gen] w fun e w' => e = .returned (.int .i64 1) ∧ Below w.heap.size w w' := by
  obtain ⟨z0, z1, z2⟩ := gthree ((Blk.new w (gcell ga gd gl) 23).alloc (.cells (scell life base gen).toArray 90))
  have b0 := b2alloc w (.cells (gcell ga gd gl).toArray 23) (.cells (scell life base gen).toArray 90)
  go_enter Tryz.func80, Tryz.ntmps80
  go_wp2_with (go_at_call 87; refine (bothS_nil _ _ _ _ _).mono ?_; rintro e w' ⟨rfl, b1⟩)
  go_ret
  exact ⟨rfl, bt b0 b1⟩
theorem write_wrong (g : Nat) (fp : List Nat) (s : St) (gS : Nat) (ga gd gl : Int) (life : UInt64) (base : Int) (gen : UInt64) (w : World) (hG : Gb ga gd gl) (h : DAt w g fp s) (hf : srightF s ga gd gl ≠ 0) : Calls Tryz.prog 80 #[.pointer (some ⟨g, 0, none⟩), .pointer (some ⟨gS, 0, none⟩), gv ga gd gl, sv life base gen] w fun e w' => e = .returned (.int .i64 (srightF s ga gd gl)) ∧ Below w.heap.size w w' := by
  obtain ⟨z0, z1, z2⟩ := gthree ((Blk.new w (gcell ga gd gl) 23).alloc (.cells (scell life base gen).toArray 90))
  have b0 := b2alloc w (.cells (gcell ga gd gl).toArray 23) (.cells (scell life base gen).toArray 90)
  have HB := Lib.hid (both_any g fp s gS ga gd gl _ hG (h.on b0))
  obtain ⟨f, hf0⟩ : ∃ f, f = srightF s ga gd gl := ⟨_, rfl⟩
  rw [← hf0] at HB hf ⊢
  have t0 := bne_yes hf
  clear hf0
  go_enter Tryz.func80, Tryz.ntmps80
  go_wp2_with (go_at_call 87; refine (HB.out).mono ?_; rintro e w' ⟨rfl, b1⟩)
  go_ret
  exact ⟨rfl, bt b0 b1⟩
set_option maxHeartbeats 2000000 in
theorem write_any (g : Nat) (fp : List Nat) (s : St) (gS bS : Nat) (l : List (List UInt8)) (ga gd gl : Int) (life : UInt64) (base : Int) (gen : UInt64) (w : World) (hG : Gb ga gd gl) (h : Both w g fp s gS bS l) (hl : l.length ≤ 1000000) (hs : s.sz ≤ 90000000) (hf : srightF s ga gd gl = 0) (h0 : 0 ≤ base) (h1 : base ≤ 1073741824) :
    Calls Tryz.prog 80 #[.pointer (some ⟨g, 0, none⟩), .pointer (some ⟨gS, 0, none⟩), gv ga gd gl, sv life base gen] w fun e w' => e = .returned (.int .i64 (wf s (splace life) (sB l ga gd gl life base gen)).2) ∧ Turn w g fp gS bS (wf s (splace life) (sB l ga gd gl life base gen)).1 (sL l ga gd gl life base gen) w' := by
  have FG : Blk ((w.alloc (.cells (gcell ga gd gl).toArray 23)).alloc (.cells (scell life base gen).toArray 90)) w.heap.size (gcell ga gd gl) := (Blk.new w (gcell ga gd gl) 23).alloc (.cells (scell life base gen).toArray 90)
  have FX : Blk ((w.alloc (.cells (gcell ga gd gl).toArray 23)).alloc (.cells (scell life base gen).toArray 90)) (w.heap.size + 1) (scell life base gen) := by simpa using Blk.new (w.alloc (.cells (gcell ga gd gl).toArray 23)) (scell life base gen) 90
  have b0 := b2alloc w (.cells (gcell ga gd gl).toArray 23) (.cells (scell life base gen).toArray 90)
  obtain ⟨z0, z1, z2⟩ := gthree FG
  have HB := Lib.hid (both_any g fp s gS ga gd gl _ hG (h.disk.on b0))
  rw [hf] at HB
  have HS := Lib.hid (fun W => super_any life _ (by rfl) W)
  have HM := Lib.hid (fun W => mark_any ga gd gl W hG)
  have hE := fun A c W hb hr => encode_sym (splace life) gS bS l (sx ga gd gl life base gen) A c W hb hl hr (sx_right h0 h1)
  have hW := fun A c W hD hr => Disk.write_any g fp s (splace life) A 512 c (sB l ga gd gl life base gen) W hD (by omega) (sB_len l ga gd gl life base gen).symm hr
  have z3 := Disk.sz_write s (splace life) (sB l ga gd gl life base gen)
  have hF := fun fp1 W hD hsz => flush_any g fp1 (Disk.write s (splace life) (sB l ga gd gl life base gen)).1 W hD hsz
  have hwf : wf s (splace life) (sB l ga gd gl life base gen) = if (Disk.write s (splace life) (sB l ga gd gl life base gen)).2 = 0 then Disk.flush (Disk.write s (splace life) (sB l ga gd gl life base gen)).1 else Disk.write s (splace life) (sB l ga gd gl life base gen) := rfl
  rw [show text (splace life) (sx ga gd gl life base gen) ++ sumOf l (text (splace life) (sx ga gd gl life base gen)) = sB l ga gd gl life base gen from rfl, show sumAfter l (text (splace life) (sx ga gd gl life base gen)) = sL l ga gd gl life base gen from rfl] at hE
  rw [show splace life = 2 + (life.toNat : Int) % 2 from rfl] at hE hW
  have hE' : ∀ A c W, SymAt W gS bS l → Rd W W.heap.size A ((mk ga gd gl).map e8) → Calls Tryz.prog 105 #[.pointer (some ⟨gS, 0, none⟩), .int .i64 (2 + (life.toNat : Int) % 2), .agg #[.int .i64 2, .int .u64 (life.toNat : Int), .int .i64 base, .int .u64 (gen.toNat : Int), .slice A (mk ga gd gl).length c]] W _ := fun A c W hb hr => hE A c W hb hr
  obtain ⟨R, hR⟩ : ∃ R, R = wf s (splace life) (sB l ga gd gl life base gen) := ⟨_, rfl⟩
  obtain ⟨V, hV⟩ : ∃ V, V = Disk.write s (splace life) (sB l ga gd gl life base gen) := ⟨_, rfl⟩
  rw [← hR, ← hV] at hwf
  rw [← hV] at hF z3
  rw [show (2 : Int) + (life.toNat : Int) % 2 = splace life from rfl] at hW
  rw [← hV] at hW
  rw [← hR]
  obtain ⟨bb, hbb⟩ : ∃ bb, bb = sB l ga gd gl life base gen := ⟨_, rfl⟩
  obtain ⟨l', hl'⟩ : ∃ bb, bb = sL l ga gd gl life base gen := ⟨_, rfl⟩
  rw [← hbb] at hE' hW
  rw [← hl'] at hE' ⊢
  rw [show splace life = 2 + (life.toNat : Int) % 2 from rfl] at hW
  obtain ⟨M, hM⟩ : ∃ M, M = mk ga gd gl := ⟨_, rfl⟩
  rw [← hM] at hE' HM
  have HE := Lib.hid hE'
  have HW := Lib.hid hW
  have HF := Lib.hid hF
  have FGh := Lib.hid FG
  have FXh := Lib.hid FX
  clear hE hE' hW hF hR hV hbb hl' hM FG FX
  have nG : w.heap.size ∉ [bS] := by have := h.sym.lt.2; rw [List.mem_singleton]; omega
  have nX : w.heap.size + 1 ∉ [bS] := by have := h.sym.lt.2; rw [List.mem_singleton]; omega
  by_cases hv : V.2 = 0
  · rw [if_pos hv] at hwf
    have tv := bne_no hv
    have Hwf := Lib.hid hwf
    clear hwf
    go_enter Tryz.func80, Tryz.ntmps80
    go_wp2_with (first
      | (go_at_call 87; refine HB.out.mono ?_; rintro e w1 ⟨rfl, b1⟩; have FX1 := FXh.out.on b1; have FG1 := FGh.out.on b1; obtain ⟨x0, x1, x2⟩ := gthree FX1; obtain ⟨y0, y1, y2⟩ := gthree FG1)
      | (go_at_call 99; refine (HS.out _).mono ?_; rintro e w2 ⟨rfl, rfl⟩))
    have bz : Below w1.heap.size w1 w1.drew := (Below.refl _ _).drew
    have H1 := h.on (bt b0 b1)
    go_region_held3 (fun w' => (w'.cell? ⟨w.heap.size, 0, none⟩ = some (.int .i64 ga) ∧ w'.cell? ⟨w.heap.size, 1, none⟩ = some (.int .i64 gd) ∧ w'.cell? ⟨w.heap.size, 2, none⟩ = some (.int .i64 gl)) ∧ (w'.cell? ⟨w.heap.size + 1, 0, none⟩ = some (.int .u64 (life.toNat : Int)) ∧ w'.cell? ⟨w.heap.size + 1, 1, none⟩ = some (.int .i64 base) ∧ w'.cell? ⟨w.heap.size + 1, 2, none⟩ = some (.int .u64 (gen.toNat : Int)))) (first | exact ⟨gthree (FG1.on bz), gthree (FX1.on bz)⟩ | exact ⟨gthree (FG1.on c3), gthree (FX1.on c3)⟩ | exact ⟨gthree ((FG1.on c3).keepK k4 nG), gthree ((FX1.on c3).keepK k4 nX)⟩) (first
      | (go_at_call 106; refine (HM.out _).mono ?_; rintro e x3 ⟨A3, d3, rfl, own3, y3'⟩; have c3 := bt bz y3')
      | (go_at_call 105; refine (HE.out A3 d3 _ (H1.on c3).sym (Rd.own own3)).mono ?_; rintro e x4 ⟨A4, d4, rfl, own4, k4, s4⟩; have H4 := (H1.on c3).summed s4 k4))
    have K4 := keepT (fp := fp) (Keep.of_below (bt (bt b0 b1) c3) (bS :: fp)) (Fresh.refl _ _) (keepB k4)
    have hz4 := K4.size
    go_wp2_with (first
      | (go_at_call 73; refine (HW.out A4 d4 _ H4.disk (RdN.own own4 (H1.on c3).disk.lt)).mono ?_; rintro e x5 ⟨rfl, fp5, hD5, k5, f5⟩; have H5 := H4.did hD5 k5 f5)
      | (go_at_call 75; refine (HF.out fp5 _ H5.disk (by omega)).mono ?_; rintro e x6 ⟨rfl, fp6, hD6, k6, f6⟩; have H6 := H5.did hD6 k6 f6))
    go_ret
    rw [Hwf.out]
    exact ⟨rfl, fp6, H6, keepT (keepT K4 (Fresh.refl _ _) (keepF k5)) (fun j hj => (f5 j hj).imp id (fun e => by omega)) (keepF k6), (show Fresh w fp fp5 from fun j hj => (f5 j hj).imp id (fun e => by omega)).trans (by have := k5.size; omega) f6⟩
  · rw [if_neg hv] at hwf
    have tv := bne_yes hv
    have Hwf := Lib.hid hwf
    clear hwf
    go_enter Tryz.func80, Tryz.ntmps80
    go_wp2_with (first
      | (go_at_call 87; refine HB.out.mono ?_; rintro e w1 ⟨rfl, b1⟩; have FX1 := FXh.out.on b1; have FG1 := FGh.out.on b1; obtain ⟨x0, x1, x2⟩ := gthree FX1; obtain ⟨y0, y1, y2⟩ := gthree FG1)
      | (go_at_call 99; refine (HS.out _).mono ?_; rintro e w2 ⟨rfl, rfl⟩))
    have bz : Below w1.heap.size w1 w1.drew := (Below.refl _ _).drew
    have H1 := h.on (bt b0 b1)
    go_region_held3 (fun w' => (w'.cell? ⟨w.heap.size, 0, none⟩ = some (.int .i64 ga) ∧ w'.cell? ⟨w.heap.size, 1, none⟩ = some (.int .i64 gd) ∧ w'.cell? ⟨w.heap.size, 2, none⟩ = some (.int .i64 gl)) ∧ (w'.cell? ⟨w.heap.size + 1, 0, none⟩ = some (.int .u64 (life.toNat : Int)) ∧ w'.cell? ⟨w.heap.size + 1, 1, none⟩ = some (.int .i64 base) ∧ w'.cell? ⟨w.heap.size + 1, 2, none⟩ = some (.int .u64 (gen.toNat : Int)))) (first | exact ⟨gthree (FG1.on bz), gthree (FX1.on bz)⟩ | exact ⟨gthree (FG1.on c3), gthree (FX1.on c3)⟩ | exact ⟨gthree ((FG1.on c3).keepK k4 nG), gthree ((FX1.on c3).keepK k4 nX)⟩) (first
      | (go_at_call 106; refine (HM.out _).mono ?_; rintro e x3 ⟨A3, d3, rfl, own3, y3'⟩; have c3 := bt bz y3')
      | (go_at_call 105; refine (HE.out A3 d3 _ (H1.on c3).sym (Rd.own own3)).mono ?_; rintro e x4 ⟨A4, d4, rfl, own4, k4, s4⟩; have H4 := (H1.on c3).summed s4 k4))
    have K4 := keepT (fp := fp) (Keep.of_below (bt (bt b0 b1) c3) (bS :: fp)) (Fresh.refl _ _) (keepB k4)
    have hz4 := K4.size
    go_wp2_with (first
      | (go_at_call 73; refine (HW.out A4 d4 _ H4.disk (RdN.own own4 (H1.on c3).disk.lt)).mono ?_; rintro e x5 ⟨rfl, fp5, hD5, k5, f5⟩; have H5 := H4.did hD5 k5 f5))
    go_ret
    rw [Hwf.out]
    exact ⟨rfl, fp5, H5, keepT K4 (Fresh.refl _ _) (keepF k5), fun j hj => (f5 j hj).imp id (fun e => by omega)⟩
set_option maxHeartbeats 2000000 in
theorem write_base (g : Nat) (fp : List Nat) (s : St) (gS : Nat) (ga gd gl : Int) (life : UInt64) (base : Int) (gen : UInt64) (w : World) (hG : Gb ga gd gl) (h : DAt w g fp s) (hf : srightF s ga gd gl = 0) (hb : base < 0 ∨ 1073741824 < base) :
    Calls Tryz.prog 80 #[.pointer (some ⟨g, 0, none⟩), .pointer (some ⟨gS, 0, none⟩), gv ga gd gl, sv life base gen] w fun e w' => e = .returned (.int .i64 2) ∧ Below w.heap.size w w' := by
  have FG : Blk ((w.alloc (.cells (gcell ga gd gl).toArray 23)).alloc (.cells (scell life base gen).toArray 90)) w.heap.size (gcell ga gd gl) := (Blk.new w (gcell ga gd gl) 23).alloc (.cells (scell life base gen).toArray 90)
  have FX : Blk ((w.alloc (.cells (gcell ga gd gl).toArray 23)).alloc (.cells (scell life base gen).toArray 90)) (w.heap.size + 1) (scell life base gen) := by simpa using Blk.new (w.alloc (.cells (gcell ga gd gl).toArray 23)) (scell life base gen) 90
  have b0 := b2alloc w (.cells (gcell ga gd gl).toArray 23) (.cells (scell life base gen).toArray 90)
  obtain ⟨z0, z1, z2⟩ := gthree FG
  have HB := Lib.hid (both_any g fp s gS ga gd gl _ hG (h.on b0))
  rw [hf] at HB
  have HS := Lib.hid (fun W => super_any life _ (by rfl) W)
  have HM := Lib.hid (fun W => mark_any ga gd gl W hG)
  have hw := sx_wrong (ga := ga) (gd := gd) (gl := gl) (life := life) (gen := gen) hb
  have hE := fun A c W => Sec.encode_bad (splace life) gS (sx ga gd gl life base gen) A c W (by rw [hw]; decide)
  rw [hw] at hE
  rw [show splace life = 2 + (life.toNat : Int) % 2 from rfl] at hE
  have hE' : ∀ A c W, Calls Tryz.prog 105 #[.pointer (some ⟨gS, 0, none⟩), .int .i64 (2 + (life.toNat : Int) % 2), .agg #[.int .i64 2, .int .u64 (life.toNat : Int), .int .i64 base, .int .u64 (gen.toNat : Int), .slice A (mk ga gd gl).length c]] W _ := fun A c W => hE A c W
  obtain ⟨M, hM⟩ : ∃ M, M = mk ga gd gl := ⟨_, rfl⟩
  rw [← hM] at hE' HM
  have HE := Lib.hid hE'
  have FGh := Lib.hid FG
  have FXh := Lib.hid FX
  clear hE hE' hM FG FX hw hb
  go_enter Tryz.func80, Tryz.ntmps80
  go_wp2_with (first
      | (go_at_call 87; refine HB.out.mono ?_; rintro e w1 ⟨rfl, b1⟩; have FX1 := FXh.out.on b1; have FG1 := FGh.out.on b1; obtain ⟨x0, x1, x2⟩ := gthree FX1; obtain ⟨y0, y1, y2⟩ := gthree FG1)
      | (go_at_call 99; refine (HS.out _).mono ?_; rintro e w2 ⟨rfl, rfl⟩))
  have bz : Below w1.heap.size w1 w1.drew := (Below.refl _ _).drew
  go_region_held3 (fun w' => (w'.cell? ⟨w.heap.size, 0, none⟩ = some (.int .i64 ga) ∧ w'.cell? ⟨w.heap.size, 1, none⟩ = some (.int .i64 gd) ∧ w'.cell? ⟨w.heap.size, 2, none⟩ = some (.int .i64 gl)) ∧ (w'.cell? ⟨w.heap.size + 1, 0, none⟩ = some (.int .u64 (life.toNat : Int)) ∧ w'.cell? ⟨w.heap.size + 1, 1, none⟩ = some (.int .i64 base) ∧ w'.cell? ⟨w.heap.size + 1, 2, none⟩ = some (.int .u64 (gen.toNat : Int)))) (first | exact ⟨gthree (FG1.on bz), gthree (FX1.on bz)⟩ | exact ⟨gthree (FG1.on c3), gthree (FX1.on c3)⟩ | exact ⟨gthree (FG1.on c4), gthree (FX1.on c4)⟩) (first
      | (go_at_call 106; refine (HM.out _).mono ?_; rintro e x3 ⟨A3, d3, rfl, own3, y3'⟩; have c3 := bt bz y3')
      | (go_at_call 105; refine (HE.out A3 d3 _).mono ?_; rintro e x4 ⟨rfl, y4⟩; have c4 := bt c3 y4))
  go_wp2
  go_ret
  exact ⟨rfl, bt (bt b0 b1) c4⟩
/-- both places blank, flushed -/
def clr (s : St) : St × Int :=
  if (Disk.write s 2 Disk.zero512).2 = 0 then (if (Disk.write (Disk.write s 2 Disk.zero512).1 3 Disk.zero512).2 = 0 then Disk.flush (Disk.write (Disk.write s 2 Disk.zero512).1 3 Disk.zero512).1 else Disk.write (Disk.write s 2 Disk.zero512).1 3 Disk.zero512)
  else Disk.write s 2 Disk.zero512
theorem clear_nil (ga gd gl : Int) (w : World) : Calls Tryz.prog 40 #[.pointer none, gv ga gd gl] w fun e w' => e = .returned (.int .i64 1) ∧ Below w.heap.size w w' := by
  obtain ⟨z0, z1, z2⟩ := gthree (Blk.new w (gcell ga gd gl) 23)
  go_enter Tryz.func40, Tryz.ntmps40
  go_wp2_with (go_at_call 71; refine (right_nil _ _ _ _).mono ?_; rintro e w' ⟨rfl, b1⟩)
  go_ret
  exact ⟨rfl, bt (b1alloc _ _) b1⟩
set_option maxHeartbeats 2000000 in
theorem clear_any (g : Nat) (fp : List Nat) (s : St) (ga gd gl : Int) (w : World) (hG : Gb ga gd gl) (h : DAt w g fp s) (hs : s.sz ≤ 90000000) (hf : srightF s ga gd gl = 0) :
    Calls Tryz.prog 40 #[.pointer (some ⟨g, 0, none⟩), gv ga gd gl] w (Did w g fp (clr s)) := by
  have b0 := b1alloc w (.cells (gcell ga gd gl).toArray 23)
  obtain ⟨z0, z1, z2⟩ := gthree (Blk.new w (gcell ga gd gl) 23)
  have HR := Lib.hid (right_any g fp s ga gd gl _ hG (h.on b0))
  rw [hf] at HR
  have HP := Lib.hid (fun W => places_any W)
  have hB := fun W => Sec.blank_any W
  have hW := fun fp s p A c W hD hs hr => Disk.write_any g fp s p A 512 c Disk.zero512 W hD hs Disk.zero512_len.symm hr
  have hclr : clr s = if (Disk.write s 2 Disk.zero512).2 = 0 then (if (Disk.write (Disk.write s 2 Disk.zero512).1 3 Disk.zero512).2 = 0 then Disk.flush (Disk.write (Disk.write s 2 Disk.zero512).1 3 Disk.zero512).1 else Disk.write (Disk.write s 2 Disk.zero512).1 3 Disk.zero512) else Disk.write s 2 Disk.zero512 := rfl
  have y1 := Disk.sz_write s 2 Disk.zero512
  have y2 := Disk.sz_write (Disk.write s 2 Disk.zero512).1 3 Disk.zero512
  have hW1 := fun A c W hD hr => hW fp s 2 A c W hD (by omega) hr
  have hW2 := fun fp A c W hD hr => hW fp (Disk.write s 2 Disk.zero512).1 3 A c W hD (by omega) hr
  have hF := fun fp W hD => flush_any g fp (Disk.write (Disk.write s 2 Disk.zero512).1 3 Disk.zero512).1 W hD (by omega)
  clear hW
  rw [show Sec.zero512 = Disk.zero512 from rfl] at hB
  obtain ⟨V, hV⟩ : ∃ V, V = Disk.write s 2 Disk.zero512 := ⟨_, rfl⟩
  rw [← hV] at hclr hW1 hW2 hF
  obtain ⟨U, hU⟩ : ∃ U, U = Disk.write V.1 3 Disk.zero512 := ⟨_, rfl⟩
  rw [← hU] at hclr hW2 hF
  obtain ⟨R, hR⟩ : ∃ R, R = clr s := ⟨_, rfl⟩
  rw [← hR] at hclr ⊢
  obtain ⟨z, hz⟩ : ∃ z, z = Disk.zero512 := ⟨_, rfl⟩
  have hzl : z.length = 512 := by rw [hz]; exact Disk.zero512_len
  rw [← hz] at hW1 hW2 hB
  unfold RetB at hB
  rw [hzl] at hB
  have HB := Lib.hid hB
  have HW1 := Lib.hid hW1
  have HW2 := Lib.hid hW2
  have HF := Lib.hid hF
  have Hc := Lib.hid hclr
  clear hB hW1 hW2 hF hz hzl hR hU hV y1 y2 hclr
  have i0 : ∀ W, (Instr.index 123 (.agg #[.int .i64 2, .int .i64 3]) (.int .i64 0)).run Tryz.prog W = .ok (.int .i64 2) W := fun W => by kernel_rfl
  have i1 : ∀ W, (Instr.index 123 (.agg #[.int .i64 2, .int .i64 3]) (.int .i64 1)).run Tryz.prog W = .ok (.int .i64 3) W := fun W => by kernel_rfl
  go_enter Tryz.func40, Tryz.ntmps40
  go_wp2_with (first
    | (go_at_call 71; refine (HR.out).mono ?_; rintro e w' ⟨rfl, b1⟩)
    | (go_at_call 72; refine (HP.out _).mono ?_; rintro e w2 ⟨rfl, b2⟩))
  have b3 := bt (bt b0 b1) b2
  go_loopw [16] (fun i wr => ∃ k : Nat, k ≤ 2 ∧ i = .int .i64 k ∧ ((k = 0 ∧ wr = w2) ∨ (k = 1 ∧ V.2 = 0 ∧ ∃ fp1, DAt wr g fp1 V.1 ∧ Keep fp w wr ∧ Fresh w fp fp1) ∨ (k = 2 ∧ V.2 = 0 ∧ U.2 = 0 ∧ ∃ fp1, DAt wr g fp1 U.1 ∧ Keep fp w wr ∧ Fresh w fp fp1))) (fun i _ => 2 - (intOf i).toNat)
  case atStart => exact ⟨0, by omega, rfl, .inl ⟨rfl, rfl⟩⟩
  case round =>
    obtain ⟨k, hk, rfl, hcs⟩ := hrel
    rcases hcs with ⟨rfl, rfl⟩ | ⟨rfl, h0, fp1, hD1, hK1, hF1⟩ | ⟨rfl, h0, h1, fp1, hD1, hK1, hF1⟩
    · have arm : True := trivial
      by_cases h0 : V.2 = 0
      · have t0 := bne_no h0
        go_wp2_with (first
          | (go_at_call 74; refine (HB.out _).mono ?_; rintro e w4 ⟨A4, c4, rfl, own4, b4⟩)
          | (go_at_call 73; refine (HW1.out A4 c4 _ (h.on (bt b3 b4)) (RdN.own own4 (h.on b3).lt)).mono ?_; rintro e w5 ⟨rfl, fp5, hD5, k5, f5⟩))
        case roundEnd => exact ⟨⟨1, by omega, rfl, .inr (.inl ⟨rfl, h0, fp5, hD5, k5.of_below5 (bt b3 b4), f5.of_size (bt b3 b4)⟩)⟩, by simp [intOf]⟩
      · have t0 := bne_yes h0
        go_wp2_with (first
          | (go_at_call 74; refine (HB.out _).mono ?_; rintro e w4 ⟨A4, c4, rfl, own4, b4⟩)
          | (go_at_call 73; refine (HW1.out A4 c4 _ (h.on (bt b3 b4)) (RdN.own own4 (h.on b3).lt)).mono ?_; rintro e w5 ⟨rfl, fp5, hD5, k5, f5⟩))
        go_ret
        rw [Hc.out, if_neg h0]
        exact ⟨rfl, fp5, hD5, k5.of_below5 (bt b3 b4), f5.of_size (bt b3 b4)⟩
    · by_cases h1 : U.2 = 0
      · have t0 := bne_no h1
        go_wp2_with (first
          | (go_at_call 74; refine (HB.out _).mono ?_; rintro e w4 ⟨A4, c4, rfl, own4, b4⟩)
          | (go_at_call 73; refine (HW2.out fp1 A4 c4 _ (hD1.on b4) (RdN.own own4 hD1.lt)).mono ?_; rintro e w5 ⟨rfl, fp5, hD5, k5, f5⟩))
        case roundEnd => exact ⟨⟨2, by omega, rfl, .inr (.inr ⟨rfl, h0, h1, fp5, hD5, hK1.trans (k5.of_below5 b4) hF1, hF1.trans hK1.size (f5.of_size b4)⟩)⟩, by simp [intOf]⟩
      · have t0 := bne_yes h1
        go_wp2_with (first
          | (go_at_call 74; refine (HB.out _).mono ?_; rintro e w4 ⟨A4, c4, rfl, own4, b4⟩)
          | (go_at_call 73; refine (HW2.out fp1 A4 c4 _ (hD1.on b4) (RdN.own own4 hD1.lt)).mono ?_; rintro e w5 ⟨rfl, fp5, hD5, k5, f5⟩))
        go_ret
        rw [Hc.out, if_pos h0, if_neg h1]
        exact ⟨rfl, fp5, hD5, hK1.trans (k5.of_below5 b4) hF1, hF1.trans hK1.size (f5.of_size b4)⟩
    · go_wp2_with (first
          | (go_at_call 75; refine (HF.out fp1 _ hD1).mono ?_; rintro e w5 ⟨rfl, fp5, hD5, k5, f5⟩))
      go_ret
      rw [Hc.out, if_pos h0, if_pos h1]
      exact ⟨rfl, fp5, hD5, hK1.trans k5 hF1, hF1.trans hK1.size f5⟩
end Go.Proofs.YtchcmklelmlbgaaGreat.Sup

/- The arguments of a law, opened: slices of bytes and of numbers as lists; numbers as words. -/
namespace Go.Proofs.YtchcmklelmlbgaaGreat
open Go.ChangeShapes Go.WideShapes Go.ChangeAt Go.RowKit Go.Joins
open Go.ChangeMaps (open_string shut_string)
set_option linter.unusedVariables false

theorem own : ownKnob Tryz.prog.godebug = none := by kernel_rfl
theorem laidOut : laidOutB Tryz.prog = true := by kernel_rfl
abbrev ei (n : Int) : Value := .int .i64 n

theorem rd_row {w : World} {k : IntKind} {x : Addr} {len cap : Nat} {zs : List Int} (hl : len ≤ cap) (hz : zs.length = cap) (hc : ∀ i, i < zs.length → w.cell? (x.add i) = some (.int k (zs.getD i 0))) :
    Rd w w.heap.size (some x) ((zs.take len).map (Value.int k)) := by
  intro hne
  have hlen : 0 < len := by
    rcases Nat.eq_zero_or_pos len with h | h
    · subst h; simp at hne
    · exact h
  obtain ⟨b, off, spot⟩ := x
  have h0 := hc 0 (by omega)
  have hspot : spot = none := by simpa [Addr.add] using World.cell?_spot h0
  subst hspot
  refine ⟨b, off, rfl, ?_, fun i hi => ?_⟩
  · have h0' : w.cell? ⟨b, off, none⟩ ≠ none := by
      have : (⟨b, off, none⟩ : Addr).add 0 = ⟨b, off, none⟩ := by simp [Addr.add]
      rw [this] at h0; rw [h0]; simp
    rcases Nat.lt_or_ge b w.heap.size with h | h
    · exact h
    · exact absurd (by simp [World.cell?, Array.getElem?_eq_none h]) h0'
  · have hi' : i < len := by simpa [hz, Nat.min_eq_left hl] using hi
    have := hc i (by omega)
    rw [Addr.add_lit] at this
    rw [this]
    simp [List.getD, List.getElem?_eq_getElem (show i < zs.length by omega)]

theorem bytes_of {w : World} {A : Option Addr} {len cap : Nat} {E : Type} {P : Program} {enc : TypeId × Value → E} {t e : TypeId} {spare : Nat → Bool} {held : Bool} {fuel : Nat} {x : DataW E × List MemPlace}
    (hs : spare = fun _ => true) (ht : P.underlying t = some (.slice e)) (he : P.underlying e = some (.int .u8)) (hc : P.cellsOf e = 1) (h : DataW.trod enc P w 0 spare held fuel t (Value.slice A len cap).cells.toList = some x) :
    ∃ l : List UInt8, l.length = len ∧ Rd w w.heap.size A (l.map e8) ∧ len ≤ cap ∧ cap ≤ maxLen := by
  subst hs
  rcases open_ints ht he hc h with ⟨hcs, _⟩ | ⟨x, l, c, zs, hcs, _, hl, hm, hz, _, hcell, hwz⟩
  · simp [Value.cells] at hcs
    obtain ⟨rfl, rfl, rfl⟩ := hcs
    exact ⟨[], rfl, Rd.nil _ _ _, by omega, by unfold maxLen; omega⟩
  · simp [Value.cells] at hcs
    obtain ⟨rfl, rfl, rfl⟩ := hcs
    obtain ⟨l, rfl⟩ := list8 zs hwz
    have hz' : l.length = cap := by simpa using hz
    refine ⟨l.take len, by simp; omega, ?_, hl, hm⟩
    have := rd_row (len := len) hl (by simpa using hz') hcell
    simpa [List.map_take, Function.comp_def] using this

theorem ints_of {w : World} {A : Option Addr} {len cap : Nat} {E : Type} {P : Program} {enc : TypeId × Value → E} {t e : TypeId} {spare : Nat → Bool} {held : Bool} {fuel : Nat} {x : DataW E × List MemPlace}
    (hs : spare = fun _ => true) (ht : P.underlying t = some (.slice e)) (he : P.underlying e = some (.int .i64)) (hc : P.cellsOf e = 1) (h : DataW.trod enc P w 0 spare held fuel t (Value.slice A len cap).cells.toList = some x) :
    ∃ l : List Int, l.length = len ∧ Rd w w.heap.size A (l.map ei) ∧ len ≤ cap ∧ cap ≤ maxLen ∧ (∀ n ∈ l, -9223372036854775808 ≤ n ∧ n ≤ 9223372036854775807) := by
  subst hs
  rcases open_ints ht he hc h with ⟨hcs, _⟩ | ⟨x, l, c, zs, hcs, _, hl, hm, hz, _, hcell, hwz⟩
  · simp [Value.cells] at hcs
    obtain ⟨rfl, rfl, rfl⟩ := hcs
    exact ⟨[], rfl, Rd.nil _ _ _, by omega, by unfold maxLen; omega, by simp⟩
  · simp [Value.cells] at hcs
    obtain ⟨rfl, rfl, rfl⟩ := hcs
    have hz' : zs.length = cap := by simpa using hz
    refine ⟨zs.take len, by simp; omega, ?_, hl, hm, fun n hn => ?_⟩
    · have := rd_row (len := len) hl hz' hcell
      simpa [List.map_take, Function.comp_def] using this
    · have := hwz n (List.mem_of_mem_take hn)
      simp [Lit.wf, IntKind.min, IntKind.max, IntKind.signed, IntKind.bits] at this
      omega

section
theorem okWide_arr' {P : Program} {w : World} {r : Reach} {base : Nat} {t e : TypeId} {n : Nat} {v : Value} (ht : P.underlying t = some (.array n e)) (h : Value.okWide P w r base t v) : ∃ cs, v = .agg cs ∧ cs.size = P.cellsOf t := by
  simp only [Value.okWide, ht] at h
  obtain ⟨cs, h1, h2, _⟩ := h
  exact ⟨cs, h1, h2⟩
/-- an argument that is an array of numbers -/
theorem arr_ints {H : Type} {enc : TypeId × Value → H} {P : Program} {w : World} {r : Reach} {base : Nat} {v : Value} {d : DataW H} {p : List MemPlace} {t e : TypeId} {n : Nat} {k : IntKind} (ht : P.underlying t = some (.array n e)) (he : P.underlying e = some (.int k))
    (hc : P.cellsOf t = n) (hc1 : P.cellsOf e = 1) (hv : Value.okWide P w r base t v) (h : DataW.Trod enc P w 0 (fun _ => true) true t v d p) :
    ∃ zs : List Int, zs.length = n ∧ v = .agg (zs.map (Value.int k)).toArray ∧ ∀ z ∈ zs, (Lit.int k z).wf = true := by
  obtain ⟨cs, rfl, hsz⟩ := okWide_arr' ht hv
  rw [hc] at hsz
  obtain ⟨fuel, hf⟩ := h
  obtain ⟨xs, m, _, _, _, hl, hi⟩ := DataW.trod_array ht hf
  have key : ∀ i (hi' : i < n), ∃ z : Int, cs[i]'(by omega) = Value.int k z ∧ (Lit.int k z).wf = true := fun i hi' => by
    have g1 := hi i hi'
    rw [hc1] at g1
    have h2 : (Value.agg cs).cells.toList = cs.toList := rfl
    rw [h2] at g1
    have h3 : (cs.toList.drop (i * 1)).take 1 = [cs[i]'(by omega)] := by
      rw [Nat.mul_one, List.drop_eq_getElem_cons (by simp; omega)]; simp
    rw [h3, List.getElem?_eq_getElem (by omega)] at g1
    obtain ⟨z, e1, _, wn⟩ := DataW.trod_int he g1
    simp only [List.cons.injEq, and_true] at e1
    exact ⟨z, e1, wn⟩
  refine ⟨(List.range n).map (fun i : Nat => ((cs[i]?).map intOf).getD 0), by simp, ?_, ?_⟩
  · congr 1
    apply Array.ext
    · simp [hsz]
    · intro i g1 g2
      obtain ⟨z, e, _⟩ := key i (by omega)
      simp [Array.getElem?_eq_getElem g1, e, intOf]
  · intro z hz
    simp only [List.mem_map, List.mem_range] at hz
    obtain ⟨i, hin, rfl⟩ := hz
    obtain ⟨z', e, wf⟩ := key i hin
    rw [Array.getElem?_eq_getElem (by omega), e]
    simpa [intOf] using wf
end
theorem wf8 {n : Int} (h : (Lit.int .u8 n).wf = true) : ∃ x : UInt8, n = (x.toNat : Int) := by
  simp [Lit.wf, IntKind.min, IntKind.max, IntKind.signed, IntKind.bits] at h; exact to8 n (by omega) (by omega)
theorem wf32 {n : Int} (h : (Lit.int .u32 n).wf = true) : ∃ x : UInt32, n = (x.toNat : Int) := by
  simp [Lit.wf, IntKind.min, IntKind.max, IntKind.signed, IntKind.bits] at h; exact to32 n (by omega) (by omega)
theorem wf64 {n : Int} (h : (Lit.int .u64 n).wf = true) : ∃ x : UInt64, n = (x.toNat : Int) := by
  simp [Lit.wf, IntKind.min, IntKind.max, IntKind.signed, IntKind.bits] at h; exact to64 n (by omega) (by omega)
theorem wfi {n : Int} (h : (Lit.int .i64 n).wf = true) : -9223372036854775808 ≤ n ∧ n ≤ 9223372036854775807 := by
  simp [Lit.wf, IntKind.min, IntKind.max, IntKind.signed, IntKind.bits] at h; omega
theorem places_lt {H : Type} {enc : TypeId × Value → H} {P : Program} {W : World} {t : TypeId} {v : Value} {d : DataW H} {p : List MemPlace} (k : DataW.Trod enc P W 0 (fun _ => true) true t v d p) : ∀ x ∈ p, x.block < W.heap.size := by
  obtain ⟨m, hm⟩ := k; exact DataW.trod_lt m _ _ _ hm
section
open Go.Deep
variable {H : Type} {enc : TypeId × Value → H} {P : Program} {w : World} {base : Nat} {spare : Nat → Bool} {held : Bool}
/-- a slice of structs of one-cell fields -/
theorem open_slice_fields {t e : TypeId} {fs : Array Field} {fuel : Nat} {cs : List Value} {x : DataW H × List MemPlace} (ht : P.underlying t = some (.slice e)) (he : P.underlying e = some (.struct fs))
    (hone : oneCellFields P fs = true) (hC : P.cellsOf e = fs.size) (h : DataW.trod enc P w base spare held fuel t cs = some x) :
    cs = [.slice none 0 0] ∨ ∃ (a : Addr) (len cap m : Nat), cs = [.slice (some a) len cap] ∧ base ≤ a.block ∧ len ≤ cap ∧ cap ≤ maxLen ∧ m = (if spare a.block then cap else len) ∧
      ∀ i, i < m → ∃ (ys : List (DataW H × List MemPlace)) (n : Nat), 
        ∀ (j : Nat) (f : Field), fs[j]? = some f → ∃ (v : Value) (y : DataW H × List MemPlace), w.cell? (a.add (i * fs.size + j)) = some v ∧ ys[j]? = some y ∧ DataW.trod enc P w base spare held n f.type [v] = some y := by
  rcases open_slice ht h with h0 | ⟨a, len, cap, m, n, D, Pl, hcs, hb, hl, hm, hmm, hx, hi⟩
  · exact .inl h0.1
  · refine .inr ⟨a, len, cap, m, hcs, hb, hl, hm, hmm, fun i him => ?_⟩
    obtain ⟨cs', hc, ht'⟩ := hi i him
    rw [hC] at hc
    obtain ⟨ys, n', hn', hy, hlen, hyl, hf⟩ := DataW.trod_struct he ht'
    obtain ⟨_, hcl, hat⟩ := World.cells?_some hc
    refine ⟨ys, n', fun j f hj => ?_⟩
    obtain ⟨ho, hk⟩ := hone_of hone j f hj
    have hjl : j < fs.size := (Array.getElem?_eq_some_iff.1 hj).1
    have hcell := hat j hjl
    have hv : cs'[j]? = some (cs'[j]'(by omega)) := List.getElem?_eq_getElem (by omega)
    have h1 := hf j f hj
    rw [ho, hk] at h1
    have hone' : (cs'.drop j).take 1 = [cs'[j]'(by omega)] := by
      rw [List.drop_eq_getElem_cons (by omega)]
      rfl
    rw [hone'] at h1
    have hys : ys[j]? = some (ys[j]'(by omega)) := List.getElem?_eq_getElem (by omega)
    refine ⟨_, _, ?_, hys, h1.trans hys⟩
    rw [← Go.Deep.add_add, hcell, hv]
theorem bytes_of1 {E : Type} {enc : TypeId × Value → E} {t e : TypeId} {fuel : Nat} {v : Value} {yy : DataW E × List MemPlace}
    (ht : P.underlying t = some (.slice e)) (he : P.underlying e = some (.int .u8)) (hc : P.cellsOf e = 1) (h : DataW.trod enc P w 0 (fun _ => true) held fuel t [v] = some yy) :
    ∃ (A : Option Addr) (l : List UInt8) (c : Nat), v = .slice A l.length c ∧ Rd w w.heap.size A (l.map e8) ∧ l.length ≤ c ∧ c ≤ maxLen := by
  have h0 := h
  rcases open_ints ht he hc h with ⟨hcs, _⟩ | ⟨x, l, c, zs, hcs, _, hl, hm, hz, _, hcell, hwz⟩
  · simp only [List.cons.injEq, and_true] at hcs
    exact ⟨none, [], 0, hcs, Rd.nil _ _ _, by simp, by unfold maxLen; omega⟩
  · simp only [List.cons.injEq, and_true] at hcs
    subst hcs
    obtain ⟨A, hA⟩ : ∃ A, A = some x := ⟨_, rfl⟩
    have h' : DataW.trod enc P w 0 (fun _ => true) held fuel t (Value.slice A l c).cells.toList = some yy := by rw [hA]; exact h0
    obtain ⟨ll, h1, h2, h3, h4⟩ := bytes_of rfl ht he hc h'
    subst h1
    exact ⟨A, ll, c, by rw [hA], h2, h3, h4⟩
theorem choose_list {α : Type} {n : Nat} {p : Nat → α → Prop} (h : ∀ i, i < n → ∃ a, p i a) : ∃ l : List α, l.length = n ∧ ∀ i (hi : i < l.length), p i l[i] := by
  induction n with
  | zero => exact ⟨[], rfl, fun i hi => absurd hi (by simp)⟩
  | succ n ih =>
    obtain ⟨l, hl, hp⟩ := ih fun i hi => h i (by omega)
    obtain ⟨a, ha⟩ := h n (by omega)
    refine ⟨l ++ [a], by simp [hl], fun i hi => ?_⟩
    rw [List.getElem_append]
    by_cases e : i < l.length
    · rw [dif_pos e]; exact hp i e
    · rw [dif_neg e]
      have : i = n := by simp at hi; omega
      subst this
      simpa using ha
end
end Go.Proofs.YtchcmklelmlbgaaGreat

/- Rows of bytes ([][]byte): how they read, and how they come in as an argument. -/
namespace Go.Proofs.YtchcmklelmlbgaaGreat
open Go.RowKit
set_option linter.unusedVariables false
/-- a slice of slices of bytes that reads as a list of rows -/
def Rws (w : World) (B : Nat) (A : Option Addr) (l : List (List UInt8)) : Prop :=
  l ≠ [] → ∃ b off, A = some ⟨b, off, none⟩ ∧ b < B ∧ ∀ i (h : i < l.length), ∃ Ai ci, w.cell? ⟨b, off + i, none⟩ = some (.slice Ai l[i].length ci) ∧ Rd w B Ai (l[i].map e8) ∧ l[i].length ≤ ci ∧ ci ≤ maxLen
theorem Rws.nil (w : World) (B : Nat) (A : Option Addr) : Rws w B A [] := fun h => absurd rfl h
theorem Rws.get {w : World} {B : Nat} {A : Option Addr} {l : List (List UInt8)} (h : Rws w B A l) {i : Nat} (hi : i < l.length) :
    ∃ b off Ai ci, A = some ⟨b, off, none⟩ ∧ b < B ∧ w.cell? ⟨b, off + i, none⟩ = some (.slice Ai l[i].length ci) ∧ Rd w B Ai (l[i].map e8) ∧ l[i].length ≤ ci ∧ ci ≤ maxLen := by
  obtain ⟨b, off, rfl, hb, hc⟩ := h (by intro e; rw [e] at hi; exact absurd hi (by simp))
  obtain ⟨Ai, ci, h1⟩ := hc i hi
  exact ⟨b, off, Ai, ci, rfl, hb, h1⟩
theorem Rws.below {w w' : World} {B : Nat} {A : Option Addr} {l : List (List UInt8)} (h : Rws w B A l) (hb : Below B w w') : Rws w' B A l := by
  intro hne
  obtain ⟨b, off, rfl, hlt, hc⟩ := h hne
  refine ⟨b, off, rfl, hlt, fun i hi => ?_⟩
  obtain ⟨Ai, ci, h1, h2, h3⟩ := hc i hi
  exact ⟨Ai, ci, (hb.cell (p := ⟨b, off + i, none⟩) hlt).trans h1, h2.below hb, h3⟩
theorem Rws.more {w : World} {B B' : Nat} {A : Option Addr} {l : List (List UInt8)} (h : Rws w B A l) (hB : B ≤ B') : Rws w B' A l := by
  intro hne
  obtain ⟨b, off, rfl, hlt, hc⟩ := h hne
  refine ⟨b, off, rfl, by omega, fun i hi => ?_⟩
  obtain ⟨Ai, ci, h1, h2, h3⟩ := hc i hi
  exact ⟨Ai, ci, h1, h2.more hB, h3⟩
theorem Rws.on {w w' : World} {A : Option Addr} {l : List (List UInt8)} (h : Rws w w.heap.size A l) (hb : Below w.heap.size w w') : Rws w' w'.heap.size A l := (h.below hb).more hb.size
open Go.ChangeShapes Go.WideShapes Go.ChangeAt Go.Joins Go.Deep
set_option maxRecDepth 100000
theorem rows_of {A : Option Addr} {len cap : Nat} {H : Type} {enc : TypeId × Value → H} {w : World} {held : Bool} {fuel : Nat} {x : DataW H × List MemPlace}
    (h : DataW.trod enc Tryz.prog w 0 (fun _ => true) held fuel 47 (Value.slice A len cap).cells.toList = some x) :
    ∃ l : List (List UInt8), l.length = len ∧ Rws w w.heap.size A l ∧ len ≤ cap ∧ cap ≤ maxLen := by
  rcases open_slice1 Tryz.underlying47 (by kernel_rfl) h with ⟨hcs, _⟩ | ⟨a, l', c', m, n, V, D, Pl, hcs, _, hl, hm, hmm, _, hi⟩
  · simp [Value.cells] at hcs
    obtain ⟨rfl, rfl, rfl⟩ := hcs
    exact ⟨[], rfl, Rws.nil _ _ _, by omega, by unfold maxLen; omega⟩
  · simp [Value.cells] at hcs
    obtain ⟨rfl, rfl, rfl⟩ := hcs
    simp only [if_true] at hmm
    subst hmm
    have key : ∀ i, i < len → ∃ r : List UInt8, ∃ b off, a = ⟨b, off, none⟩ ∧ b < w.heap.size ∧ ∃ Ai ci, w.cell? ⟨b, off + i, none⟩ = some (.slice Ai r.length ci) ∧ Rd w w.heap.size Ai (r.map e8) ∧ r.length ≤ ci ∧ ci ≤ maxLen := by
      intro i hil
      obtain ⟨c0, t0⟩ := hi i (by omega)
      obtain ⟨A3, l3, c3', e3, r3, q3, m3⟩ := bytes_of1 Tryz.underlying51 Tryz.underlying5 (by kernel_rfl) t0
      obtain ⟨b, off, spot⟩ := a
      have hspot : spot = none := World.cell?_spot (hi 0 (by omega)).1
      subst hspot
      rw [Addr.add_lit, e3] at c0
      have hb : b < w.heap.size := by
        rcases Nat.lt_or_ge b w.heap.size with h | h
        · exact h
        · simp [World.cell?, Array.getElem?_eq_none h] at c0
      exact ⟨l3, b, off, rfl, hb, A3, c3', c0, r3, q3, m3⟩
    obtain ⟨l, hll, hp⟩ := choose_list key
    refine ⟨l, hll, fun hne => ?_, hl, hm⟩
    have hpos : 0 < l.length := by cases l; exact absurd rfl hne; simp
    obtain ⟨b, off, rfl, hb, _⟩ := hp 0 hpos
    refine ⟨b, off, rfl, hb, fun i hi => ?_⟩
    obtain ⟨b', off', e, _, h2⟩ := hp i hi
    injection e with e1 e2 _
    subst e1 e2
    exact h2
end Go.Proofs.YtchcmklelmlbgaaGreat

/- The pages of a life: which disk is right, the bound of a page, a page that is put. -/
namespace Go.Proofs.YtchcmklelmlbgaaGreat.Snap
open Go.RowKit
open Go.Proofs.YtchcmklelmlbgaaGreat.Geom
open Go.Proofs.YtchcmklelmlbgaaGreat.Sup (Gb gv gcell srightF)
open Go.Proofs.YtchcmklelmlbgaaGreat.Disk (St DAt Did New8 Told8)
open Go.Proofs.YtchcmklelmlbgaaGreat.Sec (X SymAt text sumOf sumAfter ckS blankB rightF encode_sym decode_sym right_0 right_2 xv RetX X0 five5x)
set_option linter.unusedVariables false
set_option maxRecDepth 100000
abbrev acell (d s : Value) (ga gd gl : Int) (life : UInt64) : List Value := [d, s, .int .i64 ga, .int .i64 gd, .int .i64 gl, .int .u64 (life.toNat : Int)]
abbrev av (d s : Value) (ga gd gl : Int) (life : UInt64) : Value := .agg #[d, s, .int .i64 ga, .int .i64 gd, .int .i64 gl, .int .u64 (life.toNat : Int)]
theorem six6 {w : World} {g : Nat} {v0 v1 v2 v3 v4 v5 : Value} (h : Blk w g [v0, v1, v2, v3, v4, v5]) : w.cell? ⟨g, 0, none⟩ = some v0 ∧ w.cell? ⟨g, 1, none⟩ = some v1 ∧ w.cell? ⟨g, 2, none⟩ = some v2 ∧ w.cell? ⟨g, 3, none⟩ = some v3 ∧ w.cell? ⟨g, 4, none⟩ = some v4 ∧ w.cell? ⟨g, 5, none⟩ = some v5 :=
  ⟨h.cell (k := 0) (by simp), h.cell (k := 1) (by simp), h.cell (k := 2) (by simp), h.cell (k := 3) (by simp), h.cell (k := 4) (by simp), h.cell (k := 5) (by simp)⟩
theorem rightD_nil (v : Value) (ga gd gl : Int) (life : UInt64) (w : World) : Calls Tryz.prog 90 #[av (.pointer none) v ga gd gl life] w fun e w' => e = .returned (.int .i64 1) ∧ Below w.heap.size w w' := by
  obtain ⟨z0, z1, z2, z3, z4, z5⟩ := six6 (Blk.new w (acell (.pointer none) v ga gd gl life) 143)
  go_enter Tryz.func90, Tryz.ntmps90
  go_wp2
  go_ret
  exact ⟨rfl, b1alloc _ _⟩
theorem rightS_nil (g : Nat) (ga gd gl : Int) (life : UInt64) (w : World) : Calls Tryz.prog 90 #[av (.pointer (some ⟨g, 0, none⟩)) (.pointer none) ga gd gl life] w fun e w' => e = .returned (.int .i64 1) ∧ Below w.heap.size w w' := by
  obtain ⟨z0, z1, z2, z3, z4, z5⟩ := six6 (Blk.new w (acell (.pointer (some ⟨g, 0, none⟩)) (.pointer none) ga gd gl life) 143)
  go_enter Tryz.func90, Tryz.ntmps90
  go_wp2
  go_ret
  exact ⟨rfl, b1alloc _ _⟩
set_option maxHeartbeats 1000000 in
theorem right_any (g : Nat) (fp : List Nat) (s : St) (gS : Nat) (ga gd gl : Int) (life : UInt64) (w : World) (hG : Gb ga gd gl) (h : DAt w g fp s) : Calls Tryz.prog 90 #[av (.pointer (some ⟨g, 0, none⟩)) (.pointer (some ⟨gS, 0, none⟩)) ga gd gl life] w fun e w' => e = .returned (.int .i64 (srightF s ga gd gl)) ∧ Below w.heap.size w w' := by
  have F := Blk.new w (acell (.pointer (some ⟨g, 0, none⟩)) (.pointer (some ⟨gS, 0, none⟩)) ga gd gl life) 143
  have b0 := b1alloc w (.cells (acell (.pointer (some ⟨g, 0, none⟩)) (.pointer (some ⟨gS, 0, none⟩)) ga gd gl life).toArray 143)
  obtain ⟨z0, z1, z2, z3, z4, z5⟩ := six6 F
  have HR := Lib.hid (fun W => Geom.right_any ga gd gl W hG.a0 hG.a1 hG.d0 hG.d1 hG.g0 hG.g1)
  have HZ := Lib.hid (fun W => Geom.size_any ga gd gl W hG.a0 hG.a1 hG.d0 hG.d1 hG.g0 hG.g1)
  have HD := Lib.hid (fun W (bW : Below w.heap.size w W) => Disk.size_any g fp s W (h.on bW))
  unfold srightF
  obtain ⟨q, hq⟩ : ∃ q, q = right ga gd gl := ⟨_, rfl⟩
  obtain ⟨z, hz⟩ : ∃ z, z = Geom.sizeOf ga gd gl := ⟨_, rfl⟩
  rw [← hq] at HR ⊢
  rw [← hz] at HZ ⊢
  clear hq hz
  cases q with
  | false =>
    rw [if_neg (by simp)]
    go_enter Tryz.func90, Tryz.ntmps90
    go_wp2_with fail
    refine region_inb (by kernel_rfl) (by kernel_rfl) ?_
    have inbNe := InB.some
    have inbW := @wrap_small
    have inbU := IntKind.wrap_u8'
    repeat (refine wpQuiet_step (fun K hK => ?_); go_simp; first | (refine hK _ ?_; clear hK K) | (apply Exists.intro; refine ⟨?_, hK _ ?_⟩; (· (intro w' hw'; first | (go_at_call 67; refine (HR.out _).mono ?_; rintro e w1 ⟨rfl, b1⟩; exact ⟨rfl, hw'.on b1⟩) | (have hcw := hw'.cell; go_simp; exact rfl))); clear hK K))
    refine wpQuiet_nil ?_
    intro wq hq
    clear inbNe inbW inbU
    go_wp2
    go_ret
    exact ⟨rfl, bt b0 hq.below⟩
  | true =>
    by_cases hs : (s.size : Int) = z
    · rw [if_pos ⟨rfl, hs⟩]
      have t0 := bne_no hs
      have Hs := Lib.hid hs
      clear hs
      go_enter Tryz.func90, Tryz.ntmps90
      go_wp2_with fail
      refine region_inb (by kernel_rfl) (by kernel_rfl) ?_
      have inbNe := InB.some
      have inbW := @wrap_small
      have inbU := IntKind.wrap_u8'
      repeat (refine wpQuiet_step (fun K hK => ?_); go_simp; first | (refine hK _ ?_; clear hK K) | (apply Exists.intro; refine ⟨?_, hK _ ?_⟩; (· (intro w' hw'; first | (go_at_call 67; refine (HR.out _).mono ?_; rintro e w1 ⟨rfl, b1⟩; exact ⟨rfl, hw'.on b1⟩) | (go_at_call 68; refine (HD.out _ (bt b0 hw'.below)).mono ?_; rintro e w1 ⟨rfl, rfl⟩; exact ⟨rfl, hw'⟩) | (go_at_call 69; refine (HZ.out _).mono ?_; rintro e w1 ⟨rfl, b1⟩; exact ⟨rfl, hw'.on b1⟩) | (have hcw := hw'.cell; go_simp; exact rfl))); clear hK K))
      refine wpQuiet_nil ?_
      intro wq hq
      clear inbNe inbW inbU
      go_wp2
      go_ret
      exact ⟨rfl, bt b0 hq.below⟩
    · rw [if_neg (fun e => hs e.2)]
      have t0 := bne_yes hs
      have Hs := Lib.hid hs
      clear hs
      go_enter Tryz.func90, Tryz.ntmps90
      go_wp2_with fail
      refine region_inb (by kernel_rfl) (by kernel_rfl) ?_
      have inbNe := InB.some
      have inbW := @wrap_small
      have inbU := IntKind.wrap_u8'
      repeat (refine wpQuiet_step (fun K hK => ?_); go_simp; first | (refine hK _ ?_; clear hK K) | (apply Exists.intro; refine ⟨?_, hK _ ?_⟩; (· (intro w' hw'; first | (go_at_call 67; refine (HR.out _).mono ?_; rintro e w1 ⟨rfl, b1⟩; exact ⟨rfl, hw'.on b1⟩) | (go_at_call 68; refine (HD.out _ (bt b0 hw'.below)).mono ?_; rintro e w1 ⟨rfl, rfl⟩; exact ⟨rfl, hw'⟩) | (go_at_call 69; refine (HZ.out _).mono ?_; rintro e w1 ⟨rfl, b1⟩; exact ⟨rfl, hw'.on b1⟩) | (have hcw := hw'.cell; go_simp; exact rfl))); clear hK K))
      refine wpQuiet_nil ?_
      intro wq hq
      clear inbNe inbW inbU
      go_wp2
      go_ret
      exact ⟨rfl, bt b0 hq.below⟩
theorem long_any (A : Option Addr) (n c : Nat) (w : World) : Calls Tryz.prog 102 #[.slice A n c] w fun e w' => e = .returned (.bool (decide (479 < n))) ∧ w = w' := by
  have hd : decide ((479 : Int) < (n : Int)) = decide (479 < n) := by
    by_cases h : 479 < n
    · rw [decide_eq_true h, decide_eq_true (by omega)]
    · rw [decide_eq_false h, decide_eq_false (by omega)]
  go_enter Tryz.func102, Tryz.ntmps102
  go_wp2
  go_ret
  exact ⟨ret_bool (by first | exact hd | simp), rfl⟩
end Go.Proofs.YtchcmklelmlbgaaGreat.Snap

/- The pages of a life: a page that is put. -/
namespace Go.Proofs.YtchcmklelmlbgaaGreat.Snap
open Go.RowKit
open Go.Proofs.YtchcmklelmlbgaaGreat.Geom
open Go.Proofs.YtchcmklelmlbgaaGreat.Sup (Gb gv gcell srightF)
open Go.Proofs.YtchcmklelmlbgaaGreat.Disk (St DAt Did New8 Told8)
open Go.Proofs.YtchcmklelmlbgaaGreat.Sec (X SymAt text sumOf sumAfter ckS blankB rightF encode_sym decode_sym right_0 right_2 xv RetX X0 five5x)
set_option linter.unusedVariables false
set_option maxRecDepth 100000
def px (life : UInt64) (n : Nat) (b : List UInt8) : X := ⟨3, life, (n : Int), 0, b⟩
def pB (l : List (List UInt8)) (p : Int) (life : UInt64) (n : Nat) (b : List UInt8) : List UInt8 := text p (px life n b) ++ sumOf l (text p (px life n b))
def pL (l : List (List UInt8)) (p : Int) (life : UInt64) (n : Nat) (b : List UInt8) : List (List UInt8) := sumAfter l (text p (px life n b))
theorem pB_len (l : List (List UInt8)) (p : Int) (life : UInt64) (n : Nat) (b : List UInt8) : (pB l p life n b).length = 512 := by unfold pB; rw [List.length_append, Sec.text_len, Sec.sumOf_len]
theorem px_right {p : Int} {life : UInt64} {n : Nat} {b : List UInt8} (h0 : 0 ≤ p) (h1 : p ≤ 1023) (hn : n ≤ 1000) (hb : b.length ≤ 479) : rightF p (px life n b) = 0 :=
  right_0 (by unfold px; simp only []; omega) (by unfold px; simp only []; omega)
set_option maxHeartbeats 2000000 in
theorem put_any (g : Nat) (fp : List Nat) (s : St) (gS bS : Nat) (l : List (List UInt8)) (ga gd gl : Int) (life : UInt64) (n : Nat) (b : List UInt8) (A : Option Addr) (c : Nat) (w : World) (hG : Gb ga gd gl) (h : Both w g fp s gS bS l) (hl : l.length ≤ 1000000) (hs : s.sz ≤ 90000000)
    (h0 : 0 ≤ areaAt ga gd gl life.toNat n) (h1 : areaAt ga gd gl life.toNat n ≤ 1023) (hn : n ≤ 1000) (hb : b.length ≤ 479) (hr : Rd w w.heap.size A (b.map e8)) :
    Calls Tryz.prog 104 #[av (.pointer (some ⟨g, 0, none⟩)) (.pointer (some ⟨gS, 0, none⟩)) ga gd gl life, .int .i64 (n : Int), .slice A b.length c] w fun e w' => e = .returned (.int .i64 (Disk.write s (areaAt ga gd gl life.toNat n) (pB l (areaAt ga gd gl life.toNat n) life n b)).2) ∧ Turn w g fp gS bS (Disk.write s (areaAt ga gd gl life.toNat n) (pB l (areaAt ga gd gl life.toNat n) life n b)).1 (pL l (areaAt ga gd gl life.toNat n) life n b) w' := by
  have F := Blk.new w (acell (.pointer (some ⟨g, 0, none⟩)) (.pointer (some ⟨gS, 0, none⟩)) ga gd gl life) 143
  have b0 := b1alloc w (.cells (acell (.pointer (some ⟨g, 0, none⟩)) (.pointer (some ⟨gS, 0, none⟩)) ga gd gl life).toArray 143)
  obtain ⟨z0, z1, z2, z3, z4, z5⟩ := six6 F
  have hAr := fun W => Geom.area_any ga gd gl life _ (by rfl) (n : Int) W hG.a0 hG.a1 hG.d0 hG.d1 hG.g0 hG.g1 (show Geom.lo ≤ (n : Int) by unfold Geom.lo; omega) (show (n : Int) ≤ Geom.hi by unfold Geom.hi; omega)
  obtain ⟨p, hp⟩ : ∃ p, p = areaAt ga gd gl life.toNat n := ⟨_, rfl⟩
  rw [← hp] at hAr h0 h1 ⊢
  have hE := fun A c W hb' hr' => encode_sym p gS bS l (px life n b) A c W hb' hl hr' (px_right h0 h1 hn hb)
  have hE' : ∀ A c W, SymAt W gS bS l → Rd W W.heap.size A (b.map e8) → Calls Tryz.prog 105 #[.pointer (some ⟨gS, 0, none⟩), .int .i64 p, .agg #[.int .i64 3, .int .u64 (life.toNat : Int), .int .i64 (n : Int), .int .u64 0, .slice A b.length c]] W _ := fun A c W hb' hr' => hE A c W hb' hr'
  rw [show text p (px life n b) ++ sumOf l (text p (px life n b)) = pB l p life n b from rfl, show sumAfter l (text p (px life n b)) = pL l p life n b from rfl] at hE'
  have hW := fun A c W hD hr' => Disk.write_any g fp s p A 512 c (pB l p life n b) W hD (by omega) (pB_len l p life n b).symm hr'
  obtain ⟨V, hV⟩ : ∃ V, V = Disk.write s p (pB l p life n b) := ⟨_, rfl⟩
  obtain ⟨bb, hbb⟩ : ∃ V, V = pB l p life n b := ⟨_, rfl⟩
  obtain ⟨l', hl'⟩ : ∃ V, V = pL l p life n b := ⟨_, rfl⟩
  rw [← hV] at hW ⊢
  rw [← hbb] at hW hE'
  rw [← hl'] at hE' ⊢
  have HA := Lib.hid hAr
  have HE := Lib.hid hE'
  have HW := Lib.hid hW
  have FG := Lib.hid F
  have nG : w.heap.size ∉ [bS] := by have := h.sym.lt.2; rw [List.mem_singleton]; omega
  clear hAr hE hE' hW hV hbb hl' hp F
  go_enter Tryz.func104, Tryz.ntmps104
  go_wp2_with (first
    | (go_at_call 116; refine (HA.out _).mono ?_; rintro e w1 ⟨rfl, b1⟩; have F1 := FG.out.on b1; clear z0 z1 z2 z3 z4 z5; obtain ⟨z0, z1, z2, z3, z4, z5⟩ := six6 F1; have H1 := h.on (bt b0 b1))
    | (go_at_call 105; refine (HE.out A c _ H1.sym ((hr.below (bt b0 b1)).more (bt b0 b1).size)).mono ?_; rintro e w2 ⟨A2, c2, rfl, own2, k2, s2⟩; have H2 := H1.summed s2 k2; have F2 := F1.keepK k2 nG; clear z0 z1 z2 z3 z4 z5; obtain ⟨z0, z1, z2, z3, z4, z5⟩ := six6 F2; have K2 := keepT (fp := fp) (Keep.of_below (bt b0 b1) (bS :: fp)) (Fresh.refl _ _) (keepB k2))
    | (go_at_call 73; refine (HW.out A2 c2 _ H2.disk (RdN.own own2 H1.disk.lt)).mono ?_; rintro e w3 ⟨rfl, fp3, hD3, k3, f3⟩; have H3 := H2.did hD3 k3 f3))
  go_ret
  have hz2 := K2.size
  exact ⟨rfl, fp3, H3, keepT K2 (Fresh.refl _ _) (keepF k3), fun j hj => (f3 j hj).imp id (fun e => by omega)⟩
end Go.Proofs.YtchcmklelmlbgaaGreat.Snap

/- The pages of a life: is one of the rows too long: slices.IndexFunc and ContainsFunc with snap.Write's closure. -/
namespace Go.Proofs.YtchcmklelmlbgaaGreat.Snap
open Go.RowKit
set_option linter.unusedVariables false
set_option maxRecDepth 100000
def longB (l : List (List UInt8)) : Bool := l.any fun b => decide (479 < b.length)
theorem longB_no {l : List (List UInt8)} (h : ∀ j (hj : j < l.length), l[j].length ≤ 479) : longB l = false := by
  unfold longB
  rw [List.any_eq_false]
  intro b hb
  obtain ⟨j, hj, rfl⟩ := List.mem_iff_getElem.1 hb
  have := h j hj
  simp; omega
theorem longB_yes {l : List (List UInt8)} {j : Nat} (hj : j < l.length) (h : 479 < l[j].length) : longB l = true := by
  unfold longB
  rw [List.any_eq_true]
  exact ⟨l[j], List.getElem_mem hj, by simpa using h⟩
set_option maxHeartbeats 1000000 in
theorem index_any (A : Option Addr) (l : List (List UInt8)) (c : Nat) (w : World) (hr : Rws w w.heap.size A l) (hcl : l.length ≤ 1000000) :
    Calls Tryz.prog 119 #[.slice A l.length c, .func (.func 102) #[] #[]] w fun e w' => (∃ k : Int, e = .returned (.int .i64 k) ∧ decide (0 ≤ k) = longB l) ∧ w = w' := by
  have hm1 : ∀ (x : Array Value) (w : World), Sem.run Tryz.prog (callFunc 102 x) w = .ok (.enter 102 x) w := by intro x w; simp [go_sem]
  go_enter Tryz.func119, Tryz.ntmps119
  go_wp2_with fail
  go_loopw [8] (fun i wr => ∃ k : Nat, k ≤ l.length ∧ i = .int .i64 k ∧ wr = w ∧ ∀ j (hj : j < l.length), j < k → l[j].length ≤ 479) (fun i _ => l.length - (intOf i).toNat)
  case atStart => exact ⟨0, by omega, rfl, rfl, fun j hj h => by omega⟩
  case round =>
    obtain ⟨k, hk, rfl, rfl, hall⟩ := hrel
    by_cases hlt : k < l.length
    · obtain ⟨b, off, Ai, ci, rfl, hb, hc, _, _, _⟩ := hr.get hlt
      have hkn : (k : Int) < (l.length : Int) := by omega
      have hwk : wrap64 ((k : Int) + 1) = (k : Int) + 1 := by unfold wrap64; omega
      by_cases hl : 479 < l[k].length
      · have hd := decide_eq_true hl
        have hy := Lib.hid (longB_yes hlt hl)
        go_wp2_with (go_at_call 102; refine (long_any _ _ _ _).mono ?_; rintro e w1 ⟨rfl, rfl⟩; rw [hd])
        go_ret
        exact ⟨⟨(k : Int), rfl, by rw [hy.out]; exact decide_eq_true (by omega)⟩, rfl⟩
      · have hd := decide_eq_false hl
        go_wp2_with (go_at_call 102; refine (long_any _ _ _ _).mono ?_; rintro e w1 ⟨rfl, rfl⟩; rw [hd])
        case roundEnd => exact ⟨⟨k + 1, by omega, by first | rfl | simp | (rw [hwk]; rfl), by first | trivial | rfl, fun j hj h => by
          rcases (show j < k ∨ j = k by omega) with h1 | h1
          · exact hall j hj h1
          · subst h1; omega⟩, by simp only [intOf]; omega⟩
    · have hkn : ¬ (k : Int) < (l.length : Int) := by omega
      have hn := Lib.hid (longB_no (l := l) (fun j hj => hall j hj (by omega)))
      go_wp2
      go_ret
      exact ⟨⟨-1, rfl, by rw [hn.out]; rfl⟩, rfl⟩
theorem contains_any (A : Option Addr) (l : List (List UInt8)) (c : Nat) (w : World) (hr : Rws w w.heap.size A l) (hcl : l.length ≤ 1000000) :
    Calls Tryz.prog 103 #[.slice A l.length c, .func (.func 102) #[] #[]] w fun e w' => e = .returned (.bool (longB l)) ∧ w = w' := by
  go_enter Tryz.func103, Tryz.ntmps103
  go_wp2_with (go_at_call 119; refine (index_any A l c _ hr hcl).mono ?_; rintro e w1 ⟨⟨k, rfl, hk⟩, rfl⟩)
  go_ret
  exact ⟨by first | rfl | exact ret_bool hk, rfl⟩
end Go.Proofs.YtchcmklelmlbgaaGreat.Snap
