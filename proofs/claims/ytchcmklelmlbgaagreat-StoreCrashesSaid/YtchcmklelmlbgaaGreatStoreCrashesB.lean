/- Texts of this claim, joined: Sec1Q, Sec2Q, Sec3Q, Sec4Q, Sec5Q, Sec6Q, Sec7Q, Sec8Q, Sec9Q, SecSym1Q, SecSym2Q, SecSym3Q, SecBackPlainQ, Sec10Q, BothQ, GeomQ, Geom2Q, Geom3Q, Geom4Q, Sup1Q, Sup2Q, OpenQ, OpenRowsQ, Snap1Q, Snap2Q, Snap3Q, RwQ, Sup3Q. -/
import Derived.Test.YtchcmklelmlbgaaGreatStoreCrashesA
import Derived.Deep.RegionHeld3
import Derived.Deep.RegionWith
import Derived.Maps.OwnSet
import Derived.Maps.Views
import Derived.StringKeys
import Derived.ArgAppend
import Derived.Lib.SlBytesConst
import Derived.Test.YtchcmklelmlbgaaGreatRows
import Derived.Outline
import Derived.WalkMore
import Derived.ProofKit
import Derived.OpenShut
import Derived.ShutString
import Derived.ChangeOld
import Derived.Lib.SmallJoins
import Derived.Deep.Slices
import Derived.Deep.Fields
import Derived.ChangeSame
namespace Go.Proofs.YtchcmklelmlbgaaGreat.Sec
open Go.RowKit
set_option linter.unusedVariables false
set_option maxRecDepth 100000
theorem info8 : (Tryz.prog.info? 5).map (fun i => (i.zero, i.size, i.bytes)) = some (some (.int .u8 0), 1, 1) := by kernel_rfl
def xv (x : X) (A : Option Addr) (c : Nat) : Value := .agg #[.int .i64 x.kind, .int .u64 (x.life.toNat : Int), .int .i64 x.seq, .int .u64 (x.gen.toNat : Int), .slice A x.body.length c]
theorem none_any (g : Nat) (w : World) : Calls Tryz.prog 120 #[.pointer (some ⟨g, 0, none⟩)] w fun e w' => e = .returned (.bool false) /\ w = w' := by
 go_enter Tryz.func120, Tryz.ntmps120
 go_wp2
 go_ret
 exact ⟨rfl, rfl⟩
def withinB (n l m : Int) : Bool := decide (l <= n) && decide (n <= m)
theorem within_any (n l m : Int) (w : World) : Calls Tryz.prog 131 #[.int .i64 n, .int .i64 l, .int .i64 m] w fun e w' => e = .returned (.bool (withinB n l m)) /\ w = w' := by
 by_cases h : l <= n
 · have hr := Lib.hid (show withinB n l m = decide (n <= m) by simp [withinB, h])
   go_enter Tryz.func131, Tryz.ntmps131
   go_wp2
   go_ret
   exact ⟨ret_bool hr.out.symm, rfl⟩
 · have hr := Lib.hid (show withinB n l m = false by simp [withinB, h])
   go_enter Tryz.func131, Tryz.ntmps131
   go_wp2
   go_ret
   exact ⟨ret_bool hr.out.symm, rfl⟩
set_option maxHeartbeats 1000000 in
theorem right_any (p : Int) (x : X) (A : Option Addr) (c : Nat) (w : World) :
   Calls Tryz.prog 121 #[.int .i64 p, .agg #[.int .i64 x.kind, .int .u64 (x.life.toNat : Int), .int .i64 x.seq, .int .u64 (x.gen.toNat : Int), .slice A x.body.length c]] w fun e w' => e = .returned (.int .i64 (rightF p x)) /\ Below w.heap.size w w' := by
 have hmf : ∀ w : World, Sem.run Tryz.prog (callFunc 131 #[]) w = .ok (.enter 131 #[]) w := by intro w; simp [go_sem]
 by_cases h1 : x.kind < 1 \/ 5 < x.kind
 · have hr := Lib.hid (show rightF p x = 2 from right_2 (by omega))
   have hb := Lib.hid (show withinB x.kind 1 5 = false by unfold withinB; simp; omega)
   clear h1
   go_enter Tryz.func121, Tryz.ntmps121
   go_wp2_with (go_at_call 131; refine (within_any _ _ _ _).mono ?_; rintro e w1 ⟨rfl, rfl⟩; try rw [hb.out])
   go_ret
   exact ⟨ret_int hr.out.symm, below_lit _ _⟩
 have hb := Lib.hid (show withinB x.kind 1 5 = true by unfold withinB; simp; omega)
 by_cases h2 : p < 0 \/ 1023 < p
 · have hr := Lib.hid (show rightF p x = 2 from right_2 (by omega))
   have hb2 := Lib.hid (show withinB p 0 1023 = false by unfold withinB; simp; omega)
   clear h1 h2
   go_enter Tryz.func121, Tryz.ntmps121
   go_wp2_with (go_at_call 131; refine (within_any _ _ _ _).mono ?_; rintro e w1 ⟨rfl, rfl⟩; first | rw [hb.out] | rw [hb2.out])
   go_ret
   exact ⟨ret_int hr.out.symm, below_lit _ _⟩
 have hb2 := Lib.hid (show withinB p 0 1023 = true by unfold withinB; simp; omega)
 by_cases h3 : x.seq < 0 \/ 1073741824 < x.seq
 · have hr := Lib.hid (show rightF p x = 2 from right_2 (by omega))
   have hb3 := Lib.hid (show withinB x.seq 0 1073741824 = false by unfold withinB; simp; omega)
   clear h1 h2 h3
   go_enter Tryz.func121, Tryz.ntmps121
   go_wp2_with (go_at_call 131; refine (within_any _ _ _ _).mono ?_; rintro e w1 ⟨rfl, rfl⟩; first | rw [hb.out] | rw [hb2.out] | rw [hb3.out])
   go_ret
   exact ⟨ret_int hr.out.symm, below_lit _ _⟩
 have hb3 := Lib.hid (show withinB x.seq 0 1073741824 = true by unfold withinB; simp; omega)
 by_cases h4 : 479 < x.body.length
 · have hr := Lib.hid (show rightF p x = 6 from right_6 (by omega) h4)
   clear h1 h2 h3
   go_enter Tryz.func121, Tryz.ntmps121
   go_wp2_with (go_at_call 131; refine (within_any _ _ _ _).mono ?_; rintro e w1 ⟨rfl, rfl⟩; first | rw [hb.out] | rw [hb2.out] | rw [hb3.out])
   go_ret
   exact ⟨ret_int hr.out.symm, below_lit _ _⟩
 have hr := Lib.hid (show rightF p x = 0 from right_0 (by omega) h4)
 clear h1 h2 h3
 go_enter Tryz.func121, Tryz.ntmps121
 go_wp2_with (go_at_call 131; refine (within_any _ _ _ _).mono ?_; rintro e w1 ⟨rfl, rfl⟩; first | rw [hb.out] | rw [hb2.out] | rw [hb3.out])
 go_ret
 exact ⟨ret_int hr.out.symm, below_lit _ _⟩
theorem nsame_any (A B : Option Addr) (l m : List UInt8) (n o c d : Nat) (w : World) (hn : n = l.length) (ho : o = m.length) (hr : Rd w w.heap.size A (l.map e8)) (hs : Rd w w.heap.size B (m.map e8)) :
   Calls Tryz.prog 113 #[.slice A n c, .slice B o d] w fun e w' => e = .returned (.bool (R1.sameB l m)) /\ w = w' := by
 subst hn ho
 go_enter Tryz.func113, Tryz.ntmps113
 go_wp2_with (go_at_call 130; refine (Mac.equal_any _ _ _ _ _ _ _ _ _ rfl rfl hr hs).mono ?_; rintro e w' ⟨rfl, rfl⟩)
 go_ret
 exact ⟨rfl, rfl⟩
theorem blank_any (w : World) : Calls Tryz.prog 74 #[] w (RetB 5 w zero512) := by
 obtain ⟨i0, hi0, hz0, hz1, hz2⟩ := info_parts info8
 go_enter Tryz.func74, Tryz.ntmps74
 go_wp2_with ((with_reducible show wpList _ _ _ (⟨some 1, _, _, _, _, _⟩ :: _) _ _); refine wpList_make_full _ rfl _ _ _ rfl w.heap.size 5 i0 _ 1 Tryz.underlying51 hi0 hz0 hz1 _ _ _ _ 512 rfl rfl rfl rfl (by rw [hz2]; omega) (by simp only [maxLen]; omega) (Nat.le_refl _) ?_; intro w1 own1 hg1)
 rw [made_int] at own1
 go_ret
 exact RetB.mk own1 (by rw [zero512, List.map_replicate]; rfl) ((Below.refl _ _).grown hg1 (Nat.le_refl _) (by simp))
theorem isBlank_any (A : Option Addr) (l : List UInt8) (n c : Nat) (w : World) (hn : n = l.length) (hr : Rd w w.heap.size A (l.map e8)) :
   Calls Tryz.prog 127 #[.slice A n c] w fun e w' => e = .returned (.bool (blankB l)) /\ Below w.heap.size w w' := by
 subst hn
 go_enter Tryz.func127, Tryz.ntmps127
 go_wp2_with fail
 refine (blank_any _).mono ?_
 rintro e w1 ⟨A1, c1, rfl, own1, b1⟩
 go_wp2_with fail
 refine (Mac.equal_any _ _ l zero512 _ _ _ _ _ rfl rfl (hr.on b1) (Rd.own own1)).mono ?_
 rintro e w2 ⟨rfl, rfl⟩
 go_wp2
 go_ret
 exact ⟨rfl, b1⟩
end Go.Proofs.YtchcmklelmlbgaaGreat.Sec
namespace Go.Proofs.YtchcmklelmlbgaaGreat.Sec
open Go.RowKit
open Go.Proofs.YtchcmklelmlbgaaGreat.Num (putL)
open Go.Proofs.YtchcmklelmlbgaaGreat.Mac (padTo)
set_option linter.unusedVariables false
set_option maxRecDepth 100000
theorem text_eq {p : Int} {x : X} {n0 n1 n3 n5 : UInt64} (e0 : x.kind = (n0.toNat : Int)) (e1 : p = (n1.toNat : Int)) (e3 : x.seq = (n3.toNat : Int)) (e5 : (x.body.length : Int) = (n5.toNat : Int)) :
   text p x = padTo ((((((putL n0.toNat 1 ++ putL n1.toNat 2) ++ putL x.life.toNat 8) ++ putL n3.toNat 4) ++ putL x.gen.toNat 8) ++ putL n5.toNat 2) ++ x.body) 504 := by
 unfold text head
 rw [show x.kind.toNat = n0.toNat by omega, show p.toNat = n1.toNat by omega, show x.seq.toNat = n3.toNat by omega, show x.body.length = n5.toNat by omega]
def pre (n0 n1 n2 n3 n4 n5 : UInt64) : Nat -> List UInt8
 | 0 => []
 | 1 => putL n0.toNat 1
 | 2 => putL n0.toNat 1 ++ putL n1.toNat 2
 | 3 => (putL n0.toNat 1 ++ putL n1.toNat 2) ++ putL n2.toNat 8
 | 4 => ((putL n0.toNat 1 ++ putL n1.toNat 2) ++ putL n2.toNat 8) ++ putL n3.toNat 4
 | 5 => (((putL n0.toNat 1 ++ putL n1.toNat 2) ++ putL n2.toNat 8) ++ putL n3.toNat 4) ++ putL n4.toNat 8
 | _ => ((((putL n0.toNat 1 ++ putL n1.toNat 2) ++ putL n2.toNat 8) ++ putL n3.toNat 4) ++ putL n4.toNat 8) ++ putL n5.toNat 2
theorem retB_eq {E : TypeId} {w w' : World} {l l' : List UInt8} {e : Ending} (h : RetB E w l e w') (h2 : l = l') : RetB E w l' e w' := h2 ▸ h
theorem own_add {w : World} {base : Nat} {e : TypeId} {v : Value} {n m : Nat} {a b c : List UInt8} (h : w.ownsRow base e 1 v (n + m) (a.map e8 ++ b.map e8)) (hn : n = a.length) (hm : m = b.length) (hc : c = a ++ b) : w.ownsRow base e 1 v c.length (c.map e8) := by
 subst hn hm hc
 rw [List.length_append, List.map_append]; exact h
theorem blk_grown {w w' : World} {b : Nat} {o : Obj} {r : Option Nat} (h : w.heap[b]? = some o) (hlt : b < w.heap.size) (g : w.grownBy w' r) (hr : ∀ k, r = some k -> b < k) : w'.heap[b]? = some o :=
 (g.block b hlt (fun e => by have := hr b e.symm; omega)).trans h
theorem five {w : World} {g : Nat} {v0 v1 v2 v3 v4 : Value} {t : TypeId} (h : w.heap[g]? = some (.cells #[v0, v1, v2, v3, v4] t (0, 0))) :
   w.cell? ⟨g, 0, none⟩ = some v0 /\ w.cell? ⟨g, 1, none⟩ = some v1 /\ w.cell? ⟨g, 2, none⟩ = some v2 /\ w.cell? ⟨g, 3, none⟩ = some v3 /\ w.cell? ⟨g, 4, none⟩ = some v4 /\ ∀ o, w.frozen? ⟨g, o, none⟩ = false := by
 refine ⟨?_, ?_, ?_, ?_, ?_, ?_⟩ <;> simp [World.cell?, World.frozen?, h]
set_option maxHeartbeats 600000 in
theorem written_any (p : Int) (x : X) (A : Option Addr) (c : Nat) (w : World) (hr : Rd w w.heap.size A (x.body.map e8)) (h : rightF p x = 0) :
   Calls Tryz.prog 122 #[.int .i64 p, .agg #[.int .i64 x.kind, .int .u64 (x.life.toNat : Int), .int .i64 x.seq, .int .u64 (x.gen.toNat : Int), .slice A x.body.length c]] w (RetB 5 w (text p x)) := by
 obtain ⟨i0', hi0, hz0, hz1, hz2⟩ := info_parts info8
 obtain ⟨h1, h2, h3, h4, h5, h6, h7⟩ := right_of h
 obtain ⟨n0, e0⟩ := to64 x.kind (by omega) (by omega)
 obtain ⟨n1, e1⟩ := to64 p (by omega) (by omega)
 obtain ⟨n3, e3⟩ := to64 x.seq (by omega) (by omega)
 obtain ⟨n5, e5⟩ := to64 (x.body.length : Int) (by omega) (by omega)
 have ht := Lib.hid (text_eq e0 e1 e3 e5)
 rw [ht.out]
 obtain ⟨body, hbody⟩ : ∃ b, b = x.body := ⟨_, rfl⟩
 obtain ⟨n2, hn2⟩ : ∃ b, b = x.life := ⟨_, rfl⟩
 obtain ⟨n4, hn4⟩ : ∃ b, b = x.gen := ⟨_, rfl⟩
 rw [<- hbody] at hr e5 h7 ⊢
 rw [<- hn2, <- hn4]
 have E5 := Lib.hid e5
 rw [e0, e1, e3]
 rw [e0] at h1 h2
 rw [e1] at h3 h4
 rw [e3] at h5 h6
 clear ht h e0 e1 e3 e5 hbody hn2 hn4
 have g2 : (n2.toNat : Int) <= 18446744073709551615 := by have := n2.toNat_lt; omega
 have g4 : (n4.toNat : Int) <= 18446744073709551615 := by have := n4.toNat_lt; omega
 have hl : ∀ k, (pre n0 n1 n2 n3 n4 n5 k).length <= 25 := by
   intro k
   unfold pre
   split <;> simp [Num.putL_len]
 have i0 : ∀ w, (Instr.index 201 (.agg #[.int .u64 (n0.toNat : Int), .int .i64 1, .int .u64 (n1.toNat : Int), .int .i64 2, .int .u64 (n2.toNat : Int), .int .i64 8, .int .u64 (n3.toNat : Int), .int .i64 4, .int .u64 (n4.toNat : Int), .int .i64 8, .int .u64 (body.length : Int), .int .i64 2]) (.int .i64 0)).run Tryz.prog w = .ok (.agg #[.int .u64 (n0.toNat : Int), .int .i64 1]) w := fun _ => by kernel_rfl
 have i1 : ∀ w, (Instr.index 201 (.agg #[.int .u64 (n0.toNat : Int), .int .i64 1, .int .u64 (n1.toNat : Int), .int .i64 2, .int .u64 (n2.toNat : Int), .int .i64 8, .int .u64 (n3.toNat : Int), .int .i64 4, .int .u64 (n4.toNat : Int), .int .i64 8, .int .u64 (body.length : Int), .int .i64 2]) (.int .i64 1)).run Tryz.prog w = .ok (.agg #[.int .u64 (n1.toNat : Int), .int .i64 2]) w := fun _ => by kernel_rfl
 have i2 : ∀ w, (Instr.index 201 (.agg #[.int .u64 (n0.toNat : Int), .int .i64 1, .int .u64 (n1.toNat : Int), .int .i64 2, .int .u64 (n2.toNat : Int), .int .i64 8, .int .u64 (n3.toNat : Int), .int .i64 4, .int .u64 (n4.toNat : Int), .int .i64 8, .int .u64 (body.length : Int), .int .i64 2]) (.int .i64 2)).run Tryz.prog w = .ok (.agg #[.int .u64 (n2.toNat : Int), .int .i64 8]) w := fun _ => by kernel_rfl
 have i3 : ∀ w, (Instr.index 201 (.agg #[.int .u64 (n0.toNat : Int), .int .i64 1, .int .u64 (n1.toNat : Int), .int .i64 2, .int .u64 (n2.toNat : Int), .int .i64 8, .int .u64 (n3.toNat : Int), .int .i64 4, .int .u64 (n4.toNat : Int), .int .i64 8, .int .u64 (body.length : Int), .int .i64 2]) (.int .i64 3)).run Tryz.prog w = .ok (.agg #[.int .u64 (n3.toNat : Int), .int .i64 4]) w := fun _ => by kernel_rfl
 have i4 : ∀ w, (Instr.index 201 (.agg #[.int .u64 (n0.toNat : Int), .int .i64 1, .int .u64 (n1.toNat : Int), .int .i64 2, .int .u64 (n2.toNat : Int), .int .i64 8, .int .u64 (n3.toNat : Int), .int .i64 4, .int .u64 (n4.toNat : Int), .int .i64 8, .int .u64 (body.length : Int), .int .i64 2]) (.int .i64 4)).run Tryz.prog w = .ok (.agg #[.int .u64 (n4.toNat : Int), .int .i64 8]) w := fun _ => by kernel_rfl
 have i5 : ∀ w, (Instr.index 201 (.agg #[.int .u64 (n0.toNat : Int), .int .i64 1, .int .u64 (n1.toNat : Int), .int .i64 2, .int .u64 (n2.toNat : Int), .int .i64 8, .int .u64 (n3.toNat : Int), .int .i64 4, .int .u64 (n4.toNat : Int), .int .i64 8, .int .u64 (body.length : Int), .int .i64 2]) (.int .i64 5)).run Tryz.prog w = .ok (.agg #[.int .u64 (body.length : Int), .int .i64 2]) w := fun _ => by kernel_rfl
 go_enter Tryz.func122, Tryz.ntmps122
 go_wp2
 go_loopw [4, 6, 30] (fun v _ i wr => ∃ k : Nat, k <= 6 /\ i = .int .i64 k /\ wr.heap[w.heap.size]? = some (.cells #[Value.int IntKind.i64 (n0.toNat : Int), .int .u64 (n2.toNat : Int), .int .i64 (n3.toNat : Int), .int .u64 (n4.toNat : Int), .slice A body.length c] 157 (0, 0)) /\ wr.ownsRow (w.heap.size + 1) 5 1 v (pre n0 n1 n2 n3 n4 n5 k).length ((pre n0 n1 n2 n3 n4 n5 k).map e8) /\ Below w.heap.size w wr) (fun _ _ i _ => 6 - (intOf i).toNat)
 case atStart => exact ⟨0, by omega, rfl, heap_alloc_new w _, own_nil _ _ _ _, below_lit _ _⟩
 case round =>
   obtain ⟨k, hk, rfl, hB, own, bel⟩ := hrel
   have hlt := lt_of_block hB
   have hbs : w.heap.size + 1 <= wr.heap.size := hlt
   by_cases hk6 : k < 6
   · have hlk := hl k
     rcases (show k = 0 \/ k = 1 \/ k = 2 \/ k = 3 \/ k = 4 \/ k = 5 by omega) with rfl | rfl | rfl | rfl | rfl | rfl
     · have hnx := Lib.hid (show pre n0 n1 n2 n3 n4 n5 1 = pre n0 n1 n2 n3 n4 n5 0 ++ putL n0.toNat 1 from rfl)
       obtain ⟨q, hq⟩ : ∃ q, q = pre n0 n1 n2 n3 n4 n5 0 := ⟨_, rfl⟩
       rw [<- hq] at own hlk hnx
       clear hq
       go_wp2_with (first
         | (go_at_call 108; refine (Num.put_any n0 _ (by rfl) 1 _ (by rfl) (by omega) (by omega) _).mono ?_; rintro e wp ⟨Ap, cp, rfl, ownp, bp⟩; have own2 := own_on (own.alloc _) bp; have rdp := Rd.own ownp; have bpl := Num.putL_len n0.toNat 1; rw [bpl])
         | ((with_reducible show wpList _ _ _ (⟨some 39, _, _, _, _, _⟩ :: _) _ _); refine wpList_append_rd _ rfl (.tmp 33) (.tmp 38) _ rfl (w.heap.size + 1) 5 i0' _ 1 1 Tryz.underlying51 hi0 hz0 hz1 hz2 rfl (by omega) u4 q.length (q.map e8) rfl own2 _ Ap 1 cp ((putL n0.toNat 1).map e8) rfl (by simp [Num.putL_len]) rdp (e8_one _) (by simp only [maxLen]; omega) (by omega) (by have := bp.size; simp at this; omega) ?_; intro v1 w1 own1 hg1 hat1))
       go_roundw
       case rel => exact ⟨1, by omega, rfl, blk_grown ((bp.block _ (by simp; omega)).trans ((Below.heap_alloc wr _ _ hlt).trans hB)) (Nat.lt_of_lt_of_le (by simp; omega) bp.size) hg1 (fun z hz => by have := own_block own2 hz; omega), own_add own1 rfl (Num.putL_len _ _).symm hnx.out, (bt (bt bel (b1alloc _ _)) bp).grown hg1 (bt (bt bel (b1alloc _ _)) bp).size (fun z hz => by have := own_block own2 hz; omega)⟩
       case measure => simp [intOf]
     · have hnx := Lib.hid (show pre n0 n1 n2 n3 n4 n5 2 = pre n0 n1 n2 n3 n4 n5 1 ++ putL n1.toNat 2 from rfl)
       obtain ⟨q, hq⟩ : ∃ q, q = pre n0 n1 n2 n3 n4 n5 1 := ⟨_, rfl⟩
       rw [<- hq] at own hlk hnx
       clear hq
       go_wp2_with (first
         | (go_at_call 108; refine (Num.put_any n1 _ (by rfl) 2 _ (by rfl) (by omega) (by omega) _).mono ?_; rintro e wp ⟨Ap, cp, rfl, ownp, bp⟩; have own2 := own_on (own.alloc _) bp; have rdp := Rd.own ownp; have bpl := Num.putL_len n1.toNat 2; rw [bpl])
         | ((with_reducible show wpList _ _ _ (⟨some 39, _, _, _, _, _⟩ :: _) _ _); refine wpList_append_rd _ rfl (.tmp 33) (.tmp 38) _ rfl (w.heap.size + 1) 5 i0' _ 1 1 Tryz.underlying51 hi0 hz0 hz1 hz2 rfl (by omega) u4 q.length (q.map e8) rfl own2 _ Ap 2 cp ((putL n1.toNat 2).map e8) rfl (by simp [Num.putL_len]) rdp (e8_one _) (by simp only [maxLen]; omega) (by omega) (by have := bp.size; simp at this; omega) ?_; intro v1 w1 own1 hg1 hat1))
       go_roundw
       case rel => exact ⟨2, by omega, rfl, blk_grown ((bp.block _ (by simp; omega)).trans ((Below.heap_alloc wr _ _ hlt).trans hB)) (Nat.lt_of_lt_of_le (by simp; omega) bp.size) hg1 (fun z hz => by have := own_block own2 hz; omega), own_add own1 rfl (Num.putL_len _ _).symm hnx.out, (bt (bt bel (b1alloc _ _)) bp).grown hg1 (bt (bt bel (b1alloc _ _)) bp).size (fun z hz => by have := own_block own2 hz; omega)⟩
       case measure => simp [intOf]
     · have hnx := Lib.hid (show pre n0 n1 n2 n3 n4 n5 3 = pre n0 n1 n2 n3 n4 n5 2 ++ putL n2.toNat 8 from rfl)
       obtain ⟨q, hq⟩ : ∃ q, q = pre n0 n1 n2 n3 n4 n5 2 := ⟨_, rfl⟩
       rw [<- hq] at own hlk hnx
       clear hq
       go_wp2_with (first
         | (go_at_call 108; refine (Num.put_any n2 _ (by rfl) 8 _ (by rfl) (by omega) (by omega) _).mono ?_; rintro e wp ⟨Ap, cp, rfl, ownp, bp⟩; have own2 := own_on (own.alloc _) bp; have rdp := Rd.own ownp; have bpl := Num.putL_len n2.toNat 8; rw [bpl])
         | ((with_reducible show wpList _ _ _ (⟨some 39, _, _, _, _, _⟩ :: _) _ _); refine wpList_append_rd _ rfl (.tmp 33) (.tmp 38) _ rfl (w.heap.size + 1) 5 i0' _ 1 1 Tryz.underlying51 hi0 hz0 hz1 hz2 rfl (by omega) u4 q.length (q.map e8) rfl own2 _ Ap 8 cp ((putL n2.toNat 8).map e8) rfl (by simp [Num.putL_len]) rdp (e8_one _) (by simp only [maxLen]; omega) (by omega) (by have := bp.size; simp at this; omega) ?_; intro v1 w1 own1 hg1 hat1))
       go_roundw
       case rel => exact ⟨3, by omega, rfl, blk_grown ((bp.block _ (by simp; omega)).trans ((Below.heap_alloc wr _ _ hlt).trans hB)) (Nat.lt_of_lt_of_le (by simp; omega) bp.size) hg1 (fun z hz => by have := own_block own2 hz; omega), own_add own1 rfl (Num.putL_len _ _).symm hnx.out, (bt (bt bel (b1alloc _ _)) bp).grown hg1 (bt (bt bel (b1alloc _ _)) bp).size (fun z hz => by have := own_block own2 hz; omega)⟩
       case measure => simp [intOf]
     · have hnx := Lib.hid (show pre n0 n1 n2 n3 n4 n5 4 = pre n0 n1 n2 n3 n4 n5 3 ++ putL n3.toNat 4 from rfl)
       obtain ⟨q, hq⟩ : ∃ q, q = pre n0 n1 n2 n3 n4 n5 3 := ⟨_, rfl⟩
       rw [<- hq] at own hlk hnx
       clear hq
       go_wp2_with (first
         | (go_at_call 108; refine (Num.put_any n3 _ (by rfl) 4 _ (by rfl) (by omega) (by omega) _).mono ?_; rintro e wp ⟨Ap, cp, rfl, ownp, bp⟩; have own2 := own_on (own.alloc _) bp; have rdp := Rd.own ownp; have bpl := Num.putL_len n3.toNat 4; rw [bpl])
         | ((with_reducible show wpList _ _ _ (⟨some 39, _, _, _, _, _⟩ :: _) _ _); refine wpList_append_rd _ rfl (.tmp 33) (.tmp 38) _ rfl (w.heap.size + 1) 5 i0' _ 1 1 Tryz.underlying51 hi0 hz0 hz1 hz2 rfl (by omega) u4 q.length (q.map e8) rfl own2 _ Ap 4 cp ((putL n3.toNat 4).map e8) rfl (by simp [Num.putL_len]) rdp (e8_one _) (by simp only [maxLen]; omega) (by omega) (by have := bp.size; simp at this; omega) ?_; intro v1 w1 own1 hg1 hat1))
       go_roundw
       case rel => exact ⟨4, by omega, rfl, blk_grown ((bp.block _ (by simp; omega)).trans ((Below.heap_alloc wr _ _ hlt).trans hB)) (Nat.lt_of_lt_of_le (by simp; omega) bp.size) hg1 (fun z hz => by have := own_block own2 hz; omega), own_add own1 rfl (Num.putL_len _ _).symm hnx.out, (bt (bt bel (b1alloc _ _)) bp).grown hg1 (bt (bt bel (b1alloc _ _)) bp).size (fun z hz => by have := own_block own2 hz; omega)⟩
       case measure => simp [intOf]
     · have hnx := Lib.hid (show pre n0 n1 n2 n3 n4 n5 5 = pre n0 n1 n2 n3 n4 n5 4 ++ putL n4.toNat 8 from rfl)
       obtain ⟨q, hq⟩ : ∃ q, q = pre n0 n1 n2 n3 n4 n5 4 := ⟨_, rfl⟩
       rw [<- hq] at own hlk hnx
       clear hq
       go_wp2_with (first
         | (go_at_call 108; refine (Num.put_any n4 _ (by rfl) 8 _ (by rfl) (by omega) (by omega) _).mono ?_; rintro e wp ⟨Ap, cp, rfl, ownp, bp⟩; have own2 := own_on (own.alloc _) bp; have rdp := Rd.own ownp; have bpl := Num.putL_len n4.toNat 8; rw [bpl])
         | ((with_reducible show wpList _ _ _ (⟨some 39, _, _, _, _, _⟩ :: _) _ _); refine wpList_append_rd _ rfl (.tmp 33) (.tmp 38) _ rfl (w.heap.size + 1) 5 i0' _ 1 1 Tryz.underlying51 hi0 hz0 hz1 hz2 rfl (by omega) u4 q.length (q.map e8) rfl own2 _ Ap 8 cp ((putL n4.toNat 8).map e8) rfl (by simp [Num.putL_len]) rdp (e8_one _) (by simp only [maxLen]; omega) (by omega) (by have := bp.size; simp at this; omega) ?_; intro v1 w1 own1 hg1 hat1))
       go_roundw
       case rel => exact ⟨5, by omega, rfl, blk_grown ((bp.block _ (by simp; omega)).trans ((Below.heap_alloc wr _ _ hlt).trans hB)) (Nat.lt_of_lt_of_le (by simp; omega) bp.size) hg1 (fun z hz => by have := own_block own2 hz; omega), own_add own1 rfl (Num.putL_len _ _).symm hnx.out, (bt (bt bel (b1alloc _ _)) bp).grown hg1 (bt (bt bel (b1alloc _ _)) bp).size (fun z hz => by have := own_block own2 hz; omega)⟩
       case measure => simp [intOf]
     · have hnx := Lib.hid (show pre n0 n1 n2 n3 n4 n5 6 = pre n0 n1 n2 n3 n4 n5 5 ++ putL n5.toNat 2 from rfl)
       obtain ⟨q, hq⟩ : ∃ q, q = pre n0 n1 n2 n3 n4 n5 5 := ⟨_, rfl⟩
       rw [<- hq] at own hlk hnx
       clear hq
       go_wp2_with (first
         | (go_at_call 108; refine (Num.put_any n5 _ E5.out 2 _ (by rfl) (by omega) (by omega) _).mono ?_; rintro e wp ⟨Ap, cp, rfl, ownp, bp⟩; have own2 := own_on (own.alloc _) bp; have rdp := Rd.own ownp; have bpl := Num.putL_len n5.toNat 2; rw [bpl])
         | ((with_reducible show wpList _ _ _ (⟨some 39, _, _, _, _, _⟩ :: _) _ _); refine wpList_append_rd _ rfl (.tmp 33) (.tmp 38) _ rfl (w.heap.size + 1) 5 i0' _ 1 1 Tryz.underlying51 hi0 hz0 hz1 hz2 rfl (by omega) u4 q.length (q.map e8) rfl own2 _ Ap 2 cp ((putL n5.toNat 2).map e8) rfl (by simp [Num.putL_len]) rdp (e8_one _) (by simp only [maxLen]; omega) (by omega) (by have := bp.size; simp at this; omega) ?_; intro v1 w1 own1 hg1 hat1))
       go_roundw
       case rel => exact ⟨6, by omega, rfl, blk_grown ((bp.block _ (by simp; omega)).trans ((Below.heap_alloc wr _ _ hlt).trans hB)) (Nat.lt_of_lt_of_le (by simp; omega) bp.size) hg1 (fun z hz => by have := own_block own2 hz; omega), own_add own1 rfl (Num.putL_len _ _).symm hnx.out, (bt (bt bel (b1alloc _ _)) bp).grown hg1 (bt (bt bel (b1alloc _ _)) bp).size (fun z hz => by have := own_block own2 hz; omega)⟩
       case measure => simp [intOf]
   · obtain rfl : k = 6 := by omega
     obtain ⟨c0, c1, c2, c3, c4, fr⟩ := five hB
     have hnx := Lib.hid (show pre n0 n1 n2 n3 n4 n5 6 = ((((putL n0.toNat 1 ++ putL n1.toNat 2) ++ putL n2.toNat 8) ++ putL n3.toNat 4) ++ putL n4.toNat 8) ++ putL n5.toNat 2 from rfl)
     have hlk := hl 6
     obtain ⟨q, hq⟩ : ∃ q, q = pre n0 n1 n2 n3 n4 n5 6 := ⟨_, rfl⟩
     rw [<- hq] at own hlk
     have Hq := Lib.hid (hq.trans hnx.out)
     clear hq hnx
     have hp := fun A1 n d1 W hn h => Mac.npad_any A1 (q ++ body) n d1 504 504 (by rfl) W hn (by omega) (by omega) h
     obtain ⟨R, hR⟩ : ∃ R, R = padTo (q ++ body) 504 := ⟨_, rfl⟩
     rw [<- hR] at hp
     have Hp := Lib.hid hp
     have HR := Lib.hid hR
     clear hR hp
     go_wp2_with (first
       | ((with_reducible show wpList _ _ _ (⟨some 44, _, _, _, _, _⟩ :: _) _ _); refine wpList_append_rd _ rfl (.tmp 41) (.tmp 43) _ rfl (w.heap.size + 1) 5 i0' _ 1 1 Tryz.underlying51 hi0 hz0 hz1 hz2 rfl (by omega) u4 q.length (q.map e8) rfl own _ A body.length c (body.map e8) rfl (by simp) (hr.below bel) (e8_one _) (by simp only [maxLen]; omega) (by omega) hbs ?_; intro v1 w1 own1 hg1 hat1; have own2 := own_add own1 rfl rfl rfl; have b1 := bel.grown hg1 bel.size (fun z hz => by have := own_block own hz; omega); obtain ⟨A1, d1, rfl⟩ := own_form own2)
       | (go_at_call 123; refine (Hp.out _ _ _ _ (by simp) (Rd.own own2)).mono ?_; rintro e wp ⟨Ap, cp, rfl, ownp, bp⟩))
     go_ret
     exact retB_eq (RetB.after b1 ownp bp) (by rw [HR.out, Hq.out])
end Go.Proofs.YtchcmklelmlbgaaGreat.Sec
namespace Go.Proofs.YtchcmklelmlbgaaGreat.Sec
open Go.RowKit
open Go.Proofs.YtchcmklelmlbgaaGreat.Num (putL getN)
set_option linter.unusedVariables false
set_option maxRecDepth 100000
theorem take_any (g : Nat) (b : Nat) (off : Nat) (l : List UInt8) (n c : Nat) (s : Nat) (z : Int) (hz : z = (s : Int)) (w : World) (hb : Box w g (.slice (some ⟨b, off, none⟩) n c)) (hn : n = l.length) (hr : Rd w w.heap.size (some ⟨b, off, none⟩) (l.map e8)) (hs : 1 <= s) (h8 : s <= 8) (hsl : s < l.length) (hc : n <= c) (hcm : c <= maxLen) :
   Calls Tryz.prog 137 #[.pointer (some ⟨g, 0, none⟩), .int .i64 z] w fun e w' => e = .returned (.int .u64 (getN (l.take s) : Int)) /\ Box w' g (.slice (some ⟨b, off + s, none⟩) (n - s) (c - s)) /\ w.grownBy w' (some g) := by
 subst hn hz
 have hc0 := hb.cell
 have hf0 := hb.free
 unfold maxLen at hcm
 have hr1 : Rd w w.heap.size (some ⟨b, off, none⟩) ((l.take s).map e8) := by rw [List.map_take]; exact hr.take s
 have hl1 : (l.take s).length = s := by rw [List.length_take]; omega
 have hg := Lib.hid (fun d => Num.get_any (some ⟨b, off, none⟩) (l.take s) s d w.heap.size w hl1.symm hr1 (by omega) (by omega))
 have hne : ¬ c = s := by omega
 clear hr hr1
 go_enter Tryz.func137, Tryz.ntmps137
 go_wp2_with (go_at_call 118; refine (hg.out _).mono ?_; rintro e w1 ⟨rfl, rfl⟩)
 go_ret
 exact ⟨rfl, hb.set _, grown_set _ _ _⟩
end Go.Proofs.YtchcmklelmlbgaaGreat.Sec
namespace Go.Proofs.YtchcmklelmlbgaaGreat.Sec
open Go.RowKit
open Go.Proofs.YtchcmklelmlbgaaGreat.Num (putL getN)
set_option linter.unusedVariables false
set_option maxRecDepth 100000
theorem getN_lt' (l : List UInt8) : getN l < 256 ^ l.length := by
 have := Num.getN_lt l l.length (Nat.le_refl _)
 rwa [List.take_length] at this
theorem ofN (n : Nat) (h : n < 18446744073709551616) : (UInt64.ofNat n).toNat = n := by rw [UInt64.toNat_ofNat']; exact Nat.mod_eq_of_lt h
theorem nums {b : List UInt8} (h : 25 <= b.length) : (getN (cut b 0 1) : Int) <= 255 /\ (getN (cut b 11 4) : Int) <= 4294967295 /\ lenB b <= 65535 /\ (ofB b).life.toNat = getN (cut b 3 8) /\ (ofB b).gen.toNat = getN (cut b 15 8) /\ (getN (cut b 3 8) : Int) <= 18446744073709551615 /\ (getN (cut b 15 8) : Int) <= 18446744073709551615 := by
 have h0 := getN_lt' (cut b 0 1); rw [cut_len (by omega)] at h0
 have h1 := getN_lt' (cut b 11 4); rw [cut_len (by omega)] at h1
 have h2 := getN_lt' (cut b 23 2); rw [cut_len (by omega)] at h2
 have h3 := getN_lt' (cut b 3 8); rw [cut_len (by omega)] at h3
 have h4 := getN_lt' (cut b 15 8); rw [cut_len (by omega)] at h4
 simp only [Nat.reducePow] at h0 h1 h2 h3 h4
 refine ⟨by omega, by omega, by unfold lenB; omega, ofN _ h3, ofN _ h4, by omega, by omega⟩
theorem five5 {w : World} {g : Nat} {v0 v1 v2 v3 v4 : Value} (h : Blk w g [v0, v1, v2, v3, v4]) :
   w.cell? ⟨g, 0, none⟩ = some v0 /\ w.cell? ⟨g, 1, none⟩ = some v1 /\ w.cell? ⟨g, 2, none⟩ = some v2 /\ w.cell? ⟨g, 3, none⟩ = some v3 /\ w.cell? ⟨g, 4, none⟩ = some v4 /\ ∀ o, w.frozen? ⟨g, o, none⟩ = false := h.elim fun _ h => five h
def Rk (w W : World) (b : List UInt8) (blk off c i : Nat) (xs : List Value) : Prop := Blk W w.heap.size xs /\ Box W (w.heap.size + 1) (.slice (some ⟨blk, off + i, none⟩) (b.length - i) (c - i)) /\ Below w.heap.size w W
theorem Rk.set {w W : World} {b : List UInt8} {blk off c i : Nat} {xs : List Value} (h : Rk w W b blk off c i xs) (k : Nat) (u : Value) : Rk w (W.setCell ⟨w.heap.size, k, none⟩ u) b blk off c i (xs.set k u) :=
 ⟨h.1.set u, h.2.1.keep (Keep.of_grown (fp := [w.heap.size]) (grown_set W ⟨w.heap.size, k, none⟩ u) (fun g e => by cases e; simp)) (by simp), bset_new h.2.2 k u⟩
def RetX (x : X) (t : Value) (w : World) (e : Ending) (w' : World) : Prop := ∃ A c, e = .returned (.tuple #[xv x A c, t]) /\ w'.ownsRow w.heap.size 5 1 (.slice A x.body.length c) x.body.length (x.body.map e8)
def X0 : X := ⟨0, 0, 0, 0, []⟩
theorem RetX.zero (t : Value) (w w' : World) : RetX X0 t w (.returned (.tuple #[.agg #[.int .i64 0, .int .u64 0, .int .i64 0, .int .u64 0, .slice none 0 0], t])) w' := ⟨none, 0, rfl, own_nil _ _ _ _⟩
theorem Rk.take {w W : World} {b : List UInt8} {blk off c i : Nat} {xs : List Value} (h : Rk w W b blk off c i xs) (hr : Rd w w.heap.size (some ⟨blk, off, none⟩) (b.map e8)) (s : Nat) (hs : 1 <= s) (h8 : s <= 8) (hb : i + s < b.length) (hc : b.length <= c) (hcm : c <= maxLen) :
   Calls Tryz.prog 137 #[.pointer (some ⟨w.heap.size + 1, 0, none⟩), .int .i64 (s : Int)] W fun e W' => e = .returned (.int .u64 (getN (cut b i s) : Int)) /\ Rk w W' b blk off c (i + s) xs := by
 have hr2 : Rd W W.heap.size (some ⟨blk, off + i, none⟩) ((b.drop i).map e8) := by
   have := ((hr.below h.2.2).more h.2.2.size).drop i
   rw [<- List.map_drop] at this
   simpa [Addr.add_lit] using this
 refine (take_any (w.heap.size + 1) blk (off + i) (b.drop i) (b.length - i) (c - i) s _ rfl W h.2.1 (by simp) hr2 hs h8 (by simp; omega) (by omega) (by omega)).mono ?_
 rintro e W' ⟨rfl, h1, h2⟩
 refine ⟨rfl, ?_, ?_, ?_⟩
 · exact h.1.grown h2 (by simp)
 · rw [Nat.add_assoc, Nat.sub_sub, Nat.sub_sub] at h1; exact h1
 · exact h.2.2.grown h2 h.2.2.size (fun z hz => by injection hz with hz; omega)
set_option maxHeartbeats 800000 in
theorem read_any (blk off : Nat) (b : List UInt8) (n c : Nat) (w : World) (hn : n = b.length) (hr : Rd w w.heap.size (some ⟨blk, off, none⟩) (b.map e8)) (h5 : 512 <= b.length) (hc : n <= c) (hcm : c <= maxLen) :
   Calls Tryz.prog 128 #[.slice (some ⟨blk, off, none⟩) n c] w fun e w' => (if lenB b <= 479 then RetX (ofB b) (.bool true) w e w' else RetX X0 (.bool false) w e w') /\ Below w.heap.size w w' := by
 subst hn
 obtain ⟨g0, g11, gl, e3, e15, g3, g15⟩ := nums (b := b) (by omega)
 have T : ∀ W i xs, Rk w W b blk off c i xs -> ∀ s i', i + s = i' -> 1 <= s -> s <= 8 -> i + s < b.length -> Calls Tryz.prog 137 #[.pointer (some ⟨w.heap.size + 1, 0, none⟩), .int .i64 (s : Int)] W fun e W' => e = .returned (.int .u64 (getN (cut b i s) : Int)) /\ Rk w W' b blk off c i' xs := fun W i xs h s i' hi h1 h2 h3 => by subst hi; exact Rk.take h hr s h1 h2 h3 hc hcm
 obtain ⟨k0, hk0⟩ : ∃ k, k = getN (cut b 0 1) := ⟨_, rfl⟩
 obtain ⟨k11, hk11⟩ : ∃ k, k = getN (cut b 11 4) := ⟨_, rfl⟩
 obtain ⟨k3, hk3⟩ : ∃ k, k = getN (cut b 3 8) := ⟨_, rfl⟩
 obtain ⟨k15, hk15⟩ : ∃ k, k = getN (cut b 15 8) := ⟨_, rfl⟩
 obtain ⟨m, hm⟩ : ∃ k, k = lenB b := ⟨_, rfl⟩
 rw [<- hk0] at g0; rw [<- hk11] at g11; rw [<- hk3] at g3 e3; rw [<- hk15] at g15 e15; rw [<- hm] at gl ⊢
 have hbl : (ofB b).body.length = lenB b \/ 479 < lenB b := by
   by_cases h : lenB b <= 479
   · left; exact cut_len (by omega)
   · right; omega
 have hxv := fun A c' (h : m <= 479) => show xv (ofB b) A c' = .agg #[.int .i64 (k0 : Int), .int .u64 (k3 : Int), .int .i64 (k11 : Int), .int .u64 (k15 : Int), .slice A m c'] by
   have : (ofB b).body.length = m := by omega
   unfold xv
   rw [e3, e15, this, hk0, hk11]; rfl
 have Hx := Lib.hid hxv
 have H0 := Lib.hid hk0
 have H3 := Lib.hid hk3
 have H11 := Lib.hid hk11
 have H15 := Lib.hid hk15
 have Hm := Lib.hid hm
 have hown : m <= 479 -> ∀ (W : World) (A : Option Addr) (d : Nat), W.ownsRow w.heap.size 5 1 (.slice A m d) m ((cut b 25 m).map e8) -> W.ownsRow w.heap.size 5 1 (.slice A (ofB b).body.length d) (ofB b).body.length ((ofB b).body.map e8) := fun h W A d ho => by
   have e1 : (ofB b).body.length = m := by omega
   rw [e1, show (ofB b).body = cut b 25 m by rw [hm]; rfl]; exact ho
 have Hown := Lib.hid hown
 clear hown hxv hk0 hk3 hk11 hk15 hm e3 e15 hbl
 have I : Rk w ((w.alloc (.cells #[.int .i64 0, .int .u64 0, .int .i64 0, .int .u64 0, .slice none 0 0] 157)).alloc (.cells #[.slice (some ⟨blk, off, none⟩) b.length c] 206)) b blk off c 0 [.int .i64 0, .int .u64 0, .int .i64 0, .int .u64 0, .slice none 0 0] :=
   ⟨(Blk.new w [.int .i64 0, .int .u64 0, .int .i64 0, .int .u64 0, .slice none 0 0] 157).alloc _, by simpa using Box.new (w.alloc (.cells #[.int .i64 0, .int .u64 0, .int .i64 0, .int .u64 0, .slice none 0 0] 157)) 206 (.slice (some ⟨blk, off, none⟩) b.length c), b2alloc _ _ _⟩
 have hmf : ∀ (g : Nat) (w : World), Sem.run Tryz.prog (callFunc 137 #[.pointer (some ⟨g, 0, none⟩)]) w = .ok (.enter 137 #[.pointer (some ⟨g, 0, none⟩)]) w := by intro g w; simp [go_sem]
 go_enter Tryz.func128, Tryz.ntmps128
 go_wp2_with fail
 refine (T _ _ _ I 1 1 rfl (by omega) (by omega) (by omega)).mono ?_
 rintro e w1 ⟨rfl, I1⟩
 rw [<- H0.out]
 obtain ⟨c0, c1, c2, c3, c4, fr⟩ := five5 I1.1
 go_wp2_with fail
 refine (T _ _ _ (I1.set 0 _) 2 3 rfl (by omega) (by omega) (by omega)).mono ?_
 rintro e w2 ⟨rfl, I2⟩
 go_wp2_with fail
 refine (T _ _ _ I2 8 11 rfl (by omega) (by omega) (by omega)).mono ?_
 rintro e w3 ⟨rfl, I3⟩
 rw [<- H3.out]
 go_wp2_with fail
 refine (T _ _ _ I3 4 15 rfl (by omega) (by omega) (by omega)).mono ?_
 rintro e w4 ⟨rfl, I4⟩
 rw [<- H11.out]
 clear c0 c1 c2 c3 c4 fr
 go_wp2_with fail
 refine (T _ _ _ I4 8 23 rfl (by omega) (by omega) (by omega)).mono ?_
 rintro e w5 ⟨rfl, I5⟩
 rw [<- H15.out]
 obtain ⟨c0, c1, c2, c3, c4, fr⟩ := five5 I5.1
 go_wp2_with fail
 refine (T _ _ _ (((I5.set 1 _).set 2 _).set 3 _) 2 25 rfl (by omega) (by omega) (by omega)).mono ?_
 rintro e w6 ⟨rfl, I6⟩
 rw [show getN (cut b 23 2) = m from Hm.out.symm]
 clear c0 c1 c2 c3 c4 fr
 obtain ⟨c0, c1, c2, c3, c4, fr⟩ := five5 I6.1
 by_cases hm : m <= 479
 · have hb6 := I6.2.1.cell
   have hrr : Rd w6 w6.heap.size (some ⟨blk, off + 25, none⟩) ((cut b 25 m).map e8) := by
     have := (((hr.below I6.2.2).more I6.2.2.size).drop 25).take m
     rw [<- List.map_drop, <- List.map_take] at this
     simpa [Addr.add_lit, cut] using this
   have hlen : m = (cut b 25 m).length := (cut_len (by omega)).symm
   have hcl := fun d => Sl.clone_any (some ⟨blk, off + 25, none⟩) (cut b 25 m) m d w6 hlen hrr (by rw [<- hlen]; omega)
   have Hcl := Lib.hid hcl
   have hln := Lib.hid hlen
   clear hcl hlen
   unfold maxLen at hcm
   go_wp2_with fail
   refine (Hcl.out _).mono ?_
   rintro e w7 ⟨A7, d7, rfl, own7, b7⟩
   rw [<- hln.out]
   clear c0 c1 c2 c3 c4 fr hb6
   have B7 := I6.1.on b7
   have bw7 := bt I6.2.2 b7
   obtain ⟨c0, c1, c2, c3, c4, fr⟩ := five5 B7
   have rd7 := Rd.own own7
   have B8 := B7.set (k := 4) (.slice A7 m d7)
   obtain ⟨y0, y1, y2, y3, y4, yf⟩ := five5 B8
   have hs6 : w.heap.size < w6.heap.size := I6.1.lt
   go_wp2_with fail
   have B9 := ((((B8.set (k := 0) (.int .i64 (k0 : Int))).set (k := 1) (.int .u64 (k3 : Int))).set (k := 2) (.int .i64 (k11 : Int))).set (k := 3) (.int .u64 (k15 : Int))).set (k := 4) (.slice A7 m d7)
   obtain ⟨z0, z1, z2, z3, z4, zf⟩ := five5 B9
   have k9 : Keep [w.heap.size] w7 ((((((w7.setCell ⟨w.heap.size, 4, none⟩ (.slice A7 m d7)).setCell ⟨w.heap.size, 0, none⟩ (.int .i64 (k0 : Int))).setCell ⟨w.heap.size, 1, none⟩ (.int .u64 (k3 : Int))).setCell ⟨w.heap.size, 2, none⟩ (.int .i64 (k11 : Int))).setCell ⟨w.heap.size, 3, none⟩ (.int .u64 (k15 : Int))).setCell ⟨w.heap.size, 4, none⟩ (.slice A7 m d7)) :=
     (((((((Keep.refl _ _).set (p := ⟨w.heap.size, 4, none⟩) (.inl (by simp)) _).set (p := ⟨w.heap.size, 0, none⟩) (.inl (by simp)) _).set (p := ⟨w.heap.size, 1, none⟩) (.inl (by simp)) _).set (p := ⟨w.heap.size, 2, none⟩) (.inl (by simp)) _).set (p := ⟨w.heap.size, 3, none⟩) (.inl (by simp)) _).set (p := ⟨w.heap.size, 4, none⟩) (.inl (by simp)) _)
   rw [<- hln.out] at own7
   have own9' := own_keep own7 k9 (fun g hg e => by have := own_block own7 hg; simp at e; omega)
   refine bodyPost_ret (v := .tuple #[.agg #[.int .i64 (k0 : Int), .int .u64 (k3 : Int), .int .i64 (k11 : Int), .int .u64 (k15 : Int), .slice A7 m d7], .bool true]) (by simp [results, Tryz.results128, go_sem, z0, z1, z2, z3, z4]) rfl ?_
   refine ⟨⟨A7, d7, by rw [Hx.out _ _ hm], Hown.out hm _ _ _ (own_base own9' I6.2.2.size)⟩, bset_new (bset_new (bset_new (bset_new (bset_new (bset_new bw7 _ _) _ _) _ _) _ _) _ _) _ _⟩
 · have h479 : 479 < m := by omega
   go_wp2
   have B := ((((I6.1.set (k := 0) (.int .i64 0)).set (k := 1) (.int .u64 0)).set (k := 2) (.int .i64 0)).set (k := 3) (.int .u64 0)).set (k := 4) (.slice none 0 0)
   obtain ⟨z0, z1, z2, z3, z4, zf⟩ := five5 B
   refine bodyPost_ret (v := .tuple #[.agg #[.int .i64 0, .int .u64 0, .int .i64 0, .int .u64 0, .slice none 0 0], .bool false]) (by simp [results, Tryz.results128, go_sem, z0, z1, z2, z3, z4]) rfl ?_
   exact ⟨RetX.zero _ _ _, bset_new (bset_new (bset_new (bset_new (bset_new I6.2.2 _ _) _ _) _ _) _ _) _ _⟩
end Go.Proofs.YtchcmklelmlbgaaGreat.Sec
namespace Go.Proofs.YtchcmklelmlbgaaGreat.Sec
open Go.RowKit
open Go.Proofs.YtchcmklelmlbgaaGreat.Num (putL getN)
set_option linter.unusedVariables false
set_option maxRecDepth 100000
theorem bset5 {B g : Nat} {a W : World} {v0 v1 v2 v3 v4 : Value} (h : Below B a W) (hB : B <= g) : Below B a (((((W.setCell ⟨g, 0, none⟩ v0).setCell ⟨g, 1, none⟩ v1).setCell ⟨g, 2, none⟩ v2).setCell ⟨g, 3, none⟩ v3).setCell ⟨g, 4, none⟩ v4) := bset (bset (bset (bset (bset h hB _) hB _) hB _) hB _) hB _
theorem reads_no {p : Int} {b : List UInt8} (h : 479 < lenB b) : reads p b = none := if_neg (by omega)
theorem reads_bad {p : Int} {b : List UInt8} (h : rightF p (ofB b) ≠ 0) : reads p b = none := if_neg (fun e => h e.2.1)
theorem reads_un {p : Int} {b : List UInt8} (h : text p (ofB b) ≠ b) : reads p b = none := if_neg (fun e => h e.2.2)
theorem reads_yes {p : Int} {b : List UInt8} (h0 : lenB b <= 479) (h1 : rightF p (ofB b) = 0) (h : text p (ofB b) = b) : reads p b = some (ofB b) := if_pos ⟨h0, h1, h⟩
end Go.Proofs.YtchcmklelmlbgaaGreat.Sec
namespace Go.Proofs.YtchcmklelmlbgaaGreat.Sec
open Go.RowKit
open Go.Proofs.YtchcmklelmlbgaaGreat.Num (putL getN)
set_option linter.unusedVariables false
set_option maxRecDepth 100000
theorem three {w : World} {g : Nat} {v0 v1 v2 : Value} {t : TypeId} (h : w.heap[g]? = some (.cells #[v0, v1, v2] t (0, 0))) : w.cell? ⟨g, 0, none⟩ = some v0 /\ w.cell? ⟨g, 1, none⟩ = some v1 /\ w.cell? ⟨g, 2, none⟩ = some v2 := by
 refine ⟨?_, ?_, ?_⟩ <;> simp [World.cell?, h]
end Go.Proofs.YtchcmklelmlbgaaGreat.Sec
namespace Go.Proofs.YtchcmklelmlbgaaGreat.Sec
open Go.RowKit
open Go.Proofs.YtchcmklelmlbgaaGreat.Num (putL getN)
set_option linter.unusedVariables false
set_option maxRecDepth 100000
theorem five5x {w : World} {g : Nat} {v0 v1 v2 v3 v4 : Value} (h : Blk w g [v0, v1, v2, v3, v4]) :
   w.cell? ⟨g, 0, none⟩ = some v0 /\ w.cell? ⟨g, 1, none⟩ = some v1 /\ w.cell? ⟨g, 2, none⟩ = some v2 /\ w.cell? ⟨g, 3, none⟩ = some v3 /\ w.cell? ⟨g, 4, none⟩ = some v4 := by
 obtain ⟨c0, c1, c2, c3, c4, _⟩ := five5 h
 exact ⟨c0, c1, c2, c3, c4⟩
theorem keep5 (W : World) (g : Nat) (v0 v1 v2 v3 v4 : Value) : Keep [g] W (((((W.setCell ⟨g, 0, none⟩ v0).setCell ⟨g, 1, none⟩ v1).setCell ⟨g, 2, none⟩ v2).setCell ⟨g, 3, none⟩ v3).setCell ⟨g, 4, none⟩ v4) :=
 ((((((Keep.refl _ _).set (p := ⟨g, 0, none⟩) (.inl (by simp)) _).set (p := ⟨g, 1, none⟩) (.inl (by simp)) _).set (p := ⟨g, 2, none⟩) (.inl (by simp)) _).set (p := ⟨g, 3, none⟩) (.inl (by simp)) _).set (p := ⟨g, 4, none⟩) (.inl (by simp)) _)
def decode (ck : Bool) (p : Int) (b : List UInt8) : X × Int :=
 if b.length ≠ 512 then (X0, 4) else if blankB b = true then (X0, 7) else
   match reads p (b.take 504) with
   | some x => if ck = true then (x, 0) else (X0, 11)
   | none => (X0, 11)
theorem dec_form {ck : Bool} {p : Int} {b : List UInt8} (h : b.length ≠ 512) : decode ck p b = (X0, 4) := if_pos h
theorem dec_blank {ck : Bool} {p : Int} {b : List UInt8} (h : b.length = 512) (h2 : blankB b = true) : decode ck p b = (X0, 7) := by unfold decode; rw [if_neg (by omega), if_pos h2]
theorem dec_none {ck : Bool} {p : Int} {b : List UInt8} (h : b.length = 512) (h2 : ¬ blankB b = true) (h3 : reads p (b.take 504) = none) : decode ck p b = (X0, 11) := by unfold decode; rw [if_neg (by omega), if_neg h2, h3]
theorem dec_ck {p : Int} {b : List UInt8} (h : b.length = 512) (h2 : ¬ blankB b = true) : decode false p b = (X0, 11) := by
 unfold decode; rw [if_neg (by omega), if_neg h2]
 split <;> simp
theorem dec_yes {p : Int} {b : List UInt8} {x : X} (h : b.length = 512) (h2 : ¬ blankB b = true) (h3 : reads p (b.take 504) = some x) : decode true p b = (x, 0) := by unfold decode; rw [if_neg (by omega), if_neg h2, h3]; rfl
set_option maxHeartbeats 1000000 in
theorem decode_gen (p : Int) (g : Nat) (ck : Bool) (A : Option Addr) (b : List UInt8) (n c : Nat) (w : World) (hp0 : -9223372036854775808 <= p) (hp1 : p <= 9223372036854775807) (hn : n = b.length) (hr : Rd w w.heap.size A (b.map e8)) (hl : b.length <= 100000) (hc : n <= c) (hcm : c <= maxLen)
   (HC : b.length = 512 -> ∀ W, Below w.heap.size w W -> ∀ A1 A2 c1 c2, Rd W W.heap.size A1 ((b.take 504).map e8) -> Rd W W.heap.size A2 ((b.drop 504).map e8) -> Calls Tryz.prog 129 #[.pointer (some ⟨g, 0, none⟩), .slice A1 504 c1, .slice A2 8 c2] W fun e W' => e = .returned (.bool ck) /\ Below W.heap.size W W') :
   Calls Tryz.prog 112 #[.pointer (some ⟨g, 0, none⟩), .int .i64 p, .slice A n c] w fun e w' => RetX (decode ck p b).1 (.int .i64 (decode ck p b).2) w e w' /\ Below w.heap.size w w' := by
 subst hn
 by_cases h5 : b.length = 512
 rotate_left
 · have hd := Lib.hid (dec_form (ck := ck) (p := p) h5)
   have hne := bne_yes (show (b.length : Int) ≠ 512 by omega)
   clear HC
   rw [hd.out]
   go_enter Tryz.func112, Tryz.ntmps112
   go_wp2_with (go_at_call 120; refine (none_any _ _).mono ?_; rintro e w' ⟨rfl, rfl⟩)
   refine bodyPost_ret (v := .tuple #[.agg #[.int .i64 0, .int .u64 0, .int .i64 0, .int .u64 0, .slice none 0 0], .int .i64 4]) (by simp [results, Tryz.results112, go_sem]) rfl ?_
   exact ⟨RetX.zero _ _ _, b1alloc _ _⟩
 have hne := bne_no (show (b.length : Int) = 512 by omega)
 have H5 := Lib.hid h5
 obtain ⟨blk, off, rfl, hdrop⟩ := hr.get (k := 0) (by rw [List.length_map]; omega)
 clear hdrop
 by_cases hbl : blankB b = true
 · have hd := Lib.hid (dec_blank (ck := ck) (p := p) h5 hbl)
   have hB := Lib.hid (fun W (bW : Below w.heap.size w W) => isBlank_any (some ⟨blk, off, none⟩) b b.length c W rfl (hr.on bW))
   have Hbl := Lib.hid hbl
   rw [hd.out]
   clear HC h5 hbl
   go_enter Tryz.func112, Tryz.ntmps112
   go_wp2_with (first
     | (go_at_call 120; refine (none_any _ _).mono ?_; rintro e w1 ⟨rfl, rfl⟩)
     | (go_at_call 127; refine (hB.out _ (b1alloc _ _)).mono ?_; rintro e w1 ⟨rfl, b1⟩; rw [Hbl.out]; have B1 := (Blk.new w [.int .i64 0, .int .u64 0, .int .i64 0, .int .u64 0, .slice none 0 0] 157).on b1; obtain ⟨c0, c1, c2, c3, c4, fr⟩ := five5 B1))
   have B := ((((B1.set (k := 0) (.int .i64 0)).set (k := 1) (.int .u64 0)).set (k := 2) (.int .i64 0)).set (k := 3) (.int .u64 0)).set (k := 4) (.slice none 0 0)
   obtain ⟨z0, z1, z2, z3, z4, zf⟩ := five5 B
   refine bodyPost_ret (v := .tuple #[.agg #[.int .i64 0, .int .u64 0, .int .i64 0, .int .u64 0, .slice none 0 0], .int .i64 7]) (by simp [results, Tryz.results112, go_sem, z0, z1, z2, z3, z4]) rfl ?_
   exact ⟨RetX.zero _ _ _, bset5 (bt (b1alloc _ _) b1) (Nat.le_refl _)⟩
 · have hblf : blankB b = false := by simpa using hbl
   have Hbl := Lib.hid hblf
   have hB := Lib.hid (fun W (bW : Below w.heap.size w W) => isBlank_any (some ⟨blk, off, none⟩) b b.length c W rfl (hr.on bW))
   have hRd := Lib.hid (fun W (bW : Below w.heap.size w W) => read_any blk off b b.length c W rfl (hr.on bW) (by omega) hc hcm)
   have ht504 : (b.take 504).length = 504 := by rw [List.length_take]; omega
   have hd504 : (b.drop 504).length = 8 := by rw [List.length_drop]; omega
   have hrt : Rd w w.heap.size (some ⟨blk, off, none⟩) ((b.take 504).map e8) := by rw [List.map_take]; exact hr.take 504
   have hrd : Rd w w.heap.size (some ⟨blk, off + 504, none⟩) ((b.drop 504).map e8) := by
     have := hr.drop 504
     rw [<- List.map_drop] at this
     simpa [Addr.add_lit] using this
   have hck := fun W (bW : Below w.heap.size w W) c1 c2 => HC h5 W bW _ _ c1 c2 (hrt.on bW) (hrd.on bW)
   have Hck := Lib.hid hck
   have Hrt := Lib.hid hrt
   have Ht5 := Lib.hid ht504
   have Hbn := Lib.hid hbl
   have hlI : (512 : Int) <= (b.length : Int) := by omega
   have hl2 : 504 <= b.length := by omega
   have hlI2 : (504 : Int) <= (b.length : Int) := by omega
   have hcI2 : (504 : Int) <= (c : Int) := by omega
   have hc2 : 504 <= c := by omega
   have hcn : ¬ c = 504 := by omega
   have hcn' : ¬ (c : Int) = 504 := by omega
   have Hl8 := Lib.hid (show b.length - 504 = 8 by omega)
   unfold maxLen at hcm
   by_cases h479 : lenB b <= 479
   · obtain ⟨x, hx⟩ : ∃ x, x = ofB b := ⟨_, rfl⟩
     have hx5 : ofB (b.take 504) = x := by rw [hx]; exact ofB_take (Nat.le_refl _) h479
     have hl5 : lenB (b.take 504) <= 479 := by rw [lenB_take (Nat.le_refl _)]; exact h479
     have hno := Lib.hid (fun h2 => dec_none (ck := ck) (p := p) h5 hbl h2)
     have hyes := Lib.hid (fun h3 => dec_yes (p := p) (x := x) h5 hbl h3)
     have hckf := Lib.hid (dec_ck (p := p) h5 hbl)
     have Hx := Lib.hid hx
     have hbad := Lib.hid (fun h => reads_bad (p := p) (b := b.take 504) h)
     have hun := Lib.hid (fun h => reads_un (p := p) (b := b.take 504) h)
     have hrs := Lib.hid (fun h1 h => reads_yes (p := p) (b := b.take 504) hl5 h1 h)
     rw [hx5] at hbad hun hrs
     have H479 := Lib.hid h479
     clear HC h5 hbl hblf hck hrt hrd ht504 hd504 hx5 hl5 h479 hr hx
     go_enter Tryz.func112, Tryz.ntmps112
     go_wp2_with (first
       | (go_at_call 120; refine (none_any _ _).mono ?_; rintro e w1 ⟨rfl, rfl⟩)
       | (go_at_call 127; refine (hB.out _ (b1alloc _ _)).mono ?_; rintro e w1 ⟨rfl, b1⟩; rw [Hbl.out]; have B1 := (Blk.new w [.int .i64 0, .int .u64 0, .int .i64 0, .int .u64 0, .slice none 0 0] 157).on b1; have bw1 := bt (b1alloc w _) b1))
     refine (hRd.out _ bw1).mono ?_
     rintro e w2 ⟨hres, b2⟩
     rw [if_pos H479.out, <- Hx.out] at hres
     obtain ⟨A2, d2, rfl, own2⟩ := hres
     have bw2 := bt bw1 b2
     have B2 := B1.on b2
     unfold xv
     have hw2 : w.heap.size < w2.heap.size := B2.lt
     have B3 := Blk.new w2 [.int .i64 x.kind, .int .u64 (x.life.toNat : Int), .int .i64 x.seq, .int .u64 (x.gen.toNat : Int), .slice A2 x.body.length d2] 157
     have b3 := b1alloc w2 (.cells #[.int .i64 x.kind, .int .u64 (x.life.toNat : Int), .int .i64 x.seq, .int .u64 (x.gen.toNat : Int), .slice A2 x.body.length d2] 157)
     have bw3 := bt bw2 b3
     have own3 := own_on own2 b3
     have B2' := B2.on b3
     have bh1 := bw1.size
     have hlt1 : w.heap.size < w1.heap.size := B1.lt
     go_wp2_with fail
     obtain ⟨w3, hw3⟩ : ∃ w3, w3 = w2.alloc (.cells #[.int .i64 x.kind, .int .u64 (x.life.toNat : Int), .int .i64 x.seq, .int .u64 (x.gen.toNat : Int), .slice A2 x.body.length d2] 157) := ⟨_, rfl⟩
     try rw [<- hw3]
     have B3 : Blk w3 w2.heap.size [.int .i64 x.kind, .int .u64 (x.life.toNat : Int), .int .i64 x.seq, .int .u64 (x.gen.toNat : Int), .slice A2 x.body.length d2] := by rw [hw3]; exact B3
     rw [<- hw3] at bw3 own3 B2' b3
     clear hw3
     have bb3 : Below w3.heap.size w3 w3.drew := (Below.refl _ _).drew
     have hRx : Rd w3 w3.heap.size A2 (x.body.map e8) := Rd.own own3
     obtain ⟨T, hT⟩ : ∃ T, T = text p x := ⟨_, rfl⟩
     have HTl := Lib.hid (show T.length = 504 by rw [hT, text_len])
     obtain ⟨f, hf⟩ : ∃ f, f = rightF p x := ⟨_, rfl⟩
     have HT := Lib.hid hT
     have Hf := Lib.hid hf
     clear hT hf B2 B1
     by_cases h0 : f = 0
     · have hf1 := bne_no h0
       by_cases hTb : T = b.take 504
       · have hrs2 := Lib.hid (hrs.out (by rw [<- Hf.out]; exact h0) (by rw [<- HT.out]; exact hTb))
         have HS := Lib.hid (R1.sameB_of hTb)
         clear hTb
         cases ck with
         | true =>
           have hd := Lib.hid (hyes.out hrs2.out)
           go_region_held3 (fun w' => w'.cell? ⟨w2.heap.size, 0, none⟩ = some (.int .i64 x.kind) /\ w'.cell? ⟨w2.heap.size, 1, none⟩ = some (.int .u64 (x.life.toNat : Int)) /\ w'.cell? ⟨w2.heap.size, 2, none⟩ = some (.int .i64 x.seq) /\ w'.cell? ⟨w2.heap.size, 3, none⟩ = some (.int .u64 (x.gen.toNat : Int)) /\ w'.cell? ⟨w2.heap.size, 4, none⟩ = some (.slice A2 x.body.length d2)) (first | with_reducible exact five5x (B3.on bb3) | with_reducible exact five5x (B3.on bb4) | with_reducible exact five5x (B3.on bb5) | with_reducible exact five5x (B3.on bb7)) (first | ((go_at_call 121; refine (right_any p x A2 d2 _).mono ?_; rintro e w4 ⟨rfl, b4⟩; rw [<- Hf.out]; have bb4 := bt bb3 b4)) | ((go_at_call 122; refine (written_any p x A2 d2 _ (hRx.on bb4) (by rw [<- Hf.out]; exact h0)).mono ?_; rintro e w5 ⟨A5, d5, rfl, own5, b5⟩; rw [<- HT.out] at own5 ⊢; have bb5 := bt bb4 b5; have rd5 := Rd.own own5; have rdb := Hrt.out.on (bt bw3 bb5); rw [HTl.out])) | ((go_at_call 113; refine (nsame_any _ _ T (b.take 504) _ _ _ _ _ HTl.out.symm Ht5.out.symm rd5 rdb).mono ?_; rintro e w6 ⟨rfl, rfl⟩; rw [HS.out])) | ((go_at_call 129; rw [Hl8.out]; refine (Hck.out _ (bt bw3 bb5) _ _).mono ?_; rintro e w7 ⟨rfl, b7⟩; have bb7 := bt bb5 b7)))
           have bw7 := bt bw3 bb7
           have B7 := B2'.on bb7
           obtain ⟨c0, c1, c2, c3, c4, fr⟩ := five5 B7
           obtain ⟨e0, e1, e2, e3, e4, fe⟩ := five5 (B3.on bb7)
           go_wp2
           have B8 := ((((B7.set (k := 0) (.int .i64 x.kind)).set (k := 1) (.int .u64 (x.life.toNat : Int))).set (k := 2) (.int .i64 x.seq)).set (k := 3) (.int .u64 (x.gen.toNat : Int))).set (k := 4) (.slice A2 x.body.length d2)
           obtain ⟨z0, z1, z2, z3, z4, zf⟩ := five5 B8
           refine bodyPost_ret (v := .tuple #[.agg #[.int .i64 x.kind, .int .u64 (x.life.toNat : Int), .int .i64 x.seq, .int .u64 (x.gen.toNat : Int), .slice A2 x.body.length d2], .int .i64 0]) (by simp [results, Tryz.results112, go_sem, z0, z1, z2, z3, z4]) rfl ?_
           rw [hd.out]
           refine ⟨⟨A2, d2, rfl, ?_⟩, bset5 bw7 (Nat.le_refl _)⟩
           exact own_base (own_keep (own_on own3 bb7) (keep5 _ _ _ _ _ _ _) (fun k hk e => by have := own_block own3 hk; rw [List.mem_singleton] at e; omega)) bh1
         | false =>
           have hd := hckf
           go_region_held3 (fun w' => w'.cell? ⟨w2.heap.size, 0, none⟩ = some (.int .i64 x.kind) /\ w'.cell? ⟨w2.heap.size, 1, none⟩ = some (.int .u64 (x.life.toNat : Int)) /\ w'.cell? ⟨w2.heap.size, 2, none⟩ = some (.int .i64 x.seq) /\ w'.cell? ⟨w2.heap.size, 3, none⟩ = some (.int .u64 (x.gen.toNat : Int)) /\ w'.cell? ⟨w2.heap.size, 4, none⟩ = some (.slice A2 x.body.length d2)) (first | with_reducible exact five5x (B3.on bb3) | with_reducible exact five5x (B3.on bb4) | with_reducible exact five5x (B3.on bb5) | with_reducible exact five5x (B3.on bb7)) (first | ((go_at_call 121; refine (right_any p x A2 d2 _).mono ?_; rintro e w4 ⟨rfl, b4⟩; rw [<- Hf.out]; have bb4 := bt bb3 b4)) | ((go_at_call 122; refine (written_any p x A2 d2 _ (hRx.on bb4) (by rw [<- Hf.out]; exact h0)).mono ?_; rintro e w5 ⟨A5, d5, rfl, own5, b5⟩; rw [<- HT.out] at own5 ⊢; have bb5 := bt bb4 b5; have rd5 := Rd.own own5; have rdb := Hrt.out.on (bt bw3 bb5); rw [HTl.out])) | ((go_at_call 113; refine (nsame_any _ _ T (b.take 504) _ _ _ _ _ HTl.out.symm Ht5.out.symm rd5 rdb).mono ?_; rintro e w6 ⟨rfl, rfl⟩; rw [HS.out])) | ((go_at_call 129; rw [Hl8.out]; refine (Hck.out _ (bt bw3 bb5) _ _).mono ?_; rintro e w7 ⟨rfl, b7⟩; have bb7 := bt bb5 b7)))
           have bw7 := bt bw3 bb7
           have B7 := B2'.on bb7
           obtain ⟨c0, c1, c2, c3, c4, fr⟩ := five5 B7
           go_wp2
           have B8 := ((((B7.set (k := 0) (.int .i64 0)).set (k := 1) (.int .u64 0)).set (k := 2) (.int .i64 0)).set (k := 3) (.int .u64 0)).set (k := 4) (.slice none 0 0)
           obtain ⟨z0, z1, z2, z3, z4, zf⟩ := five5 B8
           refine bodyPost_ret (v := .tuple #[.agg #[.int .i64 0, .int .u64 0, .int .i64 0, .int .u64 0, .slice none 0 0], .int .i64 11]) (by simp [results, Tryz.results112, go_sem, z0, z1, z2, z3, z4]) rfl ?_
           rw [hd.out]
           exact ⟨RetX.zero _ _ _, bset5 bw7 (Nat.le_refl _)⟩
       · have hd := Lib.hid (hno.out (hun.out (by rw [<- HT.out]; exact hTb)))
         have HS := Lib.hid (show R1.sameB T (b.take 504) = false by unfold R1.sameB; rw [decide_eq_false_iff_not]; exact hTb)
         clear hTb
         refine wp_region_held_drew (S := (fun w' => w'.cell? ⟨w2.heap.size, 0, none⟩ = some (.int .i64 x.kind) /\ w'.cell? ⟨w2.heap.size, 1, none⟩ = some (.int .u64 (x.life.toNat : Int)) /\ w'.cell? ⟨w2.heap.size, 2, none⟩ = some (.int .i64 x.seq) /\ w'.cell? ⟨w2.heap.size, 3, none⟩ = some (.int .u64 (x.gen.toNat : Int)) /\ w'.cell? ⟨w2.heap.size, 4, none⟩ = some (.slice A2 x.body.length d2))) (by kernel_rfl) (by exact five5x (B3.on bb3)) (fun hHeld => ?_)
         refine wpAnyH_take (i := 0) (oi := { dst := some 28, op := Op.move (Operand.tmp 9), type := 4, pos := "sector.go:113", after := #[], guard := none }) (v := ?_) rfl (by kernel_rfl) (by kernel_rfl) (by kernel_rfl) (fun _ _ _ h => h) (Or.inl ⟨by rfl, ?_⟩) (by assumption) ?_; rotate_left; · ((intro w hSw; (try dsimp only at hSw); go_simp) <;> with_reducible rfl)
         try simp only [Act.put, List.setIfInBounds_toArray, List.set_cons_zero, List.set_cons_succ]
         refine wpAnyH_take (i := 1) (oi := { dst := some 29, op := Op.unOp UnOp.not 4 (Operand.tmp 28), type := 4, pos := "sector.go:113", after := #[{ on := 0, ground := Ground.data }], guard := none }) (v := ?_) rfl (by kernel_rfl) (by kernel_rfl) (by kernel_rfl) (fun _ _ _ h => h) (Or.inl ⟨by rfl, ?_⟩) (by assumption) ?_; rotate_left; · ((intro w hSw; (try dsimp only at hSw); go_simp) <;> with_reducible rfl)
         try simp only [Act.put, List.setIfInBounds_toArray, List.set_cons_zero, List.set_cons_succ]
         refine wpAnyH_take (i := 2) (oi := { dst := some 30, op := Op.move (Operand.tmp 29), type := 4, pos := "sector.go:113", after := #[{ on := 1, ground := Ground.data }], guard := none }) (v := ?_) rfl (by kernel_rfl) (by kernel_rfl) (by kernel_rfl) (fun _ _ _ h => h) (Or.inl ⟨by rfl, ?_⟩) (by assumption) ?_; rotate_left; · ((intro w hSw; (try dsimp only at hSw); go_simp) <;> with_reducible rfl)
         try simp only [Act.put, List.setIfInBounds_toArray, List.set_cons_zero, List.set_cons_succ]
         refine wpAnyH_take (i := 3) (oi := { dst := some 31, op := Op.move (Operand.tmp 1), type := 3, pos := "sector.go:113", after := #[{ on := 2, ground := Ground.guard }], guard := some (2, false) }) (v := ?_) rfl (by kernel_rfl) (by kernel_rfl) (by kernel_rfl) (fun _ _ _ h => h) (Or.inl ⟨by rfl, ?_⟩) (by assumption) ?_; rotate_left; · ((intro w hSw; (try dsimp only at hSw); go_simp) <;> with_reducible rfl)
         try simp only [Act.put, List.setIfInBounds_toArray, List.set_cons_zero, List.set_cons_succ]
         refine wpAnyH_take (i := 4) (oi := { dst := some 32, op := Op.load 157 (Operand.tmp 8), type := 157, pos := "sector.go:113", after := #[{ on := 2, ground := Ground.guard }], guard := some (2, false) }) (v := ?_) rfl (by kernel_rfl) (by kernel_rfl) (by kernel_rfl) (fun _ _ _ h => h) (Or.inl ⟨by rfl, ?_⟩) (by assumption) ?_; rotate_left; · ((intro w hSw; (try dsimp only at hSw); go_simp) <;> with_reducible rfl)
         try simp only [Act.put, List.setIfInBounds_toArray, List.set_cons_zero, List.set_cons_succ]
         refine wpAnyH_ready (rs := [5]) (by kernel_rfl) (by simp) ?_
         refine AllReadyH.cons (o := { dst := some 33, op := Op.call { callee := Callee.value (Operand.func 121), args := #[Operand.tmp 31, Operand.tmp 32], argTypes := #[3, 157] }, type := 29, pos := "sector.go:113", after := #[{ on := 3, ground := Ground.data }, { on := 4, ground := Ground.data }, { on := 2, ground := Ground.chain }, { on := 2, ground := Ground.guard }], guard := some (2, false) }) rfl (fun K hK => ?_) AllReadyH.nil
         go_simp; (first | ((go_at_call 121; refine (right_any p x A2 d2 _).mono ?_; rintro e w4 ⟨rfl, b4⟩; rw [<- Hf.out]; have bb4 := bt bb3 b4)) | ((go_at_call 122; refine (written_any p x A2 d2 _ (hRx.on bb4) (by rw [<- Hf.out]; exact h0)).mono ?_; rintro e w5 ⟨A5, d5, rfl, own5, b5⟩; rw [<- HT.out] at own5 ⊢; have bb5 := bt bb4 b5; have rd5 := Rd.own own5; have rdb := Hrt.out.on (bt bw3 bb5); rw [HTl.out])) | ((go_at_call 113; refine (nsame_any _ _ T (b.take 504) _ _ _ _ _ HTl.out.symm Ht5.out.symm rd5 rdb).mono ?_; rintro e w6 ⟨rfl, rfl⟩; rw [HS.out]))); (try (go_wp2_with fail)); refine hK.out _ _ (by first | ((first | exact five5x (B3.on bb3) | exact five5x (B3.on bb4) | exact five5x (B3.on bb5) | exact five5x (B3.on bb7))) | ((try dsimp only); ((first | exact five5x (B3.on bb3) | exact five5x (B3.on bb4) | exact five5x (B3.on bb5) | exact five5x (B3.on bb7))))) (fun hHeld => ?_)
         clear hK K
         try simp only [Act.put, List.setIfInBounds_toArray, List.set_cons_zero, List.set_cons_succ]
         refine wpAnyH_take (i := 6) (oi := { dst := some 34, op := Op.binOp BinOp.neq 29 (Operand.tmp 33) (Operand.const (Value.int IntKind.i64 0)) 29, type := 4, pos := "sector.go:113", after := #[{ on := 5, ground := Ground.data }, { on := 2, ground := Ground.guard }], guard := some (2, false) }) (v := ?_) rfl (by kernel_rfl) (by kernel_rfl) (by kernel_rfl) (fun _ _ _ h => h) (Or.inl ⟨by rfl, ?_⟩) (by assumption) ?_; rotate_left; · ((intro w hSw; (try dsimp only at hSw); go_simp) <;> with_reducible rfl)
         try simp only [Act.put, List.setIfInBounds_toArray, List.set_cons_zero, List.set_cons_succ]
         refine wpAnyH_take (i := 7) (oi := { dst := some 35, op := Op.pick (Operand.tmp 30) (Operand.const (Value.bool true)) (Operand.tmp 34), type := 4, pos := "sector.go:113", after := #[{ on := 2, ground := Ground.data }, { on := 6, ground := Ground.data }], guard := none }) (v := ?_) rfl (by kernel_rfl) (by kernel_rfl) (by kernel_rfl) (fun _ _ _ h => h) (Or.inl ⟨by rfl, ?_⟩) (by assumption) ?_; rotate_left; · ((intro w hSw; (try dsimp only at hSw); go_simp) <;> with_reducible rfl)
         try simp only [Act.put, List.setIfInBounds_toArray, List.set_cons_zero, List.set_cons_succ]
         refine wpAnyH_take (i := 8) (oi := { dst := some 36, op := Op.move (Operand.tmp 35), type := 4, pos := "sector.go:113", after := #[{ on := 7, ground := Ground.data }, { on := 5, ground := Ground.chain }], guard := none }) (v := ?_) rfl (by kernel_rfl) (by kernel_rfl) (by kernel_rfl) (fun _ _ _ h => h) (Or.inl ⟨by rfl, ?_⟩) (by assumption) ?_; rotate_left; · ((intro w hSw; (try dsimp only at hSw); go_simp) <;> with_reducible rfl)
         try simp only [Act.put, List.setIfInBounds_toArray, List.set_cons_zero, List.set_cons_succ]
         refine wpAnyH_take (i := 9) (oi := { dst := some 37, op := Op.move (Operand.tmp 1), type := 3, pos := "sector.go:113", after := #[{ on := 8, ground := Ground.guard }], guard := some (8, false) }) (v := ?_) rfl (by kernel_rfl) (by kernel_rfl) (by kernel_rfl) (fun _ _ _ h => h) (Or.inl ⟨by rfl, ?_⟩) (by assumption) ?_; rotate_left; · ((intro w hSw; (try dsimp only at hSw); go_simp) <;> with_reducible rfl)
         try simp only [Act.put, List.setIfInBounds_toArray, List.set_cons_zero, List.set_cons_succ]
         refine wpAnyH_take (i := 10) (oi := { dst := some 38, op := Op.load 157 (Operand.tmp 8), type := 157, pos := "sector.go:113", after := #[{ on := 8, ground := Ground.guard }], guard := some (8, false) }) (v := ?_) rfl (by kernel_rfl) (by kernel_rfl) (by kernel_rfl) (fun _ _ _ h => h) (Or.inl ⟨by rfl, ?_⟩) (by assumption) ?_; rotate_left; · ((intro w hSw; (try dsimp only at hSw); go_simp) <;> with_reducible rfl)
         try simp only [Act.put, List.setIfInBounds_toArray, List.set_cons_zero, List.set_cons_succ]
         refine wpAnyH_take (i := 12) (oi := { dst := some 40, op := Op.move (Operand.tmp 2), type := 51, pos := "sector.go:113", after := #[{ on := 8, ground := Ground.guard }], guard := some (8, false) }) (v := ?_) rfl (by kernel_rfl) (by kernel_rfl) (by kernel_rfl) (fun _ _ _ h => h) (Or.inl ⟨by rfl, ?_⟩) (by assumption) ?_; rotate_left; · ((intro w hSw; (try dsimp only at hSw); go_simp) <;> with_reducible rfl)
         try simp only [Act.put, List.setIfInBounds_toArray, List.set_cons_zero, List.set_cons_succ]
         refine wpAnyH_take (i := 13) (oi := { dst := some 41, op := Op.slice 51 (Operand.tmp 40) none (some (Operand.const (Value.int IntKind.i64 504))) none, type := 51, pos := "sector.go:113", after := #[{ on := 12, ground := Ground.data }, { on := 8, ground := Ground.guard }], guard := some (8, false) }) (v := ?_) rfl (by kernel_rfl) (by kernel_rfl) (by kernel_rfl) (fun _ _ _ h => h) (Or.inl ⟨by rfl, ?_⟩) (by assumption) ?_; rotate_left; · ((intro w hSw; (try dsimp only at hSw); go_simp) <;> with_reducible rfl)
         try simp only [Act.put, List.setIfInBounds_toArray, List.set_cons_zero, List.set_cons_succ]
         refine wpAnyH_ready (rs := [11]) (by kernel_rfl) (by simp) ?_
         refine AllReadyH.cons (o := { dst := some 39, op := Op.call { callee := Callee.value (Operand.func 122), args := #[Operand.tmp 37, Operand.tmp 38], argTypes := #[3, 157] }, type := 51, pos := "sector.go:113", after := #[{ on := 9, ground := Ground.data }, { on := 10, ground := Ground.data }, { on := 8, ground := Ground.chain }, { on := 8, ground := Ground.guard }], guard := some (8, false) }) rfl (fun K hK => ?_) AllReadyH.nil
         go_simp; (first | ((go_at_call 121; refine (right_any p x A2 d2 _).mono ?_; rintro e w4 ⟨rfl, b4⟩; rw [<- Hf.out]; have bb4 := bt bb3 b4)) | ((go_at_call 122; refine (written_any p x A2 d2 _ (hRx.on bb4) (by rw [<- Hf.out]; exact h0)).mono ?_; rintro e w5 ⟨A5, d5, rfl, own5, b5⟩; rw [<- HT.out] at own5 ⊢; have bb5 := bt bb4 b5; have rd5 := Rd.own own5; have rdb := Hrt.out.on (bt bw3 bb5); rw [HTl.out])) | ((go_at_call 113; refine (nsame_any _ _ T (b.take 504) _ _ _ _ _ HTl.out.symm Ht5.out.symm rd5 rdb).mono ?_; rintro e w6 ⟨rfl, rfl⟩; rw [HS.out]))); (try (go_wp2_with fail)); refine hK.out _ _ (by first | ((first | exact five5x (B3.on bb3) | exact five5x (B3.on bb4) | exact five5x (B3.on bb5) | exact five5x (B3.on bb7))) | ((try dsimp only); ((first | exact five5x (B3.on bb3) | exact five5x (B3.on bb4) | exact five5x (B3.on bb5) | exact five5x (B3.on bb7))))) (fun hHeld => ?_)
         clear hK K
         try simp only [Act.put, List.setIfInBounds_toArray, List.set_cons_zero, List.set_cons_succ]
         refine wpAnyH_ready (rs := [14]) (by kernel_rfl) (by simp) ?_
         refine AllReadyH.cons (o := { dst := some 42, op := Op.call { callee := Callee.value (Operand.func 113), args := #[Operand.tmp 39, Operand.tmp 41], argTypes := #[51, 51] }, type := 4, pos := "sector.go:113", after := #[{ on := 11, ground := Ground.data }, { on := 13, ground := Ground.data }, { on := 11, ground := Ground.chain }, { on := 8, ground := Ground.guard }], guard := some (8, false) }) rfl (fun K hK => ?_) AllReadyH.nil
         go_simp; (first | ((go_at_call 121; refine (right_any p x A2 d2 _).mono ?_; rintro e w4 ⟨rfl, b4⟩; rw [<- Hf.out]; have bb4 := bt bb3 b4)) | ((go_at_call 122; refine (written_any p x A2 d2 _ (hRx.on bb4) (by rw [<- Hf.out]; exact h0)).mono ?_; rintro e w5 ⟨A5, d5, rfl, own5, b5⟩; rw [<- HT.out] at own5 ⊢; have bb5 := bt bb4 b5; have rd5 := Rd.own own5; have rdb := Hrt.out.on (bt bw3 bb5); rw [HTl.out])) | ((go_at_call 113; refine (nsame_any _ _ T (b.take 504) _ _ _ _ _ HTl.out.symm Ht5.out.symm rd5 rdb).mono ?_; rintro e w6 ⟨rfl, rfl⟩; rw [HS.out]))); (try (go_wp2_with fail)); refine hK.out _ _ (by first | ((first | exact five5x (B3.on bb3) | exact five5x (B3.on bb4) | exact five5x (B3.on bb5) | exact five5x (B3.on bb7))) | ((try dsimp only); ((first | exact five5x (B3.on bb3) | exact five5x (B3.on bb4) | exact five5x (B3.on bb5) | exact five5x (B3.on bb7))))) (fun hHeld => ?_)
         clear hK K
         try simp only [Act.put, List.setIfInBounds_toArray, List.set_cons_zero, List.set_cons_succ]
         refine wpAnyH_take (i := 15) (oi := { dst := some 43, op := Op.unOp UnOp.not 4 (Operand.tmp 42), type := 4, pos := "sector.go:113", after := #[{ on := 14, ground := Ground.data }, { on := 8, ground := Ground.guard }], guard := some (8, false) }) (v := ?_) rfl (by kernel_rfl) (by kernel_rfl) (by kernel_rfl) (fun _ _ _ h => h) (Or.inl ⟨by rfl, ?_⟩) (by assumption) ?_; rotate_left; · ((intro w hSw; (try dsimp only at hSw); go_simp) <;> with_reducible rfl)
         try simp only [Act.put, List.setIfInBounds_toArray, List.set_cons_zero, List.set_cons_succ]
         refine wpAnyH_take (i := 16) (oi := { dst := some 44, op := Op.pick (Operand.tmp 36) (Operand.const (Value.bool true)) (Operand.tmp 43), type := 4, pos := "sector.go:113", after := #[{ on := 8, ground := Ground.data }, { on := 15, ground := Ground.data }], guard := none }) (v := ?_) rfl (by kernel_rfl) (by kernel_rfl) (by kernel_rfl) (fun _ _ _ h => h) (Or.inl ⟨by rfl, ?_⟩) (by assumption) ?_; rotate_left; · ((intro w hSw; (try dsimp only at hSw); go_simp) <;> with_reducible rfl)
         try simp only [Act.put, List.setIfInBounds_toArray, List.set_cons_zero, List.set_cons_succ]
         refine wpAnyH_take (i := 17) (oi := { dst := some 45, op := Op.move (Operand.tmp 44), type := 4, pos := "sector.go:113", after := #[{ on := 16, ground := Ground.data }, { on := 14, ground := Ground.chain }], guard := none }) (v := ?_) rfl (by kernel_rfl) (by kernel_rfl) (by kernel_rfl) (fun _ _ _ h => h) (Or.inl ⟨by rfl, ?_⟩) (by assumption) ?_; rotate_left; · ((intro w hSw; (try dsimp only at hSw); go_simp) <;> with_reducible rfl)
         try simp only [Act.put, List.setIfInBounds_toArray, List.set_cons_zero, List.set_cons_succ]
         refine wpAnyH_take (i := 18) (oi := { dst := some 46, op := Op.move (Operand.tmp 0), type := 33, pos := "sector.go:113", after := #[{ on := 17, ground := Ground.guard }], guard := some (17, false) }) (v := undef) rfl (by kernel_rfl) (by kernel_rfl) (by kernel_rfl) (fun _ _ _ h => h) (Or.inr ⟨by rfl, rfl⟩) (by assumption) ?_
         try simp only [Act.put, List.setIfInBounds_toArray, List.set_cons_zero, List.set_cons_succ]
         refine wpAnyH_take (i := 19) (oi := { dst := some 47, op := Op.move (Operand.tmp 2), type := 51, pos := "sector.go:113", after := #[{ on := 17, ground := Ground.guard }], guard := some (17, false) }) (v := undef) rfl (by kernel_rfl) (by kernel_rfl) (by kernel_rfl) (fun _ _ _ h => h) (Or.inr ⟨by rfl, rfl⟩) (by assumption) ?_
         try simp only [Act.put, List.setIfInBounds_toArray, List.set_cons_zero, List.set_cons_succ]
         refine wpAnyH_take (i := 20) (oi := { dst := some 48, op := Op.slice 51 (Operand.tmp 47) none (some (Operand.const (Value.int IntKind.i64 504))) none, type := 51, pos := "sector.go:113", after := #[{ on := 19, ground := Ground.data }, { on := 17, ground := Ground.guard }], guard := some (17, false) }) (v := undef) rfl (by kernel_rfl) (by kernel_rfl) (by kernel_rfl) (fun _ _ _ h => h) (Or.inr ⟨by rfl, rfl⟩) (by assumption) ?_
         try simp only [Act.put, List.setIfInBounds_toArray, List.set_cons_zero, List.set_cons_succ]
         refine wpAnyH_take (i := 21) (oi := { dst := some 49, op := Op.move (Operand.tmp 2), type := 51, pos := "sector.go:113", after := #[{ on := 17, ground := Ground.guard }], guard := some (17, false) }) (v := undef) rfl (by kernel_rfl) (by kernel_rfl) (by kernel_rfl) (fun _ _ _ h => h) (Or.inr ⟨by rfl, rfl⟩) (by assumption) ?_
         try simp only [Act.put, List.setIfInBounds_toArray, List.set_cons_zero, List.set_cons_succ]
         refine wpAnyH_take (i := 22) (oi := { dst := some 50, op := Op.slice 51 (Operand.tmp 49) (some (Operand.const (Value.int IntKind.i64 504))) none none, type := 51, pos := "sector.go:113", after := #[{ on := 21, ground := Ground.data }, { on := 17, ground := Ground.guard }], guard := some (17, false) }) (v := undef) rfl (by kernel_rfl) (by kernel_rfl) (by kernel_rfl) (fun _ _ _ h => h) (Or.inr ⟨by rfl, rfl⟩) (by assumption) ?_
         try simp only [Act.put, List.setIfInBounds_toArray, List.set_cons_zero, List.set_cons_succ]
         refine wpAnyH_ready (rs := [23]) (by kernel_rfl) (by simp) ?_
         refine AllReadyH.cons (o := { dst := some 51, op := Op.call { callee := Callee.value (Operand.func 129), args := #[Operand.tmp 46, Operand.tmp 48, Operand.tmp 50], argTypes := #[33, 51, 51] }, type := 4, pos := "sector.go:113", after := #[{ on := 18, ground := Ground.data }, { on := 20, ground := Ground.data }, { on := 22, ground := Ground.data }, { on := 17, ground := Ground.chain }, { on := 17, ground := Ground.guard }], guard := some (17, false) }) rfl (fun K hK => ?_) AllReadyH.nil
         rw [if_neg]; rotate_left; · exact fun h => Bool.noConfusion (show false = true from h)
         refine hK.out _ _ hHeld (fun hHeld => ?_)
         clear hK K
         try simp only [Act.put, List.setIfInBounds_toArray, List.set_cons_zero, List.set_cons_succ]
         refine wpAnyH_take (i := 24) (oi := { dst := some 52, op := Op.unOp UnOp.not 4 (Operand.tmp 51), type := 4, pos := "sector.go:113", after := #[{ on := 23, ground := Ground.data }, { on := 17, ground := Ground.guard }], guard := some (17, false) }) (v := undef) rfl (by kernel_rfl) (by kernel_rfl) (by kernel_rfl) (fun _ _ _ h => h) (Or.inr ⟨by rfl, rfl⟩) (by assumption) ?_
         try simp only [Act.put, List.setIfInBounds_toArray, List.set_cons_zero, List.set_cons_succ]
         refine wpAnyH_take (i := 25) (oi := { dst := some 53, op := Op.pick (Operand.tmp 45) (Operand.const (Value.bool true)) (Operand.tmp 52), type := 4, pos := "sector.go:113", after := #[{ on := 17, ground := Ground.data }, { on := 24, ground := Ground.data }], guard := none }) (v := ?_) rfl (by kernel_rfl) (by kernel_rfl) (by kernel_rfl) (fun _ _ _ h => h) (Or.inl ⟨by rfl, ?_⟩) (by assumption) ?_; rotate_left; · ((intro w hSw; (try dsimp only at hSw); go_simp) <;> with_reducible rfl)
         try simp only [Act.put, List.setIfInBounds_toArray, List.set_cons_zero, List.set_cons_succ]
         refine wpAnyH_done (by kernel_rfl) ?_ _
         have bw7 := bt bw3 bb5
         have B7 := B2'.on bb5
         obtain ⟨c0, c1, c2, c3, c4, fr⟩ := five5 B7
         go_wp2
         have B8 := ((((B7.set (k := 0) (.int .i64 0)).set (k := 1) (.int .u64 0)).set (k := 2) (.int .i64 0)).set (k := 3) (.int .u64 0)).set (k := 4) (.slice none 0 0)
         obtain ⟨z0, z1, z2, z3, z4, zf⟩ := five5 B8
         refine bodyPost_ret (v := .tuple #[.agg #[.int .i64 0, .int .u64 0, .int .i64 0, .int .u64 0, .slice none 0 0], .int .i64 11]) (by simp [results, Tryz.results112, go_sem, z0, z1, z2, z3, z4]) rfl ?_
         rw [hd.out]
         exact ⟨RetX.zero _ _ _, bset5 bw7 (Nat.le_refl _)⟩
     · have hd := Lib.hid (hno.out (hbad.out (by rw [<- Hf.out]; exact h0)))
       have hf1 := bne_yes h0
       refine wp_region_held_drew (S := (fun w' => w'.cell? ⟨w2.heap.size, 0, none⟩ = some (.int .i64 x.kind) /\ w'.cell? ⟨w2.heap.size, 1, none⟩ = some (.int .u64 (x.life.toNat : Int)) /\ w'.cell? ⟨w2.heap.size, 2, none⟩ = some (.int .i64 x.seq) /\ w'.cell? ⟨w2.heap.size, 3, none⟩ = some (.int .u64 (x.gen.toNat : Int)) /\ w'.cell? ⟨w2.heap.size, 4, none⟩ = some (.slice A2 x.body.length d2))) (by kernel_rfl) (by exact five5x (B3.on bb3)) (fun hHeld => ?_)
       refine wpAnyH_take (i := 0) (oi := { dst := some 28, op := Op.move (Operand.tmp 9), type := 4, pos := "sector.go:113", after := #[], guard := none }) (v := ?_) rfl (by kernel_rfl) (by kernel_rfl) (by kernel_rfl) (fun _ _ _ h => h) (Or.inl ⟨by rfl, ?_⟩) (by assumption) ?_; rotate_left; · ((intro w hSw; (try dsimp only at hSw); go_simp) <;> with_reducible rfl)
       try simp only [Act.put, List.setIfInBounds_toArray, List.set_cons_zero, List.set_cons_succ]
       refine wpAnyH_take (i := 1) (oi := { dst := some 29, op := Op.unOp UnOp.not 4 (Operand.tmp 28), type := 4, pos := "sector.go:113", after := #[{ on := 0, ground := Ground.data }], guard := none }) (v := ?_) rfl (by kernel_rfl) (by kernel_rfl) (by kernel_rfl) (fun _ _ _ h => h) (Or.inl ⟨by rfl, ?_⟩) (by assumption) ?_; rotate_left; · ((intro w hSw; (try dsimp only at hSw); go_simp) <;> with_reducible rfl)
       try simp only [Act.put, List.setIfInBounds_toArray, List.set_cons_zero, List.set_cons_succ]
       refine wpAnyH_take (i := 2) (oi := { dst := some 30, op := Op.move (Operand.tmp 29), type := 4, pos := "sector.go:113", after := #[{ on := 1, ground := Ground.data }], guard := none }) (v := ?_) rfl (by kernel_rfl) (by kernel_rfl) (by kernel_rfl) (fun _ _ _ h => h) (Or.inl ⟨by rfl, ?_⟩) (by assumption) ?_; rotate_left; · ((intro w hSw; (try dsimp only at hSw); go_simp) <;> with_reducible rfl)
       try simp only [Act.put, List.setIfInBounds_toArray, List.set_cons_zero, List.set_cons_succ]
       refine wpAnyH_take (i := 3) (oi := { dst := some 31, op := Op.move (Operand.tmp 1), type := 3, pos := "sector.go:113", after := #[{ on := 2, ground := Ground.guard }], guard := some (2, false) }) (v := ?_) rfl (by kernel_rfl) (by kernel_rfl) (by kernel_rfl) (fun _ _ _ h => h) (Or.inl ⟨by rfl, ?_⟩) (by assumption) ?_; rotate_left; · ((intro w hSw; (try dsimp only at hSw); go_simp) <;> with_reducible rfl)
       try simp only [Act.put, List.setIfInBounds_toArray, List.set_cons_zero, List.set_cons_succ]
       refine wpAnyH_take (i := 4) (oi := { dst := some 32, op := Op.load 157 (Operand.tmp 8), type := 157, pos := "sector.go:113", after := #[{ on := 2, ground := Ground.guard }], guard := some (2, false) }) (v := ?_) rfl (by kernel_rfl) (by kernel_rfl) (by kernel_rfl) (fun _ _ _ h => h) (Or.inl ⟨by rfl, ?_⟩) (by assumption) ?_; rotate_left; · ((intro w hSw; (try dsimp only at hSw); go_simp) <;> with_reducible rfl)
       try simp only [Act.put, List.setIfInBounds_toArray, List.set_cons_zero, List.set_cons_succ]
       refine wpAnyH_ready (rs := [5]) (by kernel_rfl) (by simp) ?_
       refine AllReadyH.cons (o := { dst := some 33, op := Op.call { callee := Callee.value (Operand.func 121), args := #[Operand.tmp 31, Operand.tmp 32], argTypes := #[3, 157] }, type := 29, pos := "sector.go:113", after := #[{ on := 3, ground := Ground.data }, { on := 4, ground := Ground.data }, { on := 2, ground := Ground.chain }, { on := 2, ground := Ground.guard }], guard := some (2, false) }) rfl (fun K hK => ?_) AllReadyH.nil
       go_simp; (first | ((go_at_call 121; refine (right_any p x A2 d2 _).mono ?_; rintro e w4 ⟨rfl, b4⟩; rw [<- Hf.out]; have bb4 := bt bb3 b4))); (try (go_wp2_with fail)); refine hK.out _ _ (by first | ((first | exact five5x (B3.on bb3) | exact five5x (B3.on bb4) | exact five5x (B3.on bb5) | exact five5x (B3.on bb7))) | ((try dsimp only); ((first | exact five5x (B3.on bb3) | exact five5x (B3.on bb4) | exact five5x (B3.on bb5) | exact five5x (B3.on bb7))))) (fun hHeld => ?_)
       clear hK K
       try simp only [Act.put, List.setIfInBounds_toArray, List.set_cons_zero, List.set_cons_succ]
       refine wpAnyH_take (i := 6) (oi := { dst := some 34, op := Op.binOp BinOp.neq 29 (Operand.tmp 33) (Operand.const (Value.int IntKind.i64 0)) 29, type := 4, pos := "sector.go:113", after := #[{ on := 5, ground := Ground.data }, { on := 2, ground := Ground.guard }], guard := some (2, false) }) (v := ?_) rfl (by kernel_rfl) (by kernel_rfl) (by kernel_rfl) (fun _ _ _ h => h) (Or.inl ⟨by rfl, ?_⟩) (by assumption) ?_; rotate_left; · ((intro w hSw; (try dsimp only at hSw); go_simp) <;> with_reducible rfl)
       try simp only [Act.put, List.setIfInBounds_toArray, List.set_cons_zero, List.set_cons_succ]
       refine wpAnyH_take (i := 7) (oi := { dst := some 35, op := Op.pick (Operand.tmp 30) (Operand.const (Value.bool true)) (Operand.tmp 34), type := 4, pos := "sector.go:113", after := #[{ on := 2, ground := Ground.data }, { on := 6, ground := Ground.data }], guard := none }) (v := ?_) rfl (by kernel_rfl) (by kernel_rfl) (by kernel_rfl) (fun _ _ _ h => h) (Or.inl ⟨by rfl, ?_⟩) (by assumption) ?_; rotate_left; · ((intro w hSw; (try dsimp only at hSw); go_simp) <;> with_reducible rfl)
       try simp only [Act.put, List.setIfInBounds_toArray, List.set_cons_zero, List.set_cons_succ]
       refine wpAnyH_take (i := 8) (oi := { dst := some 36, op := Op.move (Operand.tmp 35), type := 4, pos := "sector.go:113", after := #[{ on := 7, ground := Ground.data }, { on := 5, ground := Ground.chain }], guard := none }) (v := ?_) rfl (by kernel_rfl) (by kernel_rfl) (by kernel_rfl) (fun _ _ _ h => h) (Or.inl ⟨by rfl, ?_⟩) (by assumption) ?_; rotate_left; · ((intro w hSw; (try dsimp only at hSw); go_simp) <;> with_reducible rfl)
       try simp only [Act.put, List.setIfInBounds_toArray, List.set_cons_zero, List.set_cons_succ]
       refine wpAnyH_take (i := 9) (oi := { dst := some 37, op := Op.move (Operand.tmp 1), type := 3, pos := "sector.go:113", after := #[{ on := 8, ground := Ground.guard }], guard := some (8, false) }) (v := undef) rfl (by kernel_rfl) (by kernel_rfl) (by kernel_rfl) (fun _ _ _ h => h) (Or.inr ⟨by rfl, rfl⟩) (by assumption) ?_
       try simp only [Act.put, List.setIfInBounds_toArray, List.set_cons_zero, List.set_cons_succ]
       refine wpAnyH_take (i := 10) (oi := { dst := some 38, op := Op.load 157 (Operand.tmp 8), type := 157, pos := "sector.go:113", after := #[{ on := 8, ground := Ground.guard }], guard := some (8, false) }) (v := undef) rfl (by kernel_rfl) (by kernel_rfl) (by kernel_rfl) (fun _ _ _ h => h) (Or.inr ⟨by rfl, rfl⟩) (by assumption) ?_
       try simp only [Act.put, List.setIfInBounds_toArray, List.set_cons_zero, List.set_cons_succ]
       refine wpAnyH_take (i := 12) (oi := { dst := some 40, op := Op.move (Operand.tmp 2), type := 51, pos := "sector.go:113", after := #[{ on := 8, ground := Ground.guard }], guard := some (8, false) }) (v := undef) rfl (by kernel_rfl) (by kernel_rfl) (by kernel_rfl) (fun _ _ _ h => h) (Or.inr ⟨by rfl, rfl⟩) (by assumption) ?_
       try simp only [Act.put, List.setIfInBounds_toArray, List.set_cons_zero, List.set_cons_succ]
       refine wpAnyH_take (i := 13) (oi := { dst := some 41, op := Op.slice 51 (Operand.tmp 40) none (some (Operand.const (Value.int IntKind.i64 504))) none, type := 51, pos := "sector.go:113", after := #[{ on := 12, ground := Ground.data }, { on := 8, ground := Ground.guard }], guard := some (8, false) }) (v := undef) rfl (by kernel_rfl) (by kernel_rfl) (by kernel_rfl) (fun _ _ _ h => h) (Or.inr ⟨by rfl, rfl⟩) (by assumption) ?_
       try simp only [Act.put, List.setIfInBounds_toArray, List.set_cons_zero, List.set_cons_succ]
       refine wpAnyH_ready (rs := [11]) (by kernel_rfl) (by simp) ?_
       refine AllReadyH.cons (o := { dst := some 39, op := Op.call { callee := Callee.value (Operand.func 122), args := #[Operand.tmp 37, Operand.tmp 38], argTypes := #[3, 157] }, type := 51, pos := "sector.go:113", after := #[{ on := 9, ground := Ground.data }, { on := 10, ground := Ground.data }, { on := 8, ground := Ground.chain }, { on := 8, ground := Ground.guard }], guard := some (8, false) }) rfl (fun K hK => ?_) AllReadyH.nil
       rw [if_neg]; rotate_left; · exact fun h => Bool.noConfusion (show false = true from h)
       refine hK.out _ _ hHeld (fun hHeld => ?_)
       clear hK K
       try simp only [Act.put, List.setIfInBounds_toArray, List.set_cons_zero, List.set_cons_succ]
       refine wpAnyH_ready (rs := [14]) (by kernel_rfl) (by simp) ?_
       refine AllReadyH.cons (o := { dst := some 42, op := Op.call { callee := Callee.value (Operand.func 113), args := #[Operand.tmp 39, Operand.tmp 41], argTypes := #[51, 51] }, type := 4, pos := "sector.go:113", after := #[{ on := 11, ground := Ground.data }, { on := 13, ground := Ground.data }, { on := 11, ground := Ground.chain }, { on := 8, ground := Ground.guard }], guard := some (8, false) }) rfl (fun K hK => ?_) AllReadyH.nil
       rw [if_neg]; rotate_left; · exact fun h => Bool.noConfusion (show false = true from h)
       refine hK.out _ _ hHeld (fun hHeld => ?_)
       clear hK K
       try simp only [Act.put, List.setIfInBounds_toArray, List.set_cons_zero, List.set_cons_succ]
       refine wpAnyH_take (i := 15) (oi := { dst := some 43, op := Op.unOp UnOp.not 4 (Operand.tmp 42), type := 4, pos := "sector.go:113", after := #[{ on := 14, ground := Ground.data }, { on := 8, ground := Ground.guard }], guard := some (8, false) }) (v := undef) rfl (by kernel_rfl) (by kernel_rfl) (by kernel_rfl) (fun _ _ _ h => h) (Or.inr ⟨by rfl, rfl⟩) (by assumption) ?_
       try simp only [Act.put, List.setIfInBounds_toArray, List.set_cons_zero, List.set_cons_succ]
       refine wpAnyH_take (i := 16) (oi := { dst := some 44, op := Op.pick (Operand.tmp 36) (Operand.const (Value.bool true)) (Operand.tmp 43), type := 4, pos := "sector.go:113", after := #[{ on := 8, ground := Ground.data }, { on := 15, ground := Ground.data }], guard := none }) (v := ?_) rfl (by kernel_rfl) (by kernel_rfl) (by kernel_rfl) (fun _ _ _ h => h) (Or.inl ⟨by rfl, ?_⟩) (by assumption) ?_; rotate_left; · ((intro w hSw; (try dsimp only at hSw); go_simp) <;> with_reducible rfl)
       try simp only [Act.put, List.setIfInBounds_toArray, List.set_cons_zero, List.set_cons_succ]
       refine wpAnyH_take (i := 17) (oi := { dst := some 45, op := Op.move (Operand.tmp 44), type := 4, pos := "sector.go:113", after := #[{ on := 16, ground := Ground.data }, { on := 14, ground := Ground.chain }], guard := none }) (v := ?_) rfl (by kernel_rfl) (by kernel_rfl) (by kernel_rfl) (fun _ _ _ h => h) (Or.inl ⟨by rfl, ?_⟩) (by assumption) ?_; rotate_left; · ((intro w hSw; (try dsimp only at hSw); go_simp) <;> with_reducible rfl)
       try simp only [Act.put, List.setIfInBounds_toArray, List.set_cons_zero, List.set_cons_succ]
       refine wpAnyH_take (i := 18) (oi := { dst := some 46, op := Op.move (Operand.tmp 0), type := 33, pos := "sector.go:113", after := #[{ on := 17, ground := Ground.guard }], guard := some (17, false) }) (v := undef) rfl (by kernel_rfl) (by kernel_rfl) (by kernel_rfl) (fun _ _ _ h => h) (Or.inr ⟨by rfl, rfl⟩) (by assumption) ?_
       try simp only [Act.put, List.setIfInBounds_toArray, List.set_cons_zero, List.set_cons_succ]
       refine wpAnyH_take (i := 19) (oi := { dst := some 47, op := Op.move (Operand.tmp 2), type := 51, pos := "sector.go:113", after := #[{ on := 17, ground := Ground.guard }], guard := some (17, false) }) (v := undef) rfl (by kernel_rfl) (by kernel_rfl) (by kernel_rfl) (fun _ _ _ h => h) (Or.inr ⟨by rfl, rfl⟩) (by assumption) ?_
       try simp only [Act.put, List.setIfInBounds_toArray, List.set_cons_zero, List.set_cons_succ]
       refine wpAnyH_take (i := 20) (oi := { dst := some 48, op := Op.slice 51 (Operand.tmp 47) none (some (Operand.const (Value.int IntKind.i64 504))) none, type := 51, pos := "sector.go:113", after := #[{ on := 19, ground := Ground.data }, { on := 17, ground := Ground.guard }], guard := some (17, false) }) (v := undef) rfl (by kernel_rfl) (by kernel_rfl) (by kernel_rfl) (fun _ _ _ h => h) (Or.inr ⟨by rfl, rfl⟩) (by assumption) ?_
       try simp only [Act.put, List.setIfInBounds_toArray, List.set_cons_zero, List.set_cons_succ]
       refine wpAnyH_take (i := 21) (oi := { dst := some 49, op := Op.move (Operand.tmp 2), type := 51, pos := "sector.go:113", after := #[{ on := 17, ground := Ground.guard }], guard := some (17, false) }) (v := undef) rfl (by kernel_rfl) (by kernel_rfl) (by kernel_rfl) (fun _ _ _ h => h) (Or.inr ⟨by rfl, rfl⟩) (by assumption) ?_
       try simp only [Act.put, List.setIfInBounds_toArray, List.set_cons_zero, List.set_cons_succ]
       refine wpAnyH_take (i := 22) (oi := { dst := some 50, op := Op.slice 51 (Operand.tmp 49) (some (Operand.const (Value.int IntKind.i64 504))) none none, type := 51, pos := "sector.go:113", after := #[{ on := 21, ground := Ground.data }, { on := 17, ground := Ground.guard }], guard := some (17, false) }) (v := undef) rfl (by kernel_rfl) (by kernel_rfl) (by kernel_rfl) (fun _ _ _ h => h) (Or.inr ⟨by rfl, rfl⟩) (by assumption) ?_
       try simp only [Act.put, List.setIfInBounds_toArray, List.set_cons_zero, List.set_cons_succ]
       refine wpAnyH_ready (rs := [23]) (by kernel_rfl) (by simp) ?_
       refine AllReadyH.cons (o := { dst := some 51, op := Op.call { callee := Callee.value (Operand.func 129), args := #[Operand.tmp 46, Operand.tmp 48, Operand.tmp 50], argTypes := #[33, 51, 51] }, type := 4, pos := "sector.go:113", after := #[{ on := 18, ground := Ground.data }, { on := 20, ground := Ground.data }, { on := 22, ground := Ground.data }, { on := 17, ground := Ground.chain }, { on := 17, ground := Ground.guard }], guard := some (17, false) }) rfl (fun K hK => ?_) AllReadyH.nil
       rw [if_neg]; rotate_left; · exact fun h => Bool.noConfusion (show false = true from h)
       refine hK.out _ _ hHeld (fun hHeld => ?_)
       clear hK K
       try simp only [Act.put, List.setIfInBounds_toArray, List.set_cons_zero, List.set_cons_succ]
       refine wpAnyH_take (i := 24) (oi := { dst := some 52, op := Op.unOp UnOp.not 4 (Operand.tmp 51), type := 4, pos := "sector.go:113", after := #[{ on := 23, ground := Ground.data }, { on := 17, ground := Ground.guard }], guard := some (17, false) }) (v := undef) rfl (by kernel_rfl) (by kernel_rfl) (by kernel_rfl) (fun _ _ _ h => h) (Or.inr ⟨by rfl, rfl⟩) (by assumption) ?_
       try simp only [Act.put, List.setIfInBounds_toArray, List.set_cons_zero, List.set_cons_succ]
       refine wpAnyH_take (i := 25) (oi := { dst := some 53, op := Op.pick (Operand.tmp 45) (Operand.const (Value.bool true)) (Operand.tmp 52), type := 4, pos := "sector.go:113", after := #[{ on := 17, ground := Ground.data }, { on := 24, ground := Ground.data }], guard := none }) (v := ?_) rfl (by kernel_rfl) (by kernel_rfl) (by kernel_rfl) (fun _ _ _ h => h) (Or.inl ⟨by rfl, ?_⟩) (by assumption) ?_; rotate_left; · ((intro w hSw; (try dsimp only at hSw); go_simp) <;> with_reducible rfl)
       try simp only [Act.put, List.setIfInBounds_toArray, List.set_cons_zero, List.set_cons_succ]
       refine wpAnyH_done (by kernel_rfl) ?_ _
       have bw7 := bt bw3 bb4
       have B7 := B2'.on bb4
       obtain ⟨c0, c1, c2, c3, c4, fr⟩ := five5 B7
       go_wp2
       have B8 := ((((B7.set (k := 0) (.int .i64 0)).set (k := 1) (.int .u64 0)).set (k := 2) (.int .i64 0)).set (k := 3) (.int .u64 0)).set (k := 4) (.slice none 0 0)
       obtain ⟨z0, z1, z2, z3, z4, zf⟩ := five5 B8
       refine bodyPost_ret (v := .tuple #[.agg #[.int .i64 0, .int .u64 0, .int .i64 0, .int .u64 0, .slice none 0 0], .int .i64 11]) (by simp [results, Tryz.results112, go_sem, z0, z1, z2, z3, z4]) rfl ?_
       rw [hd.out]
       exact ⟨RetX.zero _ _ _, bset5 bw7 (Nat.le_refl _)⟩
   · have hd := Lib.hid (dec_none (ck := ck) (p := p) h5 hbl (reads_no (by rw [lenB_take (Nat.le_refl _)]; omega)))
     have H479 := Lib.hid h479
     obtain ⟨x, hx⟩ : ∃ x, x = X0 := ⟨_, rfl⟩
     have hx0 := Lib.hid hx
     clear HC h5 hbl hblf hck hrt hrd ht504 hd504 h479 hr hx
     go_enter Tryz.func112, Tryz.ntmps112
     go_wp2_with (first
       | (go_at_call 120; refine (none_any _ _).mono ?_; rintro e w1 ⟨rfl, rfl⟩)
       | (go_at_call 127; refine (hB.out _ (b1alloc _ _)).mono ?_; rintro e w1 ⟨rfl, b1⟩; rw [Hbl.out]; have B1 := (Blk.new w [.int .i64 0, .int .u64 0, .int .i64 0, .int .u64 0, .slice none 0 0] 157).on b1; have bw1 := bt (b1alloc w _) b1))
     refine (hRd.out _ bw1).mono ?_
     rintro e w2 ⟨hres, b2⟩
     rw [if_neg H479.out, <- hx0.out] at hres
     obtain ⟨A2, d2, rfl, own2⟩ := hres
     have bw2 := bt bw1 b2
     have B2 := B1.on b2
     unfold xv
     have hw2 : w.heap.size < w2.heap.size := B2.lt
     have B3 := Blk.new w2 [.int .i64 x.kind, .int .u64 (x.life.toNat : Int), .int .i64 x.seq, .int .u64 (x.gen.toNat : Int), .slice A2 x.body.length d2] 157
     have b3 := b1alloc w2 (.cells #[.int .i64 x.kind, .int .u64 (x.life.toNat : Int), .int .i64 x.seq, .int .u64 (x.gen.toNat : Int), .slice A2 x.body.length d2] 157)
     have bw3 := bt bw2 b3
     have own3 := own_on own2 b3
     have B2' := B2.on b3
     have bh1 := bw1.size
     have hlt1 : w.heap.size < w1.heap.size := B1.lt
     go_wp2_with fail
     obtain ⟨w3, hw3⟩ : ∃ w3, w3 = w2.alloc (.cells #[.int .i64 x.kind, .int .u64 (x.life.toNat : Int), .int .i64 x.seq, .int .u64 (x.gen.toNat : Int), .slice A2 x.body.length d2] 157) := ⟨_, rfl⟩
     try rw [<- hw3]
     have B3 : Blk w3 w2.heap.size [.int .i64 x.kind, .int .u64 (x.life.toNat : Int), .int .i64 x.seq, .int .u64 (x.gen.toNat : Int), .slice A2 x.body.length d2] := by rw [hw3]; exact B3
     rw [<- hw3] at bw3 own3 B2' b3
     clear hw3
     have bb3 : Below w3.heap.size w3 w3.drew := (Below.refl _ _).drew
     clear B2 B1
     refine wp_region_held_drew (S := (fun w' => w'.cell? ⟨w2.heap.size, 0, none⟩ = some (.int .i64 x.kind) /\ w'.cell? ⟨w2.heap.size, 1, none⟩ = some (.int .u64 (x.life.toNat : Int)) /\ w'.cell? ⟨w2.heap.size, 2, none⟩ = some (.int .i64 x.seq) /\ w'.cell? ⟨w2.heap.size, 3, none⟩ = some (.int .u64 (x.gen.toNat : Int)) /\ w'.cell? ⟨w2.heap.size, 4, none⟩ = some (.slice A2 x.body.length d2))) (by kernel_rfl) (by exact five5x (B3.on bb3)) (fun hHeld => ?_)
     refine wpAnyH_take (i := 0) (oi := { dst := some 28, op := Op.move (Operand.tmp 9), type := 4, pos := "sector.go:113", after := #[], guard := none }) (v := ?_) rfl (by kernel_rfl) (by kernel_rfl) (by kernel_rfl) (fun _ _ _ h => h) (Or.inl ⟨by rfl, ?_⟩) (by assumption) ?_; rotate_left; · ((intro w hSw; (try dsimp only at hSw); go_simp) <;> with_reducible rfl)
     try simp only [Act.put, List.setIfInBounds_toArray, List.set_cons_zero, List.set_cons_succ]
     refine wpAnyH_take (i := 1) (oi := { dst := some 29, op := Op.unOp UnOp.not 4 (Operand.tmp 28), type := 4, pos := "sector.go:113", after := #[{ on := 0, ground := Ground.data }], guard := none }) (v := ?_) rfl (by kernel_rfl) (by kernel_rfl) (by kernel_rfl) (fun _ _ _ h => h) (Or.inl ⟨by rfl, ?_⟩) (by assumption) ?_; rotate_left; · ((intro w hSw; (try dsimp only at hSw); go_simp) <;> with_reducible rfl)
     try simp only [Act.put, List.setIfInBounds_toArray, List.set_cons_zero, List.set_cons_succ]
     refine wpAnyH_take (i := 2) (oi := { dst := some 30, op := Op.move (Operand.tmp 29), type := 4, pos := "sector.go:113", after := #[{ on := 1, ground := Ground.data }], guard := none }) (v := ?_) rfl (by kernel_rfl) (by kernel_rfl) (by kernel_rfl) (fun _ _ _ h => h) (Or.inl ⟨by rfl, ?_⟩) (by assumption) ?_; rotate_left; · ((intro w hSw; (try dsimp only at hSw); go_simp) <;> with_reducible rfl)
     try simp only [Act.put, List.setIfInBounds_toArray, List.set_cons_zero, List.set_cons_succ]
     refine wpAnyH_take (i := 3) (oi := { dst := some 31, op := Op.move (Operand.tmp 1), type := 3, pos := "sector.go:113", after := #[{ on := 2, ground := Ground.guard }], guard := some (2, false) }) (v := undef) rfl (by kernel_rfl) (by kernel_rfl) (by kernel_rfl) (fun _ _ _ h => h) (Or.inr ⟨by rfl, rfl⟩) (by assumption) ?_
     try simp only [Act.put, List.setIfInBounds_toArray, List.set_cons_zero, List.set_cons_succ]
     refine wpAnyH_take (i := 4) (oi := { dst := some 32, op := Op.load 157 (Operand.tmp 8), type := 157, pos := "sector.go:113", after := #[{ on := 2, ground := Ground.guard }], guard := some (2, false) }) (v := undef) rfl (by kernel_rfl) (by kernel_rfl) (by kernel_rfl) (fun _ _ _ h => h) (Or.inr ⟨by rfl, rfl⟩) (by assumption) ?_
     try simp only [Act.put, List.setIfInBounds_toArray, List.set_cons_zero, List.set_cons_succ]
     refine wpAnyH_ready (rs := [5]) (by kernel_rfl) (by simp) ?_
     refine AllReadyH.cons (o := { dst := some 33, op := Op.call { callee := Callee.value (Operand.func 121), args := #[Operand.tmp 31, Operand.tmp 32], argTypes := #[3, 157] }, type := 29, pos := "sector.go:113", after := #[{ on := 3, ground := Ground.data }, { on := 4, ground := Ground.data }, { on := 2, ground := Ground.chain }, { on := 2, ground := Ground.guard }], guard := some (2, false) }) rfl (fun K hK => ?_) AllReadyH.nil
     rw [if_neg]; rotate_left; · exact fun h => Bool.noConfusion (show false = true from h)
     refine hK.out _ _ hHeld (fun hHeld => ?_)
     clear hK K
     try simp only [Act.put, List.setIfInBounds_toArray, List.set_cons_zero, List.set_cons_succ]
     refine wpAnyH_take (i := 6) (oi := { dst := some 34, op := Op.binOp BinOp.neq 29 (Operand.tmp 33) (Operand.const (Value.int IntKind.i64 0)) 29, type := 4, pos := "sector.go:113", after := #[{ on := 5, ground := Ground.data }, { on := 2, ground := Ground.guard }], guard := some (2, false) }) (v := undef) rfl (by kernel_rfl) (by kernel_rfl) (by kernel_rfl) (fun _ _ _ h => h) (Or.inr ⟨by rfl, rfl⟩) (by assumption) ?_
     try simp only [Act.put, List.setIfInBounds_toArray, List.set_cons_zero, List.set_cons_succ]
     refine wpAnyH_take (i := 7) (oi := { dst := some 35, op := Op.pick (Operand.tmp 30) (Operand.const (Value.bool true)) (Operand.tmp 34), type := 4, pos := "sector.go:113", after := #[{ on := 2, ground := Ground.data }, { on := 6, ground := Ground.data }], guard := none }) (v := ?_) rfl (by kernel_rfl) (by kernel_rfl) (by kernel_rfl) (fun _ _ _ h => h) (Or.inl ⟨by rfl, ?_⟩) (by assumption) ?_; rotate_left; · ((intro w hSw; (try dsimp only at hSw); go_simp) <;> with_reducible rfl)
     try simp only [Act.put, List.setIfInBounds_toArray, List.set_cons_zero, List.set_cons_succ]
     refine wpAnyH_take (i := 8) (oi := { dst := some 36, op := Op.move (Operand.tmp 35), type := 4, pos := "sector.go:113", after := #[{ on := 7, ground := Ground.data }, { on := 5, ground := Ground.chain }], guard := none }) (v := ?_) rfl (by kernel_rfl) (by kernel_rfl) (by kernel_rfl) (fun _ _ _ h => h) (Or.inl ⟨by rfl, ?_⟩) (by assumption) ?_; rotate_left; · ((intro w hSw; (try dsimp only at hSw); go_simp) <;> with_reducible rfl)
     try simp only [Act.put, List.setIfInBounds_toArray, List.set_cons_zero, List.set_cons_succ]
     refine wpAnyH_take (i := 9) (oi := { dst := some 37, op := Op.move (Operand.tmp 1), type := 3, pos := "sector.go:113", after := #[{ on := 8, ground := Ground.guard }], guard := some (8, false) }) (v := undef) rfl (by kernel_rfl) (by kernel_rfl) (by kernel_rfl) (fun _ _ _ h => h) (Or.inr ⟨by rfl, rfl⟩) (by assumption) ?_
     try simp only [Act.put, List.setIfInBounds_toArray, List.set_cons_zero, List.set_cons_succ]
     refine wpAnyH_take (i := 10) (oi := { dst := some 38, op := Op.load 157 (Operand.tmp 8), type := 157, pos := "sector.go:113", after := #[{ on := 8, ground := Ground.guard }], guard := some (8, false) }) (v := undef) rfl (by kernel_rfl) (by kernel_rfl) (by kernel_rfl) (fun _ _ _ h => h) (Or.inr ⟨by rfl, rfl⟩) (by assumption) ?_
     try simp only [Act.put, List.setIfInBounds_toArray, List.set_cons_zero, List.set_cons_succ]
     refine wpAnyH_take (i := 12) (oi := { dst := some 40, op := Op.move (Operand.tmp 2), type := 51, pos := "sector.go:113", after := #[{ on := 8, ground := Ground.guard }], guard := some (8, false) }) (v := undef) rfl (by kernel_rfl) (by kernel_rfl) (by kernel_rfl) (fun _ _ _ h => h) (Or.inr ⟨by rfl, rfl⟩) (by assumption) ?_
     try simp only [Act.put, List.setIfInBounds_toArray, List.set_cons_zero, List.set_cons_succ]
     refine wpAnyH_take (i := 13) (oi := { dst := some 41, op := Op.slice 51 (Operand.tmp 40) none (some (Operand.const (Value.int IntKind.i64 504))) none, type := 51, pos := "sector.go:113", after := #[{ on := 12, ground := Ground.data }, { on := 8, ground := Ground.guard }], guard := some (8, false) }) (v := undef) rfl (by kernel_rfl) (by kernel_rfl) (by kernel_rfl) (fun _ _ _ h => h) (Or.inr ⟨by rfl, rfl⟩) (by assumption) ?_
     try simp only [Act.put, List.setIfInBounds_toArray, List.set_cons_zero, List.set_cons_succ]
     refine wpAnyH_ready (rs := [11]) (by kernel_rfl) (by simp) ?_
     refine AllReadyH.cons (o := { dst := some 39, op := Op.call { callee := Callee.value (Operand.func 122), args := #[Operand.tmp 37, Operand.tmp 38], argTypes := #[3, 157] }, type := 51, pos := "sector.go:113", after := #[{ on := 9, ground := Ground.data }, { on := 10, ground := Ground.data }, { on := 8, ground := Ground.chain }, { on := 8, ground := Ground.guard }], guard := some (8, false) }) rfl (fun K hK => ?_) AllReadyH.nil
     rw [if_neg]; rotate_left; · exact fun h => Bool.noConfusion (show false = true from h)
     refine hK.out _ _ hHeld (fun hHeld => ?_)
     clear hK K
     try simp only [Act.put, List.setIfInBounds_toArray, List.set_cons_zero, List.set_cons_succ]
     refine wpAnyH_ready (rs := [14]) (by kernel_rfl) (by simp) ?_
     refine AllReadyH.cons (o := { dst := some 42, op := Op.call { callee := Callee.value (Operand.func 113), args := #[Operand.tmp 39, Operand.tmp 41], argTypes := #[51, 51] }, type := 4, pos := "sector.go:113", after := #[{ on := 11, ground := Ground.data }, { on := 13, ground := Ground.data }, { on := 11, ground := Ground.chain }, { on := 8, ground := Ground.guard }], guard := some (8, false) }) rfl (fun K hK => ?_) AllReadyH.nil
     rw [if_neg]; rotate_left; · exact fun h => Bool.noConfusion (show false = true from h)
     refine hK.out _ _ hHeld (fun hHeld => ?_)
     clear hK K
     try simp only [Act.put, List.setIfInBounds_toArray, List.set_cons_zero, List.set_cons_succ]
     refine wpAnyH_take (i := 15) (oi := { dst := some 43, op := Op.unOp UnOp.not 4 (Operand.tmp 42), type := 4, pos := "sector.go:113", after := #[{ on := 14, ground := Ground.data }, { on := 8, ground := Ground.guard }], guard := some (8, false) }) (v := undef) rfl (by kernel_rfl) (by kernel_rfl) (by kernel_rfl) (fun _ _ _ h => h) (Or.inr ⟨by rfl, rfl⟩) (by assumption) ?_
     try simp only [Act.put, List.setIfInBounds_toArray, List.set_cons_zero, List.set_cons_succ]
     refine wpAnyH_take (i := 16) (oi := { dst := some 44, op := Op.pick (Operand.tmp 36) (Operand.const (Value.bool true)) (Operand.tmp 43), type := 4, pos := "sector.go:113", after := #[{ on := 8, ground := Ground.data }, { on := 15, ground := Ground.data }], guard := none }) (v := ?_) rfl (by kernel_rfl) (by kernel_rfl) (by kernel_rfl) (fun _ _ _ h => h) (Or.inl ⟨by rfl, ?_⟩) (by assumption) ?_; rotate_left; · ((intro w hSw; (try dsimp only at hSw); go_simp) <;> with_reducible rfl)
     try simp only [Act.put, List.setIfInBounds_toArray, List.set_cons_zero, List.set_cons_succ]
     refine wpAnyH_take (i := 17) (oi := { dst := some 45, op := Op.move (Operand.tmp 44), type := 4, pos := "sector.go:113", after := #[{ on := 16, ground := Ground.data }, { on := 14, ground := Ground.chain }], guard := none }) (v := ?_) rfl (by kernel_rfl) (by kernel_rfl) (by kernel_rfl) (fun _ _ _ h => h) (Or.inl ⟨by rfl, ?_⟩) (by assumption) ?_; rotate_left; · ((intro w hSw; (try dsimp only at hSw); go_simp) <;> with_reducible rfl)
     try simp only [Act.put, List.setIfInBounds_toArray, List.set_cons_zero, List.set_cons_succ]
     refine wpAnyH_take (i := 18) (oi := { dst := some 46, op := Op.move (Operand.tmp 0), type := 33, pos := "sector.go:113", after := #[{ on := 17, ground := Ground.guard }], guard := some (17, false) }) (v := undef) rfl (by kernel_rfl) (by kernel_rfl) (by kernel_rfl) (fun _ _ _ h => h) (Or.inr ⟨by rfl, rfl⟩) (by assumption) ?_
     try simp only [Act.put, List.setIfInBounds_toArray, List.set_cons_zero, List.set_cons_succ]
     refine wpAnyH_take (i := 19) (oi := { dst := some 47, op := Op.move (Operand.tmp 2), type := 51, pos := "sector.go:113", after := #[{ on := 17, ground := Ground.guard }], guard := some (17, false) }) (v := undef) rfl (by kernel_rfl) (by kernel_rfl) (by kernel_rfl) (fun _ _ _ h => h) (Or.inr ⟨by rfl, rfl⟩) (by assumption) ?_
     try simp only [Act.put, List.setIfInBounds_toArray, List.set_cons_zero, List.set_cons_succ]
     refine wpAnyH_take (i := 20) (oi := { dst := some 48, op := Op.slice 51 (Operand.tmp 47) none (some (Operand.const (Value.int IntKind.i64 504))) none, type := 51, pos := "sector.go:113", after := #[{ on := 19, ground := Ground.data }, { on := 17, ground := Ground.guard }], guard := some (17, false) }) (v := undef) rfl (by kernel_rfl) (by kernel_rfl) (by kernel_rfl) (fun _ _ _ h => h) (Or.inr ⟨by rfl, rfl⟩) (by assumption) ?_
     try simp only [Act.put, List.setIfInBounds_toArray, List.set_cons_zero, List.set_cons_succ]
     refine wpAnyH_take (i := 21) (oi := { dst := some 49, op := Op.move (Operand.tmp 2), type := 51, pos := "sector.go:113", after := #[{ on := 17, ground := Ground.guard }], guard := some (17, false) }) (v := undef) rfl (by kernel_rfl) (by kernel_rfl) (by kernel_rfl) (fun _ _ _ h => h) (Or.inr ⟨by rfl, rfl⟩) (by assumption) ?_
     try simp only [Act.put, List.setIfInBounds_toArray, List.set_cons_zero, List.set_cons_succ]
     refine wpAnyH_take (i := 22) (oi := { dst := some 50, op := Op.slice 51 (Operand.tmp 49) (some (Operand.const (Value.int IntKind.i64 504))) none none, type := 51, pos := "sector.go:113", after := #[{ on := 21, ground := Ground.data }, { on := 17, ground := Ground.guard }], guard := some (17, false) }) (v := undef) rfl (by kernel_rfl) (by kernel_rfl) (by kernel_rfl) (fun _ _ _ h => h) (Or.inr ⟨by rfl, rfl⟩) (by assumption) ?_
     try simp only [Act.put, List.setIfInBounds_toArray, List.set_cons_zero, List.set_cons_succ]
     refine wpAnyH_ready (rs := [23]) (by kernel_rfl) (by simp) ?_
     refine AllReadyH.cons (o := { dst := some 51, op := Op.call { callee := Callee.value (Operand.func 129), args := #[Operand.tmp 46, Operand.tmp 48, Operand.tmp 50], argTypes := #[33, 51, 51] }, type := 4, pos := "sector.go:113", after := #[{ on := 18, ground := Ground.data }, { on := 20, ground := Ground.data }, { on := 22, ground := Ground.data }, { on := 17, ground := Ground.chain }, { on := 17, ground := Ground.guard }], guard := some (17, false) }) rfl (fun K hK => ?_) AllReadyH.nil
     rw [if_neg]; rotate_left; · exact fun h => Bool.noConfusion (show false = true from h)
     refine hK.out _ _ hHeld (fun hHeld => ?_)
     clear hK K
     try simp only [Act.put, List.setIfInBounds_toArray, List.set_cons_zero, List.set_cons_succ]
     refine wpAnyH_take (i := 24) (oi := { dst := some 52, op := Op.unOp UnOp.not 4 (Operand.tmp 51), type := 4, pos := "sector.go:113", after := #[{ on := 23, ground := Ground.data }, { on := 17, ground := Ground.guard }], guard := some (17, false) }) (v := undef) rfl (by kernel_rfl) (by kernel_rfl) (by kernel_rfl) (fun _ _ _ h => h) (Or.inr ⟨by rfl, rfl⟩) (by assumption) ?_
     try simp only [Act.put, List.setIfInBounds_toArray, List.set_cons_zero, List.set_cons_succ]
     refine wpAnyH_take (i := 25) (oi := { dst := some 53, op := Op.pick (Operand.tmp 45) (Operand.const (Value.bool true)) (Operand.tmp 52), type := 4, pos := "sector.go:113", after := #[{ on := 17, ground := Ground.data }, { on := 24, ground := Ground.data }], guard := none }) (v := ?_) rfl (by kernel_rfl) (by kernel_rfl) (by kernel_rfl) (fun _ _ _ h => h) (Or.inl ⟨by rfl, ?_⟩) (by assumption) ?_; rotate_left; · ((intro w hSw; (try dsimp only at hSw); go_simp) <;> with_reducible rfl)
     try simp only [Act.put, List.setIfInBounds_toArray, List.set_cons_zero, List.set_cons_succ]
     refine wpAnyH_done (by kernel_rfl) ?_ _
     obtain ⟨w4, hw4⟩ : ∃ w4, w4 = w3.drew := ⟨_, rfl⟩
     have bb4 : Below w3.heap.size w3 w4 := by rw [hw4]; exact bb3
     rw [<- hw4]
     clear hw4
     have bw7 := bt bw3 bb4
     have B7 := B2'.on bb4
     obtain ⟨c0, c1, c2, c3, c4, fr⟩ := five5 B7
     go_wp2
     have B8 := ((((B7.set (k := 0) (.int .i64 0)).set (k := 1) (.int .u64 0)).set (k := 2) (.int .i64 0)).set (k := 3) (.int .u64 0)).set (k := 4) (.slice none 0 0)
     obtain ⟨z0, z1, z2, z3, z4, zf⟩ := five5 B8
     refine bodyPost_ret (v := .tuple #[.agg #[.int .i64 0, .int .u64 0, .int .i64 0, .int .u64 0, .slice none 0 0], .int .i64 11]) (by simp [results, Tryz.results112, go_sem, z0, z1, z2, z3, z4]) rfl ?_
     rw [hd.out]
     exact ⟨RetX.zero _ _ _, bset5 bw7 (Nat.le_refl _)⟩
end Go.Proofs.YtchcmklelmlbgaaGreat.Sec
namespace Go.Proofs.YtchcmklelmlbgaaGreat.Sec
open Go.RowKit
open Go.Proofs.YtchcmklelmlbgaaGreat.Num (putL getN)
open Go.Proofs.YtchcmklelmlbgaaGreat.Mac (padTo)
set_option linter.unusedVariables false
set_option maxRecDepth 100000
theorem below_none {w w' : World} (b : Below w.heap.size w w') : w.grownBy w' none := below_grown b none
theorem Keep.grownK {fp : List Nat} {w w1 w2 : World} {r : Option Nat} (h : Keep fp w w1) (g : w1.grownBy w2 r) (hr : ∀ k, r = some k -> w.heap.size <= k) : Keep fp w w2 :=
 ⟨g.os.trans h.1, g.tape.trans h.2.1, g.output.trans h.2.2.1, Nat.le_trans h.size g.size, fun j hj hn => (g.block j (Nat.lt_of_lt_of_le hj h.size) (fun e => by have := hr j e.symm; omega)).trans (h.block hj hn)⟩
theorem padTo_self {l : List UInt8} {n : Nat} (h : l.length = n) : padTo l n = l := by subst h; simp [padTo]
set_option maxHeartbeats 1000000 in
theorem encode_gen (p : Int) (g : Nat) (x : X) (A : Option Addr) (c : Nat) (w : World) (hr : Rd w w.heap.size A (x.body.map e8)) (h : rightF p x = 0) (s : List UInt8) (hs : s.length = 8) (fp : List Nat) (hfp : ∀ j ∈ fp, j < w.heap.size) (Q : World -> Prop)
   (hQ : ∀ W W' r, Q W -> W.grownBy W' r -> (∀ k, r = some k -> w.heap.size <= k) -> Q W')
   (HS : ∀ W, Below w.heap.size w W -> ∀ A1 c1, Rd W W.heap.size A1 ((text p x).map e8) -> (∀ a, A1 = some a -> w.heap.size <= a.block) -> Calls Tryz.prog 124 #[.pointer (some ⟨g, 0, none⟩), .slice A1 504 c1] W fun e W' => ∃ A2 c2, e = .returned (.slice A2 8 c2) /\ Rd W' W'.heap.size A2 (s.map e8) /\ Keep fp W W' /\ Q W') :
   Calls Tryz.prog 105 #[.pointer (some ⟨g, 0, none⟩), .int .i64 p, .agg #[.int .i64 x.kind, .int .u64 (x.life.toNat : Int), .int .i64 x.seq, .int .u64 (x.gen.toNat : Int), .slice A x.body.length c]] w fun e w' =>
     ∃ A' c', e = .returned (.tuple #[.slice A' 512 c', .int .i64 0]) /\ w'.ownsRow w.heap.size 5 1 (.slice A' 512 c') 512 ((text p x ++ s).map e8) /\ Keep fp w w' /\ Q w' := by
 obtain ⟨i0', hi0, hz0, hz1, hz2⟩ := info_parts info8
 have hW := fun W (bW : Below w.heap.size w W) => written_any p x A c W (hr.on bW) h
 obtain ⟨f, hf⟩ : ∃ f, f = rightF p x := ⟨_, rfl⟩
 rw [<- hf] at h
 have hf1 := bne_no h
 have Hf := Lib.hid hf
 obtain ⟨T, hT⟩ : ∃ T, T = text p x := ⟨_, rfl⟩
 have hTl : T.length = 504 := by rw [hT, text_len]
 rw [<- hT] at hW HS ⊢
 have HTl := Lib.hid hTl
 have HW := Lib.hid hW
 have Hs := Lib.hid hs
 have hp8 := fun A1 n d1 W hn h => Mac.npad_any A1 s n d1 8 8 (by rfl) W hn (by omega) (by omega) h
 rw [padTo_self hs] at hp8
 have Hp := Lib.hid hp8
 clear hf hT hTl hW hs hp8 hr
 go_enter Tryz.func105, Tryz.ntmps105
 go_wp2_with fail
 refine (none_any _ _).mono ?_
 rintro e w1 ⟨rfl, rfl⟩
 have B0 := Blk.new w [.int .i64 x.kind, .int .u64 (x.life.toNat : Int), .int .i64 x.seq, .int .u64 (x.gen.toNat : Int), .slice A x.body.length c] 157
 go_wp2_with fail
 refine (right_any p x A c _).mono ?_
 rintro e w2 ⟨rfl, b2⟩
 rw [<- Hf.out]
 have bw2 := bt (b1alloc w _) b2
 obtain ⟨c0, c1, c2, c3, c4, fr⟩ := five5 (B0.on b2)
 go_wp2_with fail
 refine (HW.out _ bw2).mono ?_
 rintro e w3 ⟨A3, d3, rfl, own3, b3⟩
 rw [HTl.out]
 have bw3 := bt bw2 b3
 clear c0 c1 c2 c3 c4 fr B0
 go_wp2_with fail
 refine (HS _ bw3 A3 d3 (Rd.own own3) (fun a ha => by subst ha; have h1 := own_block own3 (k := a.block) rfl; have h2 := bw2.size; omega)).mono ?_
 rintro e w4 ⟨A4, d4, rfl, rd4, k4, q4⟩
 have own4 := own_keep own3 k4 (fun k hk e => by have := own_block own3 hk; have := hfp k e; have := bw2.size; omega)
 have kw4 : Keep fp w w4 := (Keep.of_below bw3 fp).trans k4 (Fresh.refl _ _)
 go_wp2_with fail
 refine (Hp.out A4 8 d4 w4 Hs.out.symm rd4).mono ?_
 rintro e w5 ⟨A5, d5, rfl, own5, b5⟩
 rw [Hs.out]
 have own6 := own_on own4 b5
 have rd5 := Rd.own own5
 have kw5 : Keep fp w w5 := kw4.trans (Keep.of_below b5 fp) (Fresh.refl _ _)
 have q5 := hQ _ _ none q4 (below_none b5) (fun k hk => by cases hk)
 have hs25 : w2.heap.size <= w5.heap.size := Nat.le_trans b3.size (Nat.le_trans k4.size b5.size)
 have hbase : w.heap.size <= w2.heap.size := bw2.size
 rw [HTl.out] at own6
 go_wp2_with ((with_reducible show wpList _ _ _ (⟨some 26, _, _, _, _, _⟩ :: _) _ _); refine wpList_append_rd _ rfl (.tmp 21) (.tmp 25) _ rfl w2.heap.size 5 i0' _ 1 1 Tryz.underlying51 hi0 hz0 hz1 hz2 rfl (by omega) _ 504 (T.map e8) rfl own6 _ A5 8 d5 (s.map e8) rfl (by rw [List.length_map, Hs.out]) rd5 (e8_one _) (by simp only [maxLen]; omega) (by omega) hs25 ?_; intro v6 w6 own7 hg6 hat6)
 obtain ⟨A6, d6, rfl⟩ := own_form own7
 go_ret2
 refine ⟨A6, d6, rfl, ?_, Keep.grownK kw5 hg6 (fun k hk => by have := own_block own6 hk; omega), hQ _ _ _ q5 hg6 (fun k hk => by have := own_block own6 hk; omega)⟩
 rw [List.map_append]; exact own_base own7 hbase
end Go.Proofs.YtchcmklelmlbgaaGreat.Sec
namespace Go.Proofs.YtchcmklelmlbgaaGreat.Sec
open Go.RowKit
open Go.Proofs.YtchcmklelmlbgaaGreat.Num (putL getN)
set_option linter.unusedVariables false
set_option maxRecDepth 100000
end Go.Proofs.YtchcmklelmlbgaaGreat.Sec
namespace Go.Proofs.YtchcmklelmlbgaaGreat.Sec
open Go.RowKit
open Go.Proofs.YtchcmklelmlbgaaGreat.Num (putL getN)
set_option linter.unusedVariables false
set_option maxRecDepth 100000
def SumsAt (w : World) (b : Nat) (l : List (List UInt8)) : Prop := ∃ (n : Nat) (D : DataW Unit), w.ownsMap Tryz.prog 9 (plainElem Tryz.prog 3) b n D /\ n <= l.length /\ Maps.size D = l.length /\ (∀ s, Maps.has D (.string s) = decide (s ∈ l)) /\
 ∀ s, s ∈ l -> D.atKey (.string s) (.lit (.int .i64 0)) = .lit (.int .i64 (l.idxOf s : Int))
theorem keyed : Maps.Keyed Tryz.prog 9 := Maps.string_keyed Tryz.underlying9
theorem key_of {l : List UInt8} (h : l.length <= 1000000) : keyOf Tryz.prog 9 (.string ⟨l.toArray⟩) = some (.string l) := by
 have := Go.WideMaps.keyOf_string_mk (P := Tryz.prog) Tryz.underlying9 (s := ⟨l.toArray⟩) (by simp [ByteArray.size, maxLen]; omega)
 simpa using this
theorem keyLit (s : List UInt8) : WideAt.IsKeyLit (.string s) := by simp [WideAt.IsKeyLit]
theorem zeroInt (w : World) : (zeroValue 3).run Tryz.prog w = .ok (.int .i64 0) w := by kernel_rfl
theorem SumsAt.made (w : World) : SumsAt (w.alloc (.map #[] 0)) w.heap.size [] :=
 ⟨0, _, World.ownsMap_made w _ _ _, Nat.le_refl _, rfl, fun s => by simp [Maps.has], fun s hs => by cases hs⟩
theorem SumsAt.lt {w : World} {b : Nat} {l : List (List UInt8)} (h : SumsAt w b l) : b < w.heap.size := by obtain ⟨n, D, h, _⟩ := h; exact h.lt
theorem SumsAt.kept {w w' : World} {b : Nat} {l : List (List UInt8)} {r : Option Nat} (h : SumsAt w b l) (g : w.grownBy w' r) (hne : some b ≠ r) : SumsAt w' b l := by
 obtain ⟨n, D, h, h2⟩ := h; exact ⟨n, D, h.kept g hne, h2⟩
theorem SumsAt.on {w w' : World} {b : Nat} {l : List (List UInt8)} (h : SumsAt w b l) (k : Below w.heap.size w w') : SumsAt w' b l := h.kept (below_grown k none) (by simp)
theorem SumsAt.look {w : World} {b : Nat} {l : List (List UInt8)} (h : SumsAt w b l) (T : List UInt8) (hT : T.length <= 1000000) :
   ∃ c : Int, (Instr.lookup 81 (.map (some b)) (.string ⟨T.toArray⟩) true).run Tryz.prog w = .ok (.tuple #[.int .i64 c, .bool (decide (T ∈ l))]) w /\ (T ∈ l -> c = (l.idxOf T : Int)) := by
 obtain ⟨n, D, h, hn, hs, hh, ha⟩ := h
 obtain ⟨v, ps, hrun, hv⟩ := h.look_ok keyed Tryz.underlying81 (zeroInt w) (plainElem_int Tryz.underlying3 (by decide)) (key_of hT)
 obtain ⟨c, rfl, hc, _⟩ := plainElem_int_inv Tryz.underlying3 hv
 rw [hh] at hrun
 refine ⟨c, hrun, fun hm => ?_⟩
 simp only [Prod.mk.injEq] at hc
 have h2 := hc.1
 rw [ha T hm] at h2
 injection h2 with h2
 injection h2 with h2 h3
 exact h3.symm
theorem SumsAt.len {w : World} {b : Nat} {l : List (List UInt8)} (h : SumsAt w b l) (ty : TypeId) : (Builtin.len_ #[81] ty #[.map (some b)]).run Tryz.prog w = .ok (.int .i64 (l.length : Int)) w := by
 obtain ⟨n, D, h, hn, hs, hh, ha⟩ := h
 rw [<- hs]
 exact h.len Tryz.underlying81 ty
theorem SumsAt.put {w : World} {b : Nat} {l : List (List UInt8)} (h : SumsAt w b l) (T : List UInt8) (hT : T.length <= 1000000) (hn : T ∉ l) (hl : l.length <= 1000000) :
   ∃ w', (Instr.mapUpdate 81 (.map (some b)) (.string ⟨T.toArray⟩) (.int .i64 (l.length : Int))).run Tryz.prog w = .ok () w' /\ SumsAt w' b (l ++ [T]) /\ w.grownBy w' (some b) := by
 obtain ⟨n, D, h, hnl, hs, hh, ha⟩ := h
 obtain ⟨w', hrun, hown, hg⟩ := h.update keyed Tryz.underlying81 (by unfold maxLen; omega) (key_of hT) (plainElem_int Tryz.underlying3 (a := (l.length : Int)) (by simp [Lit.wf, IntKind.min, IntKind.max, IntKind.signed, IntKind.bits]; omega))
 have hm := h.isMap
 have ht := h.tidy keyed
 refine ⟨w', hrun, ⟨n + 1, _, hown, by simp; omega, ?_, ?_, ?_⟩, hg⟩
 · rw [Maps.size_put ht, hh, hs]; simp [hn]
 · intro s
   by_cases e : s = T
   · subst e; rw [Maps.has_put_same hm (keyLit _)]; simp
   · rw [Maps.has_put_other (by intro e2; injection e2 with e2; exact e e2), hh]; simp [e]
 · intro s hsm
   by_cases e : s = T
   · subst e; rw [Maps.atKey_put_same hm (keyLit _), List.idxOf_append, if_neg hn]; simp
   · have hsl : s ∈ l := by rcases List.mem_append.1 hsm with h1 | h1; exact h1; exact absurd (List.mem_singleton.1 h1) e
     rw [Maps.atKey_put_other (by intro e2; injection e2 with e2; exact e e2), ha s hsl, List.idxOf_append, if_pos hsl]
end Go.Proofs.YtchcmklelmlbgaaGreat.Sec
namespace Go.Proofs.YtchcmklelmlbgaaGreat.Sec
open Go.RowKit
open Go.Proofs.YtchcmklelmlbgaaGreat.Num (putL getN)
set_option linter.unusedVariables false
set_option maxRecDepth 100000
theorem info8' : (Tryz.prog.info? 5).map (fun i => (i.zero, i.size, i.bytes)) = some (some (.int .u8 0), 1, 1) := by kernel_rfl
def SymAt (w : World) (g b : Nat) (l : List (List UInt8)) : Prop := (∃ k, w.heap[g]? = some (.cells #[.pointer (some ⟨k, 0, none⟩), .map (some b), .pointer none] 86 (0, 0))) /\ SumsAt w b l
theorem SymAt.ne {w : World} {g b : Nat} {l : List (List UInt8)} (h : SymAt w g b l) : g ≠ b := by
 obtain ⟨⟨k, h⟩, n, D, ⟨es, cl, h2, _⟩, _⟩ := h
 rintro rfl
 rw [h] at h2; cases h2
theorem SymAt.lt {w : World} {g b : Nat} {l : List (List UInt8)} (h : SymAt w g b l) : g < w.heap.size /\ b < w.heap.size := ⟨h.1.elim fun _ h => lt_of_block h, h.2.lt⟩
theorem SymAt.grown {w w' : World} {g b : Nat} {l : List (List UInt8)} {r : Option Nat} (h : SymAt w g b l) (k : w.grownBy w' r) (h1 : some g ≠ r) (h2 : some b ≠ r) : SymAt w' g b l :=
 ⟨h.1.elim fun q hq => ⟨q, (k.block g (lt_of_block hq) h1).trans hq⟩, h.2.kept k h2⟩
theorem SymAt.on {w w' : World} {g b : Nat} {l : List (List UInt8)} (h : SymAt w g b l) (k : Below w.heap.size w w') : SymAt w' g b l := h.grown (below_grown k none) (by simp) (by simp)
theorem termNew_any (w : World) : Calls Tryz.prog 35 #[] w fun e w' => ∃ k, e = .returned (.pointer (some ⟨k, 0, none⟩)) /\ Below w.heap.size w w' := by
 have hmm := @run_makeMap Tryz.prog
 go_enter Tryz.func35, Tryz.ntmps35
 go_wp2
 go_ret
 exact ⟨_, rfl, b2alloc _ _ _⟩
theorem symbolic_any (w : World) : Calls Tryz.prog 13 #[] w fun e w' => ∃ g b, e = .returned (.pointer (some ⟨g, 0, none⟩)) /\ SymAt w' g b [] /\ w.heap.size <= g /\ w.heap.size <= b /\ Below w.heap.size w w' := by
 have hmm := @run_makeMap Tryz.prog
 go_enter Tryz.func13, Tryz.ntmps13
 go_wp2_with (go_at_call 35; refine (termNew_any _).mono ?_; rintro e w' ⟨k, rfl, b1⟩)
 go_ret
 have hn := heap_alloc_new (w'.alloc (.map #[] 0)) (.cells #[.pointer (some ⟨k, 0, none⟩), .map (some w'.heap.size), .pointer none] 86)
 rw [show (w'.alloc (.map #[] 0)).heap.size = w'.heap.size + 1 by simp] at hn
 have hs := b1.size
 exact ⟨_, _, rfl, ⟨⟨k, hn⟩, (SumsAt.made w').on (b1alloc _ _)⟩, by omega, hs, bt b1 (b2alloc _ _ _)⟩
theorem sNone_sym (w : World) (g b : Nat) (l : List (List UInt8)) (h : SymAt w g b l) : Calls Tryz.prog 132 #[.pointer (some ⟨g, 0, none⟩)] w fun e w' => e = .returned (.bool false) /\ w = w' := by
 obtain ⟨⟨k, h⟩, _⟩ := h
 obtain ⟨c0, c1, c2⟩ := three h
 go_enter Tryz.func132, Tryz.ntmps132
 go_wp2
 go_ret
 exact ⟨rfl, rfl⟩
theorem sReal_sym (w : World) (g b : Nat) (l : List (List UInt8)) (h : SymAt w g b l) : Calls Tryz.prog 133 #[.pointer (some ⟨g, 0, none⟩)] w fun e w' => e = .returned (.bool false) /\ w = w' := by
 obtain ⟨⟨k, h⟩, _⟩ := h
 obtain ⟨c0, c1, c2⟩ := three h
 go_enter Tryz.func133, Tryz.ntmps133
 go_wp2
 go_ret
 exact ⟨rfl, rfl⟩
def mark (n : Nat) : List UInt8 := [255, 253] ++ putL n 6
theorem mark_len (n : Nat) : (mark n).length = 8 := by simp [mark, Num.putL_len]
set_option maxHeartbeats 400000 in
theorem mark_any (n : Nat) (w : World) (hn : n <= 1000000) : Calls Tryz.prog 135 #[.int .i64 (n : Int)] w (RetB 5 w (mark n)) := by
 obtain ⟨i0', hi0, hz0, hz1, hz2⟩ := info_parts info8'
 obtain ⟨u, hu⟩ := to64 (n : Int) (by omega) (by omega)
 have Hu := Lib.hid hu
 have hu2 : u.toNat = n := by omega
 have Hp := Lib.hid (fun W => Num.put_any u (n : Int) hu 6 6 (by rfl) (by omega) (by omega) W)
 have Hu2 := Lib.hid hu2
 clear hu hu2
 have hcv := Lib.run_convert_bytes_const (P := Tryz.prog) w 51 5 #[.int .u8 255, .int .u8 253] 2 2 Tryz.underlying51 Tryz.underlying5
 have b0 := b1alloc w (.cells #[.int .u8 255, .int .u8 253] 5 (2, 3))
 have hq0 : (w.alloc (.cells #[.int .u8 255, .int .u8 253] 5 (2, 3))).heap[w.heap.size]? = some (.cells #[.int .u8 255, .int .u8 253] 5 (2, 3)) := heap_alloc_new w _
 go_enter Tryz.func135, Tryz.ntmps135
 go_wp2_with fail
 refine (Hp.out _).mono ?_
 rintro e w1 ⟨A1, c1, rfl, own1, b1⟩
 have bw1 := bt b0 b1
 have hq1 := (b1.block _ (lt_of_block hq0)).trans hq0
 have rd1 := Rd.own own1
 have hl : (putL u.toNat 6).length = 6 := Num.putL_len _ _
 rw [hl] at own1 ⊢
 obtain ⟨b', off', rfl, _, hcs⟩ := rd1 (by intro e; have := congrArg List.length e; rw [List.length_map, hl] at this; cases this)
 have hc2 : ∀ (j : Nat) v, ((putL u.toNat 6).map e8)[j]? = some v -> w1.cell? ((⟨b', off', none⟩ : Addr).add j) = some v := fun j v hv => by
   obtain ⟨hj, rfl⟩ := List.getElem?_eq_some_iff.1 hv
   rw [Addr.add_lit]; exact hcs j hj
 have ho : ∀ (bb : Addr), (some ⟨w.heap.size, 0, none⟩ : Option Addr) = some bb -> ∀ (j : Nat) v, ([.int .u8 255, .int .u8 253] : List Value)[j]? = some v -> w1.cell? (bb.add j) = some v := fun bb hb j v hv => by
   injection hb with hb
   subst hb
   rw [Addr.add_lit, Nat.zero_add]
   unfold World.cell?
   rw [hq1]
   match j, hv with
   | 0, hv => simpa using hv
   | 1, hv => simpa using hv
 go_wp2_with ((with_reducible show wpList _ _ _ (⟨some 8, _, _, _, _, _⟩ :: _) _ _); refine wpList_append_grows w1 rfl (.tmp 4) (.tmp 7) _ rfl 5 i0' _ 1 1 Tryz.underlying51 hi0 hz0 hz1 hz2 rfl (by omega) (some ⟨w.heap.size, 0, none⟩) 2 2 [.int .u8 255, .int .u8 253] rfl (fun e => by cases e) rfl ho ⟨b', off', none⟩ 6 c1 ((putL u.toNat 6).map e8) rfl (by rw [List.length_map, hl]) hc2 (e8_one _) (by omega) (by simp only [maxLen]; omega) (by omega) ?_; intro v2 w2 own2 hg2)
 go_ret
 exact RetB.mk (own_base own2 bw1.size) (by rw [mark, List.map_append, Hu2.out]; rfl) (bw1.grown hg2 bw1.size (fun z hz => by cases hz))
end Go.Proofs.YtchcmklelmlbgaaGreat.Sec
namespace Go.Proofs.YtchcmklelmlbgaaGreat.Sec
open Go.RowKit
open Go.Proofs.YtchcmklelmlbgaaGreat.Num (putL getN)
set_option linter.unusedVariables false
set_option maxRecDepth 100000
def sumOf (l : List (List UInt8)) (T : List UInt8) : List UInt8 := mark (if T ∈ l then l.idxOf T else l.length)
def sumAfter (l : List (List UInt8)) (T : List UInt8) : List (List UInt8) := if T ∈ l then l else l ++ [T]
def checkOf (l : List (List UInt8)) (T s : List UInt8) : Bool := decide (T ∈ l) && R1.sameB (mark (l.idxOf T)) s
theorem rd_grown {w w' : World} {A : Option Addr} {xs : List Value} {r : Option Nat} (h : Rd w w.heap.size A xs) (g : w.grownBy w' r) (hb : ∀ a, A = some a -> r ≠ some a.block) : Rd w' w'.heap.size A xs := by
 intro hne
 obtain ⟨b, off, rfl, hl, hc⟩ := h hne
 exact ⟨b, off, rfl, Nat.lt_of_lt_of_le hl g.size, fun i hi => (World.cell?_of_block (g.block b hl (fun e => hb _ rfl e.symm))).trans (hc i hi)⟩
set_option maxHeartbeats 1000000 in
theorem sum_sym (w : World) (g b : Nat) (l : List (List UInt8)) (h : SymAt w g b l) (A : Option Addr) (T : List UInt8) (n c : Nat) (hn : n = T.length) (hr : Rd w w.heap.size A (T.map e8)) (hAb : ∀ a, A = some a -> some b ≠ some a.block) (hT : T.length <= 1000000) (hl : l.length <= 1000000) :
   Calls Tryz.prog 124 #[.pointer (some ⟨g, 0, none⟩), .slice A n c] w fun e w' => ∃ A2 c2, e = .returned (.slice A2 8 c2) /\ w'.ownsRow w.heap.size 5 1 (.slice A2 8 c2) 8 ((sumOf l T).map e8) /\ Keep [b] w w' /\ SymAt w' g b (sumAfter l T) := by
 subst hn
 have hgb := h.ne
 have hblt := h.lt.2
 have hN := Lib.hid (sNone_sym w g b l h)
 have hRe := Lib.hid (sReal_sym w g b l h)
 obtain ⟨⟨k, hblk⟩, hsums⟩ := h
 obtain ⟨c0, c1, c2⟩ := three hblk
 have hcv := run_conv_rd (P := Tryz.prog) 51 9 5 T.length c rfl Tryz.underlying51 Tryz.underlying5 Tryz.underlying9 (hr.on ((Below.refl w.heap.size w).drew))
 obtain ⟨v, hlk, hv⟩ := (hsums.on ((Below.refl w.heap.size w).drew)).look T hT
 by_cases hm : T ∈ l
 · have hvv := hv hm
   have hd := decide_eq_true hm
   rw [hd, hvv] at hlk
   have hso := Lib.hid (show sumOf l T = mark (l.idxOf T) by unfold sumOf; rw [if_pos hm])
   have hsa := Lib.hid (show sumAfter l T = l by unfold sumAfter; rw [if_pos hm])
   have hil : l.idxOf T <= 1000000 := Nat.le_trans List.idxOf_le_length hl
   have hM := Lib.hid (mark_any (l.idxOf T) w.drew hil)
   have HS := Lib.hid (show SymAt w.drew g b l from ⟨⟨k, hblk⟩, hsums.on ((Below.refl w.heap.size w).drew)⟩)
   clear hd hv hvv hm hsums hr
   obtain ⟨q, hq⟩ : ∃ q, q = l.idxOf T := ⟨_, rfl⟩
   rw [<- hq] at hlk hso hM hil
   clear hq
   go_enter Tryz.func124, Tryz.ntmps124
   go_wp2_with fail
   refine hN.out.mono ?_
   rintro e w1 ⟨rfl, rfl⟩
   go_wp2_with fail
   refine hRe.out.mono ?_
   rintro e w1 ⟨rfl, rfl⟩
   go_wp2_with fail
   go_region_held3 (fun w' => w'.cell? ⟨g, 1, none⟩ = some (.map (some b)) /\ (convert 51 9 (.slice A T.length c)).run Tryz.prog w' = .ok (.string ⟨T.toArray⟩) w' /\ (Instr.lookup 81 (.map (some b)) (.string ⟨T.toArray⟩) true).run Tryz.prog w' = .ok (.tuple #[.int .i64 (q : Int), .bool true]) w') (first | exact ⟨c1, hcv, hlk⟩) (fail)
   go_wp2_with fail
   refine hM.out.mono ?_
   rintro e w2 ⟨A2, d2, rfl, own2, b2⟩
   rw [mark_len]
   rw [mark_len] at own2
   go_wp2
   go_ret
   rw [hso.out, hsa.out]
   exact ⟨A2, d2, rfl, own2, (Keep.of_below b2 [b]), HS.out.on b2⟩
 · have hd : decide (T ∈ l) = false := decide_eq_false hm
   rw [hd] at hlk
   have hso := Lib.hid (show sumOf l T = mark l.length by unfold sumOf; rw [if_neg hm])
   have hsa := Lib.hid (show sumAfter l T = l ++ [T] by unfold sumAfter; rw [if_neg hm])
   have hdd : Below w.heap.size w w.drew.drew := ((Below.refl w.heap.size w).drew).drew
   have hlen := fun ty => (hsums.on ((Below.refl w.heap.size w).drew)).len ty
   obtain ⟨w3, hup, hs3, hg3⟩ := (hsums.on hdd).put T hT hm hl
   have hg3' : w.grownBy w3 (some b) := ⟨hg3.os, hg3.tape, hg3.output, hg3.size, hg3.block⟩
   have hcv2 := run_conv_rd (P := Tryz.prog) 51 9 5 T.length c rfl Tryz.underlying51 Tryz.underlying5 Tryz.underlying9 (hr.on hdd)
   have hcv3 := run_conv_rd (P := Tryz.prog) 51 9 5 T.length c rfl Tryz.underlying51 Tryz.underlying5 Tryz.underlying9 (rd_grown hr hg3' hAb)
   have hblk3 := (hg3'.block g (lt_of_block hblk) (fun e => hgb (by injection e))).trans hblk
   obtain ⟨e0, e1, e2⟩ := three hblk3
   have hM := Lib.hid (mark_any l.length w3 hl)
   have HS := Lib.hid (show SymAt w3 g b (l ++ [T]) from ⟨⟨k, hblk3⟩, hs3⟩)
   have hG := Lib.hid hg3'
   clear hd hv hm hsums hr hs3 hblk3 hg3 hg3' hdd
   obtain ⟨m, hm⟩ : ∃ q, q = l.length := ⟨_, rfl⟩
   rw [<- hm] at hso hM hl hup
   simp only [<- hm] at hlen
   clear hm
   go_enter Tryz.func124, Tryz.ntmps124
   go_wp2_with fail
   refine hN.out.mono ?_
   rintro e w1 ⟨rfl, rfl⟩
   go_wp2_with fail
   refine hRe.out.mono ?_
   rintro e w1 ⟨rfl, rfl⟩
   go_wp2_with fail
   go_region_held3 (fun w' => w'.cell? ⟨g, 1, none⟩ = some (.map (some b)) /\ (convert 51 9 (.slice A T.length c)).run Tryz.prog w' = .ok (.string ⟨T.toArray⟩) w' /\ (Instr.lookup 81 (.map (some b)) (.string ⟨T.toArray⟩) true).run Tryz.prog w' = .ok (.tuple #[.int .i64 v, .bool false]) w') (first | exact ⟨c1, hcv, hlk⟩) (fail)
   go_wp2_with fail
   go_region_held3 (fun w' => w'.cell? ⟨g, 1, none⟩ = some (.map (some b)) /\ (convert 51 9 (.slice A T.length c)).run Tryz.prog w' = .ok (.string ⟨T.toArray⟩) w') (first | exact ⟨e1, hcv3⟩ | exact ⟨c1, hcv2⟩) (fail)
   go_wp2_with fail
   refine hM.out.mono ?_
   rintro e w4 ⟨A2, d2, rfl, own2, b2⟩
   rw [mark_len]
   rw [mark_len] at own2
   go_wp2
   go_ret
   rw [hso.out, hsa.out]
   exact ⟨A2, d2, rfl, own_base own2 hG.out.size, (Keep.of_grown hG.out (fun g hg => by injection hg with hg; simp [hg])).trans (Keep.of_below b2 [b]) (Fresh.refl _ _), HS.out.on b2⟩
set_option maxHeartbeats 1000000 in
theorem check_sym (w : World) (g b : Nat) (l : List (List UInt8)) (h : SymAt w g b l) (A B : Option Addr) (T s : List UInt8) (n c o d : Nat) (hn : n = T.length) (ho : o = s.length) (hr : Rd w w.heap.size A (T.map e8)) (hs : Rd w w.heap.size B (s.map e8)) (hT : T.length <= 1000000) (hl : l.length <= 1000000) :
   Calls Tryz.prog 129 #[.pointer (some ⟨g, 0, none⟩), .slice A n c, .slice B o d] w fun e w' => e = .returned (.bool (checkOf l T s)) /\ Below w.heap.size w w' := by
 subst hn ho
 have hN := Lib.hid (sNone_sym w g b l h)
 have hRe := Lib.hid (sReal_sym w g b l h)
 obtain ⟨⟨k, hblk⟩, hsums⟩ := h
 obtain ⟨c0, c1, c2⟩ := three hblk
 have hbd : Below w.heap.size w w.drew := (Below.refl w.heap.size w).drew
 have hcv := run_conv_rd (P := Tryz.prog) 51 9 5 T.length c rfl Tryz.underlying51 Tryz.underlying5 Tryz.underlying9 (hr.on hbd)
 obtain ⟨v, hlk, hv⟩ := (hsums.on hbd).look T hT
 obtain ⟨is, his⟩ : ∃ x, x = decide (T ∈ l) := ⟨_, rfl⟩
 rw [<- his] at hlk
 have Hs := Lib.hid (hs.on hbd)
 clear hsums hr hs
 cases is with
 | true =>
   have hm : T ∈ l := of_decide_eq_true his.symm
   have hvv := hv hm
   rw [hvv] at hlk
   have hso := Lib.hid (show checkOf l T s = R1.sameB (mark (l.idxOf T)) s by unfold checkOf; rw [decide_eq_true hm, Bool.true_and])
   have hil : l.idxOf T <= 1000000 := Nat.le_trans List.idxOf_le_length hl
   have hM := Lib.hid (mark_any (l.idxOf T) w.drew hil)
   clear his hv hvv hm
   obtain ⟨q, hq⟩ : ∃ q, q = l.idxOf T := ⟨_, rfl⟩
   rw [<- hq] at hlk hso hM hil
   clear hq
   go_enter Tryz.func129, Tryz.ntmps129
   go_wp2_with fail
   refine hN.out.mono ?_
   rintro e w1 ⟨rfl, rfl⟩
   go_wp2_with fail
   refine hRe.out.mono ?_
   rintro e w1 ⟨rfl, rfl⟩
   go_wp2_with fail
   go_region_held3 (fun w' => w'.cell? ⟨g, 1, none⟩ = some (.map (some b)) /\ (convert 51 9 (.slice A T.length c)).run Tryz.prog w' = .ok (.string ⟨T.toArray⟩) w' /\ (Instr.lookup 81 (.map (some b)) (.string ⟨T.toArray⟩) true).run Tryz.prog w' = .ok (.tuple #[.int .i64 (q : Int), .bool true]) w') (first | exact ⟨c1, hcv, hlk⟩) (fail)
   go_wp2_with fail
   refine hM.out.mono ?_
   rintro e w2 ⟨A2, d2, rfl, own2, b2⟩
   go_wp2_with fail
   refine (nsame_any A2 B (mark q) s _ _ d2 d w2 rfl rfl (Rd.own own2) (Hs.out.on b2)).mono ?_
   rintro e w3 ⟨rfl, rfl⟩
   go_wp2
   go_ret
   rw [hso.out]
   exact ⟨rfl, ⟨b2.os, b2.tape, b2.output, b2.size, b2.block⟩⟩
 | false =>
   have hm : T ∉ l := of_decide_eq_false his.symm
   have hso := Lib.hid (show checkOf l T s = false by unfold checkOf; rw [decide_eq_false hm, Bool.false_and])
   clear his hv hm
   go_enter Tryz.func129, Tryz.ntmps129
   go_wp2_with fail
   refine hN.out.mono ?_
   rintro e w1 ⟨rfl, rfl⟩
   go_wp2_with fail
   refine hRe.out.mono ?_
   rintro e w1 ⟨rfl, rfl⟩
   go_wp2_with fail
   go_region_held3 (fun w' => w'.cell? ⟨g, 1, none⟩ = some (.map (some b)) /\ (convert 51 9 (.slice A T.length c)).run Tryz.prog w' = .ok (.string ⟨T.toArray⟩) w' /\ (Instr.lookup 81 (.map (some b)) (.string ⟨T.toArray⟩) true).run Tryz.prog w' = .ok (.tuple #[.int .i64 v, .bool false]) w') (first | exact ⟨c1, hcv, hlk⟩) (fail)
   go_wp2
   go_ret
   rw [hso.out]
   exact ⟨rfl, hbd⟩
end Go.Proofs.YtchcmklelmlbgaaGreat.Sec
namespace Go.Proofs.YtchcmklelmlbgaaGreat.Sec
open Go.RowKit
open Go.Proofs.YtchcmklelmlbgaaGreat.Num (putL getN putL_len getN_putL)
open Go.Proofs.YtchcmklelmlbgaaGreat.Mac (padTo)
set_option linter.unusedVariables false
theorem padTo_eq {l : List UInt8} {n : Nat} (h : l.length <= n) : padTo l n = l ++ List.replicate (n - l.length) 0 := by unfold padTo; rw [List.take_of_length_le h]
theorem text_form {p : Int} {x : X} (h : rightF p x = 0) : text p x = head p x ++ (x.body ++ List.replicate (479 - x.body.length) 0) := by
 have hb := (right_of h).2.2.2.2.2.2
 unfold text
 rw [padTo_eq (by rw [List.length_append, head_len]; omega), List.append_assoc, List.length_append, head_len, show 504 - (25 + x.body.length) = 479 - x.body.length by omega]
theorem cut_app (a b : List UInt8) (i n : Nat) (h : i + n <= a.length) : cut (a ++ b) i n = cut a i n := by
 unfold cut
 rw [List.drop_append_of_le_length (by omega), List.take_append_of_le_length (by rw [List.length_drop]; omega)]
theorem cut_mid (a b c : List UInt8) (i n : Nat) (hi : i = a.length) (hn : n = b.length) : cut (a ++ (b ++ c)) i n = b := by
 subst hi hn
 unfold cut
 rw [List.drop_left, List.take_left]
theorem of_text {p : Int} {x : X} (h : rightF p x = 0) : lenB (text p x) = x.body.length /\ ofB (text p x) = x := by
 obtain ⟨h1, h2, h3, h4, h5, h6, h7⟩ := right_of h
 have hl : lenB (text p x) = x.body.length := by
   unfold lenB
   rw [text_form h, cut_app _ _ _ _ (by rw [head_len]; decide)]
   unfold head
   rw [show putL x.kind.toNat 1 ++ putL p.toNat 2 ++ putL x.life.toNat 8 ++ putL x.seq.toNat 4 ++ putL x.gen.toNat 8 ++ putL x.body.length 2 = (putL x.kind.toNat 1 ++ putL p.toNat 2 ++ putL x.life.toNat 8 ++ putL x.seq.toNat 4 ++ putL x.gen.toNat 8) ++ (putL x.body.length 2 ++ []) by simp]
   rw [cut_mid _ _ _ _ _ (by simp [putL_len]) (by simp [putL_len]), getN_putL]
   exact Nat.mod_eq_of_lt (by simp only [Nat.reducePow]; omega)
 refine ⟨hl, ?_⟩
 have f0 : cut (text p x) 0 1 = putL x.kind.toNat 1 := by
   rw [text_form h, cut_app _ _ _ _ (by rw [head_len]; omega)]
   unfold head
   rw [show putL x.kind.toNat 1 ++ putL p.toNat 2 ++ putL x.life.toNat 8 ++ putL x.seq.toNat 4 ++ putL x.gen.toNat 8 ++ putL x.body.length 2 = [] ++ (putL x.kind.toNat 1 ++ (putL p.toNat 2 ++ putL x.life.toNat 8 ++ putL x.seq.toNat 4 ++ putL x.gen.toNat 8 ++ putL x.body.length 2)) by simp]
   rw [cut_mid [] _ _ 0 1 rfl (by simp [putL_len])]
 have f3 : cut (text p x) 3 8 = putL x.life.toNat 8 := by
   rw [text_form h, cut_app _ _ _ _ (by rw [head_len]; omega)]
   unfold head
   rw [show putL x.kind.toNat 1 ++ putL p.toNat 2 ++ putL x.life.toNat 8 ++ putL x.seq.toNat 4 ++ putL x.gen.toNat 8 ++ putL x.body.length 2 = (putL x.kind.toNat 1 ++ putL p.toNat 2) ++ (putL x.life.toNat 8 ++ (putL x.seq.toNat 4 ++ putL x.gen.toNat 8 ++ putL x.body.length 2)) by simp]
   rw [cut_mid _ _ _ _ _ (by simp [putL_len]) (by simp [putL_len])]
 have f11 : cut (text p x) 11 4 = putL x.seq.toNat 4 := by
   rw [text_form h, cut_app _ _ _ _ (by rw [head_len]; omega)]
   unfold head
   rw [show putL x.kind.toNat 1 ++ putL p.toNat 2 ++ putL x.life.toNat 8 ++ putL x.seq.toNat 4 ++ putL x.gen.toNat 8 ++ putL x.body.length 2 = (putL x.kind.toNat 1 ++ putL p.toNat 2 ++ putL x.life.toNat 8) ++ (putL x.seq.toNat 4 ++ (putL x.gen.toNat 8 ++ putL x.body.length 2)) by simp]
   rw [cut_mid _ _ _ _ _ (by simp [putL_len]) (by simp [putL_len])]
 have f15 : cut (text p x) 15 8 = putL x.gen.toNat 8 := by
   rw [text_form h, cut_app _ _ _ _ (by rw [head_len]; omega)]
   unfold head
   rw [show putL x.kind.toNat 1 ++ putL p.toNat 2 ++ putL x.life.toNat 8 ++ putL x.seq.toNat 4 ++ putL x.gen.toNat 8 ++ putL x.body.length 2 = (putL x.kind.toNat 1 ++ putL p.toNat 2 ++ putL x.life.toNat 8 ++ putL x.seq.toNat 4) ++ (putL x.gen.toNat 8 ++ putL x.body.length 2) by simp]
   rw [cut_mid _ _ _ _ _ (by simp [putL_len]) (by simp [putL_len])]
 have fb : cut (text p x) 25 x.body.length = x.body := by
   rw [text_form h, cut_mid _ _ _ _ _ (by rw [head_len]) rfl]
 have e8 : (256 : Nat) ^ 8 = 18446744073709551616 := rfl
 unfold ofB
 rw [hl, f0, f3, f11, f15, fb, getN_putL, getN_putL, getN_putL, getN_putL]
 have hk : ((x.kind.toNat % 256 ^ 1 : Nat) : Int) = x.kind := by simp only [Nat.pow_one]; omega
 have hs : ((x.seq.toNat % 256 ^ 4 : Nat) : Int) = x.seq := by simp only [Nat.reducePow]; omega
 have hl8 : UInt64.ofNat (x.life.toNat % 256 ^ 8) = x.life := by rw [e8, Nat.mod_eq_of_lt x.life.toNat_lt]; simp
 have hg8 : UInt64.ofNat (x.gen.toNat % 256 ^ 8) = x.gen := by rw [e8, Nat.mod_eq_of_lt x.gen.toNat_lt]; simp
 rw [hk, hs, hl8, hg8]
theorem reads_text {p : Int} {x : X} (h : rightF p x = 0) : reads p (text p x) = some x := by
 obtain ⟨h1, h2⟩ := of_text h
 have hb := (right_of h).2.2.2.2.2.2
 have := reads_yes (p := p) (b := text p x) (by omega) (by rw [h2]; exact h) (by rw [h2])
 rw [h2] at this; exact this
theorem place_of {p q : Int} {x : X} (h : rightF p x = 0) (h' : rightF q x = 0) (he : text q x = text p x) : q = p := by
 have key : ∀ r, rightF r x = 0 -> cut (text r x) 1 2 = putL r.toNat 2 := fun r hr => by
   rw [text_form hr, cut_app _ _ _ _ (by rw [head_len]; omega)]
   unfold head
   rw [show putL x.kind.toNat 1 ++ putL r.toNat 2 ++ putL x.life.toNat 8 ++ putL x.seq.toNat 4 ++ putL x.gen.toNat 8 ++ putL x.body.length 2 = (putL x.kind.toNat 1) ++ (putL r.toNat 2 ++ (putL x.life.toNat 8 ++ putL x.seq.toNat 4 ++ putL x.gen.toNat 8 ++ putL x.body.length 2)) by simp]
   rw [cut_mid _ _ _ _ _ (by simp [putL_len]) (by simp [putL_len])]
 have h3 := key p h
 have h4 := key q h'
 rw [he, h3] at h4
 have h5 := congrArg getN h4
 rw [getN_putL, getN_putL] at h5
 have := right_of h
 have := right_of h'
 simp only [Nat.reducePow] at h5
 omega
theorem text_blank {p : Int} {x : X} (h : rightF p x = 0) (s : List UInt8) : ¬ blankB (text p x ++ s) = true := by
 intro hb
 have hb : text p x ++ s = zero512 := of_decide_eq_true hb
 have h1 := right_of h
 have e1 : cut (text p x ++ s) 0 1 = putL x.kind.toNat 1 := by
   rw [cut_app _ _ _ _ (by rw [text_len]; omega), text_form h, cut_app _ _ _ _ (by rw [head_len]; omega)]
   unfold head
   rw [show putL x.kind.toNat 1 ++ putL p.toNat 2 ++ putL x.life.toNat 8 ++ putL x.seq.toNat 4 ++ putL x.gen.toNat 8 ++ putL x.body.length 2 = [] ++ (putL x.kind.toNat 1 ++ (putL p.toNat 2 ++ putL x.life.toNat 8 ++ putL x.seq.toNat 4 ++ putL x.gen.toNat 8 ++ putL x.body.length 2)) by simp]
   rw [cut_mid [] _ _ 0 1 rfl (by simp [putL_len])]
 rw [hb] at e1
 have h5 := congrArg getN e1
 rw [getN_putL] at h5
 have h6 : getN (cut zero512 0 1) = 0 := by decide +kernel
 rw [h6] at h5
 simp only [Nat.pow_one] at h5
 omega
theorem dec_back {p : Int} {x : X} (h : rightF p x = 0) (s : List UInt8) (hs : s.length = 8) : decode true p (text p x ++ s) = (x, 0) :=
 dec_yes (by rw [List.length_append, text_len, hs]) (text_blank h s) (by rw [List.take_left' (text_len p x)]; exact reads_text h)
end Go.Proofs.YtchcmklelmlbgaaGreat.Sec
namespace Go.Proofs.YtchcmklelmlbgaaGreat.Sec
open Go.RowKit
open Go.Proofs.YtchcmklelmlbgaaGreat.Num (putL getN)
set_option linter.unusedVariables false
set_option maxRecDepth 100000
def ckS (l : List (List UInt8)) (b : List UInt8) : Bool := checkOf l (b.take 504) (b.drop 504)
theorem decode_sym (p : Int) (g bS : Nat) (l : List (List UInt8)) (A : Option Addr) (b : List UInt8) (n c : Nat) (w : World) (hg : SymAt w g bS l) (hl1 : l.length <= 1000000) (hp0 : -9223372036854775808 <= p) (hp1 : p <= 9223372036854775807) (hn : n = b.length) (hr : Rd w w.heap.size A (b.map e8)) (hl : b.length <= 100000) (hc : n <= c) (hcm : c <= maxLen) :
   Calls Tryz.prog 112 #[.pointer (some ⟨g, 0, none⟩), .int .i64 p, .slice A n c] w fun e w' => RetX (decode (ckS l b) p b).1 (.int .i64 (decode (ckS l b) p b).2) w e w' /\ Below w.heap.size w w' :=
 decode_gen p g (ckS l b) A b n c w hp0 hp1 hn hr hl hc hcm fun h5 W bW A1 A2 c1 c2 r1 r2 =>
   check_sym W g bS l (hg.on bW) A1 A2 (b.take 504) (b.drop 504) 504 c1 8 c2 (by rw [List.length_take]; omega) (by rw [List.length_drop]; omega) r1 r2 (by rw [List.length_take]; omega) hl1
theorem sumOf_len (l : List (List UInt8)) (T : List UInt8) : (sumOf l T).length = 8 := mark_len _
theorem encode_sym (p : Int) (g bS : Nat) (l : List (List UInt8)) (x : X) (A : Option Addr) (c : Nat) (w : World) (hg : SymAt w g bS l) (hl1 : l.length <= 1000000) (hr : Rd w w.heap.size A (x.body.map e8)) (h : rightF p x = 0) :
   Calls Tryz.prog 105 #[.pointer (some ⟨g, 0, none⟩), .int .i64 p, .agg #[.int .i64 x.kind, .int .u64 (x.life.toNat : Int), .int .i64 x.seq, .int .u64 (x.gen.toNat : Int), .slice A x.body.length c]] w fun e w' =>
     ∃ A' c', e = .returned (.tuple #[.slice A' 512 c', .int .i64 0]) /\ w'.ownsRow w.heap.size 5 1 (.slice A' 512 c') 512 ((text p x ++ sumOf l (text p x)).map e8) /\ Keep [bS] w w' /\ SymAt w' g bS (sumAfter l (text p x)) := by
 have hlt := hg.lt
 refine encode_gen p g x A c w hr h (sumOf l (text p x)) (sumOf_len _ _) [bS] (fun j hj => by rw [List.mem_singleton] at hj; subst hj; exact hlt.2) (fun W => SymAt W g bS (sumAfter l (text p x))) (fun W W' r hW hgr hrr => hW.grown hgr (fun e => by have := hrr _ e.symm; omega) (fun e => by have := hrr _ e.symm; omega)) ?_
 intro W bW A1 c1 r1 ha
 refine (sum_sym W g bS l (hg.on bW) A1 (text p x) 504 c1 (text_len _ _).symm r1 (fun a he e => by have := ha a he; injection e with e; omega) (by rw [text_len]; omega) hl1).mono ?_
 rintro e W' ⟨A2, c2, he, own2, k2, s2⟩
 exact ⟨A2, c2, he, Rd.own own2, k2, s2⟩
end Go.Proofs.YtchcmklelmlbgaaGreat.Sec
namespace Go.Proofs.YtchcmklelmlbgaaGreat
open Go.RowKit
open Go.Proofs.YtchcmklelmlbgaaGreat.Disk (St DAt Did)
open Go.Proofs.YtchcmklelmlbgaaGreat.Sec (SymAt SumsAt)
set_option linter.unusedVariables false
theorem Sec.SymAt.keepK {w w' : World} {g b : Nat} {l : List (List UInt8)} {fp : List Nat} (h : SymAt w g b l) (k : Keep fp w w') (h1 : g ∉ fp) (h2 : b ∉ fp) : SymAt w' g b l := by
 obtain ⟨⟨q, hq⟩, n, D, ⟨es, clock, hb, F, hs, hD⟩, r⟩ := h
 exact ⟨⟨q, (k.block (lt_of_block hq) h1).trans hq⟩, n, D, ⟨es, clock, (k.block (lt_of_block hb) h2).trans hb, F, hs, hD⟩, r⟩
structure Both (w : World) (g : Nat) (fp : List Nat) (s : St) (gS bS : Nat) (l : List (List UInt8)) : Prop where
 disk : DAt w g fp s
 sym : SymAt w gS bS l
 nS : gS ∉ fp
 nB : bS ∉ fp
theorem Both.on {w w' : World} {g : Nat} {fp : List Nat} {s : St} {gS bS : Nat} {l : List (List UInt8)} (h : Both w g fp s gS bS l) (b : Below w.heap.size w w') : Both w' g fp s gS bS l :=
 ⟨h.disk.on b, h.sym.on b, h.nS, h.nB⟩
theorem Both.did {w w' : World} {g : Nat} {fp fp' : List Nat} {s s' : St} {gS bS : Nat} {l : List (List UInt8)} (h : Both w g fp s gS bS l) (d : DAt w' g fp' s') (k : Keep fp w w') (f : Fresh w fp fp') : Both w' g fp' s' gS bS l :=
 ⟨d, h.sym.keepK k h.nS h.nB, f.out h.sym.lt.1 h.nS, f.out h.sym.lt.2 h.nB⟩
theorem Both.summed {w w' : World} {g : Nat} {fp : List Nat} {s : St} {gS bS : Nat} {l l' : List (List UInt8)} (h : Both w g fp s gS bS l) (d : SymAt w' gS bS l') (k : Keep [bS] w w') : Both w' g fp s gS bS l' :=
 ⟨h.disk.keep k (fun j hj e => h.nB (by rw [List.mem_singleton] at e; exact e ▸ hj)), d, h.nS, h.nB⟩
def Turn (w : World) (g : Nat) (fp : List Nat) (gS bS : Nat) (s' : St) (l' : List (List UInt8)) (w' : World) : Prop := ∃ fp', Both w' g fp' s' gS bS l' /\ Keep (bS :: fp) w w' /\ Fresh w fp fp'
theorem Turn.trans {w w1 w2 : World} {g : Nat} {fp fp1 : List Nat} {s2 : St} {gS bS : Nat} {l2 : List (List UInt8)} (k : Keep (bS :: fp) w w1) (f : Fresh w fp fp1) (h : Turn w1 g fp1 gS bS s2 l2 w2) : Turn w g fp gS bS s2 l2 w2 := by
 obtain ⟨fp2, b2, k2, f2⟩ := h
 refine ⟨fp2, b2, k.trans k2 ?_, f.trans k.size f2⟩
 intro j hj
 rcases List.mem_cons.1 hj with e | e
 · exact .inl (by rw [e]; simp)
 · exact (f j e).imp (fun h => List.mem_cons_of_mem _ h) id
theorem Turn.ofDid {w w' : World} {g : Nat} {fp : List Nat} {s : St} {gS bS : Nat} {l : List (List UInt8)} {r : St × Int} {e : Ending} (h : Both w g fp s gS bS l) (d : Did w g fp r e w') : e = .returned (.int .i64 r.2) /\ Turn w g fp gS bS r.1 l w' := by
 obtain ⟨he, fp', d, k, f⟩ := d
 exact ⟨he, fp', h.did d k f, k.more (fun j hj => List.mem_cons_of_mem _ hj), f⟩
theorem keepB {fp : List Nat} {bS : Nat} {w w' : World} (k : Keep [bS] w w') : Keep (bS :: fp) w w' := k.more (fun j hj => by rw [List.mem_singleton] at hj; rw [hj]; simp)
theorem keepF {fp : List Nat} {bS : Nat} {w w' : World} (k : Keep fp w w') : Keep (bS :: fp) w w' := k.more (fun j hj => List.mem_cons_of_mem _ hj)
theorem keepT {fp fp1 : List Nat} {bS : Nat} {w w1 w2 : World} (k : Keep (bS :: fp) w w1) (f : Fresh w fp fp1) (k2 : Keep (bS :: fp1) w1 w2) : Keep (bS :: fp) w w2 := by
 refine k.trans k2 ?_
 intro j hj
 rcases List.mem_cons.1 hj with e | e
 · exact .inl (by rw [e]; simp)
 · exact (f j e).imp (fun h => List.mem_cons_of_mem _ h) id
structure Here (w0 w : World) (g : Nat) (fp : List Nat) (s : St) (gS bS : Nat) (l : List (List UInt8)) : Prop where
 both : Both w g fp s gS bS l
 bel : Below w0.heap.size w0 w
 own : ∀ j ∈ bS :: fp, w0.heap.size <= j
theorem Here.start {w w1 w2 : World} {g : Nat} {fp : List Nat} {s : St} {gS bS : Nat} {l : List (List UInt8)} (hD : DAt w1 g fp s) (hfp : ∀ j ∈ fp, w.heap.size <= j) (b1 : Below w.heap.size w w1) (hS : SymAt w2 gS bS l) (hg : w1.heap.size <= gS) (hb : w1.heap.size <= bS) (b2 : Below w1.heap.size w1 w2) : Here w w2 g fp s gS bS l := by
 have hlt := hD.lt
 have h1 := b1.size
 refine ⟨⟨hD.on b2, hS, fun e => ?_, fun e => ?_⟩, bt b1 b2, fun j hj => ?_⟩
 · have := hlt _ e; omega
 · have := hlt _ e; omega
 · rcases List.mem_cons.1 hj with e | e
   · omega
   · exact hfp j e
theorem Disk.DAt.inG {w : World} {g : Nat} {fp : List Nat} {s : St} (h : DAt w g fp s) : g ∈ fp := by obtain ⟨_, _, _, _, h⟩ := h; exact h.inG
theorem Blk.keepK {w w' : World} {g : Nat} {xs : List Value} {fp : List Nat} (h : Blk w g xs) (k : Keep fp w w') (hn : g ∉ fp) : Blk w' g xs := h.elim fun t hh => ⟨t, (k.block (lt_of_block hh) hn).trans hh⟩
end Go.Proofs.YtchcmklelmlbgaaGreat
namespace Go.Proofs.YtchcmklelmlbgaaGreat.Geom
open Go.RowKit
set_option linter.unusedVariables false
def least (a d : Int) : Int := if 2 <= a /\ a <= 4 /\ 1 <= d /\ d <= 3 then d + 2 else 0
theorem least_in {a d : Int} (h1 : 2 <= a) (h2 : a <= 4) (h3 : 1 <= d) (h4 : d <= 3) : least a d = d + 2 := if_pos ⟨h1, h2, h3, h4⟩
theorem least_out {a d : Int} (h : a < 2 \/ 4 < a \/ d < 1 \/ 3 < d) : least a d = 0 := if_neg (by omega)
def right (a d g : Int) : Bool := decide (2 <= a /\ a <= 4 /\ 1 <= d /\ d <= 3 /\ d + 2 <= g /\ g <= 64)
set_option maxHeartbeats 400000 in
theorem least_any (a d g : Int) (w : World) (ha0 : -9223372036854775808 <= a) (ha1 : a <= 9223372036854775807) (hd0 : -9223372036854775808 <= d) (hd1 : d <= 9223372036854775807) :
   Calls Tryz.prog 96 #[.agg #[.int .i64 a, .int .i64 d, .int .i64 g]] w fun e w' => e = .returned (.int .i64 (least a d)) /\ Below w.heap.size w w' := by
 by_cases h1 : a < 2
 · rw [least_out (by omega)]
   go_enter Tryz.func96, Tryz.ntmps96
   go_wp2
   go_ret
   exact ⟨rfl, below_lit _ _⟩
 by_cases h2 : 4 < a
 · rw [least_out (by omega)]
   go_enter Tryz.func96, Tryz.ntmps96
   go_wp2
   go_ret
   exact ⟨rfl, below_lit _ _⟩
 by_cases h3 : d < 1
 · rw [least_out (by omega)]
   go_enter Tryz.func96, Tryz.ntmps96
   go_wp2
   go_ret
   exact ⟨rfl, below_lit _ _⟩
 by_cases h4 : 3 < d
 · rw [least_out (by omega)]
   go_enter Tryz.func96, Tryz.ntmps96
   go_wp2
   go_ret
   exact ⟨rfl, below_lit _ _⟩
 rw [least_in (by omega) (by omega) (by omega) (by omega)]
 go_enter Tryz.func96, Tryz.ntmps96
 go_wp2
 go_ret
 exact ⟨rfl, below_lit _ _⟩
set_option maxHeartbeats 400000 in
theorem right_any (a d g : Int) (w : World) (ha0 : -9223372036854775808 <= a) (ha1 : a <= 9223372036854775807) (hd0 : -9223372036854775808 <= d) (hd1 : d <= 9223372036854775807) (hg0 : -9223372036854775808 <= g) (hg1 : g <= 9223372036854775807) :
   Calls Tryz.prog 67 #[.agg #[.int .i64 a, .int .i64 d, .int .i64 g]] w fun e w' => e = .returned (.bool (right a d g)) /\ Below w.heap.size w w' := by
 by_cases h1 : 2 <= a /\ a <= 4 /\ 1 <= d /\ d <= 3
 · obtain ⟨h1, h2, h3, h4⟩ := h1
   by_cases h5 : d + 2 <= g
   · have hr := Lib.hid (show right a d g = decide (g <= 64) by unfold right; simp [h1, h2, h3, h4, h5])
     go_enter Tryz.func67, Tryz.ntmps67
     go_wp2_with fail
     refine (least_any _ _ _ _ (by omega) (by omega) (by omega) (by omega)).mono ?_
     rintro e w1 ⟨rfl, b1⟩
     rw [least_in h1 h2 h3 h4]
     have hc := b1.cell (p := ⟨w.heap.size, 2, none⟩) (by simp)
     simp at hc
     go_wp2
     go_ret
     exact ⟨ret_bool hr.out.symm, (below_lit _ _).trans (b1.mono (by simp))⟩
   · have hr := Lib.hid (show right a d g = false by unfold right; simp; omega)
     go_enter Tryz.func67, Tryz.ntmps67
     go_wp2_with fail
     refine (least_any _ _ _ _ (by omega) (by omega) (by omega) (by omega)).mono ?_
     rintro e w1 ⟨rfl, b1⟩
     rw [least_in h1 h2 h3 h4]
     have hc := b1.cell (p := ⟨w.heap.size, 2, none⟩) (by simp)
     simp at hc
     go_wp2
     go_ret
     exact ⟨ret_bool (by rw [hr.out]), (below_lit _ _).trans (b1.mono (by simp))⟩
 · have hr := Lib.hid (show right a d g = false by unfold right; simp; omega)
   go_enter Tryz.func67, Tryz.ntmps67
   go_wp2_with fail
   refine (least_any _ _ _ _ (by omega) (by omega) (by omega) (by omega)).mono ?_
   rintro e w1 ⟨rfl, b1⟩
   rw [least_out (by omega)]
   have hc := b1.cell (p := ⟨w.heap.size, 2, none⟩) (by simp)
   simp at hc
   go_wp2
   go_ret
   exact ⟨ret_bool (by rw [hr.out]), (below_lit _ _).trans (b1.mono (by simp))⟩
def nodes (a d : Int) : Int := if d = 1 then 1 else if d = 2 then 1 + a else 1 + a + a * a
def leaves (a d : Int) : Int := if d = 1 then a else if d = 2 then a * a else a * a * a
theorem nine {P : Int -> Int -> Prop} {a d : Int} (h1 : 2 <= a) (h2 : a <= 4) (h3 : 1 <= d) (h4 : d <= 3) (h : P 2 1 /\ P 3 1 /\ P 4 1 /\ P 2 2 /\ P 3 2 /\ P 4 2 /\ P 2 3 /\ P 3 3 /\ P 4 3) : P a d := by
 obtain rfl | rfl | rfl : a = 2 \/ a = 3 \/ a = 4 := by omega
 all_goals obtain rfl | rfl | rfl : d = 1 \/ d = 2 \/ d = 3 := by omega
 all_goals simp [h]
theorem right_yes {a d g : Int} (h : right a d g = true) : 2 <= a /\ a <= 4 /\ 1 <= d /\ d <= 3 /\ d + 2 <= g /\ g <= 64 := by simpa [right] using h
def nUp (a : Int) (k : Nat) : Int := if k = 0 then 0 else nodes a k
def lUp (a : Int) (k : Nat) : Int := if k = 0 then 1 else leaves a k
theorem nUp_succ (a : Int) (k : Nat) (hk : k < 3) : nUp a (k + 1) = nUp a k + lUp a k := by
 obtain rfl | rfl | rfl : k = 0 \/ k = 1 \/ k = 2 := by omega
 all_goals simp [nUp, lUp, nodes, leaves]
theorem lUp_succ (a : Int) (k : Nat) (hk : k < 3) : lUp a (k + 1) = lUp a k * a := by
 obtain rfl | rfl | rfl : k = 0 \/ k = 1 \/ k = 2 := by omega
 all_goals simp [lUp, leaves]
theorem lUp_bd {a : Int} (k : Nat) (hk : k <= 3) (h1 : 2 <= a) (h2 : a <= 4) : 1 <= lUp a k /\ lUp a k <= 64 := by
 obtain rfl | rfl | rfl | rfl : k = 0 \/ k = 1 \/ k = 2 \/ k = 3 := by omega
 all_goals obtain rfl | rfl | rfl : a = 2 \/ a = 3 \/ a = 4 := by omega
 all_goals decide
theorem nUp_bd {a : Int} (k : Nat) (hk : k <= 3) (h1 : 2 <= a) (h2 : a <= 4) : 0 <= nUp a k /\ nUp a k <= 21 := by
 obtain rfl | rfl | rfl | rfl : k = 0 \/ k = 1 \/ k = 2 \/ k = 3 := by omega
 all_goals obtain rfl | rfl | rfl : a = 2 \/ a = 3 \/ a = 4 := by omega
 all_goals decide
theorem up_all {a d : Int} (h3 : 1 <= d) (h4 : d <= 3) : nUp a d.toNat = nodes a d /\ lUp a d.toNat = leaves a d := by
 obtain rfl | rfl | rfl : d = 1 \/ d = 2 \/ d = 3 := by omega
 all_goals exact ⟨rfl, rfl⟩
def nodesOf (a d g : Int) : Int := if right a d g then nodes a d else 0
def leavesOf (a d g : Int) : Int := if right a d g then leaves a d else 0
set_option maxHeartbeats 400000 in
theorem levels_any (a d g : Int) (w : World) (ha0 : -9223372036854775808 <= a) (ha1 : a <= 9223372036854775807) (hd0 : -9223372036854775808 <= d) (hd1 : d <= 9223372036854775807) (hg0 : -9223372036854775808 <= g) (hg1 : g <= 9223372036854775807) :
   Calls Tryz.prog 98 #[.agg #[.int .i64 a, .int .i64 d, .int .i64 g]] w fun e w' => e = .returned (.tuple #[.int .i64 (nodesOf a d g), .int .i64 (leavesOf a d g)]) /\ Below w.heap.size w w' := by
 by_cases hr : right a d g = true
 · obtain ⟨h1, h2, h3, h4, h5, h6⟩ := right_yes hr
   have hno := Lib.hid (show nodesOf a d g = nodes a d by simp [nodesOf, hr])
   have hle := Lib.hid (show leavesOf a d g = leaves a d by simp [leavesOf, hr])
   have hup := Lib.hid (up_all (a := a) h3 h4)
   have Hr := Lib.hid hr
   clear hr
   go_enter Tryz.func98, Tryz.ntmps98
   go_wp2_with fail
   refine (right_any _ _ _ _ (by omega) (by omega) (by omega) (by omega) (by omega) (by omega)).mono ?_
   rintro e w1 ⟨rfl, b1⟩
   rw [Hr.out]
   have hc := b1.cell (p := ⟨w.heap.size, 0, none⟩) (by simp)
   have hc' := b1.cell (p := ⟨w.heap.size, 1, none⟩) (by simp)
   simp at hc hc'
   have bw := (below_lit w _).trans (b1.mono (by simp))
   go_wp2
   go_loop [2, 3, 9] (fun n l i => ∃ k : Nat, (k : Int) <= d /\ i = .int .i64 k /\ n = .int .i64 (nUp a k) /\ l = .int .i64 (lUp a k)) (fun _ _ i => (d - intOf i).toNat)
   case atStart => exact ⟨0, by omega, rfl, rfl, rfl⟩
   case round =>
     obtain ⟨k, hk, rfl, rfl, rfl⟩ := hrel
     by_cases hlt : (k : Int) < d
     · have e1 := Lib.hid (nUp_succ a k (by omega))
       have e2 := Lib.hid (lUp_succ a k (by omega))
       have l1 := lUp_bd k (by omega) h1 h2
       have l2 := lUp_bd (k + 1) (by omega) h1 h2
       rw [e2.out] at l2
       have n1 := nUp_bd k (by omega) h1 h2
       go_wp2
       go_round
       case rel => exact ⟨k + 1, by omega, by go_num, by rw [e1.out], by rw [e2.out]⟩
       case measure => simp [intOf]; omega
     · obtain rfl : d = (k : Int) := by omega
       go_wp2
       go_ret2
       exact ⟨by rw [hno.out, hle.out, <- hup.out.1, <- hup.out.2]; rfl, bw⟩
 · have hr' : right a d g = false := by simpa using hr
   have hno := Lib.hid (show nodesOf a d g = 0 by simp [nodesOf, hr'])
   have hle := Lib.hid (show leavesOf a d g = 0 by simp [leavesOf, hr'])
   have Hr := Lib.hid hr'
   clear hr hr'
   go_enter Tryz.func98, Tryz.ntmps98
   go_wp2_with fail
   refine (right_any _ _ _ _ (by omega) (by omega) (by omega) (by omega) (by omega) (by omega)).mono ?_
   rintro e w1 ⟨rfl, b1⟩
   rw [Hr.out]
   go_wp2
   go_ret2
   exact ⟨by rw [hno.out, hle.out]; rfl, (below_lit w _).trans (b1.mono (by simp))⟩
end Go.Proofs.YtchcmklelmlbgaaGreat.Geom
namespace Go.Proofs.YtchcmklelmlbgaaGreat.Geom
open Go.RowKit
set_option linter.unusedVariables false
abbrev lo : Int := -9223372036854775808
abbrev hi : Int := 9223372036854775807
def pagesOf (a d g : Int) : Int := nodesOf a d g + leavesOf a d g
theorem nodesOf_bd (a d g : Int) : 0 <= nodesOf a d g /\ nodesOf a d g <= 21 := by
 unfold nodesOf
 by_cases h : right a d g = true
 · rw [if_pos h]
   obtain ⟨h1, h2, h3, h4, _⟩ := right_yes h
   exact nine (P := fun a d => 0 <= nodes a d /\ nodes a d <= 21) h1 h2 h3 h4 (by decide)
 · rw [if_neg h]; omega
theorem leavesOf_bd (a d g : Int) : 0 <= leavesOf a d g /\ leavesOf a d g <= 64 := by
 unfold leavesOf
 by_cases h : right a d g = true
 · rw [if_pos h]
   obtain ⟨h1, h2, h3, h4, _⟩ := right_yes h
   exact nine (P := fun a d => 0 <= leaves a d /\ leaves a d <= 64) h1 h2 h3 h4 (by decide)
 · rw [if_neg h]; omega
theorem pagesOf_bd (a d g : Int) : 0 <= pagesOf a d g /\ pagesOf a d g <= 85 := by
 have := nodesOf_bd a d g; have := leavesOf_bd a d g; unfold pagesOf; omega
set_option maxHeartbeats 400000 in
theorem pages_any (a d g : Int) (w : World) (ha0 : lo <= a) (ha1 : a <= hi) (hd0 : lo <= d) (hd1 : d <= hi) (hg0 : lo <= g) (hg1 : g <= hi) :
   Calls Tryz.prog 70 #[.agg #[.int .i64 a, .int .i64 d, .int .i64 g]] w fun e w' => e = .returned (.int .i64 (pagesOf a d g)) /\ Below w.heap.size w w' := by
 have h1 := nodesOf_bd a d g
 have h2 := leavesOf_bd a d g
 go_enter Tryz.func70, Tryz.ntmps70
 go_wp2_with (go_at_call 98; refine (levels_any _ _ _ _ ha0 ha1 hd0 hd1 hg0 hg1).mono ?_; rintro e w' ⟨rfl, b1⟩)
 go_ret
 exact ⟨rfl, (below_lit w _).trans (b1.mono (by simp))⟩
def partsV (a d g : Int) : Value := .agg #[.string ⟨#[114, 111, 111, 116]⟩, .int .i64 2, .string ⟨#[115, 117, 112, 101, 114]⟩, .int .i64 2, .string ⟨#[108, 111, 103]⟩, .int .i64 g, .string ⟨#[97, 114, 101, 97]⟩, .int .i64 (2 * pagesOf a d g)]
set_option maxHeartbeats 800000 in
theorem parts_any (a d g : Int) (w : World) (ha0 : lo <= a) (ha1 : a <= hi) (hd0 : lo <= d) (hd1 : d <= hi) (hg0 : lo <= g) (hg1 : g <= hi) :
   Calls Tryz.prog 97 #[.agg #[.int .i64 a, .int .i64 d, .int .i64 g]] w fun e w' => e = .returned (partsV a d g) /\ Below w.heap.size w w' := by
 have h1 := pagesOf_bd a d g
 have hwr : IntKind.i64.wrap (2 * pagesOf a d g) = 2 * pagesOf a d g := IntWalk.i64_in _ (by omega)
 go_enter Tryz.func97, Tryz.ntmps97
 go_wp2
 go_region_with (go_at_call 70; refine (pages_any _ _ _ _ ha0 ha1 hd0 hd1 hg0 hg1).mono ?_; rintro e w1 ⟨rfl, b1⟩; obtain ⟨hc1, hf1, hs1⟩ := bcell b1; simp at hs1)
 all_goals go_wp2
 all_goals
   refine bodyPost_ret (v := partsV a d g) (by unfold partsV; simp [results, Tryz.results97, go_sem, hc1]) rfl ⟨rfl, ?_⟩
   repeat refine Below.setCell ?_ (by simp) _
   exact bt (b2alloc _ _ _).drew b1
def psum (g p : Int) : Nat -> Int | 0 => 0 | 1 => 2 | 2 => 4 | 3 => 4 + g | _ => 4 + g + p
def sizeOf (a d g : Int) : Int := if right a d g then 4 + g + 2 * pagesOf a d g else 0
set_option maxHeartbeats 800000 in
theorem size_any (a d g : Int) (w : World) (ha0 : lo <= a) (ha1 : a <= hi) (hd0 : lo <= d) (hd1 : d <= hi) (hg0 : lo <= g) (hg1 : g <= hi) :
   Calls Tryz.prog 69 #[.agg #[.int .i64 a, .int .i64 d, .int .i64 g]] w fun e w' => e = .returned (.int .i64 (sizeOf a d g)) /\ Below w.heap.size w w' := by
 by_cases hr : right a d g = true
 · obtain ⟨h1, h2, h3, h4, h5, h6⟩ := right_yes hr
   have hsz := Lib.hid (show sizeOf a d g = 4 + g + 2 * pagesOf a d g by simp [sizeOf, hr])
   have hp := pagesOf_bd a d g
   have Hr := Lib.hid hr
   clear hr
   obtain ⟨p, hpe⟩ : ∃ p, p = 2 * pagesOf a d g := ⟨_, rfl⟩
   have hp1 : 0 <= p := by omega
   have hp2 : p <= 170 := by omega
   have Hp := Lib.hid hpe
   have i0 : ∀ w, (Instr.index 164 (.agg #[.string ⟨#[114, 111, 111, 116]⟩, .int .i64 2, .string ⟨#[115, 117, 112, 101, 114]⟩, .int .i64 2, .string ⟨#[108, 111, 103]⟩, .int .i64 g, .string ⟨#[97, 114, 101, 97]⟩, .int .i64 p]) (.int .i64 0)).run Tryz.prog w = .ok (.agg #[.string ⟨#[114, 111, 111, 116]⟩, .int .i64 2]) w := fun _ => by kernel_rfl
   have i1 : ∀ w, (Instr.index 164 (.agg #[.string ⟨#[114, 111, 111, 116]⟩, .int .i64 2, .string ⟨#[115, 117, 112, 101, 114]⟩, .int .i64 2, .string ⟨#[108, 111, 103]⟩, .int .i64 g, .string ⟨#[97, 114, 101, 97]⟩, .int .i64 p]) (.int .i64 1)).run Tryz.prog w = .ok (.agg #[.string ⟨#[115, 117, 112, 101, 114]⟩, .int .i64 2]) w := fun _ => by kernel_rfl
   have i2 : ∀ w, (Instr.index 164 (.agg #[.string ⟨#[114, 111, 111, 116]⟩, .int .i64 2, .string ⟨#[115, 117, 112, 101, 114]⟩, .int .i64 2, .string ⟨#[108, 111, 103]⟩, .int .i64 g, .string ⟨#[97, 114, 101, 97]⟩, .int .i64 p]) (.int .i64 2)).run Tryz.prog w = .ok (.agg #[.string ⟨#[108, 111, 103]⟩, .int .i64 g]) w := fun _ => by kernel_rfl
   have i3 : ∀ w, (Instr.index 164 (.agg #[.string ⟨#[114, 111, 111, 116]⟩, .int .i64 2, .string ⟨#[115, 117, 112, 101, 114]⟩, .int .i64 2, .string ⟨#[108, 111, 103]⟩, .int .i64 g, .string ⟨#[97, 114, 101, 97]⟩, .int .i64 p]) (.int .i64 3)).run Tryz.prog w = .ok (.agg #[.string ⟨#[97, 114, 101, 97]⟩, .int .i64 p]) w := fun _ => by kernel_rfl
   go_enter Tryz.func69, Tryz.ntmps69
   go_wp2_with fail
   refine (right_any _ _ _ _ ha0 ha1 hd0 hd1 hg0 hg1).mono ?_
   rintro e w1 ⟨rfl, b1⟩
   rw [Hr.out]
   obtain ⟨hc1, hf1, hs1⟩ := bcell b1
   simp at hs1
   have bw := (below_lit w _).trans (b1.mono (by simp))
   go_wp2_with fail
   refine (parts_any _ _ _ _ ha0 ha1 hd0 hd1 hg0 hg1).mono ?_
   rintro e w2 ⟨rfl, b2⟩
   unfold partsV
   rw [<- hpe]
   clear hpe hc1 hf1
   have bw2 := bw.trans (b2.mono bw.size)
   go_wp2_with fail
   go_loopw [2, 4, 10] (fun n _ i wr => ∃ k : Nat, k <= 4 /\ i = .int .i64 k /\ n = .int .i64 (psum g p k) /\ Below w.heap.size w wr) (fun _ _ i _ => (4 - intOf i).toNat)
   case atStart => exact ⟨0, by omega, rfl, rfl, bw2⟩
   case round =>
     obtain ⟨k, hk, rfl, rfl, hbel⟩ := hrel
     have hbs := hbel.size
     obtain rfl | rfl | rfl | rfl | rfl : k = 0 \/ k = 1 \/ k = 2 \/ k = 3 \/ k = 4 := by omega
     · simp only [psum, Int.cast_ofNat_Int]
       go_wp2
       go_roundw
       case rel => exact ⟨1, by omega, rfl, rfl, hbel.alloc hbs _⟩
       case measure => simp [intOf]
     · simp only [psum, Int.cast_ofNat_Int]
       go_wp2
       go_roundw
       case rel => exact ⟨2, by omega, rfl, rfl, hbel.alloc hbs _⟩
       case measure => simp [intOf]
     · simp only [psum, Int.cast_ofNat_Int]
       go_wp2
       go_roundw
       case rel => exact ⟨3, by omega, rfl, rfl, hbel.alloc hbs _⟩
       case measure => simp [intOf]
     · simp only [psum, Int.cast_ofNat_Int]
       go_wp2
       go_roundw
       case rel => exact ⟨4, by omega, rfl, rfl, hbel.alloc hbs _⟩
       case measure => simp [intOf]
     · simp only [psum, Int.cast_ofNat_Int]
       go_wp2
       go_ret
       exact ⟨ret_int (by rw [hsz.out, <- Hp.out]), hbel⟩
 · have hr' : right a d g = false := by simpa using hr
   have hsz := Lib.hid (show sizeOf a d g = 0 by simp [sizeOf, hr'])
   have Hr := Lib.hid hr'
   clear hr hr'
   go_enter Tryz.func69, Tryz.ntmps69
   go_wp2_with fail
   refine (right_any _ _ _ _ ha0 ha1 hd0 hd1 hg0 hg1).mono ?_
   rintro e w1 ⟨rfl, b1⟩
   rw [Hr.out]
   go_wp2
   go_ret
   exact ⟨ret_int hsz.out.symm, bt (below_lit w _) b1⟩
end Go.Proofs.YtchcmklelmlbgaaGreat.Geom
namespace Go.Proofs.YtchcmklelmlbgaaGreat.Geom
open Go.RowKit
set_option linter.unusedVariables false
set_option maxHeartbeats 400000 in
theorem super_any (n : UInt64) (m : Int) (hm : m = (n.toNat : Int)) (w : World) : Calls Tryz.prog 99 #[.int .u64 m] w fun e w' => e = .returned (.int .i64 (2 + (n.toNat : Int) % 2)) /\ w = w' := by
 subst hm
 have h0 : (0 : Int) <= (n.toNat : Int) := by omega
 have h1 : (n.toNat : Int) <= 18446744073709551615 := by have := n.toNat_lt; omega
 go_enter Tryz.func99, Tryz.ntmps99
 go_wp2
 go_ret
 exact ⟨rfl, rfl⟩
def logAt (a d g i : Int) : Int := if right a d g = true /\ 0 <= i then 4 + i % g else -1
set_option maxHeartbeats 400000 in
theorem log_any (a d g i : Int) (w : World) (ha0 : lo <= a) (ha1 : a <= hi) (hd0 : lo <= d) (hd1 : d <= hi) (hg0 : lo <= g) (hg1 : g <= hi) (hi0 : lo <= i) (hi1 : i <= hi) :
   Calls Tryz.prog 76 #[.agg #[.int .i64 a, .int .i64 d, .int .i64 g], .int .i64 i] w fun e w' => e = .returned (.int .i64 (logAt a d g i)) /\ Below w.heap.size w w' := by
 by_cases hr : right a d g = true
 · obtain ⟨h1, h2, h3, h4, h5, h6⟩ := right_yes hr
   by_cases hi : 0 <= i
   · have hl := Lib.hid (show logAt a d g i = 4 + i % g from if_pos ⟨hr, hi⟩)
     have Hr := Lib.hid hr
     clear hr
     have hb0 := Int.emod_nonneg i (by omega : g ≠ 0)
     have hb1 := Int.emod_lt_of_pos i (by omega : 0 < g)
     go_enter Tryz.func76, Tryz.ntmps76
     go_wp2_with fail
     refine (right_any _ _ _ _ ha0 ha1 hd0 hd1 hg0 hg1).mono ?_
     rintro e w1 ⟨rfl, b1⟩
     rw [Hr.out]
     obtain ⟨hc1, hf1, hs1⟩ := bcell b1
     simp at hs1
     go_wp2
     go_ret
     exact ⟨ret_int hl.out.symm, bt (below_lit w _) b1⟩
   · have hl := Lib.hid (show logAt a d g i = -1 from if_neg (by omega))
     have Hr := Lib.hid hr
     clear hr
     go_enter Tryz.func76, Tryz.ntmps76
     go_wp2_with fail
     refine (right_any _ _ _ _ ha0 ha1 hd0 hd1 hg0 hg1).mono ?_
     rintro e w1 ⟨rfl, b1⟩
     rw [Hr.out]
     go_wp2
     go_ret
     exact ⟨ret_int hl.out.symm, bt (below_lit w _) b1⟩
 · have hr' : right a d g = false := by simpa using hr
   have hl := Lib.hid (show logAt a d g i = -1 from if_neg (by simp [hr']))
   have Hr := Lib.hid hr'
   clear hr hr'
   go_enter Tryz.func76, Tryz.ntmps76
   go_wp2_with fail
   refine (right_any _ _ _ _ ha0 ha1 hd0 hd1 hg0 hg1).mono ?_
   rintro e w1 ⟨rfl, b1⟩
   rw [Hr.out]
   go_wp2
   go_ret
   exact ⟨ret_int hl.out.symm, bt (below_lit w _) b1⟩
def areaAt (a d g n i : Int) : Int := if 0 <= i /\ i < pagesOf a d g then 4 + g + n % 2 * pagesOf a d g + i else -1
theorem pages_right {a d g i : Int} (h0 : 0 <= i) (h : i < pagesOf a d g) : right a d g = true := by
 by_cases hr : right a d g = true
 · exact hr
 · simp [pagesOf, nodesOf, leavesOf, hr] at h; omega
set_option maxHeartbeats 400000 in
theorem area_any (a d g : Int) (n : UInt64) (m : Int) (hm : m = (n.toNat : Int)) (i : Int) (w : World) (ha0 : lo <= a) (ha1 : a <= hi) (hd0 : lo <= d) (hd1 : d <= hi) (hg0 : lo <= g) (hg1 : g <= hi) (hi0 : lo <= i) (hi1 : i <= hi) :
   Calls Tryz.prog 116 #[.agg #[.int .i64 a, .int .i64 d, .int .i64 g], .int .u64 m, .int .i64 i] w fun e w' => e = .returned (.int .i64 (areaAt a d g n.toNat i)) /\ Below w.heap.size w w' := by
 subst hm
 have h0 : (0 : Int) <= (n.toNat : Int) := by omega
 have h1 : (n.toNat : Int) <= 18446744073709551615 := by have := n.toNat_lt; omega
 have hp := pagesOf_bd a d g
 by_cases hi : 0 <= i
 · by_cases hj : i < pagesOf a d g
   · obtain ⟨r1, r2, r3, r4, r5, r6⟩ := right_yes (pages_right hi hj)
     have hl := Lib.hid (show areaAt a d g n.toNat i = 4 + g + n.toNat % 2 * pagesOf a d g + i from if_pos ⟨hi, hj⟩)
     have hm2 : (0 : Int) <= (n.toNat : Int) % 2 * pagesOf a d g /\ (n.toNat : Int) % 2 * pagesOf a d g <= 85 := by
       rcases (by omega : (n.toNat : Int) % 2 = 0 \/ (n.toNat : Int) % 2 = 1) with e | e <;> rw [e] <;> omega
     go_enter Tryz.func116, Tryz.ntmps116
     go_wp2_with fail
     refine (pages_any _ _ _ _ ha0 ha1 hd0 hd1 hg0 hg1).mono ?_
     rintro e w1 ⟨rfl, b1⟩
     obtain ⟨hc1, hf1, hs1⟩ := bcell b1
     simp at hs1
     go_wp2
     go_ret
     exact ⟨ret_int hl.out.symm, bt (below_lit w _) b1⟩
   · have hl := Lib.hid (show areaAt a d g n.toNat i = -1 from if_neg (by omega))
     go_enter Tryz.func116, Tryz.ntmps116
     go_wp2_with fail
     refine (pages_any _ _ _ _ ha0 ha1 hd0 hd1 hg0 hg1).mono ?_
     rintro e w1 ⟨rfl, b1⟩
     go_wp2
     go_ret
     exact ⟨ret_int hl.out.symm, bt (below_lit w _) b1⟩
 · have hl := Lib.hid (show areaAt a d g n.toNat i = -1 from if_neg (by omega))
   go_enter Tryz.func116, Tryz.ntmps116
   go_wp2_with fail
   refine (pages_any _ _ _ _ ha0 ha1 hd0 hd1 hg0 hg1).mono ?_
   rintro e w1 ⟨rfl, b1⟩
   go_wp2
   go_ret
   exact ⟨ret_int hl.out.symm, bt (below_lit w _) b1⟩
set_option maxHeartbeats 400000 in
theorem rleast_any (a d g : Int) (w : World) (ha0 : -9223372036854775808 <= a) (ha1 : a <= 9223372036854775807) (hd0 : -9223372036854775808 <= d) (hd1 : d <= 9223372036854775807) :
   Calls Tryz.prog 34 #[.agg #[.int .i64 a, .int .i64 d, .int .i64 g]] w fun e w' => e = .returned (.int .i64 (least a d)) /\ Below w.heap.size w w' := by
 by_cases h1 : a < 2
 · rw [least_out (by omega)]
   go_enter Tryz.func34, Tryz.ntmps34
   go_wp2
   go_ret
   exact ⟨rfl, below_lit _ _⟩
 by_cases h2 : 4 < a
 · rw [least_out (by omega)]
   go_enter Tryz.func34, Tryz.ntmps34
   go_wp2
   go_ret
   exact ⟨rfl, below_lit _ _⟩
 by_cases h3 : d < 1
 · rw [least_out (by omega)]
   go_enter Tryz.func34, Tryz.ntmps34
   go_wp2
   go_ret
   exact ⟨rfl, below_lit _ _⟩
 by_cases h4 : 3 < d
 · rw [least_out (by omega)]
   go_enter Tryz.func34, Tryz.ntmps34
   go_wp2
   go_ret
   exact ⟨rfl, below_lit _ _⟩
 rw [least_in (by omega) (by omega) (by omega) (by omega)]
 go_enter Tryz.func34, Tryz.ntmps34
 go_wp2
 go_ret
 exact ⟨rfl, below_lit _ _⟩
set_option maxHeartbeats 800000 in
theorem rright_any (a d g : Int) (w : World) (ha0 : lo <= a) (ha1 : a <= hi) (hd0 : lo <= d) (hd1 : d <= hi) (hg0 : lo <= g) (hg1 : g <= hi) :
   Calls Tryz.prog 9 #[.agg #[.int .i64 a, .int .i64 d, .int .i64 g]] w fun e w' => e = .returned (.bool (right a d g)) /\ Below w.heap.size w w' := by
 by_cases h1 : 2 <= a /\ a <= 4 /\ 1 <= d /\ d <= 3
 · obtain ⟨h1, h2, h3, h4⟩ := h1
   have hl := Lib.hid (least_in h1 h2 h3 h4)
   have hp : (0 : Int) < d + 2 := by omega
   by_cases h5 : d + 2 <= g
   · by_cases h6 : g <= 64
     · have hr := Lib.hid (show right a d g = true by unfold right; simp [h1, h2, h3, h4, h5, h6])
       go_enter Tryz.func9, Tryz.ntmps9
       go_wp2
       refine region_inb (by kernel_rfl) (by kernel_rfl) ?_
       have inbNe := InB.some
       have inbW := @wrap_small
       have inbU := IntKind.wrap_u8'
       repeat (refine wpQuiet_step (fun K hK => ?_); go_simp; first | (refine hK _ ?_; clear hK K) | (apply Exists.intro; refine ⟨?_, hK _ ?_⟩; (· (intro w' hw'; first | (go_at_call 34; refine (rleast_any _ _ _ _ ha0 ha1 hd0 hd1).mono ?_; rintro e w1 ⟨rfl, b1⟩; rw [hl.out]; exact ⟨rfl, hw'.on b1⟩) | (have hcw := hw'.cell; go_simp; exact rfl))); clear hK K))
       refine wpQuiet_nil ?_
       intro wq hq
       clear inbNe inbW inbU
       go_wp2
       go_ret
       exact ⟨ret_bool hr.out.symm, bt (b1alloc _ _) hq⟩
     · have hr := Lib.hid (show right a d g = false by unfold right; simp; omega)
       have h7 : decide (g <= 64) = false := by simp; omega
       go_enter Tryz.func9, Tryz.ntmps9
       go_wp2
       refine region_inb (by kernel_rfl) (by kernel_rfl) ?_
       have inbNe := InB.some
       have inbW := @wrap_small
       have inbU := IntKind.wrap_u8'
       repeat (refine wpQuiet_step (fun K hK => ?_); go_simp; first | (refine hK _ ?_; clear hK K) | (apply Exists.intro; refine ⟨?_, hK _ ?_⟩; (· (intro w' hw'; first | (go_at_call 34; refine (rleast_any _ _ _ _ ha0 ha1 hd0 hd1).mono ?_; rintro e w1 ⟨rfl, b1⟩; rw [hl.out]; exact ⟨rfl, hw'.on b1⟩) | (have hcw := hw'.cell; go_simp; exact rfl))); clear hK K))
       refine wpQuiet_nil ?_
       intro wq hq
       clear inbNe inbW inbU
       go_wp2
       go_ret
       exact ⟨ret_bool hr.out.symm, bt (b1alloc _ _) hq⟩
   · have hr := Lib.hid (show right a d g = false by unfold right; simp; omega)
     have h7 : decide (d + 2 <= g) = false := by simp; omega
     go_enter Tryz.func9, Tryz.ntmps9
     go_wp2
     refine region_inb (by kernel_rfl) (by kernel_rfl) ?_
     have inbNe := InB.some
     have inbW := @wrap_small
     have inbU := IntKind.wrap_u8'
     repeat (refine wpQuiet_step (fun K hK => ?_); go_simp; first | (refine hK _ ?_; clear hK K) | (apply Exists.intro; refine ⟨?_, hK _ ?_⟩; (· (intro w' hw'; first | (go_at_call 34; refine (rleast_any _ _ _ _ ha0 ha1 hd0 hd1).mono ?_; rintro e w1 ⟨rfl, b1⟩; rw [hl.out]; exact ⟨rfl, hw'.on b1⟩) | (have hcw := hw'.cell; go_simp; exact rfl))); clear hK K))
     refine wpQuiet_nil ?_
     intro wq hq
     clear inbNe inbW inbU
     go_wp2
     go_ret
     exact ⟨ret_bool hr.out.symm, bt (b1alloc _ _) hq⟩
 · have hr := Lib.hid (show right a d g = false by unfold right; simp; omega)
   have hl := Lib.hid (least_out (a := a) (d := d) (by omega))
   go_enter Tryz.func9, Tryz.ntmps9
   go_wp2
   refine region_inb (by kernel_rfl) (by kernel_rfl) ?_
   have inbNe := InB.some
   have inbW := @wrap_small
   have inbU := IntKind.wrap_u8'
   repeat (refine wpQuiet_step (fun K hK => ?_); go_simp; first | (refine hK _ ?_; clear hK K) | (apply Exists.intro; refine ⟨?_, hK _ ?_⟩; (· (intro w' hw'; first | (go_at_call 34; refine (rleast_any _ _ _ _ ha0 ha1 hd0 hd1).mono ?_; rintro e w1 ⟨rfl, b1⟩; rw [hl.out]; exact ⟨rfl, hw'.on b1⟩) | (have hcw := hw'.cell; go_simp; exact rfl))); clear hK K))
   refine wpQuiet_nil ?_
   intro wq hq
   clear inbNe inbW inbU
   go_wp2
   go_ret
   exact ⟨ret_bool hr.out.symm, bt (b1alloc _ _) hq⟩
set_option maxHeartbeats 400000 in
theorem rleaves_any (a d g : Int) (w : World) (ha0 : lo <= a) (ha1 : a <= hi) (hd0 : lo <= d) (hd1 : d <= hi) (hg0 : lo <= g) (hg1 : g <= hi) :
   Calls Tryz.prog 59 #[.agg #[.int .i64 a, .int .i64 d, .int .i64 g]] w fun e w' => e = .returned (.int .i64 (leavesOf a d g)) /\ Below w.heap.size w w' := by
 by_cases hr : right a d g = true
 · obtain ⟨h1, h2, h3, h4, h5, h6⟩ := right_yes hr
   have hle := Lib.hid (show leavesOf a d g = leaves a d by simp [leavesOf, hr])
   have hup := Lib.hid (up_all (a := a) h3 h4)
   have Hr := Lib.hid hr
   clear hr
   go_enter Tryz.func59, Tryz.ntmps59
   go_wp2_with fail
   refine (rright_any _ _ _ _ ha0 ha1 hd0 hd1 hg0 hg1).mono ?_
   rintro e w1 ⟨rfl, b1⟩
   rw [Hr.out]
   have hc := b1.cell (p := ⟨w.heap.size, 0, none⟩) (by simp)
   have hc' := b1.cell (p := ⟨w.heap.size, 1, none⟩) (by simp)
   simp at hc hc'
   have bw := bt (below_lit w _) b1
   go_wp2
   go_loop [3, 4] (fun l i => ∃ k : Nat, (k : Int) <= d /\ i = .int .i64 k /\ l = .int .i64 (lUp a k)) (fun _ i => (d - intOf i).toNat)
   case atStart => exact ⟨0, by omega, rfl, rfl⟩
   case round =>
     obtain ⟨k, hk, rfl, rfl⟩ := hrel
     by_cases hlt : (k : Int) < d
     · have e2 := Lib.hid (lUp_succ a k (by omega))
       have l1 := lUp_bd k (by omega) h1 h2
       have l2 := lUp_bd (k + 1) (by omega) h1 h2
       rw [e2.out] at l2
       go_wp2
       go_round
       case rel => exact ⟨k + 1, by omega, by go_num, by rw [e2.out]⟩
       case measure => simp [intOf]; omega
     · obtain rfl : d = (k : Int) := by omega
       go_wp2
       go_ret
       exact ⟨ret_int (by rw [hle.out, <- hup.out.2]; rfl), bw⟩
 · have hr' : right a d g = false := by simpa using hr
   have hle := Lib.hid (show leavesOf a d g = 0 by simp [leavesOf, hr'])
   have Hr := Lib.hid hr'
   clear hr hr'
   go_enter Tryz.func59, Tryz.ntmps59
   go_wp2_with fail
   refine (rright_any _ _ _ _ ha0 ha1 hd0 hd1 hg0 hg1).mono ?_
   rintro e w1 ⟨rfl, b1⟩
   rw [Hr.out]
   go_wp2
   go_ret
   exact ⟨ret_int hle.out.symm, bt (below_lit w _) b1⟩
set_option maxHeartbeats 400000 in
theorem rnodes_any (a d g : Int) (w : World) (ha0 : lo <= a) (ha1 : a <= hi) (hd0 : lo <= d) (hd1 : d <= hi) (hg0 : lo <= g) (hg1 : g <= hi) :
   Calls Tryz.prog 58 #[.agg #[.int .i64 a, .int .i64 d, .int .i64 g]] w fun e w' => e = .returned (.int .i64 (nodesOf a d g)) /\ Below w.heap.size w w' := by
 by_cases hr : right a d g = true
 · obtain ⟨h1, h2, h3, h4, h5, h6⟩ := right_yes hr
   have hno := Lib.hid (show nodesOf a d g = nodes a d by simp [nodesOf, hr])
   have hup := Lib.hid (up_all (a := a) h3 h4)
   have Hr := Lib.hid hr
   clear hr
   go_enter Tryz.func58, Tryz.ntmps58
   go_wp2_with fail
   refine (rright_any _ _ _ _ ha0 ha1 hd0 hd1 hg0 hg1).mono ?_
   rintro e w1 ⟨rfl, b1⟩
   rw [Hr.out]
   have hc := b1.cell (p := ⟨w.heap.size, 0, none⟩) (by simp)
   have hc' := b1.cell (p := ⟨w.heap.size, 1, none⟩) (by simp)
   simp at hc hc'
   have bw := bt (below_lit w _) b1
   go_wp2
   go_loop [3, 4, 5] (fun l n i => ∃ k : Nat, (k : Int) <= d /\ i = .int .i64 k /\ l = .int .i64 (lUp a k) /\ n = .int .i64 (nUp a k)) (fun _ _ i => (d - intOf i).toNat)
   case atStart => exact ⟨0, by omega, rfl, rfl, rfl⟩
   case round =>
     obtain ⟨k, hk, rfl, rfl, rfl⟩ := hrel
     by_cases hlt : (k : Int) < d
     · have e1 := Lib.hid (nUp_succ a k (by omega))
       have e2 := Lib.hid (lUp_succ a k (by omega))
       have l1 := lUp_bd k (by omega) h1 h2
       have l2 := lUp_bd (k + 1) (by omega) h1 h2
       rw [e2.out] at l2
       have n1 := nUp_bd k (by omega) h1 h2
       go_wp2
       go_round
       case rel => exact ⟨k + 1, by omega, by go_num, by rw [e2.out], by rw [e1.out]⟩
       case measure => simp [intOf]; omega
     · obtain rfl : d = (k : Int) := by omega
       go_wp2
       go_ret
       exact ⟨ret_int (by rw [hno.out, <- hup.out.1]; rfl), bw⟩
 · have hr' : right a d g = false := by simpa using hr
   have hno := Lib.hid (show nodesOf a d g = 0 by simp [nodesOf, hr'])
   have Hr := Lib.hid hr'
   clear hr hr'
   go_enter Tryz.func58, Tryz.ntmps58
   go_wp2_with fail
   refine (rright_any _ _ _ _ ha0 ha1 hd0 hd1 hg0 hg1).mono ?_
   rintro e w1 ⟨rfl, b1⟩
   rw [Hr.out]
   go_wp2
   go_ret
   exact ⟨ret_int hno.out.symm, bt (below_lit w _) b1⟩
set_option maxHeartbeats 400000 in
theorem rpages_any (a d g : Int) (w : World) (ha0 : lo <= a) (ha1 : a <= hi) (hd0 : lo <= d) (hd1 : d <= hi) (hg0 : lo <= g) (hg1 : g <= hi) :
   Calls Tryz.prog 22 #[.agg #[.int .i64 a, .int .i64 d, .int .i64 g]] w fun e w' => e = .returned (.int .i64 (pagesOf a d g)) /\ Below w.heap.size w w' := by
 have h1 := nodesOf_bd a d g
 have h2 := leavesOf_bd a d g
 have hwr : IntKind.i64.wrap (nodesOf a d g + leavesOf a d g) = nodesOf a d g + leavesOf a d g := IntWalk.i64_in _ (by omega)
 go_enter Tryz.func22, Tryz.ntmps22
 go_wp2
 refine region_inb (by kernel_rfl) (by kernel_rfl) ?_
 have inbNe := InB.some
 have inbW := @wrap_small
 have inbU := IntKind.wrap_u8'
 repeat (refine wpQuiet_step (fun K hK => ?_); go_simp; first | (refine hK _ ?_; clear hK K) | (apply Exists.intro; refine ⟨?_, hK _ ?_⟩; (· (intro w' hw'; first | (go_at_call 58; refine (rnodes_any _ _ _ _ ha0 ha1 hd0 hd1 hg0 hg1).mono ?_; rintro e w1 ⟨rfl, b1⟩; exact ⟨rfl, hw'.on b1⟩) | (go_at_call 59; refine (rleaves_any _ _ _ _ ha0 ha1 hd0 hd1 hg0 hg1).mono ?_; rintro e w1 ⟨rfl, b1⟩; exact ⟨rfl, hw'.on b1⟩) | (have hcw := hw'.cell; go_simp; exact rfl))); clear hK K))
 refine wpQuiet_nil ?_
 intro wq hq
 clear inbNe inbW inbU
 go_wp2
 go_ret
 exact ⟨rfl, bt (b1alloc _ _) hq⟩
end Go.Proofs.YtchcmklelmlbgaaGreat.Geom
namespace Go.Proofs.YtchcmklelmlbgaaGreat.Geom
open Go.RowKit
set_option linter.unusedVariables false
set_option maxHeartbeats 400000 in
theorem rsize_any (a d g : Int) (w : World) (ha0 : lo <= a) (ha1 : a <= hi) (hd0 : lo <= d) (hd1 : d <= hi) (hg0 : lo <= g) (hg1 : g <= hi) :
   Calls Tryz.prog 12 #[.agg #[.int .i64 a, .int .i64 d, .int .i64 g]] w fun e w' => e = .returned (.int .i64 (sizeOf a d g)) /\ Below w.heap.size w w' := by
 by_cases hr : right a d g = true
 · obtain ⟨h1, h2, h3, h4, h5, h6⟩ := right_yes hr
   have hsz := Lib.hid (show sizeOf a d g = 4 + g + 2 * pagesOf a d g by simp [sizeOf, hr])
   have hp := pagesOf_bd a d g
   have Hr := Lib.hid hr
   clear hr
   have hwr : IntKind.i64.wrap (2 * pagesOf a d g) = 2 * pagesOf a d g := IntWalk.i64_in _ (by omega)
   have hwr2 : IntKind.i64.wrap (4 + g) = 4 + g := IntWalk.i64_in _ (by omega)
   have hwr3 : IntKind.i64.wrap (4 + g + 2 * pagesOf a d g) = 4 + g + 2 * pagesOf a d g := IntWalk.i64_in _ (by omega)
   go_enter Tryz.func12, Tryz.ntmps12
   go_wp2_with fail
   refine (rright_any _ _ _ _ ha0 ha1 hd0 hd1 hg0 hg1).mono ?_
   rintro e w1 ⟨rfl, b1⟩
   rw [Hr.out]
   have hc := b1.cell (p := ⟨w.heap.size, 0, none⟩) (by simp)
   have hc' := b1.cell (p := ⟨w.heap.size, 1, none⟩) (by simp)
   have hc'' := b1.cell (p := ⟨w.heap.size, 2, none⟩) (by simp)
   have hs : w.heap.size < w1.heap.size := by have := b1.size; simp at this; omega
   simp at hc hc' hc''
   have bw := bt (below_lit w _) b1
   go_wp2
   refine region_inb (by kernel_rfl) (by kernel_rfl) ?_
   have inbNe := InB.some
   have inbW := @wrap_small
   have inbU := IntKind.wrap_u8'
   repeat (refine wpQuiet_step (fun K hK => ?_); go_simp; first | (refine hK _ ?_; clear hK K) | (apply Exists.intro; refine ⟨?_, hK _ ?_⟩; (· (intro w' hw'; first | (go_at_call 22; refine (rpages_any _ _ _ _ ha0 ha1 hd0 hd1 hg0 hg1).mono ?_; rintro e w1 ⟨rfl, b1⟩; exact ⟨rfl, hw'.on b1⟩) | (have hcw := hw'.cell; go_simp; exact rfl))); clear hK K))
   refine wpQuiet_nil ?_
   intro wq hq
   clear inbNe inbW inbU
   go_wp2
   go_ret
   exact ⟨ret_int hsz.out.symm, bt bw hq⟩
 · have hr' : right a d g = false := by simpa using hr
   have hsz := Lib.hid (show sizeOf a d g = 0 by simp [sizeOf, hr'])
   have Hr := Lib.hid hr'
   clear hr hr'
   go_enter Tryz.func12, Tryz.ntmps12
   go_wp2_with fail
   refine (rright_any _ _ _ _ ha0 ha1 hd0 hd1 hg0 hg1).mono ?_
   rintro e w1 ⟨rfl, b1⟩
   rw [Hr.out]
   go_wp2
   go_ret
   exact ⟨ret_int hsz.out.symm, bt (below_lit w _) b1⟩
theorem size_bd (a d g : Int) : 0 <= sizeOf a d g /\ sizeOf a d g <= 238 := by
 unfold sizeOf
 by_cases h : right a d g = true
 · rw [if_pos h]
   obtain ⟨h1, h2, h3, h4, h5, h6⟩ := right_yes h
   have := pagesOf_bd a d g
   omega
 · rw [if_neg h]; omega
theorem size_right {a d g p : Int} (h0 : 0 <= p) (h : p < sizeOf a d g) : right a d g = true /\ p < 4 + g + 2 * pagesOf a d g := by
 by_cases hr : right a d g = true
 · exact ⟨hr, by simpa [sizeOf, hr] using h⟩
 · simp [sizeOf, hr] at h; omega
def whereW (a d g p : Int) : ByteArray := if p < 0 \/ sizeOf a d g <= p then ⟨#[]⟩ else if p < 2 then ⟨#[114, 111, 111, 116]⟩ else if p < 4 then ⟨#[115, 117, 112, 101, 114]⟩ else if p < 4 + g then ⟨#[108, 111, 103]⟩ else ⟨#[97, 114, 101, 97]⟩
def whereK (a d g p : Int) : Int := if p < 0 \/ sizeOf a d g <= p then 0 else if p < 2 then p else if p < 4 then p - 2 else if p < 4 + g then p - 4 else p - 4 - g
set_option maxHeartbeats 1600000 in
theorem where_in (a d g q : Int) (w : World) (ha0 : lo <= a) (ha1 : a <= hi) (hd0 : lo <= d) (hd1 : d <= hi) (hg0 : lo <= g) (hg1 : g <= hi) (hq0 : 0 <= q) (hq1 : q < sizeOf a d g) :
   Calls Tryz.prog 110 #[.agg #[.int .i64 a, .int .i64 d, .int .i64 g], .int .i64 q] w fun e w' => e = .returned (.tuple #[.string (whereW a d g q), .int .i64 (whereK a d g q)]) /\ Below w.heap.size w w' := by
 obtain ⟨hr, hlt⟩ := size_right hq0 hq1
 obtain ⟨r1, r2, r3, r4, r5, r6⟩ := right_yes hr
 have hn : ¬ (q < 0 \/ sizeOf a d g <= q) := by omega
 have hp := pagesOf_bd a d g
 have hsb := size_bd a d g
 clear hr
 obtain ⟨p, hpe⟩ : ∃ p, p = 2 * pagesOf a d g := ⟨_, rfl⟩
 have hp1 : 0 <= p := by omega
 have hp2 : p <= 170 := by omega
 have hlt' : q < 4 + g + p := by omega
 have Hn := Lib.hid hn
 clear hn
 have i0 : ∀ w, (Instr.index 164 (.agg #[.string ⟨#[114, 111, 111, 116]⟩, .int .i64 2, .string ⟨#[115, 117, 112, 101, 114]⟩, .int .i64 2, .string ⟨#[108, 111, 103]⟩, .int .i64 g, .string ⟨#[97, 114, 101, 97]⟩, .int .i64 p]) (.int .i64 0)).run Tryz.prog w = .ok (.agg #[.string ⟨#[114, 111, 111, 116]⟩, .int .i64 2]) w := fun _ => by kernel_rfl
 have i1 : ∀ w, (Instr.index 164 (.agg #[.string ⟨#[114, 111, 111, 116]⟩, .int .i64 2, .string ⟨#[115, 117, 112, 101, 114]⟩, .int .i64 2, .string ⟨#[108, 111, 103]⟩, .int .i64 g, .string ⟨#[97, 114, 101, 97]⟩, .int .i64 p]) (.int .i64 1)).run Tryz.prog w = .ok (.agg #[.string ⟨#[115, 117, 112, 101, 114]⟩, .int .i64 2]) w := fun _ => by kernel_rfl
 have i2 : ∀ w, (Instr.index 164 (.agg #[.string ⟨#[114, 111, 111, 116]⟩, .int .i64 2, .string ⟨#[115, 117, 112, 101, 114]⟩, .int .i64 2, .string ⟨#[108, 111, 103]⟩, .int .i64 g, .string ⟨#[97, 114, 101, 97]⟩, .int .i64 p]) (.int .i64 2)).run Tryz.prog w = .ok (.agg #[.string ⟨#[108, 111, 103]⟩, .int .i64 g]) w := fun _ => by kernel_rfl
 have i3 : ∀ w, (Instr.index 164 (.agg #[.string ⟨#[114, 111, 111, 116]⟩, .int .i64 2, .string ⟨#[115, 117, 112, 101, 114]⟩, .int .i64 2, .string ⟨#[108, 111, 103]⟩, .int .i64 g, .string ⟨#[97, 114, 101, 97]⟩, .int .i64 p]) (.int .i64 3)).run Tryz.prog w = .ok (.agg #[.string ⟨#[97, 114, 101, 97]⟩, .int .i64 p]) w := fun _ => by kernel_rfl
 go_enter Tryz.func110, Tryz.ntmps110
 go_wp2_with fail
 go_step3
 go_wp2_with fail
 refine (size_any _ _ _ _ ha0 ha1 hd0 hd1 hg0 hg1).mono ?_
 rintro e w1 ⟨rfl, b1⟩
 obtain ⟨hc1, hf1, hs1⟩ := bcell b1
 simp at hs1
 have bw := bt (below_lit w _) b1
 go_wp2_with fail
 go_step3
 go_wp2_with fail
 refine (parts_any _ _ _ _ ha0 ha1 hd0 hd1 hg0 hg1).mono ?_
 rintro e w2 ⟨rfl, b2⟩
 unfold partsV
 rw [<- hpe]
 clear hpe hc1 hf1 hlt hq1 hsb
 have bw2 := bt bw b2
 go_wp2_with fail
 go_loopw [1, 7, 18] (fun x _ i wr => ∃ k : Nat, k <= 3 /\ i = .int .i64 k /\ x = .int .i64 (q - psum g p k) /\ psum g p k <= q /\ Below w.heap.size w wr) (fun _ _ i _ => (4 - intOf i).toNat)
 case atStart => exact ⟨0, by omega, rfl, by simp [psum], by simpa [psum] using hq0, bw2⟩
 case round =>
   obtain ⟨k, hk, rfl, rfl, hps, hbel⟩ := hrel
   have hbs := hbel.size
   obtain rfl | rfl | rfl | rfl : k = 0 \/ k = 1 \/ k = 2 \/ k = 3 := by omega
   · simp only [psum, Int.cast_ofNat_Int, Int.sub_zero] at hps ⊢
     by_cases h2 : q < 2
     · have hd := h2
       have hw := Lib.hid (show whereW a d g q = ⟨#[114, 111, 111, 116]⟩ by unfold whereW; rw [if_neg Hn.out, if_pos (by omega)])
       have hk := Lib.hid (show whereK a d g q = q by unfold whereK; rw [if_neg Hn.out, if_pos (by omega)])
       go_wp2
       rw [Exit.noGoto_ret]
       go_ret2
       exact ⟨by rw [hw.out, hk.out]; rfl, hbel.alloc hbs _⟩
     · go_wp2
       go_roundw
       case rel => exact ⟨1, by omega, rfl, by simp; try omega, by simp; omega, hbel.alloc hbs _⟩
       case measure => simp [intOf]
   · simp only [psum, Int.cast_ofNat_Int] at hps ⊢
     by_cases h2 : q < 4
     · have hd := h2
       have hw := Lib.hid (show whereW a d g q = ⟨#[115, 117, 112, 101, 114]⟩ by unfold whereW; rw [if_neg Hn.out, if_neg (by omega), if_pos (by omega)])
       have hk := Lib.hid (show whereK a d g q = q - 2 by unfold whereK; rw [if_neg Hn.out, if_neg (by omega), if_pos (by omega)])
       go_wp2
       rw [Exit.noGoto_ret]
       go_ret2
       exact ⟨by rw [hw.out, hk.out]; rfl, hbel.alloc hbs _⟩
     · go_wp2
       go_roundw
       case rel => exact ⟨2, by omega, rfl, by simp; try omega, by simp; omega, hbel.alloc hbs _⟩
       case measure => simp [intOf]
   · simp only [psum, Int.cast_ofNat_Int] at hps ⊢
     by_cases h2 : q < 4 + g
     · have hd := h2
       have hw := Lib.hid (show whereW a d g q = ⟨#[108, 111, 103]⟩ by unfold whereW; rw [if_neg Hn.out, if_neg (by omega), if_neg (by omega), if_pos (by omega)])
       have hk := Lib.hid (show whereK a d g q = q - 4 by unfold whereK; rw [if_neg Hn.out, if_neg (by omega), if_neg (by omega), if_pos (by omega)])
       go_wp2
       rw [Exit.noGoto_ret]
       go_ret2
       exact ⟨by rw [hw.out, hk.out]; rfl, hbel.alloc hbs _⟩
     · go_wp2
       go_roundw
       case rel => exact ⟨3, by omega, rfl, by simp; try omega, by simp; omega, hbel.alloc hbs _⟩
       case measure => simp [intOf]
   · simp only [psum, Int.cast_ofNat_Int] at hps ⊢
     have hw := Lib.hid (show whereW a d g q = ⟨#[97, 114, 101, 97]⟩ by unfold whereW; rw [if_neg Hn.out, if_neg (by omega), if_neg (by omega), if_neg (by omega)])
     have hk := Lib.hid (show whereK a d g q = q - (4 + g) by unfold whereK; rw [if_neg Hn.out, if_neg (by omega), if_neg (by omega), if_neg (by omega)]; omega)
     go_wp2
     rw [Exit.noGoto_ret]
     go_ret2
     exact ⟨by rw [hw.out, hk.out]; rfl, hbel.alloc hbs _⟩
set_option maxHeartbeats 400000 in
theorem where_any (a d g q : Int) (w : World) (ha0 : lo <= a) (ha1 : a <= hi) (hd0 : lo <= d) (hd1 : d <= hi) (hg0 : lo <= g) (hg1 : g <= hi) (hq0 : lo <= q) (hq1 : q <= hi) :
   Calls Tryz.prog 110 #[.agg #[.int .i64 a, .int .i64 d, .int .i64 g], .int .i64 q] w fun e w' => e = .returned (.tuple #[.string (whereW a d g q), .int .i64 (whereK a d g q)]) /\ Below w.heap.size w w' := by
 by_cases h0 : q < 0
 · have hw := Lib.hid (show whereW a d g q = ⟨#[]⟩ from if_pos (.inl h0))
   have hk := Lib.hid (show whereK a d g q = 0 from if_pos (.inl h0))
   go_enter Tryz.func110, Tryz.ntmps110
   go_wp2_with fail
   go_step3
   go_wp2_with fail
   rw [Exit.noGoto_ret]
   go_ret2
   exact ⟨by rw [hw.out, hk.out]; rfl, below_lit w _⟩
 by_cases h1 : sizeOf a d g <= q
 · have hw := Lib.hid (show whereW a d g q = ⟨#[]⟩ from if_pos (.inr h1))
   have hk := Lib.hid (show whereK a d g q = 0 from if_pos (.inr h1))
   go_enter Tryz.func110, Tryz.ntmps110
   go_wp2_with fail
   go_step3
   go_wp2_with fail
   refine (size_any _ _ _ _ ha0 ha1 hd0 hd1 hg0 hg1).mono ?_
   rintro e w1 ⟨rfl, b1⟩
   go_wp2_with fail
   rw [Exit.noGoto_ret]
   go_ret2
   exact ⟨by rw [hw.out, hk.out]; rfl, bt (below_lit w _) b1⟩
 · exact where_in a d g q w ha0 ha1 hd0 hd1 hg0 hg1 (by omega) (by omega)
end Go.Proofs.YtchcmklelmlbgaaGreat.Geom
namespace Go.Proofs.YtchcmklelmlbgaaGreat
theorem Keep.of_below5 {w w5 w' : World} {fp : List Nat} (k : Keep fp w5 w') (b : Go.RowKit.Below w.heap.size w w5) : Keep fp w w' := (Keep.of_below b fp).trans k (Fresh.refl _ _)
theorem Fresh.of_size {w w5 : World} {fp fp' : List Nat} (f : Fresh w5 fp fp') (b : Go.RowKit.Below w.heap.size w w5) : Fresh w fp fp' := fun j hj => (f j hj).imp id (fun h => Nat.le_trans b.size h)
theorem Box.on' {w w' : World} {g : Nat} {v : Value} (h : Box w g v) (b : Go.RowKit.Below w.heap.size w w') : Box w' g v := h.below b h.lt
end Go.Proofs.YtchcmklelmlbgaaGreat
namespace Go.Proofs.YtchcmklelmlbgaaGreat.Sup
open Go.RowKit
open Go.Proofs.YtchcmklelmlbgaaGreat.Geom
open Go.Proofs.YtchcmklelmlbgaaGreat.Disk (St DAt Did write_any flush_any read_any New8 Told8)
open Go.Proofs.YtchcmklelmlbgaaGreat.Sec (X SymAt text sumOf sumAfter ckS blankB rightF encode_sym decode_sym isBlank_any right_0 right_2 xv RetX X0 five5x)
set_option linter.unusedVariables false
set_option maxRecDepth 100000
structure Gb (a d g : Int) : Prop where
 a0 : lo <= a
 a1 : a <= hi
 d0 : lo <= d
 d1 : d <= hi
 g0 : lo <= g
 g1 : g <= hi
abbrev gv (a d g : Int) : Value := .agg #[.int .i64 a, .int .i64 d, .int .i64 g]
abbrev gcell (a d g : Int) : List Value := [.int .i64 a, .int .i64 d, .int .i64 g]
theorem gthree {w : World} {b : Nat} {u v x : Value} (h : Blk w b [u, v, x]) : w.cell? ⟨b, 0, none⟩ = some u /\ w.cell? ⟨b, 1, none⟩ = some v /\ w.cell? ⟨b, 2, none⟩ = some x := ⟨h.cell (k := 0) (by simp), h.cell (k := 1) (by simp), h.cell (k := 2) (by simp)⟩
theorem sup0 : (2 : Int) + ((0 : UInt64).toNat : Int) % 2 = 2 := by decide
theorem sup1 : (2 : Int) + ((1 : UInt64).toNat : Int) % 2 = 3 := by decide
theorem places_any (w : World) : Calls Tryz.prog 72 #[] w fun e w' => e = .returned (.agg #[.int .i64 2, .int .i64 3]) /\ Below w.heap.size w w' := by
 have h0 := fun W => super_any 0 0 (by rfl) W
 have h1 := fun W => super_any 1 1 (by rfl) W
 rw [sup0] at h0
 rw [sup1] at h1
 have H0 := Lib.hid h0
 have H1 := Lib.hid h1
 have t0 : True := trivial
 clear h0 h1
 go_enter Tryz.func72, Tryz.ntmps72
 go_wp2_with (first
   | (go_at_call 99; have _t := t0; refine (H0.out _).mono ?_; rintro e w1 ⟨rfl, rfl⟩; clear t0)
   | (go_at_call 99; refine (H1.out _).mono ?_; rintro e w1 ⟨rfl, rfl⟩))
 refine bodyPost_ret (v := .agg #[.int .i64 2, .int .i64 3]) (by simp [results, Tryz.results72, go_sem]) rfl ⟨rfl, b1alloc _ _⟩
def srightF (s : St) (ga gd gl : Int) : Int := if right ga gd gl = true /\ (s.size : Int) = Geom.sizeOf ga gd gl then 0 else 2
set_option maxHeartbeats 800000 in
theorem right_any (g : Nat) (fp : List Nat) (s : St) (ga gd gl : Int) (w : World) (hG : Gb ga gd gl) (h : DAt w g fp s) : Calls Tryz.prog 71 #[.pointer (some ⟨g, 0, none⟩), gv ga gd gl] w fun e w' => e = .returned (.int .i64 (srightF s ga gd gl)) /\ Below w.heap.size w w' := by
 have F := Blk.new w (gcell ga gd gl) 23
 have b0 := b1alloc w (.cells (gcell ga gd gl).toArray 23)
 obtain ⟨z0, z1, z2⟩ := gthree F
 have HR := Lib.hid (fun W => Geom.right_any ga gd gl W hG.a0 hG.a1 hG.d0 hG.d1 hG.g0 hG.g1)
 have HZ := Lib.hid (fun W => Geom.size_any ga gd gl W hG.a0 hG.a1 hG.d0 hG.d1 hG.g0 hG.g1)
 have HD := Lib.hid (fun W (bW : Below w.heap.size w W) => Disk.size_any g fp s W (h.on bW))
 unfold srightF
 obtain ⟨q, hq⟩ : ∃ q, q = right ga gd gl := ⟨_, rfl⟩
 obtain ⟨z, hz⟩ : ∃ z, z = Geom.sizeOf ga gd gl := ⟨_, rfl⟩
 rw [<- hq] at HR ⊢
 rw [<- hz] at HZ ⊢
 clear hq hz
 cases q with
 | false =>
   rw [if_neg (by simp)]
   go_enter Tryz.func71, Tryz.ntmps71
   go_wp2_with fail
   refine region_inb (by kernel_rfl) (by kernel_rfl) ?_
   have inbNe := InB.some
   have inbW := @wrap_small
   have inbU := IntKind.wrap_u8'
   repeat (refine wpQuiet_step (fun K hK => ?_); go_simp; first | (refine hK _ ?_; clear hK K) | (apply Exists.intro; refine ⟨?_, hK _ ?_⟩; (· (intro w' hw'; first | (go_at_call 67; refine (HR.out _).mono ?_; rintro e w1 ⟨rfl, b1⟩; exact ⟨rfl, hw'.on b1⟩) | (have hcw := hw'.cell; go_simp; exact rfl))); clear hK K))
   refine wpQuiet_nil ?_
   intro wq hq
   clear inbNe inbW inbU
   go_wp2
   go_ret
   exact ⟨rfl, bt b0 hq.below⟩
 | true =>
   by_cases hs : (s.size : Int) = z
   · rw [if_pos ⟨rfl, hs⟩]
     have t0 := bne_no hs
     have Hs := Lib.hid hs
     clear hs
     go_enter Tryz.func71, Tryz.ntmps71
     go_wp2_with fail
     refine region_inb (by kernel_rfl) (by kernel_rfl) ?_
     have inbNe := InB.some
     have inbW := @wrap_small
     have inbU := IntKind.wrap_u8'
     repeat (refine wpQuiet_step (fun K hK => ?_); go_simp; first | (refine hK _ ?_; clear hK K) | (apply Exists.intro; refine ⟨?_, hK _ ?_⟩; (· (intro w' hw'; first | (go_at_call 67; refine (HR.out _).mono ?_; rintro e w1 ⟨rfl, b1⟩; exact ⟨rfl, hw'.on b1⟩) | (go_at_call 68; refine (HD.out _ (bt b0 hw'.below)).mono ?_; rintro e w1 ⟨rfl, rfl⟩; exact ⟨rfl, hw'⟩) | (go_at_call 69; refine (HZ.out _).mono ?_; rintro e w1 ⟨rfl, b1⟩; exact ⟨rfl, hw'.on b1⟩) | (have hcw := hw'.cell; go_simp; exact rfl))); clear hK K))
     refine wpQuiet_nil ?_
     intro wq hq
     clear inbNe inbW inbU
     go_wp2
     go_ret
     exact ⟨rfl, bt b0 hq.below⟩
   · rw [if_neg (fun e => hs e.2)]
     have t0 := bne_yes hs
     have Hs := Lib.hid hs
     clear hs
     go_enter Tryz.func71, Tryz.ntmps71
     go_wp2_with fail
     refine region_inb (by kernel_rfl) (by kernel_rfl) ?_
     have inbNe := InB.some
     have inbW := @wrap_small
     have inbU := IntKind.wrap_u8'
     repeat (refine wpQuiet_step (fun K hK => ?_); go_simp; first | (refine hK _ ?_; clear hK K) | (apply Exists.intro; refine ⟨?_, hK _ ?_⟩; (· (intro w' hw'; first | (go_at_call 67; refine (HR.out _).mono ?_; rintro e w1 ⟨rfl, b1⟩; exact ⟨rfl, hw'.on b1⟩) | (go_at_call 68; refine (HD.out _ (bt b0 hw'.below)).mono ?_; rintro e w1 ⟨rfl, rfl⟩; exact ⟨rfl, hw'⟩) | (go_at_call 69; refine (HZ.out _).mono ?_; rintro e w1 ⟨rfl, b1⟩; exact ⟨rfl, hw'.on b1⟩) | (have hcw := hw'.cell; go_simp; exact rfl))); clear hK K))
     refine wpQuiet_nil ?_
     intro wq hq
     clear inbNe inbW inbU
     go_wp2
     go_ret
     exact ⟨rfl, bt b0 hq.below⟩
theorem both_any (g : Nat) (fp : List Nat) (s : St) (gS : Nat) (ga gd gl : Int) (w : World) (hG : Gb ga gd gl) (h : DAt w g fp s) : Calls Tryz.prog 87 #[.pointer (some ⟨g, 0, none⟩), .pointer (some ⟨gS, 0, none⟩), gv ga gd gl] w fun e w' => e = .returned (.int .i64 (srightF s ga gd gl)) /\ Below w.heap.size w w' := by
 obtain ⟨z0, z1, z2⟩ := gthree (Blk.new w (gcell ga gd gl) 23)
 have b0 := b1alloc w (.cells (gcell ga gd gl).toArray 23)
 go_enter Tryz.func87, Tryz.ntmps87
 go_wp2_with (go_at_call 71; refine (right_any g fp s _ _ _ _ hG (h.on b0)).mono ?_; rintro e w' ⟨rfl, b1⟩)
 go_ret
 exact ⟨rfl, bt b0 b1⟩
def mk (ga gd gl : Int) : List UInt8 := if right ga gd gl = true then [UInt8.ofNat ga.toNat, UInt8.ofNat gd.toNat, UInt8.ofNat gl.toNat] else []
theorem mark_any (ga gd gl : Int) (w : World) (hG : Gb ga gd gl) : Calls Tryz.prog 106 #[gv ga gd gl] w (RetB 5 w (mk ga gd gl)) := by
 obtain ⟨z0, z1, z2⟩ := gthree (Blk.new w (gcell ga gd gl) 23)
 have b0 := b1alloc w (.cells (gcell ga gd gl).toArray 23)
 have HR := Lib.hid (fun W => Geom.right_any ga gd gl W hG.a0 hG.a1 hG.d0 hG.d1 hG.g0 hG.g1)
 unfold mk
 cases hq : right ga gd gl with
 | false =>
   rw [hq] at HR
   rw [if_neg (by simp)]
   go_enter Tryz.func106, Tryz.ntmps106
   go_wp2_with (go_at_call 67; refine (HR.out _).mono ?_; rintro e w' ⟨rfl, b1⟩)
   go_ret
   exact RetB.mk (own_nil _ _ _ _) rfl (bt b0 b1)
 | true =>
   rw [hq] at HR
   rw [if_pos rfl]
   have hy := Geom.right_yes hq
   obtain ⟨x, hx⟩ : ∃ x, x = UInt8.ofNat ga.toNat := ⟨_, rfl⟩
   obtain ⟨y, hY⟩ : ∃ x, x = UInt8.ofNat gd.toNat := ⟨_, rfl⟩
   obtain ⟨z, hz⟩ : ∃ x, x = UInt8.ofNat gl.toNat := ⟨_, rfl⟩
   have w1 : IntKind.u8.wrap ga = (x.toNat : Int) := by rw [hx, IntKind.wrap_u8', UInt8.toNat_ofNat']; omega
   have w2 : IntKind.u8.wrap gd = (y.toNat : Int) := by rw [hY, IntKind.wrap_u8', UInt8.toNat_ofNat']; omega
   have w3 : IntKind.u8.wrap gl = (z.toNat : Int) := by rw [hz, IntKind.wrap_u8', UInt8.toNat_ofNat']; omega
   rw [<- hx, <- hY, <- hz]
   clear hx hY hz
   have F := Lib.hid (Blk.new w (gcell ga gd gl) 23)
   go_enter Tryz.func106, Tryz.ntmps106
   go_wp2_with (go_at_call 67; refine (HR.out _).mono ?_; rintro e w4 ⟨rfl, b1⟩; obtain ⟨y0, y1, y2⟩ := gthree (F.out.on b1))
   go_ret
   have hl := own_lit w4 5 #[e8 x, e8 y, e8 z] w.heap.size 3 (bt b0 b1).size rfl (by unfold maxLen; omega)
   exact RetB.mk hl rfl (bt (bt b0 b1) (b1alloc _ _))
end Go.Proofs.YtchcmklelmlbgaaGreat.Sup
namespace Go.Proofs.YtchcmklelmlbgaaGreat.Sup
open Go.RowKit
open Go.Proofs.YtchcmklelmlbgaaGreat.Geom
open Go.Proofs.YtchcmklelmlbgaaGreat.Disk (St DAt Did write_any flush_any read_any New8 Told8)
open Go.Proofs.YtchcmklelmlbgaaGreat.Sec (X SymAt text sumOf sumAfter ckS blankB rightF encode_sym decode_sym isBlank_any right_0 right_2 xv RetX X0 five5x)
set_option linter.unusedVariables false
set_option maxRecDepth 100000
def sx (ga gd gl : Int) (life : UInt64) (base : Int) (gen : UInt64) : X := ⟨2, life, base, gen, mk ga gd gl⟩
def splace (life : UInt64) : Int := 2 + (life.toNat : Int) % 2
theorem splace_ok (life : UInt64) : 2 <= splace life /\ splace life <= 3 := by unfold splace; omega
theorem mk_len (ga gd gl : Int) : (mk ga gd gl).length <= 3 := by unfold mk; split <;> simp
theorem sx_right {ga gd gl : Int} {life : UInt64} {base : Int} {gen : UInt64} (h0 : 0 <= base) (h1 : base <= 1073741824) : rightF (splace life) (sx ga gd gl life base gen) = 0 := by
 have hp := splace_ok life
 have := mk_len ga gd gl
 exact right_0 (by unfold sx; simp only []; omega) (by unfold sx; simp only []; omega)
def wf (s : St) (p : Int) (b : List UInt8) : St × Int := if (Disk.write s p b).2 = 0 then Disk.flush (Disk.write s p b).1 else Disk.write s p b
theorem wf_sz (s : St) (p : Int) (b : List UInt8) : (wf s p b).1.sz <= s.sz + 3 := by
 unfold wf
 have h1 := Disk.sz_write s p b
 split
 · have h2 := Disk.sz_flush (Disk.write s p b).1
   omega
 · omega
def sB (l : List (List UInt8)) (ga gd gl : Int) (life : UInt64) (base : Int) (gen : UInt64) : List UInt8 := text (splace life) (sx ga gd gl life base gen) ++ sumOf l (text (splace life) (sx ga gd gl life base gen))
def sL (l : List (List UInt8)) (ga gd gl : Int) (life : UInt64) (base : Int) (gen : UInt64) : List (List UInt8) := sumAfter l (text (splace life) (sx ga gd gl life base gen))
theorem sB_len (l : List (List UInt8)) (ga gd gl : Int) (life : UInt64) (base : Int) (gen : UInt64) : (sB l ga gd gl life base gen).length = 512 := by unfold sB; rw [List.length_append, Sec.text_len, Sec.sumOf_len]
abbrev sv (life : UInt64) (base : Int) (gen : UInt64) : Value := .agg #[.int .u64 (life.toNat : Int), .int .i64 base, .int .u64 (gen.toNat : Int)]
abbrev scell (life : UInt64) (base : Int) (gen : UInt64) : List Value := [.int .u64 (life.toNat : Int), .int .i64 base, .int .u64 (gen.toNat : Int)]
set_option maxHeartbeats 2000000 in
theorem write_any (g : Nat) (fp : List Nat) (s : St) (gS bS : Nat) (l : List (List UInt8)) (ga gd gl : Int) (life : UInt64) (base : Int) (gen : UInt64) (w : World) (hG : Gb ga gd gl) (h : Both w g fp s gS bS l) (hl : l.length <= 1000000) (hs : s.sz <= 90000000) (hf : srightF s ga gd gl = 0) (h0 : 0 <= base) (h1 : base <= 1073741824) :
   Calls Tryz.prog 80 #[.pointer (some ⟨g, 0, none⟩), .pointer (some ⟨gS, 0, none⟩), gv ga gd gl, sv life base gen] w fun e w' => e = .returned (.int .i64 (wf s (splace life) (sB l ga gd gl life base gen)).2) /\ Turn w g fp gS bS (wf s (splace life) (sB l ga gd gl life base gen)).1 (sL l ga gd gl life base gen) w' := by
 have FG : Blk ((w.alloc (.cells (gcell ga gd gl).toArray 23)).alloc (.cells (scell life base gen).toArray 90)) w.heap.size (gcell ga gd gl) := (Blk.new w (gcell ga gd gl) 23).alloc (.cells (scell life base gen).toArray 90)
 have FX : Blk ((w.alloc (.cells (gcell ga gd gl).toArray 23)).alloc (.cells (scell life base gen).toArray 90)) (w.heap.size + 1) (scell life base gen) := by simpa using Blk.new (w.alloc (.cells (gcell ga gd gl).toArray 23)) (scell life base gen) 90
 have b0 := b2alloc w (.cells (gcell ga gd gl).toArray 23) (.cells (scell life base gen).toArray 90)
 obtain ⟨z0, z1, z2⟩ := gthree FG
 have HB := Lib.hid (both_any g fp s gS ga gd gl _ hG (h.disk.on b0))
 rw [hf] at HB
 have HS := Lib.hid (fun W => super_any life _ (by rfl) W)
 have HM := Lib.hid (fun W => mark_any ga gd gl W hG)
 have hE := fun A c W hb hr => encode_sym (splace life) gS bS l (sx ga gd gl life base gen) A c W hb hl hr (sx_right h0 h1)
 have hW := fun A c W hD hr => Disk.write_any g fp s (splace life) A 512 c (sB l ga gd gl life base gen) W hD (by omega) (sB_len l ga gd gl life base gen).symm hr
 have z3 := Disk.sz_write s (splace life) (sB l ga gd gl life base gen)
 have hF := fun fp1 W hD hsz => flush_any g fp1 (Disk.write s (splace life) (sB l ga gd gl life base gen)).1 W hD hsz
 have hwf : wf s (splace life) (sB l ga gd gl life base gen) = if (Disk.write s (splace life) (sB l ga gd gl life base gen)).2 = 0 then Disk.flush (Disk.write s (splace life) (sB l ga gd gl life base gen)).1 else Disk.write s (splace life) (sB l ga gd gl life base gen) := rfl
 rw [show text (splace life) (sx ga gd gl life base gen) ++ sumOf l (text (splace life) (sx ga gd gl life base gen)) = sB l ga gd gl life base gen from rfl, show sumAfter l (text (splace life) (sx ga gd gl life base gen)) = sL l ga gd gl life base gen from rfl] at hE
 rw [show splace life = 2 + (life.toNat : Int) % 2 from rfl] at hE hW
 have hE' : ∀ A c W, SymAt W gS bS l -> Rd W W.heap.size A ((mk ga gd gl).map e8) -> Calls Tryz.prog 105 #[.pointer (some ⟨gS, 0, none⟩), .int .i64 (2 + (life.toNat : Int) % 2), .agg #[.int .i64 2, .int .u64 (life.toNat : Int), .int .i64 base, .int .u64 (gen.toNat : Int), .slice A (mk ga gd gl).length c]] W _ := fun A c W hb hr => hE A c W hb hr
 obtain ⟨R, hR⟩ : ∃ R, R = wf s (splace life) (sB l ga gd gl life base gen) := ⟨_, rfl⟩
 obtain ⟨V, hV⟩ : ∃ V, V = Disk.write s (splace life) (sB l ga gd gl life base gen) := ⟨_, rfl⟩
 rw [<- hR, <- hV] at hwf
 rw [<- hV] at hF z3
 rw [show (2 : Int) + (life.toNat : Int) % 2 = splace life from rfl] at hW
 rw [<- hV] at hW
 rw [<- hR]
 obtain ⟨bb, hbb⟩ : ∃ bb, bb = sB l ga gd gl life base gen := ⟨_, rfl⟩
 obtain ⟨l', hl'⟩ : ∃ bb, bb = sL l ga gd gl life base gen := ⟨_, rfl⟩
 rw [<- hbb] at hE' hW
 rw [<- hl'] at hE' ⊢
 rw [show splace life = 2 + (life.toNat : Int) % 2 from rfl] at hW
 obtain ⟨M, hM⟩ : ∃ M, M = mk ga gd gl := ⟨_, rfl⟩
 rw [<- hM] at hE' HM
 have HE := Lib.hid hE'
 have HW := Lib.hid hW
 have HF := Lib.hid hF
 have FGh := Lib.hid FG
 have FXh := Lib.hid FX
 clear hE hE' hW hF hR hV hbb hl' hM FG FX
 have nG : w.heap.size ∉ [bS] := by have := h.sym.lt.2; rw [List.mem_singleton]; omega
 have nX : w.heap.size + 1 ∉ [bS] := by have := h.sym.lt.2; rw [List.mem_singleton]; omega
 by_cases hv : V.2 = 0
 · rw [if_pos hv] at hwf
   have tv := bne_no hv
   have Hwf := Lib.hid hwf
   clear hwf
   go_enter Tryz.func80, Tryz.ntmps80
   go_wp2_with (first
     | (go_at_call 87; refine HB.out.mono ?_; rintro e w1 ⟨rfl, b1⟩; have FX1 := FXh.out.on b1; have FG1 := FGh.out.on b1; obtain ⟨x0, x1, x2⟩ := gthree FX1; obtain ⟨y0, y1, y2⟩ := gthree FG1)
     | (go_at_call 99; refine (HS.out _).mono ?_; rintro e w2 ⟨rfl, rfl⟩))
   have bz : Below w1.heap.size w1 w1.drew := (Below.refl _ _).drew
   have H1 := h.on (bt b0 b1)
   go_region_held3 (fun w' => (w'.cell? ⟨w.heap.size, 0, none⟩ = some (.int .i64 ga) /\ w'.cell? ⟨w.heap.size, 1, none⟩ = some (.int .i64 gd) /\ w'.cell? ⟨w.heap.size, 2, none⟩ = some (.int .i64 gl)) /\ (w'.cell? ⟨w.heap.size + 1, 0, none⟩ = some (.int .u64 (life.toNat : Int)) /\ w'.cell? ⟨w.heap.size + 1, 1, none⟩ = some (.int .i64 base) /\ w'.cell? ⟨w.heap.size + 1, 2, none⟩ = some (.int .u64 (gen.toNat : Int)))) (first | exact ⟨gthree (FG1.on bz), gthree (FX1.on bz)⟩ | exact ⟨gthree (FG1.on c3), gthree (FX1.on c3)⟩ | exact ⟨gthree ((FG1.on c3).keepK k4 nG), gthree ((FX1.on c3).keepK k4 nX)⟩) (first
     | (go_at_call 106; refine (HM.out _).mono ?_; rintro e x3 ⟨A3, d3, rfl, own3, y3'⟩; have c3 := bt bz y3')
     | (go_at_call 105; refine (HE.out A3 d3 _ (H1.on c3).sym (Rd.own own3)).mono ?_; rintro e x4 ⟨A4, d4, rfl, own4, k4, s4⟩; have H4 := (H1.on c3).summed s4 k4))
   have K4 := keepT (fp := fp) (Keep.of_below (bt (bt b0 b1) c3) (bS :: fp)) (Fresh.refl _ _) (keepB k4)
   have hz4 := K4.size
   go_wp2_with (first
     | (go_at_call 73; refine (HW.out A4 d4 _ H4.disk (RdN.own own4 (H1.on c3).disk.lt)).mono ?_; rintro e x5 ⟨rfl, fp5, hD5, k5, f5⟩; have H5 := H4.did hD5 k5 f5)
     | (go_at_call 75; refine (HF.out fp5 _ H5.disk (by omega)).mono ?_; rintro e x6 ⟨rfl, fp6, hD6, k6, f6⟩; have H6 := H5.did hD6 k6 f6))
   go_ret
   rw [Hwf.out]
   exact ⟨rfl, fp6, H6, keepT (keepT K4 (Fresh.refl _ _) (keepF k5)) (fun j hj => (f5 j hj).imp id (fun e => by omega)) (keepF k6), (show Fresh w fp fp5 from fun j hj => (f5 j hj).imp id (fun e => by omega)).trans (by have := k5.size; omega) f6⟩
 · rw [if_neg hv] at hwf
   have tv := bne_yes hv
   have Hwf := Lib.hid hwf
   clear hwf
   go_enter Tryz.func80, Tryz.ntmps80
   go_wp2_with (first
     | (go_at_call 87; refine HB.out.mono ?_; rintro e w1 ⟨rfl, b1⟩; have FX1 := FXh.out.on b1; have FG1 := FGh.out.on b1; obtain ⟨x0, x1, x2⟩ := gthree FX1; obtain ⟨y0, y1, y2⟩ := gthree FG1)
     | (go_at_call 99; refine (HS.out _).mono ?_; rintro e w2 ⟨rfl, rfl⟩))
   have bz : Below w1.heap.size w1 w1.drew := (Below.refl _ _).drew
   have H1 := h.on (bt b0 b1)
   go_region_held3 (fun w' => (w'.cell? ⟨w.heap.size, 0, none⟩ = some (.int .i64 ga) /\ w'.cell? ⟨w.heap.size, 1, none⟩ = some (.int .i64 gd) /\ w'.cell? ⟨w.heap.size, 2, none⟩ = some (.int .i64 gl)) /\ (w'.cell? ⟨w.heap.size + 1, 0, none⟩ = some (.int .u64 (life.toNat : Int)) /\ w'.cell? ⟨w.heap.size + 1, 1, none⟩ = some (.int .i64 base) /\ w'.cell? ⟨w.heap.size + 1, 2, none⟩ = some (.int .u64 (gen.toNat : Int)))) (first | exact ⟨gthree (FG1.on bz), gthree (FX1.on bz)⟩ | exact ⟨gthree (FG1.on c3), gthree (FX1.on c3)⟩ | exact ⟨gthree ((FG1.on c3).keepK k4 nG), gthree ((FX1.on c3).keepK k4 nX)⟩) (first
     | (go_at_call 106; refine (HM.out _).mono ?_; rintro e x3 ⟨A3, d3, rfl, own3, y3'⟩; have c3 := bt bz y3')
     | (go_at_call 105; refine (HE.out A3 d3 _ (H1.on c3).sym (Rd.own own3)).mono ?_; rintro e x4 ⟨A4, d4, rfl, own4, k4, s4⟩; have H4 := (H1.on c3).summed s4 k4))
   have K4 := keepT (fp := fp) (Keep.of_below (bt (bt b0 b1) c3) (bS :: fp)) (Fresh.refl _ _) (keepB k4)
   have hz4 := K4.size
   go_wp2_with (first
     | (go_at_call 73; refine (HW.out A4 d4 _ H4.disk (RdN.own own4 (H1.on c3).disk.lt)).mono ?_; rintro e x5 ⟨rfl, fp5, hD5, k5, f5⟩; have H5 := H4.did hD5 k5 f5))
   go_ret
   rw [Hwf.out]
   exact ⟨rfl, fp5, H5, keepT K4 (Fresh.refl _ _) (keepF k5), fun j hj => (f5 j hj).imp id (fun e => by omega)⟩
def clr (s : St) : St × Int :=
 if (Disk.write s 2 Disk.zero512).2 = 0 then (if (Disk.write (Disk.write s 2 Disk.zero512).1 3 Disk.zero512).2 = 0 then Disk.flush (Disk.write (Disk.write s 2 Disk.zero512).1 3 Disk.zero512).1 else Disk.write (Disk.write s 2 Disk.zero512).1 3 Disk.zero512)
 else Disk.write s 2 Disk.zero512
set_option maxHeartbeats 2000000 in
theorem clear_any (g : Nat) (fp : List Nat) (s : St) (ga gd gl : Int) (w : World) (hG : Gb ga gd gl) (h : DAt w g fp s) (hs : s.sz <= 90000000) (hf : srightF s ga gd gl = 0) :
   Calls Tryz.prog 40 #[.pointer (some ⟨g, 0, none⟩), gv ga gd gl] w (Did w g fp (clr s)) := by
 have b0 := b1alloc w (.cells (gcell ga gd gl).toArray 23)
 obtain ⟨z0, z1, z2⟩ := gthree (Blk.new w (gcell ga gd gl) 23)
 have HR := Lib.hid (right_any g fp s ga gd gl _ hG (h.on b0))
 rw [hf] at HR
 have HP := Lib.hid (fun W => places_any W)
 have hB := fun W => Sec.blank_any W
 have hW := fun fp s p A c W hD hs hr => Disk.write_any g fp s p A 512 c Disk.zero512 W hD hs Disk.zero512_len.symm hr
 have hclr : clr s = if (Disk.write s 2 Disk.zero512).2 = 0 then (if (Disk.write (Disk.write s 2 Disk.zero512).1 3 Disk.zero512).2 = 0 then Disk.flush (Disk.write (Disk.write s 2 Disk.zero512).1 3 Disk.zero512).1 else Disk.write (Disk.write s 2 Disk.zero512).1 3 Disk.zero512) else Disk.write s 2 Disk.zero512 := rfl
 have y1 := Disk.sz_write s 2 Disk.zero512
 have y2 := Disk.sz_write (Disk.write s 2 Disk.zero512).1 3 Disk.zero512
 have hW1 := fun A c W hD hr => hW fp s 2 A c W hD (by omega) hr
 have hW2 := fun fp A c W hD hr => hW fp (Disk.write s 2 Disk.zero512).1 3 A c W hD (by omega) hr
 have hF := fun fp W hD => flush_any g fp (Disk.write (Disk.write s 2 Disk.zero512).1 3 Disk.zero512).1 W hD (by omega)
 clear hW
 rw [show Sec.zero512 = Disk.zero512 from rfl] at hB
 obtain ⟨V, hV⟩ : ∃ V, V = Disk.write s 2 Disk.zero512 := ⟨_, rfl⟩
 rw [<- hV] at hclr hW1 hW2 hF
 obtain ⟨U, hU⟩ : ∃ U, U = Disk.write V.1 3 Disk.zero512 := ⟨_, rfl⟩
 rw [<- hU] at hclr hW2 hF
 obtain ⟨R, hR⟩ : ∃ R, R = clr s := ⟨_, rfl⟩
 rw [<- hR] at hclr ⊢
 obtain ⟨z, hz⟩ : ∃ z, z = Disk.zero512 := ⟨_, rfl⟩
 have hzl : z.length = 512 := by rw [hz]; exact Disk.zero512_len
 rw [<- hz] at hW1 hW2 hB
 unfold RetB at hB
 rw [hzl] at hB
 have HB := Lib.hid hB
 have HW1 := Lib.hid hW1
 have HW2 := Lib.hid hW2
 have HF := Lib.hid hF
 have Hc := Lib.hid hclr
 clear hB hW1 hW2 hF hz hzl hR hU hV y1 y2 hclr
 have i0 : ∀ W, (Instr.index 123 (.agg #[.int .i64 2, .int .i64 3]) (.int .i64 0)).run Tryz.prog W = .ok (.int .i64 2) W := fun W => by kernel_rfl
 have i1 : ∀ W, (Instr.index 123 (.agg #[.int .i64 2, .int .i64 3]) (.int .i64 1)).run Tryz.prog W = .ok (.int .i64 3) W := fun W => by kernel_rfl
 go_enter Tryz.func40, Tryz.ntmps40
 go_wp2_with (first
   | (go_at_call 71; refine (HR.out).mono ?_; rintro e w' ⟨rfl, b1⟩)
   | (go_at_call 72; refine (HP.out _).mono ?_; rintro e w2 ⟨rfl, b2⟩))
 have b3 := bt (bt b0 b1) b2
 go_loopw [16] (fun i wr => ∃ k : Nat, k <= 2 /\ i = .int .i64 k /\ ((k = 0 /\ wr = w2) \/ (k = 1 /\ V.2 = 0 /\ ∃ fp1, DAt wr g fp1 V.1 /\ Keep fp w wr /\ Fresh w fp fp1) \/ (k = 2 /\ V.2 = 0 /\ U.2 = 0 /\ ∃ fp1, DAt wr g fp1 U.1 /\ Keep fp w wr /\ Fresh w fp fp1))) (fun i _ => 2 - (intOf i).toNat)
 case atStart => exact ⟨0, by omega, rfl, .inl ⟨rfl, rfl⟩⟩
 case round =>
   obtain ⟨k, hk, rfl, hcs⟩ := hrel
   rcases hcs with ⟨rfl, rfl⟩ | ⟨rfl, h0, fp1, hD1, hK1, hF1⟩ | ⟨rfl, h0, h1, fp1, hD1, hK1, hF1⟩
   · have arm : True := trivial
     by_cases h0 : V.2 = 0
     · have t0 := bne_no h0
       go_wp2_with (first
         | (go_at_call 74; refine (HB.out _).mono ?_; rintro e w4 ⟨A4, c4, rfl, own4, b4⟩)
         | (go_at_call 73; refine (HW1.out A4 c4 _ (h.on (bt b3 b4)) (RdN.own own4 (h.on b3).lt)).mono ?_; rintro e w5 ⟨rfl, fp5, hD5, k5, f5⟩))
       case roundEnd => exact ⟨⟨1, by omega, rfl, .inr (.inl ⟨rfl, h0, fp5, hD5, k5.of_below5 (bt b3 b4), f5.of_size (bt b3 b4)⟩)⟩, by simp [intOf]⟩
     · have t0 := bne_yes h0
       go_wp2_with (first
         | (go_at_call 74; refine (HB.out _).mono ?_; rintro e w4 ⟨A4, c4, rfl, own4, b4⟩)
         | (go_at_call 73; refine (HW1.out A4 c4 _ (h.on (bt b3 b4)) (RdN.own own4 (h.on b3).lt)).mono ?_; rintro e w5 ⟨rfl, fp5, hD5, k5, f5⟩))
       go_ret
       rw [Hc.out, if_neg h0]
       exact ⟨rfl, fp5, hD5, k5.of_below5 (bt b3 b4), f5.of_size (bt b3 b4)⟩
   · by_cases h1 : U.2 = 0
     · have t0 := bne_no h1
       go_wp2_with (first
         | (go_at_call 74; refine (HB.out _).mono ?_; rintro e w4 ⟨A4, c4, rfl, own4, b4⟩)
         | (go_at_call 73; refine (HW2.out fp1 A4 c4 _ (hD1.on b4) (RdN.own own4 hD1.lt)).mono ?_; rintro e w5 ⟨rfl, fp5, hD5, k5, f5⟩))
       case roundEnd => exact ⟨⟨2, by omega, rfl, .inr (.inr ⟨rfl, h0, h1, fp5, hD5, hK1.trans (k5.of_below5 b4) hF1, hF1.trans hK1.size (f5.of_size b4)⟩)⟩, by simp [intOf]⟩
     · have t0 := bne_yes h1
       go_wp2_with (first
         | (go_at_call 74; refine (HB.out _).mono ?_; rintro e w4 ⟨A4, c4, rfl, own4, b4⟩)
         | (go_at_call 73; refine (HW2.out fp1 A4 c4 _ (hD1.on b4) (RdN.own own4 hD1.lt)).mono ?_; rintro e w5 ⟨rfl, fp5, hD5, k5, f5⟩))
       go_ret
       rw [Hc.out, if_pos h0, if_neg h1]
       exact ⟨rfl, fp5, hD5, hK1.trans (k5.of_below5 b4) hF1, hF1.trans hK1.size (f5.of_size b4)⟩
   · go_wp2_with (first
         | (go_at_call 75; refine (HF.out fp1 _ hD1).mono ?_; rintro e w5 ⟨rfl, fp5, hD5, k5, f5⟩))
     go_ret
     rw [Hc.out, if_pos h0, if_pos h1]
     exact ⟨rfl, fp5, hD5, hK1.trans k5 hF1, hF1.trans hK1.size f5⟩
end Go.Proofs.YtchcmklelmlbgaaGreat.Sup
namespace Go.Proofs.YtchcmklelmlbgaaGreat
open Go.ChangeShapes Go.WideShapes Go.ChangeAt Go.RowKit Go.Joins
open Go.ChangeMaps (open_string shut_string)
set_option linter.unusedVariables false
theorem own : ownKnob Tryz.prog.godebug = none := by kernel_rfl
theorem laidOut : laidOutB Tryz.prog = true := by kernel_rfl
abbrev ei (n : Int) : Value := .int .i64 n
theorem rd_row {w : World} {k : IntKind} {x : Addr} {len cap : Nat} {zs : List Int} (hl : len <= cap) (hz : zs.length = cap) (hc : ∀ i, i < zs.length -> w.cell? (x.add i) = some (.int k (zs.getD i 0))) :
   Rd w w.heap.size (some x) ((zs.take len).map (Value.int k)) := by
 intro hne
 have hlen : 0 < len := by
   rcases Nat.eq_zero_or_pos len with h | h
   · subst h; simp at hne
   · exact h
 obtain ⟨b, off, spot⟩ := x
 have h0 := hc 0 (by omega)
 have hspot : spot = none := by simpa [Addr.add] using World.cell?_spot h0
 subst hspot
 refine ⟨b, off, rfl, ?_, fun i hi => ?_⟩
 · have h0' : w.cell? ⟨b, off, none⟩ ≠ none := by
     have : (⟨b, off, none⟩ : Addr).add 0 = ⟨b, off, none⟩ := by simp [Addr.add]
     rw [this] at h0; rw [h0]; simp
   rcases Nat.lt_or_ge b w.heap.size with h | h
   · exact h
   · exact absurd (by simp [World.cell?, Array.getElem?_eq_none h]) h0'
 · have hi' : i < len := by simpa [hz, Nat.min_eq_left hl] using hi
   have := hc i (by omega)
   rw [Addr.add_lit] at this
   rw [this]
   simp [List.getD, List.getElem?_eq_getElem (show i < zs.length by omega)]
theorem bytes_of {w : World} {A : Option Addr} {len cap : Nat} {E : Type} {P : Program} {enc : TypeId × Value -> E} {t e : TypeId} {spare : Nat -> Bool} {held : Bool} {fuel : Nat} {x : DataW E × List MemPlace}
   (hs : spare = fun _ => true) (ht : P.underlying t = some (.slice e)) (he : P.underlying e = some (.int .u8)) (hc : P.cellsOf e = 1) (h : DataW.trod enc P w 0 spare held fuel t (Value.slice A len cap).cells.toList = some x) :
   ∃ l : List UInt8, l.length = len /\ Rd w w.heap.size A (l.map e8) /\ len <= cap /\ cap <= maxLen := by
 subst hs
 rcases open_ints ht he hc h with ⟨hcs, _⟩ | ⟨x, l, c, zs, hcs, _, hl, hm, hz, _, hcell, hwz⟩
 · simp [Value.cells] at hcs
   obtain ⟨rfl, rfl, rfl⟩ := hcs
   exact ⟨[], rfl, Rd.nil _ _ _, by omega, by unfold maxLen; omega⟩
 · simp [Value.cells] at hcs
   obtain ⟨rfl, rfl, rfl⟩ := hcs
   obtain ⟨l, rfl⟩ := list8 zs hwz
   have hz' : l.length = cap := by simpa using hz
   refine ⟨l.take len, by simp; omega, ?_, hl, hm⟩
   have := rd_row (len := len) hl (by simpa using hz') hcell
   simpa [List.map_take, Function.comp_def] using this
theorem ints_of {w : World} {A : Option Addr} {len cap : Nat} {E : Type} {P : Program} {enc : TypeId × Value -> E} {t e : TypeId} {spare : Nat -> Bool} {held : Bool} {fuel : Nat} {x : DataW E × List MemPlace}
   (hs : spare = fun _ => true) (ht : P.underlying t = some (.slice e)) (he : P.underlying e = some (.int .i64)) (hc : P.cellsOf e = 1) (h : DataW.trod enc P w 0 spare held fuel t (Value.slice A len cap).cells.toList = some x) :
   ∃ l : List Int, l.length = len /\ Rd w w.heap.size A (l.map ei) /\ len <= cap /\ cap <= maxLen /\ (∀ n ∈ l, -9223372036854775808 <= n /\ n <= 9223372036854775807) := by
 subst hs
 rcases open_ints ht he hc h with ⟨hcs, _⟩ | ⟨x, l, c, zs, hcs, _, hl, hm, hz, _, hcell, hwz⟩
 · simp [Value.cells] at hcs
   obtain ⟨rfl, rfl, rfl⟩ := hcs
   exact ⟨[], rfl, Rd.nil _ _ _, by omega, by unfold maxLen; omega, by simp⟩
 · simp [Value.cells] at hcs
   obtain ⟨rfl, rfl, rfl⟩ := hcs
   have hz' : zs.length = cap := by simpa using hz
   refine ⟨zs.take len, by simp; omega, ?_, hl, hm, fun n hn => ?_⟩
   · have := rd_row (len := len) hl hz' hcell
     simpa [List.map_take, Function.comp_def] using this
   · have := hwz n (List.mem_of_mem_take hn)
     simp [Lit.wf, IntKind.min, IntKind.max, IntKind.signed, IntKind.bits] at this
     omega
section
end
theorem wf64 {n : Int} (h : (Lit.int .u64 n).wf = true) : ∃ x : UInt64, n = (x.toNat : Int) := by
 simp [Lit.wf, IntKind.min, IntKind.max, IntKind.signed, IntKind.bits] at h; exact to64 n (by omega) (by omega)
theorem wfi {n : Int} (h : (Lit.int .i64 n).wf = true) : -9223372036854775808 <= n /\ n <= 9223372036854775807 := by
 simp [Lit.wf, IntKind.min, IntKind.max, IntKind.signed, IntKind.bits] at h; omega
theorem places_lt {H : Type} {enc : TypeId × Value -> H} {P : Program} {W : World} {t : TypeId} {v : Value} {d : DataW H} {p : List MemPlace} (k : DataW.Trod enc P W 0 (fun _ => true) true t v d p) : ∀ x ∈ p, x.block < W.heap.size := by
 obtain ⟨m, hm⟩ := k; exact DataW.trod_lt m _ _ _ hm
section
open Go.Deep
variable {H : Type} {enc : TypeId × Value -> H} {P : Program} {w : World} {base : Nat} {spare : Nat -> Bool} {held : Bool}
theorem open_slice_fields {t e : TypeId} {fs : Array Field} {fuel : Nat} {cs : List Value} {x : DataW H × List MemPlace} (ht : P.underlying t = some (.slice e)) (he : P.underlying e = some (.struct fs))
   (hone : oneCellFields P fs = true) (hC : P.cellsOf e = fs.size) (h : DataW.trod enc P w base spare held fuel t cs = some x) :
   cs = [.slice none 0 0] \/ ∃ (a : Addr) (len cap m : Nat), cs = [.slice (some a) len cap] /\ base <= a.block /\ len <= cap /\ cap <= maxLen /\ m = (if spare a.block then cap else len) /\
     ∀ i, i < m -> ∃ (ys : List (DataW H × List MemPlace)) (n : Nat),
       ∀ (j : Nat) (f : Field), fs[j]? = some f -> ∃ (v : Value) (y : DataW H × List MemPlace), w.cell? (a.add (i * fs.size + j)) = some v /\ ys[j]? = some y /\ DataW.trod enc P w base spare held n f.type [v] = some y := by
 rcases open_slice ht h with h0 | ⟨a, len, cap, m, n, D, Pl, hcs, hb, hl, hm, hmm, hx, hi⟩
 · exact .inl h0.1
 · refine .inr ⟨a, len, cap, m, hcs, hb, hl, hm, hmm, fun i him => ?_⟩
   obtain ⟨cs', hc, ht'⟩ := hi i him
   rw [hC] at hc
   obtain ⟨ys, n', hn', hy, hlen, hyl, hf⟩ := DataW.trod_struct he ht'
   obtain ⟨_, hcl, hat⟩ := World.cells?_some hc
   refine ⟨ys, n', fun j f hj => ?_⟩
   obtain ⟨ho, hk⟩ := hone_of hone j f hj
   have hjl : j < fs.size := (Array.getElem?_eq_some_iff.1 hj).1
   have hcell := hat j hjl
   have hv : cs'[j]? = some (cs'[j]'(by omega)) := List.getElem?_eq_getElem (by omega)
   have h1 := hf j f hj
   rw [ho, hk] at h1
   have hone' : (cs'.drop j).take 1 = [cs'[j]'(by omega)] := by
     rw [List.drop_eq_getElem_cons (by omega)]
     rfl
   rw [hone'] at h1
   have hys : ys[j]? = some (ys[j]'(by omega)) := List.getElem?_eq_getElem (by omega)
   refine ⟨_, _, ?_, hys, h1.trans hys⟩
   rw [<- Go.Deep.add_add, hcell, hv]
theorem bytes_of1 {E : Type} {enc : TypeId × Value -> E} {t e : TypeId} {fuel : Nat} {v : Value} {yy : DataW E × List MemPlace}
   (ht : P.underlying t = some (.slice e)) (he : P.underlying e = some (.int .u8)) (hc : P.cellsOf e = 1) (h : DataW.trod enc P w 0 (fun _ => true) held fuel t [v] = some yy) :
   ∃ (A : Option Addr) (l : List UInt8) (c : Nat), v = .slice A l.length c /\ Rd w w.heap.size A (l.map e8) /\ l.length <= c /\ c <= maxLen := by
 have h0 := h
 rcases open_ints ht he hc h with ⟨hcs, _⟩ | ⟨x, l, c, zs, hcs, _, hl, hm, hz, _, hcell, hwz⟩
 · simp only [List.cons.injEq, and_true] at hcs
   exact ⟨none, [], 0, hcs, Rd.nil _ _ _, by simp, by unfold maxLen; omega⟩
 · simp only [List.cons.injEq, and_true] at hcs
   subst hcs
   obtain ⟨A, hA⟩ : ∃ A, A = some x := ⟨_, rfl⟩
   have h' : DataW.trod enc P w 0 (fun _ => true) held fuel t (Value.slice A l c).cells.toList = some yy := by rw [hA]; exact h0
   obtain ⟨ll, h1, h2, h3, h4⟩ := bytes_of rfl ht he hc h'
   subst h1
   exact ⟨A, ll, c, by rw [hA], h2, h3, h4⟩
theorem choose_list {α : Type} {n : Nat} {p : Nat -> α -> Prop} (h : ∀ i, i < n -> ∃ a, p i a) : ∃ l : List α, l.length = n /\ ∀ i (hi : i < l.length), p i l[i] := by
 induction n with
 | zero => exact ⟨[], rfl, fun i hi => absurd hi (by simp)⟩
 | succ n ih =>
   obtain ⟨l, hl, hp⟩ := ih fun i hi => h i (by omega)
   obtain ⟨a, ha⟩ := h n (by omega)
   refine ⟨l ++ [a], by simp [hl], fun i hi => ?_⟩
   rw [List.getElem_append]
   by_cases e : i < l.length
   · rw [dif_pos e]; exact hp i e
   · rw [dif_neg e]
     have : i = n := by simp at hi; omega
     subst this
     simpa using ha
end
end Go.Proofs.YtchcmklelmlbgaaGreat
namespace Go.Proofs.YtchcmklelmlbgaaGreat
open Go.RowKit
set_option linter.unusedVariables false
def Rws (w : World) (B : Nat) (A : Option Addr) (l : List (List UInt8)) : Prop :=
 l ≠ [] -> ∃ b off, A = some ⟨b, off, none⟩ /\ b < B /\ ∀ i (h : i < l.length), ∃ Ai ci, w.cell? ⟨b, off + i, none⟩ = some (.slice Ai l[i].length ci) /\ Rd w B Ai (l[i].map e8) /\ l[i].length <= ci /\ ci <= maxLen
theorem Rws.get {w : World} {B : Nat} {A : Option Addr} {l : List (List UInt8)} (h : Rws w B A l) {i : Nat} (hi : i < l.length) :
   ∃ b off Ai ci, A = some ⟨b, off, none⟩ /\ b < B /\ w.cell? ⟨b, off + i, none⟩ = some (.slice Ai l[i].length ci) /\ Rd w B Ai (l[i].map e8) /\ l[i].length <= ci /\ ci <= maxLen := by
 obtain ⟨b, off, rfl, hb, hc⟩ := h (by intro e; rw [e] at hi; exact absurd hi (by simp))
 obtain ⟨Ai, ci, h1⟩ := hc i hi
 exact ⟨b, off, Ai, ci, rfl, hb, h1⟩
theorem Rws.below {w w' : World} {B : Nat} {A : Option Addr} {l : List (List UInt8)} (h : Rws w B A l) (hb : Below B w w') : Rws w' B A l := by
 intro hne
 obtain ⟨b, off, rfl, hlt, hc⟩ := h hne
 refine ⟨b, off, rfl, hlt, fun i hi => ?_⟩
 obtain ⟨Ai, ci, h1, h2, h3⟩ := hc i hi
 exact ⟨Ai, ci, (hb.cell (p := ⟨b, off + i, none⟩) hlt).trans h1, h2.below hb, h3⟩
theorem Rws.more {w : World} {B B' : Nat} {A : Option Addr} {l : List (List UInt8)} (h : Rws w B A l) (hB : B <= B') : Rws w B' A l := by
 intro hne
 obtain ⟨b, off, rfl, hlt, hc⟩ := h hne
 refine ⟨b, off, rfl, by omega, fun i hi => ?_⟩
 obtain ⟨Ai, ci, h1, h2, h3⟩ := hc i hi
 exact ⟨Ai, ci, h1, h2.more hB, h3⟩
theorem Rws.on {w w' : World} {A : Option Addr} {l : List (List UInt8)} (h : Rws w w.heap.size A l) (hb : Below w.heap.size w w') : Rws w' w'.heap.size A l := (h.below hb).more hb.size
open Go.ChangeShapes Go.WideShapes Go.ChangeAt Go.Joins Go.Deep
set_option maxRecDepth 100000
end Go.Proofs.YtchcmklelmlbgaaGreat
namespace Go.Proofs.YtchcmklelmlbgaaGreat.Snap
open Go.RowKit
open Go.Proofs.YtchcmklelmlbgaaGreat.Geom
open Go.Proofs.YtchcmklelmlbgaaGreat.Sup (Gb gv gcell srightF)
open Go.Proofs.YtchcmklelmlbgaaGreat.Disk (St DAt Did New8 Told8)
open Go.Proofs.YtchcmklelmlbgaaGreat.Sec (X SymAt text sumOf sumAfter ckS blankB rightF encode_sym decode_sym right_0 right_2 xv RetX X0 five5x)
set_option linter.unusedVariables false
set_option maxRecDepth 100000
abbrev acell (d s : Value) (ga gd gl : Int) (life : UInt64) : List Value := [d, s, .int .i64 ga, .int .i64 gd, .int .i64 gl, .int .u64 (life.toNat : Int)]
abbrev av (d s : Value) (ga gd gl : Int) (life : UInt64) : Value := .agg #[d, s, .int .i64 ga, .int .i64 gd, .int .i64 gl, .int .u64 (life.toNat : Int)]
theorem six6 {w : World} {g : Nat} {v0 v1 v2 v3 v4 v5 : Value} (h : Blk w g [v0, v1, v2, v3, v4, v5]) : w.cell? ⟨g, 0, none⟩ = some v0 /\ w.cell? ⟨g, 1, none⟩ = some v1 /\ w.cell? ⟨g, 2, none⟩ = some v2 /\ w.cell? ⟨g, 3, none⟩ = some v3 /\ w.cell? ⟨g, 4, none⟩ = some v4 /\ w.cell? ⟨g, 5, none⟩ = some v5 :=
 ⟨h.cell (k := 0) (by simp), h.cell (k := 1) (by simp), h.cell (k := 2) (by simp), h.cell (k := 3) (by simp), h.cell (k := 4) (by simp), h.cell (k := 5) (by simp)⟩
set_option maxHeartbeats 1000000 in
theorem right_any (g : Nat) (fp : List Nat) (s : St) (gS : Nat) (ga gd gl : Int) (life : UInt64) (w : World) (hG : Gb ga gd gl) (h : DAt w g fp s) : Calls Tryz.prog 90 #[av (.pointer (some ⟨g, 0, none⟩)) (.pointer (some ⟨gS, 0, none⟩)) ga gd gl life] w fun e w' => e = .returned (.int .i64 (srightF s ga gd gl)) /\ Below w.heap.size w w' := by
 have F := Blk.new w (acell (.pointer (some ⟨g, 0, none⟩)) (.pointer (some ⟨gS, 0, none⟩)) ga gd gl life) 143
 have b0 := b1alloc w (.cells (acell (.pointer (some ⟨g, 0, none⟩)) (.pointer (some ⟨gS, 0, none⟩)) ga gd gl life).toArray 143)
 obtain ⟨z0, z1, z2, z3, z4, z5⟩ := six6 F
 have HR := Lib.hid (fun W => Geom.right_any ga gd gl W hG.a0 hG.a1 hG.d0 hG.d1 hG.g0 hG.g1)
 have HZ := Lib.hid (fun W => Geom.size_any ga gd gl W hG.a0 hG.a1 hG.d0 hG.d1 hG.g0 hG.g1)
 have HD := Lib.hid (fun W (bW : Below w.heap.size w W) => Disk.size_any g fp s W (h.on bW))
 unfold srightF
 obtain ⟨q, hq⟩ : ∃ q, q = right ga gd gl := ⟨_, rfl⟩
 obtain ⟨z, hz⟩ : ∃ z, z = Geom.sizeOf ga gd gl := ⟨_, rfl⟩
 rw [<- hq] at HR ⊢
 rw [<- hz] at HZ ⊢
 clear hq hz
 cases q with
 | false =>
   rw [if_neg (by simp)]
   go_enter Tryz.func90, Tryz.ntmps90
   go_wp2_with fail
   refine region_inb (by kernel_rfl) (by kernel_rfl) ?_
   have inbNe := InB.some
   have inbW := @wrap_small
   have inbU := IntKind.wrap_u8'
   repeat (refine wpQuiet_step (fun K hK => ?_); go_simp; first | (refine hK _ ?_; clear hK K) | (apply Exists.intro; refine ⟨?_, hK _ ?_⟩; (· (intro w' hw'; first | (go_at_call 67; refine (HR.out _).mono ?_; rintro e w1 ⟨rfl, b1⟩; exact ⟨rfl, hw'.on b1⟩) | (have hcw := hw'.cell; go_simp; exact rfl))); clear hK K))
   refine wpQuiet_nil ?_
   intro wq hq
   clear inbNe inbW inbU
   go_wp2
   go_ret
   exact ⟨rfl, bt b0 hq.below⟩
 | true =>
   by_cases hs : (s.size : Int) = z
   · rw [if_pos ⟨rfl, hs⟩]
     have t0 := bne_no hs
     have Hs := Lib.hid hs
     clear hs
     go_enter Tryz.func90, Tryz.ntmps90
     go_wp2_with fail
     refine region_inb (by kernel_rfl) (by kernel_rfl) ?_
     have inbNe := InB.some
     have inbW := @wrap_small
     have inbU := IntKind.wrap_u8'
     repeat (refine wpQuiet_step (fun K hK => ?_); go_simp; first | (refine hK _ ?_; clear hK K) | (apply Exists.intro; refine ⟨?_, hK _ ?_⟩; (· (intro w' hw'; first | (go_at_call 67; refine (HR.out _).mono ?_; rintro e w1 ⟨rfl, b1⟩; exact ⟨rfl, hw'.on b1⟩) | (go_at_call 68; refine (HD.out _ (bt b0 hw'.below)).mono ?_; rintro e w1 ⟨rfl, rfl⟩; exact ⟨rfl, hw'⟩) | (go_at_call 69; refine (HZ.out _).mono ?_; rintro e w1 ⟨rfl, b1⟩; exact ⟨rfl, hw'.on b1⟩) | (have hcw := hw'.cell; go_simp; exact rfl))); clear hK K))
     refine wpQuiet_nil ?_
     intro wq hq
     clear inbNe inbW inbU
     go_wp2
     go_ret
     exact ⟨rfl, bt b0 hq.below⟩
   · rw [if_neg (fun e => hs e.2)]
     have t0 := bne_yes hs
     have Hs := Lib.hid hs
     clear hs
     go_enter Tryz.func90, Tryz.ntmps90
     go_wp2_with fail
     refine region_inb (by kernel_rfl) (by kernel_rfl) ?_
     have inbNe := InB.some
     have inbW := @wrap_small
     have inbU := IntKind.wrap_u8'
     repeat (refine wpQuiet_step (fun K hK => ?_); go_simp; first | (refine hK _ ?_; clear hK K) | (apply Exists.intro; refine ⟨?_, hK _ ?_⟩; (· (intro w' hw'; first | (go_at_call 67; refine (HR.out _).mono ?_; rintro e w1 ⟨rfl, b1⟩; exact ⟨rfl, hw'.on b1⟩) | (go_at_call 68; refine (HD.out _ (bt b0 hw'.below)).mono ?_; rintro e w1 ⟨rfl, rfl⟩; exact ⟨rfl, hw'⟩) | (go_at_call 69; refine (HZ.out _).mono ?_; rintro e w1 ⟨rfl, b1⟩; exact ⟨rfl, hw'.on b1⟩) | (have hcw := hw'.cell; go_simp; exact rfl))); clear hK K))
     refine wpQuiet_nil ?_
     intro wq hq
     clear inbNe inbW inbU
     go_wp2
     go_ret
     exact ⟨rfl, bt b0 hq.below⟩
theorem long_any (A : Option Addr) (n c : Nat) (w : World) : Calls Tryz.prog 102 #[.slice A n c] w fun e w' => e = .returned (.bool (decide (479 < n))) /\ w = w' := by
 have hd : decide ((479 : Int) < (n : Int)) = decide (479 < n) := by
   by_cases h : 479 < n
   · rw [decide_eq_true h, decide_eq_true (by omega)]
   · rw [decide_eq_false h, decide_eq_false (by omega)]
 go_enter Tryz.func102, Tryz.ntmps102
 go_wp2
 go_ret
 exact ⟨ret_bool (by first | exact hd | simp), rfl⟩
end Go.Proofs.YtchcmklelmlbgaaGreat.Snap
namespace Go.Proofs.YtchcmklelmlbgaaGreat.Snap
open Go.RowKit
open Go.Proofs.YtchcmklelmlbgaaGreat.Geom
open Go.Proofs.YtchcmklelmlbgaaGreat.Sup (Gb gv gcell srightF)
open Go.Proofs.YtchcmklelmlbgaaGreat.Disk (St DAt Did New8 Told8)
open Go.Proofs.YtchcmklelmlbgaaGreat.Sec (X SymAt text sumOf sumAfter ckS blankB rightF encode_sym decode_sym right_0 right_2 xv RetX X0 five5x)
set_option linter.unusedVariables false
set_option maxRecDepth 100000
def px (life : UInt64) (n : Nat) (b : List UInt8) : X := ⟨3, life, (n : Int), 0, b⟩
def pB (l : List (List UInt8)) (p : Int) (life : UInt64) (n : Nat) (b : List UInt8) : List UInt8 := text p (px life n b) ++ sumOf l (text p (px life n b))
def pL (l : List (List UInt8)) (p : Int) (life : UInt64) (n : Nat) (b : List UInt8) : List (List UInt8) := sumAfter l (text p (px life n b))
theorem pB_len (l : List (List UInt8)) (p : Int) (life : UInt64) (n : Nat) (b : List UInt8) : (pB l p life n b).length = 512 := by unfold pB; rw [List.length_append, Sec.text_len, Sec.sumOf_len]
theorem px_right {p : Int} {life : UInt64} {n : Nat} {b : List UInt8} (h0 : 0 <= p) (h1 : p <= 1023) (hn : n <= 1000) (hb : b.length <= 479) : rightF p (px life n b) = 0 :=
 right_0 (by unfold px; simp only []; omega) (by unfold px; simp only []; omega)
set_option maxHeartbeats 2000000 in
theorem put_any (g : Nat) (fp : List Nat) (s : St) (gS bS : Nat) (l : List (List UInt8)) (ga gd gl : Int) (life : UInt64) (n : Nat) (b : List UInt8) (A : Option Addr) (c : Nat) (w : World) (hG : Gb ga gd gl) (h : Both w g fp s gS bS l) (hl : l.length <= 1000000) (hs : s.sz <= 90000000)
   (h0 : 0 <= areaAt ga gd gl life.toNat n) (h1 : areaAt ga gd gl life.toNat n <= 1023) (hn : n <= 1000) (hb : b.length <= 479) (hr : Rd w w.heap.size A (b.map e8)) :
   Calls Tryz.prog 104 #[av (.pointer (some ⟨g, 0, none⟩)) (.pointer (some ⟨gS, 0, none⟩)) ga gd gl life, .int .i64 (n : Int), .slice A b.length c] w fun e w' => e = .returned (.int .i64 (Disk.write s (areaAt ga gd gl life.toNat n) (pB l (areaAt ga gd gl life.toNat n) life n b)).2) /\ Turn w g fp gS bS (Disk.write s (areaAt ga gd gl life.toNat n) (pB l (areaAt ga gd gl life.toNat n) life n b)).1 (pL l (areaAt ga gd gl life.toNat n) life n b) w' := by
 have F := Blk.new w (acell (.pointer (some ⟨g, 0, none⟩)) (.pointer (some ⟨gS, 0, none⟩)) ga gd gl life) 143
 have b0 := b1alloc w (.cells (acell (.pointer (some ⟨g, 0, none⟩)) (.pointer (some ⟨gS, 0, none⟩)) ga gd gl life).toArray 143)
 obtain ⟨z0, z1, z2, z3, z4, z5⟩ := six6 F
 have hAr := fun W => Geom.area_any ga gd gl life _ (by rfl) (n : Int) W hG.a0 hG.a1 hG.d0 hG.d1 hG.g0 hG.g1 (show Geom.lo <= (n : Int) by unfold Geom.lo; omega) (show (n : Int) <= Geom.hi by unfold Geom.hi; omega)
 obtain ⟨p, hp⟩ : ∃ p, p = areaAt ga gd gl life.toNat n := ⟨_, rfl⟩
 rw [<- hp] at hAr h0 h1 ⊢
 have hE := fun A c W hb' hr' => encode_sym p gS bS l (px life n b) A c W hb' hl hr' (px_right h0 h1 hn hb)
 have hE' : ∀ A c W, SymAt W gS bS l -> Rd W W.heap.size A (b.map e8) -> Calls Tryz.prog 105 #[.pointer (some ⟨gS, 0, none⟩), .int .i64 p, .agg #[.int .i64 3, .int .u64 (life.toNat : Int), .int .i64 (n : Int), .int .u64 0, .slice A b.length c]] W _ := fun A c W hb' hr' => hE A c W hb' hr'
 rw [show text p (px life n b) ++ sumOf l (text p (px life n b)) = pB l p life n b from rfl, show sumAfter l (text p (px life n b)) = pL l p life n b from rfl] at hE'
 have hW := fun A c W hD hr' => Disk.write_any g fp s p A 512 c (pB l p life n b) W hD (by omega) (pB_len l p life n b).symm hr'
 obtain ⟨V, hV⟩ : ∃ V, V = Disk.write s p (pB l p life n b) := ⟨_, rfl⟩
 obtain ⟨bb, hbb⟩ : ∃ V, V = pB l p life n b := ⟨_, rfl⟩
 obtain ⟨l', hl'⟩ : ∃ V, V = pL l p life n b := ⟨_, rfl⟩
 rw [<- hV] at hW ⊢
 rw [<- hbb] at hW hE'
 rw [<- hl'] at hE' ⊢
 have HA := Lib.hid hAr
 have HE := Lib.hid hE'
 have HW := Lib.hid hW
 have FG := Lib.hid F
 have nG : w.heap.size ∉ [bS] := by have := h.sym.lt.2; rw [List.mem_singleton]; omega
 clear hAr hE hE' hW hV hbb hl' hp F
 go_enter Tryz.func104, Tryz.ntmps104
 go_wp2_with (first
   | (go_at_call 116; refine (HA.out _).mono ?_; rintro e w1 ⟨rfl, b1⟩; have F1 := FG.out.on b1; clear z0 z1 z2 z3 z4 z5; obtain ⟨z0, z1, z2, z3, z4, z5⟩ := six6 F1; have H1 := h.on (bt b0 b1))
   | (go_at_call 105; refine (HE.out A c _ H1.sym ((hr.below (bt b0 b1)).more (bt b0 b1).size)).mono ?_; rintro e w2 ⟨A2, c2, rfl, own2, k2, s2⟩; have H2 := H1.summed s2 k2; have F2 := F1.keepK k2 nG; clear z0 z1 z2 z3 z4 z5; obtain ⟨z0, z1, z2, z3, z4, z5⟩ := six6 F2; have K2 := keepT (fp := fp) (Keep.of_below (bt b0 b1) (bS :: fp)) (Fresh.refl _ _) (keepB k2))
   | (go_at_call 73; refine (HW.out A2 c2 _ H2.disk (RdN.own own2 H1.disk.lt)).mono ?_; rintro e w3 ⟨rfl, fp3, hD3, k3, f3⟩; have H3 := H2.did hD3 k3 f3))
 go_ret
 have hz2 := K2.size
 exact ⟨rfl, fp3, H3, keepT K2 (Fresh.refl _ _) (keepF k3), fun j hj => (f3 j hj).imp id (fun e => by omega)⟩
end Go.Proofs.YtchcmklelmlbgaaGreat.Snap
namespace Go.Proofs.YtchcmklelmlbgaaGreat.Snap
open Go.RowKit
set_option linter.unusedVariables false
set_option maxRecDepth 100000
def longB (l : List (List UInt8)) : Bool := l.any fun b => decide (479 < b.length)
theorem longB_no {l : List (List UInt8)} (h : ∀ j (hj : j < l.length), l[j].length <= 479) : longB l = false := by
 unfold longB
 rw [List.any_eq_false]
 intro b hb
 obtain ⟨j, hj, rfl⟩ := List.mem_iff_getElem.1 hb
 have := h j hj
 simp; omega
theorem longB_yes {l : List (List UInt8)} {j : Nat} (hj : j < l.length) (h : 479 < l[j].length) : longB l = true := by
 unfold longB
 rw [List.any_eq_true]
 exact ⟨l[j], List.getElem_mem hj, by simpa using h⟩
set_option maxHeartbeats 1000000 in
theorem index_any (A : Option Addr) (l : List (List UInt8)) (c : Nat) (w : World) (hr : Rws w w.heap.size A l) (hcl : l.length <= 1000000) :
   Calls Tryz.prog 119 #[.slice A l.length c, .func (.func 102) #[] #[]] w fun e w' => (∃ k : Int, e = .returned (.int .i64 k) /\ decide (0 <= k) = longB l) /\ w = w' := by
 have hm1 : ∀ (x : Array Value) (w : World), Sem.run Tryz.prog (callFunc 102 x) w = .ok (.enter 102 x) w := by intro x w; simp [go_sem]
 go_enter Tryz.func119, Tryz.ntmps119
 go_wp2_with fail
 go_loopw [8] (fun i wr => ∃ k : Nat, k <= l.length /\ i = .int .i64 k /\ wr = w /\ ∀ j (hj : j < l.length), j < k -> l[j].length <= 479) (fun i _ => l.length - (intOf i).toNat)
 case atStart => exact ⟨0, by omega, rfl, rfl, fun j hj h => by omega⟩
 case round =>
   obtain ⟨k, hk, rfl, rfl, hall⟩ := hrel
   by_cases hlt : k < l.length
   · obtain ⟨b, off, Ai, ci, rfl, hb, hc, _, _, _⟩ := hr.get hlt
     have hkn : (k : Int) < (l.length : Int) := by omega
     have hwk : wrap64 ((k : Int) + 1) = (k : Int) + 1 := by unfold wrap64; omega
     by_cases hl : 479 < l[k].length
     · have hd := decide_eq_true hl
       have hy := Lib.hid (longB_yes hlt hl)
       go_wp2_with (go_at_call 102; refine (long_any _ _ _ _).mono ?_; rintro e w1 ⟨rfl, rfl⟩; rw [hd])
       go_ret
       exact ⟨⟨(k : Int), rfl, by rw [hy.out]; exact decide_eq_true (by omega)⟩, rfl⟩
     · have hd := decide_eq_false hl
       go_wp2_with (go_at_call 102; refine (long_any _ _ _ _).mono ?_; rintro e w1 ⟨rfl, rfl⟩; rw [hd])
       case roundEnd => exact ⟨⟨k + 1, by omega, by first | rfl | simp | (rw [hwk]; rfl), by first | trivial | rfl, fun j hj h => by
         rcases (show j < k \/ j = k by omega) with h1 | h1
         · exact hall j hj h1
         · subst h1; omega⟩, by simp only [intOf]; omega⟩
   · have hkn : ¬ (k : Int) < (l.length : Int) := by omega
     have hn := Lib.hid (longB_no (l := l) (fun j hj => hall j hj (by omega)))
     go_wp2
     go_ret
     exact ⟨⟨-1, rfl, by rw [hn.out]; rfl⟩, rfl⟩
theorem contains_any (A : Option Addr) (l : List (List UInt8)) (c : Nat) (w : World) (hr : Rws w w.heap.size A l) (hcl : l.length <= 1000000) :
   Calls Tryz.prog 103 #[.slice A l.length c, .func (.func 102) #[] #[]] w fun e w' => e = .returned (.bool (longB l)) /\ w = w' := by
 go_enter Tryz.func103, Tryz.ntmps103
 go_wp2_with (go_at_call 119; refine (index_any A l c _ hr hcl).mono ?_; rintro e w1 ⟨⟨k, rfl, hk⟩, rfl⟩)
 go_ret
 exact ⟨by first | rfl | exact ret_bool hk, rfl⟩
end Go.Proofs.YtchcmklelmlbgaaGreat.Snap
namespace Go.Proofs.YtchcmklelmlbgaaGreat
open Go.RowKit
set_option linter.unusedVariables false
def RdQ (w : World) (Q : Nat -> Prop) (A : Option Addr) (xs : List Value) : Prop :=
 xs ≠ [] -> ∃ b off, A = some ⟨b, off, none⟩ /\ b < w.heap.size /\ Q b /\ ∀ i (h : i < xs.length), w.cell? ⟨b, off + i, none⟩ = some xs[i]
theorem RdQ.nil (w : World) (Q : Nat -> Prop) (A : Option Addr) : RdQ w Q A [] := fun h => absurd rfl h
theorem RdQ.rd {w : World} {Q : Nat -> Prop} {A : Option Addr} {xs : List Value} (h : RdQ w Q A xs) : Rd w w.heap.size A xs := fun hne => by
 obtain ⟨b, off, rfl, hb, _, hc⟩ := h hne
 exact ⟨b, off, rfl, hb, hc⟩
theorem RdQ.keep {w w' : World} {Q : Nat -> Prop} {A : Option Addr} {xs : List Value} {fp : List Nat} (h : RdQ w Q A xs) (k : Keep fp w w') (hf : ∀ j, Q j -> j < w.heap.size -> j ∉ fp) : RdQ w' Q A xs := fun hne => by
 obtain ⟨b, off, rfl, hb, hq, hc⟩ := h hne
 exact ⟨b, off, rfl, Nat.lt_of_lt_of_le hb k.size, hq, fun i hi => (World.cell?_of_block (k.block hb (hf b hq hb))).trans (hc i hi)⟩
theorem RdQ.imp {w : World} {Q Q' : Nat -> Prop} {A : Option Addr} {xs : List Value} (h : RdQ w Q A xs) (hq : ∀ j, j < w.heap.size -> Q j -> Q' j) : RdQ w Q' A xs := fun hne => by
 obtain ⟨b, off, rfl, hb, h1, hc⟩ := h hne
 exact ⟨b, off, rfl, hb, hq b hb h1, hc⟩
theorem RdQ.on {w w' : World} {Q : Nat -> Prop} {A : Option Addr} {xs : List Value} (h : RdQ w Q A xs) (b : Below w.heap.size w w') : RdQ w' Q A xs := h.keep (Keep.of_below b []) (fun j _ _ => by simp)
theorem RdQ.own {w : World} {base : Nat} {e : TypeId} {A : Option Addr} {n c : Nat} {xs : List Value} (h : w.ownsRow base e 1 (.slice A n c) n xs) : RdQ w (fun j => base <= j) A xs := by
 intro hne
 rcases h.2 with ⟨hv, hn⟩ | ⟨g, cap, cur, hv, hg, hh, hnc, hcm, hcs, ht⟩
 · exact absurd (List.eq_nil_of_length_eq_zero (by have := h.1; omega)) hne
 · injection hv with hA _ _
   subst hA
   refine ⟨g, 0, rfl, lt_of_block hh, hg, fun i hi => ?_⟩
   have hl := h.1
   have := World.ownsRow.cellAt (j := i) h (by omega)
   rw [Nat.zero_add, this]; exact List.getElem?_eq_getElem hi
def Rw (w : World) (Q : Nat -> Prop) (A : Option Addr) (l : List (List UInt8)) : Prop :=
 l ≠ [] -> ∃ b off, A = some ⟨b, off, none⟩ /\ b < w.heap.size /\ Q b /\ ∀ i (h : i < l.length), ∃ Ai ci, w.cell? ⟨b, off + i, none⟩ = some (.slice Ai l[i].length ci) /\ RdQ w Q Ai (l[i].map e8) /\ l[i].length <= ci /\ ci <= maxLen
theorem Rw.get {w : World} {Q : Nat -> Prop} {A : Option Addr} {l : List (List UInt8)} (h : Rw w Q A l) {i : Nat} (hi : i < l.length) :
   ∃ b off Ai ci, A = some ⟨b, off, none⟩ /\ b < w.heap.size /\ w.cell? ⟨b, off + i, none⟩ = some (.slice Ai l[i].length ci) /\ RdQ w Q Ai (l[i].map e8) /\ l[i].length <= ci /\ ci <= maxLen := by
 obtain ⟨b, off, rfl, hb, _, hc⟩ := h (by intro e; rw [e] at hi; exact absurd hi (by simp))
 obtain ⟨Ai, ci, h1⟩ := hc i hi
 exact ⟨b, off, Ai, ci, rfl, hb, h1⟩
theorem Rw.keep {w w' : World} {Q : Nat -> Prop} {A : Option Addr} {l : List (List UInt8)} {fp : List Nat} (h : Rw w Q A l) (k : Keep fp w w') (hf : ∀ j, Q j -> j < w.heap.size -> j ∉ fp) : Rw w' Q A l := fun hne => by
 obtain ⟨b, off, rfl, hb, hq, hc⟩ := h hne
 refine ⟨b, off, rfl, Nat.lt_of_lt_of_le hb k.size, hq, fun i hi => ?_⟩
 obtain ⟨Ai, ci, h1, h2, h3⟩ := hc i hi
 exact ⟨Ai, ci, (World.cell?_of_block (k.block hb (hf b hq hb))).trans h1, h2.keep k hf, h3⟩
theorem Rw.on {w w' : World} {Q : Nat -> Prop} {A : Option Addr} {l : List (List UInt8)} (h : Rw w Q A l) (b : Below w.heap.size w w') : Rw w' Q A l := h.keep (Keep.of_below b []) (fun j _ _ => by simp)
theorem Rw.imp {w : World} {Q Q' : Nat -> Prop} {A : Option Addr} {l : List (List UInt8)} (h : Rw w Q A l) (hq : ∀ j, j < w.heap.size -> Q j -> Q' j) : Rw w Q' A l := fun hne => by
 obtain ⟨b, off, rfl, hb, h1, hc⟩ := h hne
 refine ⟨b, off, rfl, hb, hq b hb h1, fun i hi => ?_⟩
 obtain ⟨Ai, ci, g1, g2, g3⟩ := hc i hi
 exact ⟨Ai, ci, g1, g2.imp hq, g3⟩
theorem Rw.rws {w : World} {Q : Nat -> Prop} {A : Option Addr} {l : List (List UInt8)} (h : Rw w Q A l) : Rws w w.heap.size A l := fun hne => by
 obtain ⟨b, off, rfl, hb, _, hc⟩ := h hne
 refine ⟨b, off, rfl, hb, fun i hi => ?_⟩
 obtain ⟨Ai, ci, h1, h2, h3⟩ := hc i hi
 exact ⟨Ai, ci, h1, h2.rd, h3⟩
theorem Rd.q {w : World} {B : Nat} {A : Option Addr} {xs : List Value} (h : Rd w B A xs) (hB : B <= w.heap.size) : RdQ w (fun j => j < B) A xs := fun hne => by
 obtain ⟨b, off, rfl, hb, hc⟩ := h hne
 exact ⟨b, off, rfl, Nat.lt_of_lt_of_le hb hB, hb, hc⟩
end Go.Proofs.YtchcmklelmlbgaaGreat
namespace Go.Proofs.YtchcmklelmlbgaaGreat.Sup
open Go.RowKit
open Go.Proofs.YtchcmklelmlbgaaGreat.Geom
open Go.Proofs.YtchcmklelmlbgaaGreat.Disk (St DAt Did flush_any read_any New8 Told8)
open Go.Proofs.YtchcmklelmlbgaaGreat.Sec (X SymAt text sumOf sumAfter ckS blankB rightF encode_sym decode_sym isBlank_any right_0 right_2 xv RetX X0 five5x)
set_option linter.unusedVariables false
set_option maxRecDepth 100000
def isSup (ga gd gl p : Int) (d : X × Int) : Bool := decide (d.2 = 0) && decide (d.1.kind = 2) && decide (splace d.1.life = p) && R1.sameB d.1.body (mk ga gd gl)
def dec (l : List (List UInt8)) (p : Int) (b : List UInt8) : X × Int := Sec.decode (ckS l b) p b
structure SV where
 life : UInt64
 base : Int
 gen : UInt64
def SV.v (x : SV) : Value := sv x.life x.base x.gen
def SV.zero : SV := ⟨0, 0, 0⟩
def atR (l : List (List UInt8)) (s : St) (ga gd gl p : Int) : Option SV :=
 if isSup ga gd gl p (dec l p (Disk.read s p).1) = true then some ⟨(dec l p (Disk.read s p).1).1.life, (dec l p (Disk.read s p).1).1.seq, (dec l p (Disk.read s p).1).1.gen⟩ else none
def atV : Option SV -> Value
 | some x => .tuple #[x.v, .bool true, .int .i64 0]
 | none => .tuple #[SV.zero.v, .bool false, .int .i64 0]
theorem size_ge {ga gd gl : Int} (h : right ga gd gl = true) : 7 <= Geom.sizeOf ga gd gl := by
 have h1 := right_yes h
 have h2 := pagesOf_bd ga gd gl
 unfold Geom.sizeOf
 rw [if_pos h]; omega
theorem where_super {ga gd gl p : Int} (h : right ga gd gl = true) (h0 : 2 <= p) (h1 : p <= 3) : whereW ga gd gl p = ⟨#[115, 117, 112, 101, 114]⟩ := by
 have := size_ge h
 unfold whereW
 rw [if_neg (by omega), if_neg (by omega), if_pos (by omega)]
theorem srightF_yes {s : St} {ga gd gl : Int} (h : srightF s ga gd gl = 0) : right ga gd gl = true /\ (s.size : Int) = Geom.sizeOf ga gd gl := by
 unfold srightF at h
 split at h
 · assumption
 · cases h
theorem read_up {s : St} (hd : s.down = false) {p : Int} (h0 : 0 <= p) (h1 : p < s.size) : Disk.read s p = (Disk.kept (s.all ++ s.pend) p.toNat, 0) := by
 unfold Disk.read
 rw [if_neg (by rw [hd]; simp), if_neg (by omega)]
set_option maxHeartbeats 2000000 in
theorem at_any (g : Nat) (fp : List Nat) (s : St) (gS bS : Nat) (l : List (List UInt8)) (ga gd gl p : Int) (w : World) (hG : Gb ga gd gl) (h : Both w g fp s gS bS l) (hl : l.length <= 1000000) (hs : s.sz <= 90000000) (hf : srightF s ga gd gl = 0) (hd : s.down = false) (h0 : 2 <= p) (h1 : p <= 3) :
   Calls Tryz.prog 89 #[.pointer (some ⟨g, 0, none⟩), .pointer (some ⟨gS, 0, none⟩), gv ga gd gl, .int .i64 p] w fun e w' => e = .returned (atV (atR l s ga gd gl p)) /\ Below w.heap.size w w' := by
 obtain ⟨hrt, hsz⟩ := srightF_yes hf
 have hsg := size_ge hrt
 have FG := (Blk.new w (gcell ga gd gl) 23).alloc (.cells #[.int .u64 0, .int .i64 0, .int .u64 0] 90)
 have FX : Blk ((w.alloc (.cells (gcell ga gd gl).toArray 23)).alloc (.cells #[.int .u64 0, .int .i64 0, .int .u64 0] 90)) (w.heap.size + 1) [.int .u64 0, .int .i64 0, .int .u64 0] := by simpa using Blk.new (w.alloc (.cells (gcell ga gd gl).toArray 23)) [.int .u64 0, .int .i64 0, .int .u64 0] 90
 have b0 := b2alloc w (.cells (gcell ga gd gl).toArray 23) (.cells #[.int .u64 0, .int .i64 0, .int .u64 0] 90)
 obtain ⟨z0, z1, z2⟩ := gthree FG
 have HB := Lib.hid (both_any g fp s gS ga gd gl _ hG (h.disk.on b0))
 rw [hf] at HB
 have HM := Lib.hid (fun W => mark_any ga gd gl W hG)
 have hWh := fun W => where_any ga gd gl p W hG.a0 hG.a1 hG.d0 hG.d1 hG.g0 hG.g1 (show Geom.lo <= p by unfold Geom.lo; omega) (show p <= Geom.hi by unfold Geom.hi; omega)
 rw [where_super hrt h0 h1] at hWh
 have hR := fun W (bW : Below w.heap.size w W) => read_any g fp s p W (h.disk.on bW) (by omega)
 have hru := read_up (s := s) hd (p := p) (by omega) (by omega)
 have hlen : (Disk.read s p).1.length = 512 := by rw [hru]; exact Disk.kept_len (n := s.size) (fun x hx => (List.mem_append.1 hx).elim (h.disk.ok.all x) (h.disk.ok.pend x)) _
 have hr2 : (Disk.read s p).2 = 0 := by rw [hru]
 unfold atR dec
 obtain ⟨r, hr⟩ : ∃ r, r = Disk.read s p := ⟨_, rfl⟩
 rw [<- hr] at hR hlen hr2 ⊢
 have hD := fun W (bW : Below w.heap.size w W) A c hrd hc hcm => decode_sym p gS bS l A r.1 _ c W (h.sym.on bW) hl (by omega) (by omega) rfl hrd (by omega) hc hcm
 obtain ⟨d, hd'⟩ : ∃ d, d = Sec.decode (ckS l r.1) p r.1 := ⟨_, rfl⟩
 rw [<- hd'] at hD ⊢
 obtain ⟨wk, hwk⟩ : ∃ wk, wk = whereK ga gd gl p := ⟨_, rfl⟩
 rw [<- hwk] at hWh
 have HR := Lib.hid hR
 have HD := Lib.hid hD
 have HW := Lib.hid hWh
 have FGh := Lib.hid FG
 have FXh := Lib.hid FX
 have Hr2 := Lib.hid hr2
 clear hr hR hD hd' hru hwk hWh hlen hrt hsz hsg FG FX hr2
 by_cases e0 : d.2 = 0
 rotate_left
 · rw [if_neg (by simp [isSup, e0])]
   have t0 := beq_no e0
   clear e0
   go_enter Tryz.func89, Tryz.ntmps89
   go_wp2_with (first
     | (go_at_call 87; refine HB.out.mono ?_; rintro e w1 ⟨rfl, b1⟩; obtain ⟨y0, y1, y2⟩ := gthree (FGh.out.on b1); have b01 := bt b0 b1)
     | (go_at_call 110; refine (HW.out _).mono ?_; rintro e w2 ⟨rfl, b2⟩; have b02 := bt b01 b2)
     | (go_at_call 111; refine (HR.out _ b02).mono ?_; rintro e w3 ⟨v, rfl, hN, b3⟩; rw [Hr2.out]; obtain ⟨A1, c1, rfl, hc1, hm1, rd1⟩ := hN.rdN (fp := []) (by simp); have b03 := bt b02 b3)
     | (go_at_call 112; refine (HD.out _ b03 _ _ rd1.rd hc1 hm1).mono ?_; rintro e w4 ⟨⟨A4, c4, rfl, own4⟩, b4⟩; unfold xv; have b04 := bt b03 b4))
   have FD := Blk.new w4 [.int .i64 d.1.kind, .int .u64 (d.1.life.toNat : Int), .int .i64 d.1.seq, .int .u64 (d.1.gen.toNat : Int), .slice A4 d.1.body.length c4] 157
   have b5 := b1alloc w4 (.cells ([.int .i64 d.1.kind, .int .u64 (d.1.life.toNat : Int), .int .i64 d.1.seq, .int .u64 (d.1.gen.toNat : Int), .slice A4 d.1.body.length c4] : List Value).toArray 157)
   have FX4 := (FXh.out.on (bt (bt (bt b1 b2) b3) b4)).on b5
   have FG4 := (FGh.out.on (bt (bt (bt b1 b2) b3) b4)).on b5
   have own5 := own_on own4 b5
   obtain ⟨w5, hw5⟩ : ∃ w5, w5 = w4.alloc (.cells ([.int .i64 d.1.kind, .int .u64 (d.1.life.toNat : Int), .int .i64 d.1.seq, .int .u64 (d.1.gen.toNat : Int), .slice A4 d.1.body.length c4] : List Value).toArray 157) := ⟨_, rfl⟩
   rw [show w4.alloc (.cells #[.int .i64 d.1.kind, .int .u64 (d.1.life.toNat : Int), .int .i64 d.1.seq, .int .u64 (d.1.gen.toNat : Int), .slice A4 d.1.body.length c4] 157) = w5 from hw5.symm]
   obtain ⟨hD5, hh5⟩ : ∃ q, q = w4.heap.size := ⟨_, rfl⟩
   rw [<- hw5] at FD FX4 FG4 b5 own5
   rw [<- hh5] at FD ⊢
   have b05 := bt b04 b5
   clear hw5 hh5 b5 b04 b4 rd1 hN b3 b03 own4
   have hltD := FD.lt
   obtain ⟨x0, x1, x2, x3, x4⟩ := five5x FD
   obtain ⟨u0, u1, u2⟩ := gthree FX4
   obtain ⟨g0', g1', g2'⟩ := gthree FG4
   refine region_inb (by kernel_rfl) (by kernel_rfl) ?_
   have inbNe := InB.some
   have inbW := @wrap_small
   have inbU := IntKind.wrap_u8'
   repeat (refine wpQuiet_step (fun K hK => ?_); go_simp; first | (refine hK _ ?_; clear hK K) | (apply Exists.intro; refine ⟨?_, hK _ ?_⟩; (· (intro w' hw'; first | fail | (have hcw := hw'.cell; go_simp; exact rfl))); clear hK K))
   refine wpQuiet_nil ?_
   intro wq hq
   clear inbNe inbW inbU
   clear u0 u1 u2
   obtain ⟨u0, u1, u2⟩ := gthree (FX4.on hq.below)
   have fx := (FX4.on hq.below).free
   go_wp2
   refine bodyPost_ret (v := atV none) (by simp [results, Tryz.results89, go_sem, atV, SV.v, SV.zero, sv, *]) rfl ⟨rfl, ?_⟩
   have bq := bt b05 hq.below
   first | exact bq | exact bset (bset (bset bq (by omega) _) (by omega) _) (by omega) _
 have t0 := beq_yes e0
 by_cases e1 : d.1.kind = 2
 rotate_left
 · rw [if_neg (by simp [isSup, e1])]
   have t1 := beq_no e1
   clear e0 e1
   go_enter Tryz.func89, Tryz.ntmps89
   go_wp2_with (first
     | (go_at_call 87; refine HB.out.mono ?_; rintro e w1 ⟨rfl, b1⟩; obtain ⟨y0, y1, y2⟩ := gthree (FGh.out.on b1); have b01 := bt b0 b1)
     | (go_at_call 110; refine (HW.out _).mono ?_; rintro e w2 ⟨rfl, b2⟩; have b02 := bt b01 b2)
     | (go_at_call 111; refine (HR.out _ b02).mono ?_; rintro e w3 ⟨v, rfl, hN, b3⟩; rw [Hr2.out]; obtain ⟨A1, c1, rfl, hc1, hm1, rd1⟩ := hN.rdN (fp := []) (by simp); have b03 := bt b02 b3)
     | (go_at_call 112; refine (HD.out _ b03 _ _ rd1.rd hc1 hm1).mono ?_; rintro e w4 ⟨⟨A4, c4, rfl, own4⟩, b4⟩; unfold xv; have b04 := bt b03 b4))
   have FD := Blk.new w4 [.int .i64 d.1.kind, .int .u64 (d.1.life.toNat : Int), .int .i64 d.1.seq, .int .u64 (d.1.gen.toNat : Int), .slice A4 d.1.body.length c4] 157
   have b5 := b1alloc w4 (.cells ([.int .i64 d.1.kind, .int .u64 (d.1.life.toNat : Int), .int .i64 d.1.seq, .int .u64 (d.1.gen.toNat : Int), .slice A4 d.1.body.length c4] : List Value).toArray 157)
   have FX4 := (FXh.out.on (bt (bt (bt b1 b2) b3) b4)).on b5
   have FG4 := (FGh.out.on (bt (bt (bt b1 b2) b3) b4)).on b5
   have own5 := own_on own4 b5
   obtain ⟨w5, hw5⟩ : ∃ w5, w5 = w4.alloc (.cells ([.int .i64 d.1.kind, .int .u64 (d.1.life.toNat : Int), .int .i64 d.1.seq, .int .u64 (d.1.gen.toNat : Int), .slice A4 d.1.body.length c4] : List Value).toArray 157) := ⟨_, rfl⟩
   rw [show w4.alloc (.cells #[.int .i64 d.1.kind, .int .u64 (d.1.life.toNat : Int), .int .i64 d.1.seq, .int .u64 (d.1.gen.toNat : Int), .slice A4 d.1.body.length c4] 157) = w5 from hw5.symm]
   obtain ⟨hD5, hh5⟩ : ∃ q, q = w4.heap.size := ⟨_, rfl⟩
   rw [<- hw5] at FD FX4 FG4 b5 own5
   rw [<- hh5] at FD ⊢
   have b05 := bt b04 b5
   clear hw5 hh5 b5 b04 b4 rd1 hN b3 b03 own4
   have hltD := FD.lt
   obtain ⟨x0, x1, x2, x3, x4⟩ := five5x FD
   obtain ⟨u0, u1, u2⟩ := gthree FX4
   obtain ⟨g0', g1', g2'⟩ := gthree FG4
   refine region_inb (by kernel_rfl) (by kernel_rfl) ?_
   have inbNe := InB.some
   have inbW := @wrap_small
   have inbU := IntKind.wrap_u8'
   repeat (refine wpQuiet_step (fun K hK => ?_); go_simp; first | (refine hK _ ?_; clear hK K) | (apply Exists.intro; refine ⟨?_, hK _ ?_⟩; (· (intro w' hw'; first | fail | (have hcw := hw'.cell; go_simp; exact rfl))); clear hK K))
   refine wpQuiet_nil ?_
   intro wq hq
   clear inbNe inbW inbU
   clear u0 u1 u2
   obtain ⟨u0, u1, u2⟩ := gthree (FX4.on hq.below)
   have fx := (FX4.on hq.below).free
   go_wp2
   refine bodyPost_ret (v := atV none) (by simp [results, Tryz.results89, go_sem, atV, SV.v, SV.zero, sv, *]) rfl ⟨rfl, ?_⟩
   have bq := bt b05 hq.below
   first | exact bq | exact bset (bset (bset bq (by omega) _) (by omega) _) (by omega) _
 have t1 := beq_yes e1
 have hSu := fun W => super_any d.1.life _ (by rfl) W
 rw [show (2 : Int) + (d.1.life.toNat : Int) % 2 = splace d.1.life from rfl] at hSu
 have HSu := Lib.hid hSu
 clear hSu
 by_cases e2 : splace d.1.life = p
 rotate_left
 · rw [if_neg (by simp [isSup, e2])]
   have t2 := beq_no e2
   clear e0 e1 e2
   go_enter Tryz.func89, Tryz.ntmps89
   go_wp2_with (first
     | (go_at_call 87; refine HB.out.mono ?_; rintro e w1 ⟨rfl, b1⟩; obtain ⟨y0, y1, y2⟩ := gthree (FGh.out.on b1); have b01 := bt b0 b1)
     | (go_at_call 110; refine (HW.out _).mono ?_; rintro e w2 ⟨rfl, b2⟩; have b02 := bt b01 b2)
     | (go_at_call 111; refine (HR.out _ b02).mono ?_; rintro e w3 ⟨v, rfl, hN, b3⟩; rw [Hr2.out]; obtain ⟨A1, c1, rfl, hc1, hm1, rd1⟩ := hN.rdN (fp := []) (by simp); have b03 := bt b02 b3)
     | (go_at_call 112; refine (HD.out _ b03 _ _ rd1.rd hc1 hm1).mono ?_; rintro e w4 ⟨⟨A4, c4, rfl, own4⟩, b4⟩; unfold xv; have b04 := bt b03 b4))
   have FD := Blk.new w4 [.int .i64 d.1.kind, .int .u64 (d.1.life.toNat : Int), .int .i64 d.1.seq, .int .u64 (d.1.gen.toNat : Int), .slice A4 d.1.body.length c4] 157
   have b5 := b1alloc w4 (.cells ([.int .i64 d.1.kind, .int .u64 (d.1.life.toNat : Int), .int .i64 d.1.seq, .int .u64 (d.1.gen.toNat : Int), .slice A4 d.1.body.length c4] : List Value).toArray 157)
   have FX4 := (FXh.out.on (bt (bt (bt b1 b2) b3) b4)).on b5
   have FG4 := (FGh.out.on (bt (bt (bt b1 b2) b3) b4)).on b5
   have own5 := own_on own4 b5
   obtain ⟨w5, hw5⟩ : ∃ w5, w5 = w4.alloc (.cells ([.int .i64 d.1.kind, .int .u64 (d.1.life.toNat : Int), .int .i64 d.1.seq, .int .u64 (d.1.gen.toNat : Int), .slice A4 d.1.body.length c4] : List Value).toArray 157) := ⟨_, rfl⟩
   rw [show w4.alloc (.cells #[.int .i64 d.1.kind, .int .u64 (d.1.life.toNat : Int), .int .i64 d.1.seq, .int .u64 (d.1.gen.toNat : Int), .slice A4 d.1.body.length c4] 157) = w5 from hw5.symm]
   obtain ⟨hD5, hh5⟩ : ∃ q, q = w4.heap.size := ⟨_, rfl⟩
   rw [<- hw5] at FD FX4 FG4 b5 own5
   rw [<- hh5] at FD ⊢
   have b05 := bt b04 b5
   clear hw5 hh5 b5 b04 b4 rd1 hN b3 b03 own4
   have hltD := FD.lt
   obtain ⟨x0, x1, x2, x3, x4⟩ := five5x FD
   obtain ⟨u0, u1, u2⟩ := gthree FX4
   obtain ⟨g0', g1', g2'⟩ := gthree FG4
   refine region_inb (by kernel_rfl) (by kernel_rfl) ?_
   have inbNe := InB.some
   have inbW := @wrap_small
   have inbU := IntKind.wrap_u8'
   repeat (refine wpQuiet_step (fun K hK => ?_); go_simp; first | (refine hK _ ?_; clear hK K) | (apply Exists.intro; refine ⟨?_, hK _ ?_⟩; (· (intro w' hw'; first | (go_at_call 99; refine (HSu.out _).mono ?_; rintro e x1 ⟨rfl, rfl⟩; exact ⟨rfl, hw'⟩) | (have hcw := hw'.cell; go_simp; exact rfl))); clear hK K))
   refine wpQuiet_nil ?_
   intro wq hq
   clear inbNe inbW inbU
   clear u0 u1 u2
   obtain ⟨u0, u1, u2⟩ := gthree (FX4.on hq.below)
   have fx := (FX4.on hq.below).free
   go_wp2
   refine bodyPost_ret (v := atV none) (by simp [results, Tryz.results89, go_sem, atV, SV.v, SV.zero, sv, *]) rfl ⟨rfl, ?_⟩
   have bq := bt b05 hq.below
   first | exact bq | exact bset (bset (bset bq (by omega) _) (by omega) _) (by omega) _
 have t2 := beq_yes e2
 have hSa := fun A B c d' W h3 h4 => Sec.nsame_any A B d.1.body (mk ga gd gl) d.1.body.length (mk ga gd gl).length c d' W rfl rfl h3 h4
 cases e3 : R1.sameB d.1.body (mk ga gd gl) with
 | false =>
   rw [if_neg (by simp [isSup, e3])]
   rw [e3] at hSa
   have HSa := Lib.hid hSa
   obtain ⟨M, hM⟩ : ∃ M, M = mk ga gd gl := ⟨_, rfl⟩
   rw [<- hM] at HSa HM
   clear hSa e0 e1 e2 e3 hM
   go_enter Tryz.func89, Tryz.ntmps89
   go_wp2_with (first
     | (go_at_call 87; refine HB.out.mono ?_; rintro e w1 ⟨rfl, b1⟩; obtain ⟨y0, y1, y2⟩ := gthree (FGh.out.on b1); have b01 := bt b0 b1)
     | (go_at_call 110; refine (HW.out _).mono ?_; rintro e w2 ⟨rfl, b2⟩; have b02 := bt b01 b2)
     | (go_at_call 111; refine (HR.out _ b02).mono ?_; rintro e w3 ⟨v, rfl, hN, b3⟩; rw [Hr2.out]; obtain ⟨A1, c1, rfl, hc1, hm1, rd1⟩ := hN.rdN (fp := []) (by simp); have b03 := bt b02 b3)
     | (go_at_call 112; refine (HD.out _ b03 _ _ rd1.rd hc1 hm1).mono ?_; rintro e w4 ⟨⟨A4, c4, rfl, own4⟩, b4⟩; unfold xv; have b04 := bt b03 b4))
   have FD := Blk.new w4 [.int .i64 d.1.kind, .int .u64 (d.1.life.toNat : Int), .int .i64 d.1.seq, .int .u64 (d.1.gen.toNat : Int), .slice A4 d.1.body.length c4] 157
   have b5 := b1alloc w4 (.cells ([.int .i64 d.1.kind, .int .u64 (d.1.life.toNat : Int), .int .i64 d.1.seq, .int .u64 (d.1.gen.toNat : Int), .slice A4 d.1.body.length c4] : List Value).toArray 157)
   have FX4 := (FXh.out.on (bt (bt (bt b1 b2) b3) b4)).on b5
   have FG4 := (FGh.out.on (bt (bt (bt b1 b2) b3) b4)).on b5
   have own5 := own_on own4 b5
   obtain ⟨w5, hw5⟩ : ∃ w5, w5 = w4.alloc (.cells ([.int .i64 d.1.kind, .int .u64 (d.1.life.toNat : Int), .int .i64 d.1.seq, .int .u64 (d.1.gen.toNat : Int), .slice A4 d.1.body.length c4] : List Value).toArray 157) := ⟨_, rfl⟩
   rw [show w4.alloc (.cells #[.int .i64 d.1.kind, .int .u64 (d.1.life.toNat : Int), .int .i64 d.1.seq, .int .u64 (d.1.gen.toNat : Int), .slice A4 d.1.body.length c4] 157) = w5 from hw5.symm]
   obtain ⟨hD5, hh5⟩ : ∃ q, q = w4.heap.size := ⟨_, rfl⟩
   rw [<- hw5] at FD FX4 FG4 b5 own5
   rw [<- hh5] at FD ⊢
   have b05 := bt b04 b5
   clear hw5 hh5 b5 b04 b4 rd1 hN b3 b03 own4
   have hltD := FD.lt
   obtain ⟨x0, x1, x2, x3, x4⟩ := five5x FD
   obtain ⟨u0, u1, u2⟩ := gthree FX4
   obtain ⟨g0', g1', g2'⟩ := gthree FG4
   have cz : Below w5.heap.size w5 w5.drew := (Below.refl _ _).drew
   go_region_held3 (fun w' => (w'.cell? ⟨hD5, 0, none⟩ = some (.int .i64 d.1.kind) /\ w'.cell? ⟨hD5, 1, none⟩ = some (.int .u64 (d.1.life.toNat : Int)) /\ w'.cell? ⟨hD5, 2, none⟩ = some (.int .i64 d.1.seq) /\ w'.cell? ⟨hD5, 3, none⟩ = some (.int .u64 (d.1.gen.toNat : Int)) /\ w'.cell? ⟨hD5, 4, none⟩ = some (.slice A4 d.1.body.length c4)) /\ (w'.cell? ⟨w.heap.size, 0, none⟩ = some (.int .i64 ga) /\ w'.cell? ⟨w.heap.size, 1, none⟩ = some (.int .i64 gd) /\ w'.cell? ⟨w.heap.size, 2, none⟩ = some (.int .i64 gl))) (first | exact ⟨five5x (FD.on cz), gthree (FG4.on cz)⟩ | exact ⟨five5x (FD.on (bt cz cm)), gthree (FG4.on (bt cz cm))⟩ | exact ⟨five5x (FD.on (bt (bt cz cm) cs)), gthree (FG4.on (bt (bt cz cm) cs))⟩) (first
     | (go_at_call 99; refine (HSu.out _).mono ?_; rintro e x6 ⟨rfl, rfl⟩)
     | (go_at_call 106; refine (HM.out _).mono ?_; rintro e x7 ⟨A7, c7, rfl, own7, cm⟩)
     | (go_at_call 113; refine (HSa.out A4 A7 c4 c7 _ ((Rd.own own5).on (bt cz cm)) (Rd.own own7)).mono ?_; rintro e x8 ⟨rfl, cs'⟩; have cs := (show Below x7.heap.size x7 x8 from cs' ▸ Below.refl _ _)))
   clear u0 u1 u2
   have bq := bt b05 (bt (bt cz cm) cs)
   obtain ⟨u0, u1, u2⟩ := gthree (FX4.on (bt (bt cz cm) cs))
   have fx := (FX4.on (bt (bt cz cm) cs)).free
   go_wp2
   refine bodyPost_ret (v := atV none) (by simp [results, Tryz.results89, go_sem, atV, SV.v, SV.zero, sv, *]) rfl ⟨rfl, ?_⟩
   exact bset (bset (bset bq (by omega) _) (by omega) _) (by omega) _
 | true =>
   rw [if_pos (by simp [isSup, e0, e1, e2, e3])]
   rw [e3] at hSa
   have HSa := Lib.hid hSa
   obtain ⟨M, hM⟩ : ∃ M, M = mk ga gd gl := ⟨_, rfl⟩
   rw [<- hM] at HSa HM
   clear hSa e0 e1 e2 e3 hM
   go_enter Tryz.func89, Tryz.ntmps89
   go_wp2_with (first
     | (go_at_call 87; refine HB.out.mono ?_; rintro e w1 ⟨rfl, b1⟩; obtain ⟨y0, y1, y2⟩ := gthree (FGh.out.on b1); have b01 := bt b0 b1)
     | (go_at_call 110; refine (HW.out _).mono ?_; rintro e w2 ⟨rfl, b2⟩; have b02 := bt b01 b2)
     | (go_at_call 111; refine (HR.out _ b02).mono ?_; rintro e w3 ⟨v, rfl, hN, b3⟩; rw [Hr2.out]; obtain ⟨A1, c1, rfl, hc1, hm1, rd1⟩ := hN.rdN (fp := []) (by simp); have b03 := bt b02 b3)
     | (go_at_call 112; refine (HD.out _ b03 _ _ rd1.rd hc1 hm1).mono ?_; rintro e w4 ⟨⟨A4, c4, rfl, own4⟩, b4⟩; unfold xv; have b04 := bt b03 b4))
   have FD := Blk.new w4 [.int .i64 d.1.kind, .int .u64 (d.1.life.toNat : Int), .int .i64 d.1.seq, .int .u64 (d.1.gen.toNat : Int), .slice A4 d.1.body.length c4] 157
   have b5 := b1alloc w4 (.cells ([.int .i64 d.1.kind, .int .u64 (d.1.life.toNat : Int), .int .i64 d.1.seq, .int .u64 (d.1.gen.toNat : Int), .slice A4 d.1.body.length c4] : List Value).toArray 157)
   have FX4 := (FXh.out.on (bt (bt (bt b1 b2) b3) b4)).on b5
   have FG4 := (FGh.out.on (bt (bt (bt b1 b2) b3) b4)).on b5
   have own5 := own_on own4 b5
   obtain ⟨w5, hw5⟩ : ∃ w5, w5 = w4.alloc (.cells ([.int .i64 d.1.kind, .int .u64 (d.1.life.toNat : Int), .int .i64 d.1.seq, .int .u64 (d.1.gen.toNat : Int), .slice A4 d.1.body.length c4] : List Value).toArray 157) := ⟨_, rfl⟩
   rw [show w4.alloc (.cells #[.int .i64 d.1.kind, .int .u64 (d.1.life.toNat : Int), .int .i64 d.1.seq, .int .u64 (d.1.gen.toNat : Int), .slice A4 d.1.body.length c4] 157) = w5 from hw5.symm]
   obtain ⟨hD5, hh5⟩ : ∃ q, q = w4.heap.size := ⟨_, rfl⟩
   rw [<- hw5] at FD FX4 FG4 b5 own5
   rw [<- hh5] at FD ⊢
   have b05 := bt b04 b5
   clear hw5 hh5 b5 b04 b4 rd1 hN b3 b03 own4
   have hltD := FD.lt
   obtain ⟨x0, x1, x2, x3, x4⟩ := five5x FD
   obtain ⟨u0, u1, u2⟩ := gthree FX4
   obtain ⟨g0', g1', g2'⟩ := gthree FG4
   have cz : Below w5.heap.size w5 w5.drew := (Below.refl _ _).drew
   go_region_held3 (fun w' => (w'.cell? ⟨hD5, 0, none⟩ = some (.int .i64 d.1.kind) /\ w'.cell? ⟨hD5, 1, none⟩ = some (.int .u64 (d.1.life.toNat : Int)) /\ w'.cell? ⟨hD5, 2, none⟩ = some (.int .i64 d.1.seq) /\ w'.cell? ⟨hD5, 3, none⟩ = some (.int .u64 (d.1.gen.toNat : Int)) /\ w'.cell? ⟨hD5, 4, none⟩ = some (.slice A4 d.1.body.length c4)) /\ (w'.cell? ⟨w.heap.size, 0, none⟩ = some (.int .i64 ga) /\ w'.cell? ⟨w.heap.size, 1, none⟩ = some (.int .i64 gd) /\ w'.cell? ⟨w.heap.size, 2, none⟩ = some (.int .i64 gl))) (first | exact ⟨five5x (FD.on cz), gthree (FG4.on cz)⟩ | exact ⟨five5x (FD.on (bt cz cm)), gthree (FG4.on (bt cz cm))⟩ | exact ⟨five5x (FD.on (bt (bt cz cm) cs)), gthree (FG4.on (bt (bt cz cm) cs))⟩) (first
     | (go_at_call 99; refine (HSu.out _).mono ?_; rintro e x6 ⟨rfl, rfl⟩)
     | (go_at_call 106; refine (HM.out _).mono ?_; rintro e x7 ⟨A7, c7, rfl, own7, cm⟩)
     | (go_at_call 113; refine (HSa.out A4 A7 c4 c7 _ ((Rd.own own5).on (bt cz cm)) (Rd.own own7)).mono ?_; rintro e x8 ⟨rfl, cs'⟩; have cs := (show Below x7.heap.size x7 x8 from cs' ▸ Below.refl _ _)))
   clear u0 u1 u2 x0 x1 x2 x3 x4
   have bq := bt b05 (bt (bt cz cm) cs)
   obtain ⟨u0, u1, u2⟩ := gthree (FX4.on (bt (bt cz cm) cs))
   obtain ⟨x0, x1, x2, x3, x4⟩ := five5x (FD.on (bt (bt cz cm) cs))
   have fx := (FX4.on (bt (bt cz cm) cs)).free
   go_wp2
   refine bodyPost_ret (v := atV (some ⟨d.1.life, d.1.seq, d.1.gen⟩)) (by simp [results, Tryz.results89, go_sem, atV, SV.v, sv, *]) rfl ⟨rfl, ?_⟩
   exact bset (bset (bset bq (by omega) _) (by omega) _) (by omega) _
end Go.Proofs.YtchcmklelmlbgaaGreat.Sup
