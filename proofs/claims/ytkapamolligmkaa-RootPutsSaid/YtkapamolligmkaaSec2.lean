/- The walks of sector.written and of the reference's Text. -/
import Derived.Test.YtkapamolligmkaaSec1
namespace Go.Proofs.Ytkapamolligmkaa.Sec
open Go.RowKit
open Go.Proofs.Ytkapamolligmkaa.Num (putL)
open Go.Proofs.Ytkapamolligmkaa.Mac (padTo)
set_option linter.unusedVariables false
set_option maxRecDepth 100000
theorem text_eq {p : Int} {x : X} {n0 n1 n3 n5 : UInt64} (e0 : x.kind = (n0.toNat : Int)) (e1 : p = (n1.toNat : Int)) (e3 : x.seq = (n3.toNat : Int)) (e5 : (x.body.length : Int) = (n5.toNat : Int)) :
    text p x = padTo ((((((putL n0.toNat 1 ++ putL n1.toNat 2) ++ putL x.life.toNat 8) ++ putL n3.toNat 4) ++ putL x.gen.toNat 8) ++ putL n5.toNat 2) ++ x.body) 504 := by
  unfold text head
  rw [show x.kind.toNat = n0.toNat by omega, show p.toNat = n1.toNat by omega, show x.seq.toNat = n3.toNat by omega, show x.body.length = n5.toNat by omega]
/-- the first fields' bytes -/
def pre (n0 n1 n2 n3 n4 n5 : UInt64) : Nat → List UInt8
  | 0 => []
  | 1 => putL n0.toNat 1
  | 2 => putL n0.toNat 1 ++ putL n1.toNat 2
  | 3 => (putL n0.toNat 1 ++ putL n1.toNat 2) ++ putL n2.toNat 8
  | 4 => ((putL n0.toNat 1 ++ putL n1.toNat 2) ++ putL n2.toNat 8) ++ putL n3.toNat 4
  | 5 => (((putL n0.toNat 1 ++ putL n1.toNat 2) ++ putL n2.toNat 8) ++ putL n3.toNat 4) ++ putL n4.toNat 8
  | _ => ((((putL n0.toNat 1 ++ putL n1.toNat 2) ++ putL n2.toNat 8) ++ putL n3.toNat 4) ++ putL n4.toNat 8) ++ putL n5.toNat 2
theorem retB_eq {E : TypeId} {w w' : World} {l l' : List UInt8} {e : Ending} (h : RetB E w l e w') (h2 : l = l') : RetB E w l' e w' := h2 ▸ h
theorem own_add {w : World} {base : Nat} {e : TypeId} {v : Value} {n m : Nat} {a b c : List UInt8} (h : w.ownsRow base e 1 v (n + m) (a.map e8 ++ b.map e8)) (hn : n = a.length) (hm : m = b.length) (hc : c = a ++ b) : w.ownsRow base e 1 v c.length (c.map e8) := by
  subst hn hm hc
  rw [List.length_append, List.map_append]; exact h
theorem blk_grown {w w' : World} {b : Nat} {o : Obj} {r : Option Nat} (h : w.heap[b]? = some o) (hlt : b < w.heap.size) (g : w.grownBy w' r) (hr : ∀ k, r = some k → b < k) : w'.heap[b]? = some o :=
  (g.block b hlt (fun e => by have := hr b e.symm; omega)).trans h
theorem five {w : World} {g : Nat} {v0 v1 v2 v3 v4 : Value} {t : TypeId} (h : w.heap[g]? = some (.cells #[v0, v1, v2, v3, v4] t (0, 0))) :
    w.cell? ⟨g, 0, none⟩ = some v0 ∧ w.cell? ⟨g, 1, none⟩ = some v1 ∧ w.cell? ⟨g, 2, none⟩ = some v2 ∧ w.cell? ⟨g, 3, none⟩ = some v3 ∧ w.cell? ⟨g, 4, none⟩ = some v4 ∧ ∀ o, w.frozen? ⟨g, o, none⟩ = false := by
  refine ⟨?_, ?_, ?_, ?_, ?_, ?_⟩ <;> simp [World.cell?, World.frozen?, h]
set_option maxHeartbeats 600000 in
theorem written_any (p : Int) (x : X) (A : Option Addr) (c : Nat) (w : World) (hr : Rd w w.heap.size A (x.body.map e8)) (h : rightF p x = 0) :
    Calls Try.prog 36 #[.int .i64 p, .agg #[.int .i64 x.kind, .int .u64 (x.life.toNat : Int), .int .i64 x.seq, .int .u64 (x.gen.toNat : Int), .slice A x.body.length c]] w (RetB 5 w (text p x)) := by
  obtain ⟨i0', hi0, hz0, hz1, hz2⟩ := info_parts info8
  obtain ⟨h1, h2, h3, h4, h5, h6, h7⟩ := right_of h
  obtain ⟨n0, e0⟩ := to64 x.kind (by omega) (by omega)
  obtain ⟨n1, e1⟩ := to64 p (by omega) (by omega)
  obtain ⟨n3, e3⟩ := to64 x.seq (by omega) (by omega)
  obtain ⟨n5, e5⟩ := to64 (x.body.length : Int) (by omega) (by omega)
  have ht := Lib.hid (text_eq e0 e1 e3 e5)
  rw [ht.out]
  obtain ⟨body, hbody⟩ : ∃ b, b = x.body := ⟨_, rfl⟩
  obtain ⟨n2, hn2⟩ : ∃ b, b = x.life := ⟨_, rfl⟩
  obtain ⟨n4, hn4⟩ : ∃ b, b = x.gen := ⟨_, rfl⟩
  rw [← hbody] at hr e5 h7 ⊢
  rw [← hn2, ← hn4]
  have E5 := Lib.hid e5
  rw [e0, e1, e3]
  rw [e0] at h1 h2
  rw [e1] at h3 h4
  rw [e3] at h5 h6
  clear ht h e0 e1 e3 e5 hbody hn2 hn4
  have g2 : (n2.toNat : Int) ≤ 18446744073709551615 := by have := n2.toNat_lt; omega
  have g4 : (n4.toNat : Int) ≤ 18446744073709551615 := by have := n4.toNat_lt; omega
  have hl : ∀ k, (pre n0 n1 n2 n3 n4 n5 k).length ≤ 25 := by
    intro k
    unfold pre
    split <;> simp [Num.putL_len]
  have i0 : ∀ w, (Instr.index 106 (.agg #[.int .u64 (n0.toNat : Int), .int .i64 1, .int .u64 (n1.toNat : Int), .int .i64 2, .int .u64 (n2.toNat : Int), .int .i64 8, .int .u64 (n3.toNat : Int), .int .i64 4, .int .u64 (n4.toNat : Int), .int .i64 8, .int .u64 (body.length : Int), .int .i64 2]) (.int .i64 0)).run Try.prog w = .ok (.agg #[.int .u64 (n0.toNat : Int), .int .i64 1]) w := fun _ => by kernel_rfl
  have i1 : ∀ w, (Instr.index 106 (.agg #[.int .u64 (n0.toNat : Int), .int .i64 1, .int .u64 (n1.toNat : Int), .int .i64 2, .int .u64 (n2.toNat : Int), .int .i64 8, .int .u64 (n3.toNat : Int), .int .i64 4, .int .u64 (n4.toNat : Int), .int .i64 8, .int .u64 (body.length : Int), .int .i64 2]) (.int .i64 1)).run Try.prog w = .ok (.agg #[.int .u64 (n1.toNat : Int), .int .i64 2]) w := fun _ => by kernel_rfl
  have i2 : ∀ w, (Instr.index 106 (.agg #[.int .u64 (n0.toNat : Int), .int .i64 1, .int .u64 (n1.toNat : Int), .int .i64 2, .int .u64 (n2.toNat : Int), .int .i64 8, .int .u64 (n3.toNat : Int), .int .i64 4, .int .u64 (n4.toNat : Int), .int .i64 8, .int .u64 (body.length : Int), .int .i64 2]) (.int .i64 2)).run Try.prog w = .ok (.agg #[.int .u64 (n2.toNat : Int), .int .i64 8]) w := fun _ => by kernel_rfl
  have i3 : ∀ w, (Instr.index 106 (.agg #[.int .u64 (n0.toNat : Int), .int .i64 1, .int .u64 (n1.toNat : Int), .int .i64 2, .int .u64 (n2.toNat : Int), .int .i64 8, .int .u64 (n3.toNat : Int), .int .i64 4, .int .u64 (n4.toNat : Int), .int .i64 8, .int .u64 (body.length : Int), .int .i64 2]) (.int .i64 3)).run Try.prog w = .ok (.agg #[.int .u64 (n3.toNat : Int), .int .i64 4]) w := fun _ => by kernel_rfl
  have i4 : ∀ w, (Instr.index 106 (.agg #[.int .u64 (n0.toNat : Int), .int .i64 1, .int .u64 (n1.toNat : Int), .int .i64 2, .int .u64 (n2.toNat : Int), .int .i64 8, .int .u64 (n3.toNat : Int), .int .i64 4, .int .u64 (n4.toNat : Int), .int .i64 8, .int .u64 (body.length : Int), .int .i64 2]) (.int .i64 4)).run Try.prog w = .ok (.agg #[.int .u64 (n4.toNat : Int), .int .i64 8]) w := fun _ => by kernel_rfl
  have i5 : ∀ w, (Instr.index 106 (.agg #[.int .u64 (n0.toNat : Int), .int .i64 1, .int .u64 (n1.toNat : Int), .int .i64 2, .int .u64 (n2.toNat : Int), .int .i64 8, .int .u64 (n3.toNat : Int), .int .i64 4, .int .u64 (n4.toNat : Int), .int .i64 8, .int .u64 (body.length : Int), .int .i64 2]) (.int .i64 5)).run Try.prog w = .ok (.agg #[.int .u64 (body.length : Int), .int .i64 2]) w := fun _ => by kernel_rfl
  go_enter Try.func36, Try.ntmps36
  go_wp2
  go_loopw [4, 6, 30] (fun v _ i wr => ∃ k : Nat, k ≤ 6 ∧ i = .int .i64 k ∧ wr.heap[w.heap.size]? = some (.cells #[Value.int IntKind.i64 (n0.toNat : Int), .int .u64 (n2.toNat : Int), .int .i64 (n3.toNat : Int), .int .u64 (n4.toNat : Int), .slice A body.length c] 38 (0, 0)) ∧ wr.ownsRow (w.heap.size + 1) 5 1 v (pre n0 n1 n2 n3 n4 n5 k).length ((pre n0 n1 n2 n3 n4 n5 k).map e8) ∧ Below w.heap.size w wr) (fun _ _ i _ => 6 - (intOf i).toNat)
  case atStart => exact ⟨0, by omega, rfl, heap_alloc_new w _, own_nil _ _ _ _, below_lit _ _⟩
  case round =>
    obtain ⟨k, hk, rfl, hB, own, bel⟩ := hrel
    have hlt := lt_of_block hB
    have hbs : w.heap.size + 1 ≤ wr.heap.size := hlt
    by_cases hk6 : k < 6
    · have hlk := hl k
      rcases (show k = 0 ∨ k = 1 ∨ k = 2 ∨ k = 3 ∨ k = 4 ∨ k = 5 by omega) with rfl | rfl | rfl | rfl | rfl | rfl
      · have hnx := Lib.hid (show pre n0 n1 n2 n3 n4 n5 1 = pre n0 n1 n2 n3 n4 n5 0 ++ putL n0.toNat 1 from rfl)
        obtain ⟨q, hq⟩ : ∃ q, q = pre n0 n1 n2 n3 n4 n5 0 := ⟨_, rfl⟩
        rw [← hq] at own hlk hnx
        clear hq
        go_wp2_with (first
          | (go_at_call 52; refine (Num.put_any n0 _ (by rfl) 1 _ (by rfl) (by omega) (by omega) _).mono ?_; rintro e wp ⟨Ap, cp, rfl, ownp, bp⟩; have own2 := own_on (own.alloc _) bp; have rdp := Rd.own ownp; have bpl := Num.putL_len n0.toNat 1; rw [bpl])
          | ((with_reducible show wpList _ _ _ (⟨some 39, _, _, _, _, _⟩ :: _) _ _); refine wpList_append_rd _ rfl (.tmp 33) (.tmp 38) _ rfl (w.heap.size + 1) 5 i0' _ 1 1 Try.underlying23 hi0 hz0 hz1 hz2 rfl (by omega) u4 q.length (q.map e8) rfl own2 _ Ap 1 cp ((putL n0.toNat 1).map e8) rfl (by simp [Num.putL_len]) rdp (e8_one _) (by simp only [maxLen]; omega) (by omega) (by have := bp.size; simp at this; omega) ?_; intro v1 w1 own1 hg1 hat1))
        go_roundw
        case rel => exact ⟨1, by omega, rfl, blk_grown ((bp.block _ (by simp; omega)).trans ((Below.heap_alloc wr _ _ hlt).trans hB)) (Nat.lt_of_lt_of_le (by simp; omega) bp.size) hg1 (fun z hz => by have := own_block own2 hz; omega), own_add own1 rfl (Num.putL_len _ _).symm hnx.out, (bt (bt bel (b1alloc _ _)) bp).grown hg1 (bt (bt bel (b1alloc _ _)) bp).size (fun z hz => by have := own_block own2 hz; omega)⟩
        case measure => simp [intOf]
      · have hnx := Lib.hid (show pre n0 n1 n2 n3 n4 n5 2 = pre n0 n1 n2 n3 n4 n5 1 ++ putL n1.toNat 2 from rfl)
        obtain ⟨q, hq⟩ : ∃ q, q = pre n0 n1 n2 n3 n4 n5 1 := ⟨_, rfl⟩
        rw [← hq] at own hlk hnx
        clear hq
        go_wp2_with (first
          | (go_at_call 52; refine (Num.put_any n1 _ (by rfl) 2 _ (by rfl) (by omega) (by omega) _).mono ?_; rintro e wp ⟨Ap, cp, rfl, ownp, bp⟩; have own2 := own_on (own.alloc _) bp; have rdp := Rd.own ownp; have bpl := Num.putL_len n1.toNat 2; rw [bpl])
          | ((with_reducible show wpList _ _ _ (⟨some 39, _, _, _, _, _⟩ :: _) _ _); refine wpList_append_rd _ rfl (.tmp 33) (.tmp 38) _ rfl (w.heap.size + 1) 5 i0' _ 1 1 Try.underlying23 hi0 hz0 hz1 hz2 rfl (by omega) u4 q.length (q.map e8) rfl own2 _ Ap 2 cp ((putL n1.toNat 2).map e8) rfl (by simp [Num.putL_len]) rdp (e8_one _) (by simp only [maxLen]; omega) (by omega) (by have := bp.size; simp at this; omega) ?_; intro v1 w1 own1 hg1 hat1))
        go_roundw
        case rel => exact ⟨2, by omega, rfl, blk_grown ((bp.block _ (by simp; omega)).trans ((Below.heap_alloc wr _ _ hlt).trans hB)) (Nat.lt_of_lt_of_le (by simp; omega) bp.size) hg1 (fun z hz => by have := own_block own2 hz; omega), own_add own1 rfl (Num.putL_len _ _).symm hnx.out, (bt (bt bel (b1alloc _ _)) bp).grown hg1 (bt (bt bel (b1alloc _ _)) bp).size (fun z hz => by have := own_block own2 hz; omega)⟩
        case measure => simp [intOf]
      · have hnx := Lib.hid (show pre n0 n1 n2 n3 n4 n5 3 = pre n0 n1 n2 n3 n4 n5 2 ++ putL n2.toNat 8 from rfl)
        obtain ⟨q, hq⟩ : ∃ q, q = pre n0 n1 n2 n3 n4 n5 2 := ⟨_, rfl⟩
        rw [← hq] at own hlk hnx
        clear hq
        go_wp2_with (first
          | (go_at_call 52; refine (Num.put_any n2 _ (by rfl) 8 _ (by rfl) (by omega) (by omega) _).mono ?_; rintro e wp ⟨Ap, cp, rfl, ownp, bp⟩; have own2 := own_on (own.alloc _) bp; have rdp := Rd.own ownp; have bpl := Num.putL_len n2.toNat 8; rw [bpl])
          | ((with_reducible show wpList _ _ _ (⟨some 39, _, _, _, _, _⟩ :: _) _ _); refine wpList_append_rd _ rfl (.tmp 33) (.tmp 38) _ rfl (w.heap.size + 1) 5 i0' _ 1 1 Try.underlying23 hi0 hz0 hz1 hz2 rfl (by omega) u4 q.length (q.map e8) rfl own2 _ Ap 8 cp ((putL n2.toNat 8).map e8) rfl (by simp [Num.putL_len]) rdp (e8_one _) (by simp only [maxLen]; omega) (by omega) (by have := bp.size; simp at this; omega) ?_; intro v1 w1 own1 hg1 hat1))
        go_roundw
        case rel => exact ⟨3, by omega, rfl, blk_grown ((bp.block _ (by simp; omega)).trans ((Below.heap_alloc wr _ _ hlt).trans hB)) (Nat.lt_of_lt_of_le (by simp; omega) bp.size) hg1 (fun z hz => by have := own_block own2 hz; omega), own_add own1 rfl (Num.putL_len _ _).symm hnx.out, (bt (bt bel (b1alloc _ _)) bp).grown hg1 (bt (bt bel (b1alloc _ _)) bp).size (fun z hz => by have := own_block own2 hz; omega)⟩
        case measure => simp [intOf]
      · have hnx := Lib.hid (show pre n0 n1 n2 n3 n4 n5 4 = pre n0 n1 n2 n3 n4 n5 3 ++ putL n3.toNat 4 from rfl)
        obtain ⟨q, hq⟩ : ∃ q, q = pre n0 n1 n2 n3 n4 n5 3 := ⟨_, rfl⟩
        rw [← hq] at own hlk hnx
        clear hq
        go_wp2_with (first
          | (go_at_call 52; refine (Num.put_any n3 _ (by rfl) 4 _ (by rfl) (by omega) (by omega) _).mono ?_; rintro e wp ⟨Ap, cp, rfl, ownp, bp⟩; have own2 := own_on (own.alloc _) bp; have rdp := Rd.own ownp; have bpl := Num.putL_len n3.toNat 4; rw [bpl])
          | ((with_reducible show wpList _ _ _ (⟨some 39, _, _, _, _, _⟩ :: _) _ _); refine wpList_append_rd _ rfl (.tmp 33) (.tmp 38) _ rfl (w.heap.size + 1) 5 i0' _ 1 1 Try.underlying23 hi0 hz0 hz1 hz2 rfl (by omega) u4 q.length (q.map e8) rfl own2 _ Ap 4 cp ((putL n3.toNat 4).map e8) rfl (by simp [Num.putL_len]) rdp (e8_one _) (by simp only [maxLen]; omega) (by omega) (by have := bp.size; simp at this; omega) ?_; intro v1 w1 own1 hg1 hat1))
        go_roundw
        case rel => exact ⟨4, by omega, rfl, blk_grown ((bp.block _ (by simp; omega)).trans ((Below.heap_alloc wr _ _ hlt).trans hB)) (Nat.lt_of_lt_of_le (by simp; omega) bp.size) hg1 (fun z hz => by have := own_block own2 hz; omega), own_add own1 rfl (Num.putL_len _ _).symm hnx.out, (bt (bt bel (b1alloc _ _)) bp).grown hg1 (bt (bt bel (b1alloc _ _)) bp).size (fun z hz => by have := own_block own2 hz; omega)⟩
        case measure => simp [intOf]
      · have hnx := Lib.hid (show pre n0 n1 n2 n3 n4 n5 5 = pre n0 n1 n2 n3 n4 n5 4 ++ putL n4.toNat 8 from rfl)
        obtain ⟨q, hq⟩ : ∃ q, q = pre n0 n1 n2 n3 n4 n5 4 := ⟨_, rfl⟩
        rw [← hq] at own hlk hnx
        clear hq
        go_wp2_with (first
          | (go_at_call 52; refine (Num.put_any n4 _ (by rfl) 8 _ (by rfl) (by omega) (by omega) _).mono ?_; rintro e wp ⟨Ap, cp, rfl, ownp, bp⟩; have own2 := own_on (own.alloc _) bp; have rdp := Rd.own ownp; have bpl := Num.putL_len n4.toNat 8; rw [bpl])
          | ((with_reducible show wpList _ _ _ (⟨some 39, _, _, _, _, _⟩ :: _) _ _); refine wpList_append_rd _ rfl (.tmp 33) (.tmp 38) _ rfl (w.heap.size + 1) 5 i0' _ 1 1 Try.underlying23 hi0 hz0 hz1 hz2 rfl (by omega) u4 q.length (q.map e8) rfl own2 _ Ap 8 cp ((putL n4.toNat 8).map e8) rfl (by simp [Num.putL_len]) rdp (e8_one _) (by simp only [maxLen]; omega) (by omega) (by have := bp.size; simp at this; omega) ?_; intro v1 w1 own1 hg1 hat1))
        go_roundw
        case rel => exact ⟨5, by omega, rfl, blk_grown ((bp.block _ (by simp; omega)).trans ((Below.heap_alloc wr _ _ hlt).trans hB)) (Nat.lt_of_lt_of_le (by simp; omega) bp.size) hg1 (fun z hz => by have := own_block own2 hz; omega), own_add own1 rfl (Num.putL_len _ _).symm hnx.out, (bt (bt bel (b1alloc _ _)) bp).grown hg1 (bt (bt bel (b1alloc _ _)) bp).size (fun z hz => by have := own_block own2 hz; omega)⟩
        case measure => simp [intOf]
      · have hnx := Lib.hid (show pre n0 n1 n2 n3 n4 n5 6 = pre n0 n1 n2 n3 n4 n5 5 ++ putL n5.toNat 2 from rfl)
        obtain ⟨q, hq⟩ : ∃ q, q = pre n0 n1 n2 n3 n4 n5 5 := ⟨_, rfl⟩
        rw [← hq] at own hlk hnx
        clear hq
        go_wp2_with (first
          | (go_at_call 52; refine (Num.put_any n5 _ E5.out 2 _ (by rfl) (by omega) (by omega) _).mono ?_; rintro e wp ⟨Ap, cp, rfl, ownp, bp⟩; have own2 := own_on (own.alloc _) bp; have rdp := Rd.own ownp; have bpl := Num.putL_len n5.toNat 2; rw [bpl])
          | ((with_reducible show wpList _ _ _ (⟨some 39, _, _, _, _, _⟩ :: _) _ _); refine wpList_append_rd _ rfl (.tmp 33) (.tmp 38) _ rfl (w.heap.size + 1) 5 i0' _ 1 1 Try.underlying23 hi0 hz0 hz1 hz2 rfl (by omega) u4 q.length (q.map e8) rfl own2 _ Ap 2 cp ((putL n5.toNat 2).map e8) rfl (by simp [Num.putL_len]) rdp (e8_one _) (by simp only [maxLen]; omega) (by omega) (by have := bp.size; simp at this; omega) ?_; intro v1 w1 own1 hg1 hat1))
        go_roundw
        case rel => exact ⟨6, by omega, rfl, blk_grown ((bp.block _ (by simp; omega)).trans ((Below.heap_alloc wr _ _ hlt).trans hB)) (Nat.lt_of_lt_of_le (by simp; omega) bp.size) hg1 (fun z hz => by have := own_block own2 hz; omega), own_add own1 rfl (Num.putL_len _ _).symm hnx.out, (bt (bt bel (b1alloc _ _)) bp).grown hg1 (bt (bt bel (b1alloc _ _)) bp).size (fun z hz => by have := own_block own2 hz; omega)⟩
        case measure => simp [intOf]
    · obtain rfl : k = 6 := by omega
      obtain ⟨c0, c1, c2, c3, c4, fr⟩ := five hB
      have hnx := Lib.hid (show pre n0 n1 n2 n3 n4 n5 6 = ((((putL n0.toNat 1 ++ putL n1.toNat 2) ++ putL n2.toNat 8) ++ putL n3.toNat 4) ++ putL n4.toNat 8) ++ putL n5.toNat 2 from rfl)
      have hlk := hl 6
      obtain ⟨q, hq⟩ : ∃ q, q = pre n0 n1 n2 n3 n4 n5 6 := ⟨_, rfl⟩
      rw [← hq] at own hlk
      have Hq := Lib.hid (hq.trans hnx.out)
      clear hq hnx
      have hp := fun A1 n d1 W hn h => Mac.npad_any A1 (q ++ body) n d1 504 504 (by rfl) W hn (by omega) (by omega) h
      obtain ⟨R, hR⟩ : ∃ R, R = padTo (q ++ body) 504 := ⟨_, rfl⟩
      rw [← hR] at hp
      have Hp := Lib.hid hp
      have HR := Lib.hid hR
      clear hR hp
      go_wp2_with (first
        | ((with_reducible show wpList _ _ _ (⟨some 44, _, _, _, _, _⟩ :: _) _ _); refine wpList_append_rd _ rfl (.tmp 41) (.tmp 43) _ rfl (w.heap.size + 1) 5 i0' _ 1 1 Try.underlying23 hi0 hz0 hz1 hz2 rfl (by omega) u4 q.length (q.map e8) rfl own _ A body.length c (body.map e8) rfl (by simp) (hr.below bel) (e8_one _) (by simp only [maxLen]; omega) (by omega) hbs ?_; intro v1 w1 own1 hg1 hat1; have own2 := own_add own1 rfl rfl rfl; have b1 := bel.grown hg1 bel.size (fun z hz => by have := own_block own hz; omega); obtain ⟨A1, d1, rfl⟩ := own_form own2)
        | (go_at_call 39; refine (Hp.out _ _ _ _ (by simp) (Rd.own own2)).mono ?_; rintro e wp ⟨Ap, cp, rfl, ownp, bp⟩))
      go_ret
      exact retB_eq (RetB.after b1 ownp bp) (by rw [HR.out, Hq.out])
/-- a struct lies in the first new block; behind it bytes are gathered -/
def Inv (w W : World) (xs : Array Value) (T : TypeId) (v : Value) (q : List UInt8) : Prop := W.heap[w.heap.size]? = some (.cells xs T (0, 0)) ∧ W.ownsRow (w.heap.size + 1) 5 1 v q.length (q.map e8) ∧ Below w.heap.size w W ∧ w.heap.size + 1 ≤ W.heap.size
theorem Inv.put {w W W' : World} {xs : Array Value} {T : TypeId} {v : Value} {q : List UInt8} (h : Inv w W xs T v q) (b : Below W.heap.size W W') : Inv w W' xs T v q :=
  ⟨(b.block _ (lt_of_block h.1)).trans h.1, own_on h.2.1 b, bt h.2.2.1 b, Nat.le_trans h.2.2.2 b.size⟩
theorem Inv.app {w W W' : World} {xs : Array Value} {T : TypeId} {v v' : Value} {q b : List UInt8} {m : Nat} (h : Inv w W xs T v q) (o : W'.ownsRow (w.heap.size + 1) 5 1 v' (q.length + m) (q.map e8 ++ b.map e8)) (g : W.grownBy W' v.ownBlock) (hm : m = b.length) : Inv w W' xs T v' (q ++ b) :=
  ⟨blk_grown h.1 (lt_of_block h.1) g (fun z hz => by have := own_block h.2.1 hz; omega), own_add o rfl hm rfl, h.2.2.1.grown g h.2.2.1.size (fun z hz => by have := own_block h.2.1 hz; omega), Nat.le_trans h.2.2.2 g.size⟩
theorem Inv.first {w W W' : World} {xs : Array Value} {T : TypeId} {v : Value} {q : List UInt8} (hB : W.heap[w.heap.size]? = some (.cells xs T (0, 0))) (o : W'.ownsRow W.heap.size 5 1 v q.length (q.map e8)) (b0 : Below w.heap.size w W) (hs : w.heap.size + 1 ≤ W.heap.size) (b : Below W.heap.size W W') : Inv w W' xs T v q :=
  ⟨(b.block _ (lt_of_block hB)).trans hB, own_base o hs, bt b0 b, Nat.le_trans hs b.size⟩
end Go.Proofs.Ytkapamolligmkaa.Sec
