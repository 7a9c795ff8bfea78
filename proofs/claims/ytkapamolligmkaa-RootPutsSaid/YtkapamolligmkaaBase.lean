/- Words for memory that all walks of this seat share: a slice that reads as a list of cells, a block of one cell, bits of unsigned numbers. No statement is proved here. -/
import Derived.WalkKit
import Derived.Below
import Derived.OneCell
import Derived.Laws.OwnMore
import Derived.Laws.BitsAllLaws
import Derived.Lib.Hide
import Derived.Deep.Draws
import Derived.Test.YtkapamolligmkaaRegion
import Derived.Maps.AppendAt
namespace Go.Proofs.Ytkapamolligmkaa
open Go.RowKit

/-! numbers as cells -/
abbrev e8 (x : UInt8) : Value := .int .u8 (x.toNat : Int)

theorem xor8 (a b : UInt8) : bits .xor .u8 (a.toNat : Int) (b.toNat : Int) = ((a ^^^ b).toNat : Int) := by
  rw [u8_xor_nat _ _ a.toNat_lt b.toNat_lt]; simp
theorem and8 (a b : UInt8) : bits .and .u8 (a.toNat : Int) (b.toNat : Int) = ((a &&& b).toNat : Int) := by
  rw [u8_and_nat _ _ a.toNat_lt b.toNat_lt]; simp
theorem or8 (a b : UInt8) : bits .or .u8 (a.toNat : Int) (b.toNat : Int) = ((a ||| b).toNat : Int) := by
  rw [u8_or_nat _ _ a.toNat_lt b.toNat_lt]; simp
theorem xor32 (a b : UInt32) : bits .xor .u32 (a.toNat : Int) (b.toNat : Int) = ((a ^^^ b).toNat : Int) := by
  rw [u32_xor_nat _ _ a.toNat_lt b.toNat_lt]; simp
theorem and32 (a b : UInt32) : bits .and .u32 (a.toNat : Int) (b.toNat : Int) = ((a &&& b).toNat : Int) := by
  rw [u32_and_nat _ _ a.toNat_lt b.toNat_lt]; simp
theorem or32 (a b : UInt32) : bits .or .u32 (a.toNat : Int) (b.toNat : Int) = ((a ||| b).toNat : Int) := by
  rw [u32_or_nat _ _ a.toNat_lt b.toNat_lt]; simp
theorem xor64 (a b : UInt64) : bits .xor .u64 (a.toNat : Int) (b.toNat : Int) = ((a ^^^ b).toNat : Int) := by
  rw [u64_xor_nat _ _ a.toNat_lt b.toNat_lt]; simp
theorem and64 (a b : UInt64) : bits .and .u64 (a.toNat : Int) (b.toNat : Int) = ((a &&& b).toNat : Int) := by
  rw [u64_and_nat _ _ a.toNat_lt b.toNat_lt]; simp
theorem or64 (a b : UInt64) : bits .or .u64 (a.toNat : Int) (b.toNat : Int) = ((a ||| b).toNat : Int) := by
  rw [u64_or_nat _ _ a.toNat_lt b.toNat_lt]; simp

/-! a number that came in, as an unsigned word -/
theorem to8 (n : Int) (h0 : 0 ≤ n) (h1 : n ≤ 255) : ∃ x : UInt8, n = (x.toNat : Int) :=
  ⟨UInt8.ofNat n.toNat, by rw [UInt8.toNat_ofNat']; have : n.toNat < 256 := by omega
                           simp [Nat.mod_eq_of_lt this]; omega⟩
theorem to32 (n : Int) (h0 : 0 ≤ n) (h1 : n ≤ 4294967295) : ∃ x : UInt32, n = (x.toNat : Int) :=
  ⟨UInt32.ofNat n.toNat, by rw [UInt32.toNat_ofNat']; have : n.toNat < 4294967296 := by omega
                            simp [Nat.mod_eq_of_lt this]; omega⟩
theorem to64 (n : Int) (h0 : 0 ≤ n) (h1 : n ≤ 18446744073709551615) : ∃ x : UInt64, n = (x.toNat : Int) :=
  ⟨UInt64.ofNat n.toNat, by rw [UInt64.toNat_ofNat']; have : n.toNat < 18446744073709551616 := by omega
                            simp [Nat.mod_eq_of_lt this]; omega⟩
theorem list8 (zs : List Int) (h : ∀ n ∈ zs, (Lit.int .u8 n).wf = true) : ∃ l : List UInt8, zs = l.map (fun x => (x.toNat : Int)) := by
  induction zs with
  | nil => exact ⟨[], rfl⟩
  | cons z zs ih =>
    obtain ⟨l, rfl⟩ := ih fun n hn => h n (by simp [hn])
    have hz := h z (by simp)
    simp [Lit.wf, IntKind.min, IntKind.max, IntKind.signed, IntKind.bits] at hz
    obtain ⟨x, rfl⟩ := to8 z (by omega) (by omega)
    exact ⟨x :: l, rfl⟩

/-! a slice that reads as a list of cells -/
def Rd (w : World) (B : Nat) (A : Option Addr) (xs : List Value) : Prop :=
  xs ≠ [] → ∃ b off, A = some ⟨b, off, none⟩ ∧ b < B ∧ ∀ i (h : i < xs.length), w.cell? ⟨b, off + i, none⟩ = some xs[i]

theorem Rd.nil (w : World) (B : Nat) (A : Option Addr) : Rd w B A [] := fun h => absurd rfl h
theorem Rd.get {w : World} {B : Nat} {A : Option Addr} {xs : List Value} (h : Rd w B A xs) {k : Nat} (hk : k < xs.length) :
    ∃ b off, A = some ⟨b, off, none⟩ ∧ b < B ∧ w.cell? ⟨b, off + k, none⟩ = some xs[k] := by
  obtain ⟨b, off, rfl, hb, hc⟩ := h (by intro e; rw [e] at hk; exact absurd hk (by simp))
  exact ⟨b, off, rfl, hb, hc k hk⟩
theorem Rd.keep {w w' : World} {B : Nat} {A : Option Addr} {xs : List Value} (h : Rd w B A xs) (hk : ∀ p : Addr, p.block < B → w'.cell? p = w.cell? p) : Rd w' B A xs := by
  intro hne
  obtain ⟨b, off, rfl, hb, hc⟩ := h hne
  exact ⟨b, off, rfl, hb, fun i hi => (hk ⟨b, off + i, none⟩ hb).trans (hc i hi)⟩
theorem Rd.below {w w' : World} {B : Nat} {A : Option Addr} {xs : List Value} (h : Rd w B A xs) (hb : Below B w w') : Rd w' B A xs := h.keep fun _ hp => hb.cell hp
theorem Rd.more {w : World} {B B' : Nat} {A : Option Addr} {xs : List Value} (h : Rd w B A xs) (hB : B ≤ B') : Rd w B' A xs := by
  intro hne
  obtain ⟨b, off, rfl, hb, hc⟩ := h hne
  exact ⟨b, off, rfl, by omega, hc⟩
/-- it reads so in any later world, below that world's end -/
theorem Rd.on {w w' : World} {A : Option Addr} {xs : List Value} (h : Rd w w.heap.size A xs) (hb : Below w.heap.size w w') : Rd w' w'.heap.size A xs := (h.below hb).more hb.size
theorem Rd.own {w : World} {base : Nat} {e : TypeId} {A : Option Addr} {n c : Nat} {xs : List Value} (h : w.ownsRow base e 1 (.slice A n c) n xs) : Rd w w.heap.size A xs := by
  intro hne
  rcases h.2 with ⟨hv, hn⟩ | ⟨g, cap, cur, hv, hg, hh, hnc, hcm, hcs, ht⟩
  · exact absurd (List.eq_nil_of_length_eq_zero (by have := h.1; omega)) hne
  · injection hv with hA _ _
    subst hA
    refine ⟨g, 0, rfl, lt_of_block hh, fun i hi => ?_⟩
    have hl := h.1
    have := World.ownsRow.cellAt (j := i) h (by omega)
    rw [Nat.zero_add, this]; exact List.getElem?_eq_getElem hi

theorem Rd.lit (w : World) (cs : Array Value) (t : TypeId) (xs : List Value) (B : Nat) (hx : cs.toList = xs) (hB : w.heap.size < B) : Rd (w.alloc (.cells cs t)) B (some ⟨w.heap.size, 0, none⟩) xs := by
  subst hx
  intro _
  refine ⟨_, _, rfl, hB, fun i hi => ?_⟩
  rw [World.cell?_alloc_new, Nat.zero_add]
  simp
theorem below_lit (w : World) (o : Obj) : Below w.heap.size w (w.alloc o) := (Below.refl _ _).alloc (Nat.le_refl _) _

/-! a block of one cell -/
def Box (w : World) (g : Nat) (v : Value) : Prop := ∃ t, w.heap[g]? = some (.cells #[v] t (0, 0))
theorem Box.cell {w : World} {g : Nat} {v : Value} (h : Box w g v) : w.cell? ⟨g, 0, none⟩ = some v := h.elim fun _ h => cell_of_one h
theorem Box.free {w : World} {g : Nat} {v : Value} (h : Box w g v) : w.frozen? ⟨g, 0, none⟩ = false := h.elim fun _ h => free_of_one h
theorem Box.lt {w : World} {g : Nat} {v : Value} (h : Box w g v) : g < w.heap.size := h.elim fun _ h => lt_of_block h
theorem Box.new (w : World) (t : TypeId) (v : Value) : Box (w.alloc (.cells #[v] t)) w.heap.size v := ⟨t, heap_alloc_new w _⟩
theorem Box.set {w : World} {g : Nat} {v : Value} (h : Box w g v) (u : Value) : Box (w.setCell ⟨g, 0, none⟩ u) g u := h.elim fun t h => ⟨t, one_setCell h⟩
theorem Box.kept {w w' : World} {g : Nat} {v : Value} {row : Option Nat} (h : Box w g v) (hg : w.grownBy w' row) (hne : some g ≠ row) : Box w' g v :=
  h.elim fun t hh => ⟨t, (hg.block g (lt_of_block hh) hne).trans hh⟩
theorem Box.below {w w' : World} {g B : Nat} {v : Value} (h : Box w g v) (hb : Below B w w') (hg : g < B) : Box w' g v := h.elim fun t hh => ⟨t, (hb.block g hg).trans hh⟩
theorem Box.alloc {w : World} {g : Nat} {v : Value} (h : Box w g v) (o : Obj) : Box (w.alloc o) g v := h.elim fun t hh => ⟨t, (Below.heap_alloc w o g (lt_of_block hh)).trans hh⟩

theorem grown_set (w : World) (a : Addr) (u : Value) : w.grownBy (w.setCell a u) (some a.block) :=
  ⟨rfl, rfl, rfl, by simp, fun k _ hk => heap_setCell_other w a k u (fun e => hk (by rw [e]))⟩
theorem grown_trans {a b c : World} {r : Option Nat} (h : a.grownBy b r) (k : b.grownBy c r) : a.grownBy c r :=
  ⟨k.os.trans h.os, k.tape.trans h.tape, k.output.trans h.output, Nat.le_trans h.size k.size, fun i hi hn => (k.block i (Nat.lt_of_lt_of_le hi h.size) hn).trans (h.block i hi hn)⟩
theorem below_grown {w w' : World} (h : Below w.heap.size w w') (r : Option Nat) : w.grownBy w' r := ⟨h.os, h.tape, h.output, h.size, fun k hk _ => h.block k hk⟩

/-! append onto a row of the call's own, the source nil, empty or not -/
section
variable {P : Program} (w : World)
theorem run_append_rd (base : Nat) (t ty e : TypeId) (i : TypeInfo) (z : Value) (size bytes : Nat) (ht : P.underlying t = some (.slice e)) (hi : P.info? e = some i) (hz : i.zero = some z)
    (hsize : i.size = size) (hby : i.bytes = bytes) (hzs : z.cells.size = size) (hsz : 0 < size) (v : Value) (n : Nat) (xs : List Value) (hown : w.ownsRow base e size v n xs)
    (B : Nat) (A : Option Addr) (m c : Nat) (news : List Value) (hl : news.length = m * size) (hr : Rd w B A news) (h1 : ∀ u ∈ news, u.oneCell' = true)
    (h63 : n + m ≤ maxLen) (hbytes : (n + m) * bytes ≤ 140737488355328) (hbase : base ≤ w.heap.size) :
    ∃ v' w', (Builtin.append_ #[t, t] ty #[v, .slice A m c]).run P w = .ok v' w' ∧ w'.ownsRow base e size v' (n + m) (xs ++ news) ∧ w.grownBy w' v.ownBlock ∧
      (v'.ownBlock = v.ownBlock ∨ v'.ownBlock = some w.heap.size) := by
  cases A with
  | none =>
    have hn : news = [] := by
      cases news with
      | nil => rfl
      | cons a l => obtain ⟨b, off, h, _⟩ := hr (by simp); cases h
    subst hn
    have hm : m = 0 := by
      rcases Nat.eq_zero_or_pos m with h | h
      · exact h
      · have h2 := Nat.mul_pos h hsz
        have h3 : (0 : Nat) = m * size := hl
        omega
    subst hm
    refine ⟨v, w, ?_, by simpa using hown, ⟨rfl, rfl, rfl, Nat.le_refl _, fun _ _ _ => rfl⟩, .inl rfl⟩
    rcases hown.2 with ⟨rfl, rfl⟩ | ⟨g, cap, cur, rfl, _, _, hnc, _⟩
    · simp [Builtin.append_, run_underlying ht, sizeOf, typeInfo, hi, Builtin.lenOf, Builtin.firstCells]
    · simp [Builtin.append_, run_underlying ht, sizeOf, typeInfo, hi, Builtin.lenOf, Builtin.firstCells, hnc, storeCells]
  | some ad =>
    have hcells : ∀ j u, news[j]? = some u → w.cell? (ad.add j) = some u := by
      intro j u hu
      obtain ⟨hj, rfl⟩ := List.getElem?_eq_some_iff.1 hu
      obtain ⟨b, off, h, _, hc⟩ := hr (by intro e; rw [e] at hj; exact absurd hj (by simp))
      injection h with h
      subst h
      rw [Addr.add_lit]
      exact hc j hj
    obtain ⟨v', w', h, h2, h3, _, h5⟩ := run_append_own_at (P := P) w base t ty e i z size bytes ht hi hz hsize hby hzs hsz v n xs hown ad m c news hl hcells h1 h63 hbytes hbase
    exact ⟨v', w', h, h2, h3, h5⟩

theorem wp_append_rd {o : Oper} {a : Act} {K : Act → World → Prop} {Q : Exit → Act → World → Prop} (s x : Operand) (t : TypeId)
    (ho : o.op = .call { callee := .builtin .append, args := #[s, x], argTypes := #[t, t] })
    (base : Nat) (e : TypeId) (i : TypeInfo) (z : Value) (size bytes : Nat) (ht : P.underlying t = some (.slice e)) (hi : P.info? e = some i) (hz : i.zero = some z)
    (hsize : i.size = size) (hby : i.bytes = bytes) (hzs : z.cells.size = size) (hsz : 0 < size)
    (v : Value) (n : Nat) (xs : List Value) (hs : a.eval s = v) (hown : w.ownsRow base e size v n xs)
    (B : Nat) (A : Option Addr) (m c : Nat) (news : List Value) (hx : a.eval x = .slice A m c) (hl : news.length = m * size) (hr : Rd w B A news) (h1 : ∀ u ∈ news, u.oneCell' = true)
    (h63 : n + m ≤ maxLen) (hbytes : (n + m) * bytes ≤ 140737488355328) (hbase : base ≤ w.heap.size)
    (h : ∀ v' w', w'.ownsRow base e size v' (n + m) (xs ++ news) → w.grownBy w' v.ownBlock → (v'.ownBlock = v.ownBlock ∨ v'.ownBlock = some w.heap.size) → K (a.put o.dst v') w') : o.wp P a w K Q := by
  obtain ⟨v', w', hrun, h2, h3, h4⟩ := run_append_rd (P := P) w base t o.type e i z size bytes ht hi hz hsize hby hzs hsz v n xs hown B A m c news hl hr h1 h63 hbytes hbase
  unfold Oper.wp execOp
  simp only [ho, resolve, invoke, builtin, Sem.run_bind, Sem.run_pure, Result.andThen_ok, List.map_toArray, List.map_cons, List.map_nil, hs, hx, hrun]
  exact h v' w' h2 h3 h4

theorem wpList_append_rd {ops : Array Oper} {rest : List Oper} {o : Oper} {a : Act} {Q : Exit → Act → World → Prop} (hgd : o.guard = none) (s x : Operand) (t : TypeId)
    (ho : o.op = .call { callee := .builtin .append, args := #[s, x], argTypes := #[t, t] })
    (base : Nat) (e : TypeId) (i : TypeInfo) (z : Value) (size bytes : Nat) (ht : P.underlying t = some (.slice e)) (hi : P.info? e = some i) (hz : i.zero = some z)
    (hsize : i.size = size) (hby : i.bytes = bytes) (hzs : z.cells.size = size) (hsz : 0 < size)
    (v : Value) (n : Nat) (xs : List Value) (hs : a.eval s = v) (hown : w.ownsRow base e size v n xs)
    (B : Nat) (A : Option Addr) (m c : Nat) (news : List Value) (hx : a.eval x = .slice A m c) (hl : news.length = m * size) (hr : Rd w B A news) (h1 : ∀ u ∈ news, u.oneCell' = true)
    (h63 : n + m ≤ maxLen) (hbytes : (n + m) * bytes ≤ 140737488355328) (hbase : base ≤ w.heap.size)
    (h : ∀ v' w', w'.ownsRow base e size v' (n + m) (xs ++ news) → w.grownBy w' v.ownBlock → (v'.ownBlock = v.ownBlock ∨ v'.ownBlock = some w.heap.size) → wpList P ops Q rest (a.put o.dst v') w') : wpList P ops Q (o :: rest) a w :=
  wpList_plain hgd fun _ hK => wp_append_rd w s x t ho base e i z size bytes ht hi hz hsize hby hzs hsz v n xs hs hown B A m c news hx hl hr h1 h63 hbytes hbase fun v' w' h2 h3 h4 => hK _ _ (h v' w' h2 h3 h4)
end

theorem e8_one (l : List UInt8) : ∀ u ∈ l.map e8, u.oneCell' = true := by
  intro u hu
  obtain ⟨x, _, rfl⟩ := List.mem_map.1 hu
  rfl
theorem one_int (k : IntKind) (n : Int) : ∀ u ∈ [Value.int k n], u.oneCell' = true := by
  intro u hu
  rw [List.mem_singleton] at hu
  subst hu
  rfl
theorem le_alloc {b : Nat} {w : World} (h : b ≤ w.heap.size) (o : Obj) : b ≤ (w.alloc o).heap.size := by
  rw [show (w.alloc o).heap.size = w.heap.size + 1 by simp]; omega
theorem made_int (k : IntKind) (s : Nat) : (madeCells (Value.int k 0).cells (s * 1)).toList = List.replicate s (Value.int k 0) := by
  apply List.ext_getElem
  · simp [madeCells]
  · intro i h1 h2
    simp [madeCells, Value.cells, Nat.mod_one]
theorem own_nil (w : World) (base : Nat) (e : TypeId) (size : Nat) : w.ownsRow base e size (.slice none 0 0) 0 [] := ⟨by simp, .inl ⟨rfl, rfl⟩⟩
theorem own_form {w : World} {base : Nat} {e : TypeId} {size : Nat} {v : Value} {n : Nat} {xs : List Value} (h : w.ownsRow base e size v n xs) : ∃ A c, v = .slice A n c := by
  rcases h.2 with ⟨rfl, rfl⟩ | ⟨g, cap, cur, rfl, _⟩
  · exact ⟨_, _, rfl⟩
  · exact ⟨_, _, rfl⟩
theorem own_some {w : World} {base : Nat} {e : TypeId} {size : Nat} {v : Value} {n : Nat} {xs : List Value} (h : w.ownsRow base e size v n xs) (hn : 0 < n) : ∃ g c, v = .slice (some ⟨g, 0, none⟩) n c ∧ base ≤ g := by
  rcases h.2 with ⟨rfl, rfl⟩ | ⟨g, cap, cur, rfl, hg, _⟩
  · exact absurd hn (by omega)
  · exact ⟨_, _, rfl, hg⟩
theorem own_block {w : World} {base : Nat} {e : TypeId} {size : Nat} {v : Value} {n : Nat} {xs : List Value} (h : w.ownsRow base e size v n xs) {k : Nat} (hk : v.ownBlock = some k) : base ≤ k := (h.lt k hk).1

/-- a new slice of bytes comes back, of the call's own; nothing else has turned -/
def RetB (E : TypeId) (w : World) (l : List UInt8) (e : Ending) (w' : World) : Prop :=
  ∃ A c, e = .returned (.slice A l.length c) ∧ w'.ownsRow w.heap.size E 1 (.slice A l.length c) l.length (l.map e8) ∧ Below w.heap.size w w'
theorem RetB.mk {E : TypeId} {w w' : World} {l : List UInt8} {v : Value} {n : Nat} {xs : List Value} (h : w'.ownsRow w.heap.size E 1 v n xs) (hx : xs = l.map e8) (hb : Below w.heap.size w w') : RetB E w l (.returned v) w' := by
  subst hx
  obtain ⟨A, c, rfl⟩ := own_form h
  have hn : l.length = n := by simpa using h.1
  subst hn
  exact ⟨A, c, rfl, h, hb⟩

theorem own_base {w : World} {base base' : Nat} {e : TypeId} {size : Nat} {v : Value} {n : Nat} {xs : List Value} (h : w.ownsRow base e size v n xs) (hb : base' ≤ base) : w.ownsRow base' e size v n xs := by
  refine ⟨h.1, ?_⟩
  rcases h.2 with h | ⟨g, cap, cur, hv, hg, r⟩
  · exact .inl h
  · exact .inr ⟨g, cap, cur, hv, by omega, r⟩
theorem RetB.after {E : TypeId} {w w1 w2 : World} {l : List UInt8} {A : Option Addr} {c : Nat} (h1 : Below w.heap.size w w1) (h : w2.ownsRow w1.heap.size E 1 (.slice A l.length c) l.length (l.map e8)) (h2 : Below w1.heap.size w1 w2) :
    RetB E w l (.returned (.slice A l.length c)) w2 := ⟨A, c, rfl, own_base h h1.size, h1.trans (h2.mono h1.size)⟩
theorem own_on {w w' : World} {base : Nat} {e : TypeId} {size : Nat} {v : Value} {n : Nat} {xs : List Value} (h : w.ownsRow base e size v n xs) (b : Below w.heap.size w w') : w'.ownsRow base e size v n xs := by
  refine ⟨h.1, ?_⟩
  rcases h.2 with h | ⟨g, cap, cur, hv, hg, hh, r⟩
  · exact .inl h
  · exact .inr ⟨g, cap, cur, hv, hg, (b.block g (lt_of_block hh)).trans hh, r⟩
/-- one call behind the other -/
theorem bt {w wX w1 : World} (h : Below w.heap.size w wX) (b : Below wX.heap.size wX w1) : Below w.heap.size w w1 := h.trans (b.mono h.size)
theorem b1alloc (w : World) (o : Obj) : Below w.heap.size w (w.alloc o) := (Below.refl _ _).alloc (Nat.le_refl _) _
theorem b2alloc (w : World) (o o' : Obj) : Below w.heap.size w ((w.alloc o).alloc o') := bt (b1alloc w o) (b1alloc _ _)
theorem b3alloc (w : World) (o o' o'' : Obj) : Below w.heap.size w (((w.alloc o).alloc o').alloc o'') := bt (b2alloc w o o') (b1alloc _ _)
/-- behind a call that only made memory: all old cells and marks, for the walk -/
theorem bcell {W w1 : World} (hb : Below W.heap.size W w1) : (∀ b o, b < W.heap.size → w1.cell? ⟨b, o, none⟩ = W.cell? ⟨b, o, none⟩) ∧ (∀ b o, b < W.heap.size → w1.frozen? ⟨b, o, none⟩ = W.frozen? ⟨b, o, none⟩) ∧ W.heap.size ≤ w1.heap.size :=
  ⟨fun b o h => hb.cell (p := ⟨b, o, none⟩) h, fun b o h => hb.frozen (p := ⟨b, o, none⟩) h, hb.size⟩
theorem bdrew {B : Nat} {a w : World} (h : Below B a w) (n : Nat) : Below B a (w.drewN n) := ⟨h.os, h.tape, h.output, h.size, h.block⟩
/-- an array by value, of numbers, at an index in its bounds -/
theorem run_index_ints {P : Program} {t e : TypeId} {n : Nat} {ek : IntKind} {cs : Array Value} {k : IntKind} {i : Nat} {v : Value} (h : P.underlying t = some (.array n e)) (he : P.underlying e = some (.int ek)) (hs : (P.info? e).map (·.size) = some 1) (hi : i < n) (hv : cs[i]? = some v) (w : World) :
    (Instr.index t (.agg cs) (.int k (i : Int))).run P w = .ok v w := by
  have hb : (0 : Int) ≤ (i : Int) ∧ (i : Int) < (n : Int) := by omega
  obtain ⟨inf, hinf, hsz⟩ := Option.map_eq_some_iff.1 hs
  simp [Instr.index, run_underlying h, asIntOf, hb, go_sem, part, isAgg, run_underlying he, sizeOf, typeInfo, hinf, hsz, hv]
  intro hle; omega
theorem wrap_small {x : Int} (h0 : -1000000000000 ≤ x) (h1 : x ≤ 1000000000000) : IntKind.i64.wrap x = x := IntWalk.i64_in _ (by omega)
theorem bne_no {a b : Int} (h : a = b) : (a != b) = false := by simp [h]
theorem bne_yes {a b : Int} (h : a ≠ b) : (a != b) = true := by simp [h]
theorem beq_yes {a b : Int} (h : a = b) : (a == b) = true := by simp [h]
theorem beq_no {a b : Int} (h : a ≠ b) : (a == b) = false := by simp [h]
theorem bne8 {a b : UInt8} (h : a ≠ b) : ((a.toNat : Int) != (b.toNat : Int)) = true := bne_yes (fun e => h (UInt8.toNat_inj.1 (Int.natCast_inj.1 e)))
theorem beq8 {a b : UInt8} (h : a ≠ b) : ((a.toNat : Int) == (b.toNat : Int)) = false := beq_no (fun e => h (UInt8.toNat_inj.1 (Int.natCast_inj.1 e)))
theorem bne8_no {a b : UInt8} (h : a = b) : ((a.toNat : Int) != (b.toNat : Int)) = false := by simp [h]
/-! what lay is as it lay, but for the blocks that are named -/
def Keep (fp : List Nat) (w w' : World) : Prop := w'.os = w.os ∧ w'.tape = w.tape ∧ w'.output = w.output ∧ w.heap.size ≤ w'.heap.size ∧ ∀ j, j < w.heap.size → j ∉ fp → w'.heap[j]? = w.heap[j]?
/-- a footprint has grown by new blocks alone -/
def Fresh (w : World) (fp fp' : List Nat) : Prop := ∀ j ∈ fp', j ∈ fp ∨ w.heap.size ≤ j
theorem Keep.refl (fp : List Nat) (w : World) : Keep fp w w := ⟨rfl, rfl, rfl, Nat.le_refl _, fun _ _ _ => rfl⟩
theorem Keep.size {fp : List Nat} {w w' : World} (h : Keep fp w w') : w.heap.size ≤ w'.heap.size := h.2.2.2.1
theorem Keep.block {fp : List Nat} {w w' : World} (h : Keep fp w w') {j : Nat} (hj : j < w.heap.size) (hn : j ∉ fp) : w'.heap[j]? = w.heap[j]? := h.2.2.2.2 j hj hn
theorem Keep.of_below {w w' : World} (h : Below w.heap.size w w') (fp : List Nat) : Keep fp w w' := ⟨h.os, h.tape, h.output, h.size, fun j hj _ => h.block j hj⟩
theorem Keep.of_grown {fp : List Nat} {w w' : World} {row : Option Nat} (h : w.grownBy w' row) (hr : ∀ g, row = some g → g ∈ fp) : Keep fp w w' :=
  ⟨h.os, h.tape, h.output, h.size, fun j hj hn => h.block j hj (fun e => hn (hr j e.symm))⟩
theorem Keep.trans {fp fp1 : List Nat} {w w1 w2 : World} (h : Keep fp w w1) (k : Keep fp1 w1 w2) (hf : Fresh w fp fp1) : Keep fp w w2 :=
  ⟨k.1.trans h.1, k.2.1.trans h.2.1, k.2.2.1.trans h.2.2.1, Nat.le_trans h.size k.size, fun j hj hn => (k.block (Nat.lt_of_lt_of_le hj h.size) (fun e => (hf j e).elim hn (fun h1 => absurd hj (by omega)))).trans (h.block hj hn)⟩
theorem Keep.below {fp : List Nat} {w w' : World} {B : Nat} (h : Keep fp w w') (hf : ∀ j ∈ fp, B ≤ j) (hB : B ≤ w.heap.size) : Below B w w' :=
  ⟨h.1, h.2.1, h.2.2.1, h.size, fun j hj => h.block (by omega) (fun e => by have := hf j e; omega)⟩
theorem Keep.more {fp fp' : List Nat} {w w' : World} (h : Keep fp w w') (hf : ∀ j ∈ fp, j ∈ fp') : Keep fp' w w' := ⟨h.1, h.2.1, h.2.2.1, h.size, fun j hj hn => h.block hj (fun e => hn (hf j e))⟩
theorem Keep.set {fp : List Nat} {w w' : World} (h : Keep fp w w') {p : Addr} (hp : p.block ∈ fp ∨ w.heap.size ≤ p.block) (u : Value) : Keep fp w (w'.setCell p u) :=
  ⟨h.1, h.2.1, h.2.2.1, by simpa [World.setCell] using h.size, fun j hj hn => (Below.heap_setCell w' p u j (by
    rintro rfl
    rcases hp with hp | hp
    · exact hn hp
    · omega)).trans (h.block hj hn)⟩
theorem Keep.alloc {fp : List Nat} {w w' : World} (h : Keep fp w w') (o : Obj) : Keep fp w (w'.alloc o) :=
  ⟨h.1, h.2.1, h.2.2.1, Nat.le_trans h.size (by simp), fun j hj hn => (Below.heap_alloc w' o j (Nat.lt_of_lt_of_le hj h.size)).trans (h.block hj hn)⟩
theorem Keep.drewN {fp : List Nat} {w w' : World} (h : Keep fp w w') (n : Nat) : Keep fp w (w'.drewN n) := h
theorem Fresh.refl (w : World) (fp : List Nat) : Fresh w fp fp := fun _ h => .inl h
theorem Fresh.trans {w w1 : World} {fp fp1 fp2 : List Nat} (h : Fresh w fp fp1) (hs : w.heap.size ≤ w1.heap.size) (k : Fresh w1 fp1 fp2) : Fresh w fp fp2 := fun j hj => by
  rcases k j hj with h1 | h1
  · exact h j h1
  · exact .inr (by omega)
theorem Fresh.ge {w : World} {fp fp1 : List Nat} {B : Nat} (h : Fresh w fp fp1) (hf : ∀ j ∈ fp, B ≤ j) (hB : B ≤ w.heap.size) : ∀ j ∈ fp1, B ≤ j := fun j hj => by
  rcases h j hj with h1 | h1
  · exact hf j h1
  · omega
theorem Fresh.out {w : World} {fp fp1 : List Nat} {g : Nat} (h : Fresh w fp fp1) (hg : g < w.heap.size) (hn : g ∉ fp) : g ∉ fp1 := fun e => by
  rcases h g e with h1 | h1
  · exact hn h1
  · omega
theorem Rd.keepK {w w' : World} {B : Nat} {A : Option Addr} {xs : List Value} {fp : List Nat} (h : Rd w B A xs) (k : Keep fp w w') (hf : ∀ j ∈ fp, B ≤ j) (hB : B ≤ w.heap.size) : Rd w' B A xs := h.below (k.below hf hB)
theorem own_keep {w w' : World} {base : Nat} {e : TypeId} {size : Nat} {v : Value} {n : Nat} {xs : List Value} {fp : List Nat} (h : w.ownsRow base e size v n xs) (k : Keep fp w w') (hne : ∀ g, v.ownBlock = some g → g ∉ fp) : w'.ownsRow base e size v n xs := by
  refine ⟨h.1, ?_⟩
  rcases h.2 with h | ⟨g, cap, cur, rfl, hg, hh, r⟩
  · exact .inl h
  · exact .inr ⟨g, cap, cur, rfl, hg, (k.block (lt_of_block hh) (hne g rfl)).trans hh, r⟩
theorem Box.keep {w w' : World} {g : Nat} {v : Value} {fp : List Nat} (h : Box w g v) (k : Keep fp w w') (hg : g ∉ fp) : Box w' g v := h.elim fun t hh => ⟨t, (k.block (lt_of_block hh) hg).trans hh⟩
/-- a slice that reads as a list of cells, in none of the blocks that are named -/
def RdN (w : World) (fp : List Nat) (A : Option Addr) (xs : List Value) : Prop :=
  xs ≠ [] → ∃ b off, A = some ⟨b, off, none⟩ ∧ b < w.heap.size ∧ b ∉ fp ∧ ∀ i (h : i < xs.length), w.cell? ⟨b, off + i, none⟩ = some xs[i]
theorem RdN.nil (w : World) (fp : List Nat) (A : Option Addr) : RdN w fp A [] := fun h => absurd rfl h
theorem RdN.rd {w : World} {fp : List Nat} {A : Option Addr} {xs : List Value} (h : RdN w fp A xs) : Rd w w.heap.size A xs := fun hne => by
  obtain ⟨b, off, rfl, hb, _, hc⟩ := h hne
  exact ⟨b, off, rfl, hb, hc⟩
theorem RdN.of {w : World} {fp : List Nat} {A : Option Addr} {xs : List Value} {B : Nat} (h : Rd w B A xs) (hf : ∀ j ∈ fp, B ≤ j) (hB : B ≤ w.heap.size) : RdN w fp A xs := fun hne => by
  obtain ⟨b, off, rfl, hb, hc⟩ := h hne
  exact ⟨b, off, rfl, by omega, fun e => by have := hf b e; omega, hc⟩
theorem RdN.keep {w w' : World} {fp fp' : List Nat} {A : Option Addr} {xs : List Value} (h : RdN w fp A xs) (k : Keep fp w w') (f : Fresh w fp fp') : RdN w' fp' A xs := fun hne => by
  obtain ⟨b, off, rfl, hb, hn, hc⟩ := h hne
  exact ⟨b, off, rfl, Nat.lt_of_lt_of_le hb k.size, f.out hb hn, fun i hi => (World.cell?_of_block (k.block hb hn)).trans (hc i hi)⟩
theorem RdN.on {w w' : World} {fp : List Nat} {A : Option Addr} {xs : List Value} (h : RdN w fp A xs) (b : Below w.heap.size w w') : RdN w' fp A xs := h.keep (Keep.of_below b fp) (Fresh.refl _ _)
theorem RdN.take {w : World} {fp : List Nat} {A : Option Addr} {xs : List Value} (h : RdN w fp A xs) (k : Nat) : RdN w fp A (xs.take k) := by
  intro hne
  obtain ⟨b, off, rfl, hb, hn, hc⟩ := h (by rintro rfl; exact hne (by simp))
  exact ⟨b, off, rfl, hb, hn, fun i hi => by rw [hc i (by rw [List.length_take] at hi; omega), List.getElem_take]⟩
theorem Rd.take {w : World} {B : Nat} {A : Option Addr} {xs : List Value} (h : Rd w B A xs) (k : Nat) : Rd w B A (xs.take k) := by
  intro hne
  obtain ⟨b, off, rfl, hb, hc⟩ := h (by rintro rfl; exact hne (by simp))
  exact ⟨b, off, rfl, hb, fun i hi => by rw [hc i (by rw [List.length_take] at hi; omega), List.getElem_take]⟩
theorem RdN.own {w w' : World} {e : TypeId} {A : Option Addr} {n c : Nat} {xs : List Value} {fp : List Nat} (h : w'.ownsRow w.heap.size e 1 (.slice A n c) n xs) (hf : ∀ j ∈ fp, j < w.heap.size) : RdN w' fp A xs := by
  intro hne
  rcases h.2 with ⟨hv, hn⟩ | ⟨g, cap, cur, hv, hg, hh, hnc, hcm, hcs, ht⟩
  · exact absurd (List.eq_nil_of_length_eq_zero (by have := h.1; omega)) hne
  · injection hv with hA _ _
    subst hA
    refine ⟨g, 0, rfl, lt_of_block hh, fun e => by have := hf g e; omega, fun i hi => ?_⟩
    have hl := h.1
    have := World.ownsRow.cellAt (j := i) h (by omega)
    rw [Nat.zero_add, this]; exact List.getElem?_eq_getElem hi
/-- a slice literal -/
theorem own_lit (w : World) (e : TypeId) (cs : Array Value) (base n : Nat) (hb : base ≤ w.heap.size) (hn : cs.size = n) (hm : n ≤ maxLen) : (w.alloc (.cells cs e)).ownsRow base e 1 (.slice (some ⟨w.heap.size, 0, none⟩) n n) n cs.toList := by
  subst hn
  refine ⟨by simp, .inr ⟨w.heap.size, cs.size, cs, rfl, hb, heap_alloc_new w _, Nat.le_refl _, hm, by simp, ?_⟩⟩
  rw [Nat.mul_one]; exact List.take_of_length_le (by simp)
theorem retB_lit1 {E : TypeId} {w : World} {o : Obj} {cs : Array Value} {l : List UInt8} {v : Value} (h : cs.toList = l.map e8) (hm : l.length ≤ 1000000) (hv : v = .slice (some ⟨w.heap.size + 1, 0, none⟩) l.length l.length) :
    RetB E w l (.returned v) ((w.alloc o).alloc (.cells cs E)) := by
  subst hv
  have hs : cs.size = l.length := by have := congrArg List.length h; simpa using this
  have := own_lit (w.alloc o) E cs w.heap.size l.length (b1alloc _ _).size hs (by unfold maxLen; omega)
  rw [h, show (w.alloc o).heap.size = w.heap.size + 1 by simp] at this
  exact ⟨_, _, rfl, this, b2alloc _ _ _⟩
theorem Rd.drop {w : World} {B : Nat} {A : Option Addr} {xs : List Value} (h : Rd w B A xs) (k : Nat) : Rd w B (A.map (fun x => x.add k)) (xs.drop k) := by
  intro hne
  obtain ⟨b, off, rfl, hb, hc⟩ := h (by rintro rfl; exact hne (by simp))
  refine ⟨b, off + k, by simp [Addr.add_lit], hb, fun i hi => ?_⟩
  rw [List.length_drop] at hi
  rw [Nat.add_assoc, hc (k + i) (by omega), List.getElem_drop]
theorem Rd.empty {w : World} {B : Nat} {A : Option Addr} {xs : List Value} (h : xs = []) : Rd w B A xs := fun hne => absurd h hne
theorem own_cap {w : World} {base : Nat} {e : TypeId} {size n c : Nat} {A : Option Addr} {xs : List Value} (h : w.ownsRow base e size (.slice A n c) n xs) : n ≤ c ∧ c ≤ maxLen := by
  rcases h.2 with ⟨hv, hn⟩ | ⟨g, cap, cur, hv, _, _, h1, h2, _⟩
  · injection hv with _ _ hc
    subst hc hn
    exact ⟨by omega, by unfold maxLen; omega⟩
  · injection hv with _ _ hc
    subst hc
    exact ⟨h1, h2⟩
theorem bset {B : Nat} {a w : World} (h : Below B a w) {b o : Nat} (hb : B ≤ b) (v : Value) : Below B a (w.setCell ⟨b, o, none⟩ v) := h.setCell (p := ⟨b, o, none⟩) hb v
theorem bset_new {w w' : World} (h : Below w.heap.size w w') (o : Nat) (v : Value) : Below w.heap.size w (w'.setCell ⟨w.heap.size, o, none⟩ v) := bset h (Nat.le_refl _) v
/-! ends -/
theorem ret_int {k : IntKind} {a b : Int} (h : a = b) : Ending.returned (.int k a) = .returned (.int k b) := by rw [h]
theorem ret_bool {a b : Bool} (h : a = b) : Ending.returned (.bool a) = .returned (.bool b) := by rw [h]
end Go.Proofs.Ytkapamolligmkaa
