/- Texts of this claim, joined: WalRdQ, Wal8Q, Wal9Q, WalScanPQ, Wal10Q, WalPutQ, WalPut2Q, WalCrPQ, WalCrSQ, StPlainQ, StCrashQ, StCrash2Q, StCrash3Q, StCrash4Q. -/
import Derived.Test.YtchcmklelmlbgaaGreatStoreAnewE
import Derived.Deep.DeepCutAuto
import Derived.Deep.RegionLaw
/- The log: what was read so far, as it lies: rows of the call's own. No statement is proved here. -/
namespace Go.Proofs.YtchcmklelmlbgaaGreat.Wal
open Go.RowKit
open Go.Proofs.YtchcmklelmlbgaaGreat.Sec (X)
set_option linter.unusedVariables false
/-- one page, as it lies -/
structure Pr where
  n : Int
  A : Option Addr
  c : Nat
  body : List UInt8
def Pr.cells (p : Pr) : List Value := [.int .i64 p.n, .slice p.A p.body.length p.c]
def Pr.pg (p : Pr) : Pg := ⟨p.n, p.body⟩
/-- one transaction, as it lies -/
structure Tr where
  A : Option Addr
  c : Nat
  ps : List Pr
  gen : UInt64
def Tr.sl (t : Tr) : Value := .slice t.A t.ps.length t.c
def Tr.cells (t : Tr) : List Value := [t.sl, .int .u64 (t.gen.toNat : Int)]
def Tr.tx (t : Tr) : Tx := ⟨t.ps.map Pr.pg, t.gen⟩
structure PrOk (w : World) (n0 : Nat) (p : Pr) : Prop where
  rd : p.body ≠ [] → ∃ g off cs, p.A = some ⟨g, off, none⟩ ∧ n0 ≤ g ∧ w.heap[g]? = some (Obj.cells cs 5 (0, 0)) ∧ ∀ i (h : i < p.body.length), cs[off + i]? = some (e8 p.body[i])
  cap : p.body.length ≤ p.c
  max : p.c ≤ maxLen
  lo : 0 ≤ p.n
  hi : p.n ≤ 1000
  len : p.body.length ≤ 1000
theorem PrOk.keepU {w w' : World} {n0 : Nat} {p : Pr} (h : PrOk w n0 p) (hk : ∀ (j : Nat) (cs : Array Value), n0 ≤ j → w.heap[j]? = some (Obj.cells cs 5 (0, 0)) → w'.heap[j]? = w.heap[j]?) : PrOk w' n0 p :=
  ⟨fun hne => by obtain ⟨g, off, cs, e, hg, hh, hc⟩ := h.rd hne; exact ⟨g, off, cs, e, hg, (hk g cs hg hh).trans hh, hc⟩, h.cap, h.max, h.lo, h.hi, h.len⟩
theorem PrOk.tail {w : World} {n0 g c k off : Nat} {m : Int} {l : List UInt8} (h : w.ownsRow n0 5 1 (.slice (some ⟨g, 0, none⟩) l.length c) l.length (l.map e8)) (ho : off = k ∨ l.length ≤ k) (hl : l.length ≤ 1000) (h0 : 0 ≤ m) (h1 : m ≤ 1000) : PrOk w n0 ⟨m, some ⟨g, off, none⟩, c - k, l.drop k⟩ := by
  have hc := Disk.own_caps h
  refine ⟨fun hne => ?_, by simp; omega, by have := hc.2; simp; omega, h0, h1, by simp; omega⟩
  rcases h.2 with ⟨hv, _⟩ | ⟨g', cap, cur, hv, hg, hh, hnc, hcm, hcs, ht⟩
  · cases hv
  · injection hv with e1 e2 e3
    injection e1 with e1
    injection e1 with e1 _ _
    subst e1 e3
    refine ⟨g, off, cur, rfl, hg, hh, fun i hi => ?_⟩
    simp only [List.length_drop] at hi
    obtain rfl : off = k := by rcases ho with h | h <;> omega
    have h2 : (cur.toList.take (l.length * 1))[off + i]? = (l.map e8)[off + i]? := by rw [ht]
    rw [List.getElem?_take_of_lt (by omega), List.getElem?_map, List.getElem?_eq_getElem (show off + i < l.length by omega)] at h2
    simpa using h2
structure TrOk (w : World) (n0 : Nat) (now : Option Nat) (t : Tr) : Prop where
  row : w.ownsRow n0 53 2 t.sl t.ps.length (t.ps.flatMap Pr.cells)
  ne : ∀ g, t.sl.ownBlock = some g → now ≠ some g
  pages : ∀ p ∈ t.ps, PrOk w n0 p
theorem own_keep {w w' : World} {base : Nat} {e : TypeId} {z n : Nat} {v : Value} {xs : List Value} (h : w.ownsRow base e z v n xs) (hk : ∀ (j : Nat) (cs : Array Value), v.ownBlock = some j → base ≤ j → w.heap[j]? = some (Obj.cells cs e (0, 0)) → w'.heap[j]? = w.heap[j]?) : w'.ownsRow base e z v n xs := by
  refine ⟨h.1, ?_⟩
  rcases h.2 with h | ⟨g, cap, cur, rfl, hg, hh, r⟩
  · exact .inl h
  · exact .inr ⟨g, cap, cur, rfl, hg, (hk g cur rfl hg hh).trans hh, r⟩
theorem TrOk.keep {w w' : World} {n0 : Nat} {now now' : Option Nat} {t : Tr} (h : TrOk w n0 now t) (hu : ∀ (j : Nat) (cs : Array Value), n0 ≤ j → w.heap[j]? = some (Obj.cells cs 5 (0, 0)) → w'.heap[j]? = w.heap[j]?)
    (hp : ∀ (j : Nat) (cs : Array Value), now ≠ some j → n0 ≤ j → w.heap[j]? = some (Obj.cells cs 53 (0, 0)) → w'.heap[j]? = w.heap[j]?) (hn : ∀ g, t.sl.ownBlock = some g → now' ≠ some g) : TrOk w' n0 now' t :=
  ⟨own_keep h.row (fun j cs e hb hh => hp j cs (h.ne j e) hb hh), hn, fun p hpm => (h.pages p hpm).keepU hu⟩
/-- what was read so far, in its block -/
structure RdAt (w : World) (n0 T : Nat) (np : Int) (r : Rg) (allv nowv : Value) (trs : List Tr) (prs : List Pr) : Prop where
  blk : Blk w T [allv, nowv, .int .u64 (r.gen.toNat : Int), .int .u64 (r.frm : Int), .int .i64 np]
  all : w.ownsRow n0 106 2 allv trs.length (trs.flatMap Tr.cells)
  now : w.ownsRow n0 53 2 nowv prs.length (prs.flatMap Pr.cells)
  okA : ∀ t ∈ trs, TrOk w n0 nowv.ownBlock t
  okN : ∀ p ∈ prs, PrOk w n0 p
  eA : r.all = trs.map Tr.tx
  eN : r.now = prs.map Pr.pg
  lT : T < n0
  lN : n0 ≤ w.heap.size
  bd : trs.length ≤ 100000 ∧ prs.length ≤ 100000
theorem own_bt {w : World} {base : Nat} {e t : TypeId} {z n j : Nat} {v : Value} {xs : List Value} {cs : Array Value} (h : w.ownsRow base e z v n xs) (hj : w.heap[j]? = some (Obj.cells cs t (0, 0))) (hne : t ≠ e) : some j ≠ v.ownBlock := fun e' => by
  rcases h.2 with ⟨rfl, _⟩ | ⟨g, cap, cur, rfl, _, hgb, _⟩
  · simp [Value.ownBlock] at e'
  · obtain rfl : g = j := by simpa [Value.ownBlock] using e'.symm
    rw [hj] at hgb; injection hgb with h1; injection h1 with _ h2 _; exact hne h2
/-- nothing but its own block is turned -/
theorem RdAt.move {w w' : World} {n0 T : Nat} {np : Int} {r : Rg} {allv nowv : Value} {trs : List Tr} {prs : List Pr} (h : RdAt w n0 T np r allv nowv trs prs) (hk : ∀ j, n0 ≤ j → j < w.heap.size → w'.heap[j]? = w.heap[j]?) (hs : w.heap.size ≤ w'.heap.size) (r' : Rg)
    (hb : Blk w' T [allv, nowv, .int .u64 (r'.gen.toNat : Int), .int .u64 (r'.frm : Int), .int .i64 np]) (h1 : r'.all = r.all) (h2 : r'.now = r.now) : RdAt w' n0 T np r' allv nowv trs prs :=
  ⟨hb, own_keep h.all (fun j cs _ hj hh => hk j hj (lt_of_block hh)), own_keep h.now (fun j cs _ hj hh => hk j hj (lt_of_block hh)),
    fun t ht => (h.okA t ht).keep (fun j cs hj hh => hk j hj (lt_of_block hh)) (fun j cs _ hj hh => hk j hj (lt_of_block hh)) (h.okA t ht).ne,
    fun p hp => (h.okN p hp).keepU (fun j cs hj hh => hk j hj (lt_of_block hh)), h1.trans h.eA, h2.trans h.eN, h.lT, Nat.le_trans h.lN hs, h.bd⟩
theorem RdAt.on {w w' : World} {n0 T : Nat} {np : Int} {r : Rg} {allv nowv : Value} {trs : List Tr} {prs : List Pr} (h : RdAt w n0 T np r allv nowv trs prs) (b : Below w.heap.size w w') : RdAt w' n0 T np r allv nowv trs prs :=
  h.move (fun j _ hj => b.block j hj) b.size r (h.blk.on b) rfl rfl
theorem RdAt.own {w w' : World} {n0 T : Nat} {np : Int} {r : Rg} {allv nowv : Value} {trs : List Tr} {prs : List Pr} {row : Option Nat} (h : RdAt w n0 T np r allv nowv trs prs) (hg : w.grownBy w' row) (hr : ∀ j, row = some j → n0 ≤ j ∧ ∃ o : Obj, w.heap[j]? = some o ∧ o.isCells = false) : RdAt w' n0 T np r allv nowv trs prs := by
  have hne : ∀ (j : Nat) (cs : Array Value) (t : TypeId), w.heap[j]? = some (Obj.cells cs t (0, 0)) → w'.heap[j]? = w.heap[j]? := fun j cs t hj => hg.block j (lt_of_block hj) fun e => by
    obtain ⟨_, o, ho, hc⟩ := hr j e.symm
    rw [hj] at ho; cases ho; cases hc
  exact ⟨h.blk.grown hg (fun e => by have := (hr _ e.symm).1; have := h.lT; omega), own_keep h.all (fun j cs _ _ hh => hne j cs _ hh), own_keep h.now (fun j cs _ _ hh => hne j cs _ hh),
    fun t ht => (h.okA t ht).keep (fun j cs _ hh => hne j cs _ hh) (fun j cs _ _ hh => hne j cs _ hh) (h.okA t ht).ne,
    fun p hp => (h.okN p hp).keepU (fun j cs _ hh => hne j cs _ hh), h.eA, h.eN, h.lT, Nat.le_trans h.lN hg.size, h.bd⟩
theorem RdAt.data {w w1 w2 : World} {n0 T : Nat} {np : Int} {r : Rg} {allv nowv v' : Value} {trs : List Tr} {prs : List Pr} (h : RdAt w n0 T np r allv nowv trs prs) (p : Pr) (hp : PrOk w n0 p) (b1 : Below w.heap.size w w1) (hg : w1.grownBy w2 nowv.ownBlock)
    (own : w2.ownsRow n0 53 2 v' (prs.length + 1) (prs.flatMap Pr.cells ++ p.cells)) (hat : v'.ownBlock = nowv.ownBlock ∨ v'.ownBlock = some w1.heap.size) (hl : prs.length < 100000) :
    RdAt (w2.setCell ⟨T, 1, none⟩ v') n0 T np { r with now := r.now ++ [p.pg] } allv v' trs (prs ++ [p]) ∧ KeepsOthers w (w2.setCell ⟨T, 1, none⟩ v') ∧ KpK T n0 w (w2.setCell ⟨T, 1, none⟩ v') := by
  have hsz := b1.size
  have hob : ∀ j, nowv.ownBlock = some j → n0 ≤ j ∧ j < w.heap.size := fun j e => h.now.lt j e
  have hT : T < w.heap.size := h.blk.lt
  have hk2 : ∀ j, j < w.heap.size → some j ≠ nowv.ownBlock → w2.heap[j]? = w.heap[j]? := fun j hj hn => (hg.block j (by omega) hn).trans (b1.block j hj)
  have hk : ∀ j, j < w.heap.size → j ≠ T → some j ≠ nowv.ownBlock → (w2.setCell ⟨T, 1, none⟩ v').heap[j]? = w.heap[j]? := fun j hj hn hr => (Below.heap_setCell w2 ⟨T, 1, none⟩ v' j (fun e => hn e)).trans (hk2 j hj hr)
  have hsT : ∀ j, j ≠ T → (w2.setCell ⟨T, 1, none⟩ v').heap[j]? = w2.heap[j]? := fun j hn => Below.heap_setCell w2 ⟨T, 1, none⟩ v' j (fun e => hn e)
  have hlT := h.lT
  have hku : ∀ (j : Nat) (cs : Array Value), n0 ≤ j → w.heap[j]? = some (Obj.cells cs 5 (0, 0)) → (w2.setCell ⟨T, 1, none⟩ v').heap[j]? = w.heap[j]? := fun j cs hj hh => hk j (lt_of_block hh) (by omega) (own_bt h.now hh (by decide))
  have hkp : ∀ (j : Nat) (cs : Array Value), nowv.ownBlock ≠ some j → n0 ≤ j → w.heap[j]? = some (Obj.cells cs 53 (0, 0)) → (w2.setCell ⟨T, 1, none⟩ v').heap[j]? = w.heap[j]? := fun j cs hn hj hh => hk j (lt_of_block hh) (by omega) (fun e => hn e.symm)
  have hb2 : Blk w2 T [allv, nowv, .int .u64 (r.gen.toNat : Int), .int .u64 (r.frm : Int), .int .i64 np] := h.blk.elim fun t ht => ⟨t, (hk2 T hT (fun e => by have := (hob T e.symm).1; omega)).trans ht⟩
  have hss : (w2.setCell ⟨T, 1, none⟩ v').heap.size = w2.heap.size := by simp [World.setCell]
  refine ⟨⟨hb2.set (k := 1) v', own_keep h.all (fun j cs e hj hh => hk j (lt_of_block hh) (by omega) (own_bt h.now hh (by decide))), ?_, fun t ht => (h.okA t ht).keep hku hkp (fun g e => ?_), fun q hq => ?_, h.eA, ?_, h.lT, by rw [hss]; have := hg.size; have := h.lN; omega, by have := h.bd; simp; omega⟩, ?_, ?_⟩
  · have e1 : (prs ++ [p]).flatMap Pr.cells = prs.flatMap Pr.cells ++ p.cells := by simp
    rw [e1, List.length_append, List.length_singleton]
    exact own_keep own (fun j cs _ hj _ => hsT j (by omega))
  · rcases hat with hat | hat
    · rw [hat]; exact (h.okA t ht).ne g e
    · rw [hat]; intro e2; injection e2 with e2
      have := ((h.okA t ht).row.lt g e).2
      omega
  · rcases List.mem_append.1 hq with hq | hq
    · exact (h.okN q hq).keepU hku
    · rw [List.mem_singleton] at hq; rw [hq]; exact hp.keepU hku
  · show r.now ++ [p.pg] = (prs ++ [p]).map Pr.pg
    rw [h.eN]; simp
  · refine (Ch.keeps_below b1).trans ((KeepsOthers.of_grownBy hg fun j o ej hj => ?_).trans (KeepsOthers.setCell _ _ _))
    rcases h.now.2 with ⟨e, _⟩ | ⟨g, cap, cur, e, _, hgb, _⟩
    · rw [e] at ej; simp [Value.ownBlock] at ej
    · rw [e] at ej
      obtain rfl : g = j := by simpa [Value.ownBlock] using ej
      have := (b1.block g (lt_of_block hgb)).trans hgb
      rw [hj] at this; cases this; rfl
  · exact ⟨hg.os.trans b1.os, hg.tape.trans b1.tape, hg.output.trans b1.output, by rw [hss]; have := hg.size; omega, fun j hj hn => hk j (by have := h.lN; omega) hn (fun e => by have := (hob j e.symm).1; omega)⟩
theorem RdAt.commit {w w1 w2 w3 : World} {n0 T : Nat} {np : Int} {r : Rg} {allv v' : Value} {An : Option Addr} {cn : Nat} {trs : List Tr} {prs : List Pr} (h : RdAt w n0 T np r allv (.slice An prs.length cn) trs prs) (b1 : Below w.heap.size w w1) (hg : w1.grownBy w2 allv.ownBlock)
    (own : w2.ownsRow n0 106 2 v' (trs.length + 1) (trs.flatMap Tr.cells ++ [.slice An prs.length cn, .int .u64 (r.gen.toNat : Int)])) (hl : trs.length < 100000) (frm : Nat)
    (hk3 : KeepsOthers w2 w3) (hB : Blk w3 T [v', .slice none 0 0, .int .u64 0, .int .u64 (frm : Int), .int .i64 np]) (h3 : ∀ j, j ≠ T → w3.heap[j]? = w2.heap[j]?) (ho3 : w3.os = w2.os ∧ w3.tape = w2.tape ∧ w3.output = w2.output ∧ w2.heap.size ≤ w3.heap.size) :
    RdAt w3 n0 T np ⟨r.all ++ [⟨r.now, r.gen⟩], [], 0, frm⟩ v' (.slice none 0 0) (trs ++ [⟨An, cn, prs, r.gen⟩]) [] ∧ KeepsOthers w w3 ∧ KpK T n0 w w3 := by
  have hsz := b1.size
  have hsg := hg.size
  have hlT := h.lT
  have hob : ∀ j, allv.ownBlock = some j → n0 ≤ j ∧ j < w.heap.size := fun j e => h.all.lt j e
  have hk : ∀ j, j < w.heap.size → j ≠ T → some j ≠ allv.ownBlock → w3.heap[j]? = w.heap[j]? := fun j hj hn hr => (h3 j hn).trans ((hg.block j (by omega) hr).trans (b1.block j hj))
  have hku : ∀ (j : Nat) (cs : Array Value), n0 ≤ j → w.heap[j]? = some (Obj.cells cs 5 (0, 0)) → w3.heap[j]? = w.heap[j]? := fun j cs hj hh => hk j (lt_of_block hh) (by omega) (own_bt h.all hh (by decide))
  have hkp : ∀ (j : Nat) (cs : Array Value), n0 ≤ j → w.heap[j]? = some (Obj.cells cs 53 (0, 0)) → w3.heap[j]? = w.heap[j]? := fun j cs hj hh => hk j (lt_of_block hh) (by omega) (own_bt h.all hh (by decide))
  refine ⟨⟨hB, ?_, own_nil _ _ _ _, fun t ht => ?_, fun q hq => (by cases hq), ?_, rfl, h.lT, by have := h.lN; omega, by have := h.bd; simp; omega⟩, ?_, ?_⟩
  · have e1 : (trs ++ [(⟨An, cn, prs, r.gen⟩ : Tr)]).flatMap Tr.cells = trs.flatMap Tr.cells ++ [.slice An prs.length cn, .int .u64 (r.gen.toNat : Int)] := by simp [Tr.cells, Tr.sl]
    rw [e1, List.length_append, List.length_singleton]
    exact own_keep own (fun j cs _ hj _ => h3 j (by omega))
  · rcases List.mem_append.1 ht with ht | ht
    · exact (h.okA t ht).keep hku (fun j cs _ hj hh => hkp j cs hj hh) (fun g _ e => by simp [Value.ownBlock] at e)
    · rw [List.mem_singleton] at ht
      subst ht
      exact ⟨own_keep h.now (fun j cs _ hj hh => hkp j cs hj hh), fun g _ e => (by simp [Value.ownBlock] at e), fun q hq => (h.okN q hq).keepU hku⟩
  · show r.all ++ [⟨r.now, r.gen⟩] = (trs ++ [_]).map Tr.tx
    rw [h.eA, h.eN]; simp [Tr.tx]
  · refine (Ch.keeps_below b1).trans ((KeepsOthers.of_grownBy hg fun j o ej hj => ?_).trans hk3)
    rcases h.all.2 with ⟨e, _⟩ | ⟨g, cap, cur, e, _, hgb, _⟩
    · rw [e] at ej; simp [Value.ownBlock] at ej
    · rw [e] at ej
      obtain rfl : g = j := by simpa [Value.ownBlock] using ej
      have := (b1.block g (lt_of_block hgb)).trans hgb
      rw [hj] at this; cases this; rfl
  · exact ⟨ho3.1.trans (hg.os.trans b1.os), ho3.2.1.trans (hg.tape.trans b1.tape), ho3.2.2.1.trans (hg.output.trans b1.output), by omega, fun j hj hn => hk j (by have := h.lN; omega) hn (fun e => by have := (hob j e.symm).1; omega)⟩
end Go.Proofs.YtchcmklelmlbgaaGreat.Wal

/- The log: one more sector is taken. No statement is proved here. -/
namespace Go.Proofs.YtchcmklelmlbgaaGreat.Wal
open Go.RowKit
open Go.Proofs.YtchcmklelmlbgaaGreat.Sec (X five5x)
set_option linter.unusedVariables false
set_option maxRecDepth 100000
attribute [local irreducible] wpQuiet
theorem five5r {w : World} {g : Nat} {v0 v1 v2 v3 v4 : Value} (h : Blk w g [v0, v1, v2, v3, v4]) : w.cell? ⟨g, 0, none⟩ = some v0 ∧ w.cell? ⟨g, 1, none⟩ = some v1 ∧ w.cell? ⟨g, 2, none⟩ = some v2 ∧ w.cell? ⟨g, 3, none⟩ = some v3 ∧ w.cell? ⟨g, 4, none⟩ = some v4 :=
  ⟨h.cell (k := 0) (by simp), h.cell (k := 1) (by simp), h.cell (k := 2) (by simp), h.cell (k := 3) (by simp), h.cell (k := 4) (by simp)⟩
theorem infoPg : (Tryz.prog.info? 53).map (fun i => (i.zero, i.size, i.bytes)) = some (some (.agg #[.int .i64 0, .slice none 0 0]), 2, 32) := by kernel_rfl
theorem infoTx : (Tryz.prog.info? 106).map (fun i => (i.zero, i.size, i.bytes)) = some (some (.agg #[.slice none 0 0, .int .u64 0]), 2, 32) := by kernel_rfl
theorem alloc_drew (w : World) (o : Obj) : Below w.heap.size w (w.alloc o).drew := ⟨(b1alloc w o).os, (b1alloc w o).tape, (b1alloc w o).output, (b1alloc w o).size, (b1alloc w o).block⟩
theorem four_set {w : World} {T : Nat} {v0 v1 v2 v3 v4 : Value} (hb : Blk w T [v0, v1, v2, v3, v4]) (a b c d : Value) :
    Blk ((((w.setCell ⟨T, 0, none⟩ a).setCell ⟨T, 1, none⟩ b).setCell ⟨T, 2, none⟩ c).setCell ⟨T, 3, none⟩ d) T [a, b, c, d, v4] ∧ KeepsOthers w ((((w.setCell ⟨T, 0, none⟩ a).setCell ⟨T, 1, none⟩ b).setCell ⟨T, 2, none⟩ c).setCell ⟨T, 3, none⟩ d) ∧
      (∀ j, j ≠ T → ((((w.setCell ⟨T, 0, none⟩ a).setCell ⟨T, 1, none⟩ b).setCell ⟨T, 2, none⟩ c).setCell ⟨T, 3, none⟩ d).heap[j]? = w.heap[j]?) ∧ w.heap.size ≤ ((((w.setCell ⟨T, 0, none⟩ a).setCell ⟨T, 1, none⟩ b).setCell ⟨T, 2, none⟩ c).setCell ⟨T, 3, none⟩ d).heap.size := by
  refine ⟨(((hb.set (k := 0) a).set (k := 1) b).set (k := 2) c).set (k := 3) d, (((KeepsOthers.setCell _ _ _).trans (KeepsOthers.setCell _ _ _)).trans (KeepsOthers.setCell _ _ _)).trans (KeepsOthers.setCell _ _ _), fun j hj => ?_, by simp [World.setCell]⟩
  have h : ∀ (W : World) (k : Nat) (v : Value), (W.setCell ⟨T, k, none⟩ v).heap[j]? = W.heap[j]? := fun W k v => Below.heap_setCell W ⟨T, k, none⟩ v j (fun e => hj e)
  exact (h _ _ _).trans ((h _ _ _).trans ((h _ _ _).trans (h _ _ _)))
theorem wrap_u64s {i : Nat} (h : i ≤ 1000) : IntKind.u64.wrap ((i : Int) + 1) = ((i + 1 : Nat) : Int) := by
  simp [IntKind.wrap, IntKind.bits]; omega
/-- what take leaves -/
def Took (w : World) (n0 T : Nat) (np : Int) (q : Rg × Bool) (e : Ending) (w' : World) : Prop :=
  e = .returned (.bool q.2) ∧ (∃ allv nowv trs prs, RdAt w' n0 T np q.1 allv nowv trs prs) ∧ KeepsOthers w w' ∧ KpK T n0 w w'
set_option maxHeartbeats 2000000 in
theorem take_any (n0 T : Nat) (np : Int) (r : Rg) (allv nowv : Value) (trs : List Tr) (prs : List Pr) (i : Nat) (x : X) (A : Option Addr) (c : Nat) (w : World) (h : RdAt w n0 T np r allv nowv trs prs)
    (hok : w.ownsRow n0 5 1 (.slice A x.body.length c) x.body.length (x.body.map e8)) (hbl : x.body.length ≤ 1000) (hi : i ≤ 1000) (hn0 : 0 ≤ np) (hn1 : np ≤ 100) (hlt : trs.length < 100000) (hlp : prs.length < 100000) :
    Calls Tryz.prog 94 #[.pointer (some ⟨T, 0, none⟩), .int .i64 (i : Int), .agg #[.int .i64 x.kind, .int .u64 (x.life.toNat : Int), .int .i64 x.seq, .int .u64 (x.gen.toNat : Int), .slice A x.body.length c]] w fun e w' => Took w n0 T np (takeF np r i x) e w' := by
  obtain ⟨W0, hW0⟩ : ∃ W, W = w.alloc (.cells #[.int .i64 x.kind, .int .u64 (x.life.toNat : Int), .int .i64 x.seq, .int .u64 (x.gen.toNat : Int), .slice A x.body.length c] 157) := ⟨_, rfl⟩
  have hX : Blk W0 w.heap.size [.int .i64 x.kind, .int .u64 (x.life.toNat : Int), .int .i64 x.seq, .int .u64 (x.gen.toNat : Int), .slice A x.body.length c] := by rw [hW0]; exact Blk.new w _ _
  have b0 : Below w.heap.size w W0 := by rw [hW0]; exact b1alloc _ _
  obtain ⟨x0, x1, x2, x3, x4⟩ := five5r hX
  obtain ⟨y0, y1, y2, y3, y4⟩ := five5r (h.on b0).blk
  obtain ⟨B, hB⟩ : ∃ B, B = (decide (x.body.length < 6) || (decide (0 < prs.length) && decide (x.gen ≠ r.gen))) := ⟨_, rfl⟩
  have Hx := Lib.hid hX
  have Hh := Lib.hid h
  have HBB := Lib.hid hB
  have Hok := Lib.hid hok
  obtain ⟨An, cn, rfl⟩ := own_form h.now
  have hlT : T < W0.heap.size := (h.on b0).blk.lt
  have hlX : w.heap.size < W0.heap.size := hX.lt
  have HW0 := Lib.hid hW0
  clear h hX hB hok
  obtain ⟨Q, hQ0⟩ : ∃ Q, Q = takeF np r i x := ⟨_, rfl⟩
  rw [← hQ0]
  have HQ := Lib.hid hQ0
  clear hQ0
  go_enter Tryz.func94, Tryz.ntmps94
  go_upto_region 1 with (fail)
  rw [show w.alloc (.cells #[.int .i64 x.kind, .int .u64 (x.life.toNat : Int), .int .i64 x.seq, .int .u64 (x.gen.toNat : Int), .slice A x.body.length c] 157) = W0 from hW0.symm]
  clear hW0
  go_cut [33] (fun v wx => v = .bool B ∧ InB W0 wx)
  case first =>
    by_cases e1 : x.body.length < 6
    · have hb : B = true := by rw [HBB.out, decide_eq_true e1]; rfl
      subst hb
      have t1 : (x.body.length : Int) < 6 := by omega
      clear e1
      refine region_inb (by kernel_rfl) (by kernel_rfl) ?_
      have inbNe := InB.some
      have inbW := @wrap_small
      have inbU := IntKind.wrap_u8'
      repeat (refine wpQuiet_step (fun K hK => ?_); go_simp; first | (refine hK _ ?_; clear hK K) | (apply Exists.intro; refine ⟨?_, hK _ ?_⟩; (· (intro w' hw'; first | fail | (have hcw := hw'.cell; go_simp; exact rfl))); clear hK K))
      refine wpQuiet_nil ?_
      intro wq hq
      clear inbNe inbW inbU
      go_wp2_with fail
      go_meet
      case rel => exact ⟨rfl, hq⟩
    · have t1 : ¬ (x.body.length : Int) < 6 := by omega
      by_cases e2 : 0 < prs.length
      · have t2 := decide_eq_true e2
        by_cases e3 : x.gen = r.gen
        · have hb : B = false := by rw [HBB.out, decide_eq_false e1, decide_eq_true e2, decide_eq_false (by simp [e3])]; rfl
          subst hb
          have t3 := bne_no (show (x.gen.toNat : Int) = r.gen.toNat by rw [e3])
          clear e1 e2 e3
          refine region_inb (by kernel_rfl) (by kernel_rfl) ?_
          have inbNe := InB.some
          have inbW := @wrap_small
          have inbU := IntKind.wrap_u8'
          repeat (refine wpQuiet_step (fun K hK => ?_); go_simp; first | (refine hK _ ?_; clear hK K) | (apply Exists.intro; refine ⟨?_, hK _ ?_⟩; (· (intro w' hw'; first | fail | (have hcw := hw'.cell; go_simp; exact rfl))); clear hK K))
          refine wpQuiet_nil ?_
          intro wq hq
          clear inbNe inbW inbU
          go_wp2_with fail
          go_meet
          case rel => exact ⟨rfl, hq⟩
        · have hb : B = true := by rw [HBB.out, decide_eq_false e1, decide_eq_true e2, decide_eq_true e3]; rfl
          subst hb
          have t3 := bne_yes (show (x.gen.toNat : Int) ≠ r.gen.toNat from fun e => e3 (UInt64.toNat_inj.1 (by omega)))
          clear e1 e2 e3
          refine region_inb (by kernel_rfl) (by kernel_rfl) ?_
          have inbNe := InB.some
          have inbW := @wrap_small
          have inbU := IntKind.wrap_u8'
          repeat (refine wpQuiet_step (fun K hK => ?_); go_simp; first | (refine hK _ ?_; clear hK K) | (apply Exists.intro; refine ⟨?_, hK _ ?_⟩; (· (intro w' hw'; first | fail | (have hcw := hw'.cell; go_simp; exact rfl))); clear hK K))
          refine wpQuiet_nil ?_
          intro wq hq
          clear inbNe inbW inbU
          go_wp2_with fail
          go_meet
          case rel => exact ⟨rfl, hq⟩
      · have t2 := decide_eq_false e2
        have hb : B = false := by rw [HBB.out, decide_eq_false e1, decide_eq_false e2]; rfl
        subst hb
        clear e1 e2
        refine region_inb (by kernel_rfl) (by kernel_rfl) ?_
        have inbNe := InB.some
        have inbW := @wrap_small
        have inbU := IntKind.wrap_u8'
        repeat (refine wpQuiet_step (fun K hK => ?_); go_simp; first | (refine hK _ ?_; clear hK K) | (apply Exists.intro; refine ⟨?_, hK _ ?_⟩; (· (intro w' hw'; first | fail | (have hcw := hw'.cell; go_simp; exact rfl))); clear hK K))
        refine wpQuiet_nil ?_
        intro wq hq
        clear inbNe inbW inbU
        go_wp2_with fail
        go_meet
        case rel => exact ⟨rfl, hq⟩
  case rest =>
    obtain ⟨rfl, hqc⟩ := hcut
    have bc := hqc.below
    have b0c := bt b0 bc
    have hAc := (Hh.out.on b0c)
    obtain ⟨x0', x1', x2', x3', x4'⟩ := five5r (Hx.out.on bc)
    obtain ⟨y0', y1', y2', y3', y4'⟩ := five5r hAc.blk
    have hlTc := hAc.blk.lt
    have hlXc := (Hx.out.on bc).lt
    have kB0 : KeepsOthers w wc ∧ KpK T n0 w wc := ⟨Ch.keeps_below b0c, KpK.of_below b0c Hh.out.lN⟩
    clear x0 x1 x2 x3 x4 y0 y1 y2 y3 y4 hlT hlX
    have hnow : r.now ≠ [] ↔ 0 < prs.length := by rw [Hh.out.eN]; simp [List.length_pos_iff]
    cases B with
    | true =>
      have hc : x.body.length < 6 ∨ (r.now ≠ [] ∧ x.gen ≠ r.gen) := by
        have := HBB.out
        rw [eq_comm, Bool.or_eq_true, Bool.and_eq_true, decide_eq_true_eq, decide_eq_true_eq, decide_eq_true_eq] at this
        exact this.imp id (fun h => ⟨hnow.2 h.1, h.2⟩)
      have hT : Q = (r, false) := by rw [HQ.out]; unfold takeF; rw [if_pos hc]
      subst hT
      clear hc hnow
      go_wp2
      go_ret
      exact ⟨rfl, ⟨_, _, _, _, hAc⟩, kB0.1, kB0.2⟩
    | false =>
      have hc : ¬ (x.body.length < 6 ∨ (r.now ≠ [] ∧ x.gen ≠ r.gen)) := by
        have := HBB.out
        intro h
        rw [eq_comm, Bool.or_eq_false_iff, Bool.and_eq_false_iff, decide_eq_false_iff_not, decide_eq_false_iff_not, decide_eq_false_iff_not] at this
        rcases h with h | h
        · exact this.1 h
        · exact this.2.elim (fun e => e (hnow.1 h.1)) (fun e => e h.2)
      have h6 : 6 ≤ x.body.length := Nat.le_of_not_lt fun e => hc (.inl e)
      have hT : Q = if fstN x.body ≠ r.frm then (r, false)
        else if x.kind = 4 ∧ (sndN x.body : Int) < np then ({ r with gen := x.gen, now := r.now ++ [⟨(sndN x.body : Int), x.body.drop 6⟩] }, true)
        else if x.kind = 5 ∧ sndN x.body = r.now.length ∧ x.body.length = 6 then (⟨r.all ++ [⟨r.now, x.gen⟩], [], 0, i + 1⟩, true)
        else ({ r with gen := x.gen }, false) := by rw [HQ.out]; unfold takeF; rw [if_neg hc]
      have hnl : r.now.length = prs.length := by rw [Hh.out.eN]; simp
      rw [hnl] at hT
      have HT := Lib.hid hT
      clear hT hc hnow hnl
      obtain ⟨g, c', eA, hg⟩ := own_some Hok.out (by omega)
      injection eA with eA1 eA2 eA3
      subst eA1 eA3
      have hcap := Disk.own_caps Hok.out
      have okc := own_on Hok.out b0c
      obtain ⟨cs, hcs⟩ := Disk.own_blk okc
      have hrdB : Rd wc wc.heap.size (some ⟨g, 0, none⟩) (x.body.map e8) := Rd.own okc
      have hG1 := fun W (b : Below wc.heap.size wc W) => Num.get_any (some ⟨g, 0, none⟩) (x.body.take 4) 4 c W.heap.size W (by simp; omega) (by rw [List.map_take]; exact (Rd.own (own_on okc b)).take 4) (by simp; omega) (by simp; omega)
      have hG2 := fun W (b : Below wc.heap.size wc W) => Num.get_any (some ⟨g, 4, none⟩) ((x.body.drop 4).take 2) 2 (c - 4) W.heap.size W (by simp; omega) (by rw [List.map_take, List.map_drop]; exact ((Rd.own (own_on okc b)).drop 4).take 2) (by simp; omega) (by simp; omega)
      have hF : ∀ l, Num.getN (l.take 4) = fstN l := fun _ => rfl
      have hS : ∀ l, Num.getN ((l.drop 4).take 2) = sndN l := fun _ => rfl
      rw [hF] at hG1
      rw [hS] at hG2
      have hs16 : sndN x.body < 65536 := by have := Num.getN_lt ((x.body.drop 4).take 2) _ (Nat.le_refl _); rw [List.take_length] at this; exact Nat.lt_of_lt_of_le this (by rw [show (65536 : Nat) = 256 ^ 2 from rfl]; exact Nat.pow_le_pow_right (by omega) (by rw [List.length_take]; omega))
      obtain ⟨f, hf⟩ : ∃ f, f = fstN x.body := ⟨_, rfl⟩
      obtain ⟨m, hm⟩ : ∃ m, m = sndN x.body := ⟨_, rfl⟩
      rw [← hf] at HT hG1
      rw [← hm] at HT hG2 hs16
      have HG1 := Lib.hid hG1
      have HG2 := Lib.hid hG2
      clear hF hS hG1 hG2 hf hm
      by_cases e1 : f = r.frm
      rotate_left
      · have hTe : Q = (r, false) := by rw [HT.out, if_pos e1]
        subst hTe
        have t1 := bne_yes (show (f : Int) ≠ (r.frm : Int) by omega)
        clear e1
        go_wp2_with (first
          | (go_at_call 118; (with_reducible show Calls _ _ #[.slice (some ⟨g, 0, none⟩) 4 _] _ _); refine (HG1.out _ (Below.refl _ _)).mono ?_; rintro e w1 ⟨rfl, rfl⟩)
          | (go_at_call 118; (with_reducible show Calls _ _ #[.slice (some ⟨g, 4, none⟩) 2 _] _ _); refine (HG2.out _ (Below.refl _ _)).mono ?_; rintro e w1 ⟨rfl, rfl⟩))
        go_ret
        exact ⟨rfl, ⟨_, _, _, _, hAc⟩, kB0.1, kB0.2⟩
      rw [if_neg (fun h => h e1)] at HT
      have t1 := bne_no (show (f : Int) = (r.frm : Int) by omega)
      have hm1 : IntKind.i64.wrap (m : Int) = (m : Int) := wrap_small (by omega) (by omega)
      have hAg := hAc.move (w' := wc.setCell ⟨T, 2, none⟩ (.int .u64 (x.gen.toNat : Int))) (fun j hj _ => Below.heap_setCell wc ⟨T, 2, none⟩ _ j (fun e => by have := hAc.lT; simp at e; omega)) (by simp [World.setCell]) { r with gen := x.gen } (hAc.blk.set (k := 2) _) rfl rfl
      have kBg : KeepsOthers w (wc.setCell ⟨T, 2, none⟩ (.int .u64 (x.gen.toNat : Int))) ∧ KpK T n0 w (wc.setCell ⟨T, 2, none⟩ (.int .u64 (x.gen.toNat : Int))) := ⟨kB0.1.trans (KeepsOthers.setCell _ _ _), by
        refine ⟨kB0.2.1, kB0.2.2.1, kB0.2.2.2.1, by have := kB0.2.2.2.2.1; simpa [World.setCell] using this, fun j hj hn => (Below.heap_setCell wc ⟨T, 2, none⟩ _ j (fun e => hn (by simpa using e))).trans (kB0.2.2.2.2.2 j hj hn)⟩⟩
      have hXg := (Hx.out.on bc).other (.int .u64 (x.gen.toNat : Int)) (k := 2) (b := T) (fun e => by have := hAc.lT; have := Hh.out.lN; omega)
      have okg : (wc.setCell ⟨T, 2, none⟩ (.int .u64 (x.gen.toNat : Int))).ownsRow n0 5 1 (.slice (some ⟨g, 0, none⟩) x.body.length c) x.body.length (x.body.map e8) := own_keep okc (fun j cs _ hj _ => Below.heap_setCell wc ⟨T, 2, none⟩ _ j (fun e => by have := hAc.lT; simp at e; omega))
      have c4 : ¬ c = 4 := by omega
      have hfr := hAc.blk.free 2
      have c4' : ¬ (c : Int) = 4 := by omega
      go_upto_region 8 with (first
        | (go_at_call 118; (with_reducible show Calls _ _ #[.slice (some ⟨g, 0, none⟩) 4 _] _ _); refine (HG1.out _ (Below.refl _ _)).mono ?_; rintro e w1 ⟨rfl, rfl⟩)
        | (go_at_call 118; (with_reducible show Calls _ _ #[.slice (some ⟨g, 4, none⟩) 2 _] _ _); refine (HG2.out _ (Below.refl _ _)).mono ?_; rintro e w1 ⟨rfl, rfl⟩))
      obtain ⟨wg, hwg⟩ : ∃ q, q = wc.setCell ⟨T, 2, none⟩ (.int .u64 (x.gen.toNat : Int)) := ⟨_, rfl⟩
      rw [← hwg] at hAg kBg hXg okg ⊢
      obtain ⟨x0, x1, x2, x3, x4⟩ := five5r hXg
      obtain ⟨y0, y1, y2, y3, y4⟩ := five5r hAg.blk
      have lXg := hXg.lt
      have lTg := hAg.blk.lt
      have HAg := Lib.hid hAg
      have HkB := Lib.hid kBg
      have Hokg := Lib.hid okg
      have HXg := Lib.hid hXg
      clear hfr x0' x1' x2' x3' x4' y0' y1' y2' y3' y4' hAc hqc bc b0c hlTc hlXc kB0 hrdB okc hcs hwg t1 e1 hAg kBg okg hXg
      by_cases k4 : x.kind = 4
      · have s4 := beq_yes k4
        have k5 : ¬ x.kind = 5 := by omega
        by_cases hmn : (m : Int) < np
        · rw [if_pos ⟨k4, hmn⟩] at HT
          have hQ := HT.out
          subst hQ
          have smn := decide_eq_true hmn
          clear k4 k5
          have h6i : (6 : Int) ≤ (x.body.length : Int) := by omega
          obtain ⟨i0, hi0, hz0, hz1, hz2⟩ := info_parts infoPg
          have hnb : some T ≠ (Value.slice An prs.length cn).ownBlock := fun e => by have := (HAg.out.now.lt T e.symm).1; have := HAg.out.lT; omega
          obtain ⟨tb, htb⟩ := HAg.out.blk
          have hPr : PrOk wg n0 ⟨(m : Int), if c = 6 then some ⟨g, 0, none⟩ else some ⟨g, 6, none⟩, c - 6, x.body.drop 6⟩ := by
            by_cases c6 : c = 6
            · rw [if_pos c6]; exact PrOk.tail Hokg.out (.inr (by omega)) hbl (by omega) (by omega)
            · rw [if_neg c6]; exact PrOk.tail Hokg.out (.inl rfl) hbl (by omega) (by omega)
          have HPr := Lib.hid hPr
          clear hPr
          go_upto_region 9 with (fail)
          go_region_law ((refine Disk.step_append_rd _ (by rfl) _ _ _ (by rfl) n0 53 i0 _ 2 32 Tryz.underlying38 hi0 hz0 hz1 hz2 rfl (by omega) (.slice An prs.length cn) prs.length (prs.flatMap Pr.cells) (by rfl) ?_ _ 1 1 [.int .i64 (m : Int), .slice (if c = 6 then some ⟨g, 0, none⟩ else some ⟨g, 6, none⟩) (x.body.length - 6) (c - 6)] (by rfl) (by rfl) ?_ (by simp [Value.oneCell']) (by have := HAg.out.bd; simp only [maxLen]; omega) (by have := HAg.out.bd; omega) (by have := HAg.out.lN; simp; omega) ?_); (· exact HAg.out.now.alloc _); (· exact Rd.lit _ _ _ _ _ rfl (by simp)); intro v3 w3 own3 hg3 hat3; have e3 := (hg3.block T (by simp; omega) hnb).trans ((Below.heap_alloc _ _ T lTg).trans htb); obtain ⟨d0, d1, d2, d3, d4⟩ := five5r ⟨_, e3⟩; have d8 := Blk.free (⟨_, e3⟩ : Blk w3 T _) 1; obtain ⟨A3, c3, rfl⟩ := own_form own3)
          all_goals
            have fin := Lib.hid (HAg.out.data _ HPr.out (alloc_drew wg _) hg3 (by simpa [Pr.cells] using own3) hat3 hlp)
            clear own3 hat3 hg3
            go_wp2 <;> (go_ret; exact ⟨rfl, ⟨_, _, _, _, fin.out.1⟩, HkB.out.1.trans fin.out.2.1, HkB.out.2.trans fin.out.2.2⟩)
        · rw [if_neg (fun h => hmn h.2), if_neg (fun h => k5 h.1)] at HT
          have hQ := HT.out
          subst hQ
          have s5 := beq_no k5
          have smn := decide_eq_false hmn
          clear k4 k5
          go_wp2
          go_ret
          exact ⟨rfl, ⟨_, _, _, _, HAg.out⟩, HkB.out.1, HkB.out.2⟩
      · have s4 := beq_no k4
        rw [if_neg (fun h => k4 h.1)] at HT
        by_cases k5 : x.kind = 5
        rotate_left
        · rw [if_neg (fun h => k5 h.1)] at HT
          have hQ := HT.out
          subst hQ
          have s5 := beq_no k5
          clear k4 k5
          go_wp2
          go_ret
          exact ⟨rfl, ⟨_, _, _, _, HAg.out⟩, HkB.out.1, HkB.out.2⟩
        have s5 := beq_yes k5
        by_cases em : m = prs.length
        rotate_left
        · rw [if_neg (fun h => em h.2.1)] at HT
          have hQ := HT.out
          subst hQ
          have s6 := beq_no (show (m : Int) ≠ (prs.length : Int) by omega)
          clear k4 k5 em
          go_wp2
          go_ret
          exact ⟨rfl, ⟨_, _, _, _, HAg.out⟩, HkB.out.1, HkB.out.2⟩
        have s6 := beq_yes (show (m : Int) = (prs.length : Int) by omega)
        by_cases el : x.body.length = 6
        rotate_left
        · rw [if_neg (fun h => el h.2.2)] at HT
          have hQ := HT.out
          subst hQ
          have s7 := beq_no (show (x.body.length : Int) ≠ 6 by omega)
          clear k4 k5 em el
          go_wp2
          go_ret
          exact ⟨rfl, ⟨_, _, _, _, HAg.out⟩, HkB.out.1, HkB.out.2⟩
        rw [if_pos ⟨k5, em, el⟩] at HT
        have hQ := HT.out
        subst hQ
        have s7 := beq_yes (show (x.body.length : Int) = 6 by omega)
        clear k4 k5 em el
        obtain ⟨i0, hi0, hz0, hz1, hz2⟩ := info_parts infoTx
        have hnb : some T ≠ allv.ownBlock := fun e => by have := (HAg.out.all.lt T e.symm).1; have := HAg.out.lT; omega
        obtain ⟨tb, htb⟩ := HAg.out.blk
        obtain ⟨Aa, ca, rfl⟩ := own_form HAg.out.all
        have hw1 : IntKind.i64.wrap ((i : Int) + 1) = ((i + 1 : Nat) : Int) := by rw [wrap_small (by omega) (by omega)]; omega
        have hw2 := wrap_u64s hi
        go_upto_region 12 with (fail)
        go_region_law ((refine Disk.step_append_rd _ (by rfl) _ _ _ (by rfl) n0 106 i0 _ 2 32 Tryz.underlying99 hi0 hz0 hz1 hz2 rfl (by omega) (.slice Aa trs.length ca) trs.length (trs.flatMap Tr.cells) (by rfl) ?_ _ 1 1 [.slice An prs.length cn, .int .u64 (x.gen.toNat : Int)] (by rfl) (by rfl) ?_ (by simp [Value.oneCell']) (by have := HAg.out.bd; simp only [maxLen]; omega) (by have := HAg.out.bd; omega) (by have := HAg.out.lN; simp; omega) ?_); (· exact HAg.out.all.alloc _); (· exact Rd.lit _ _ _ _ _ rfl (by simp)); intro v3 w3 own3 hg3 hat3; have e3 := (hg3.block T (by simp; omega) hnb).trans ((Below.heap_alloc _ _ T lTg).trans htb); obtain ⟨d0, d1, d2, d3, d4⟩ := five5r ⟨_, e3⟩; have d8 := Blk.free (⟨_, e3⟩ : Blk w3 T _); have d80 := d8 0; have d81 := d8 1; have d82 := d8 2; have d83 := d8 3; obtain ⟨A3, c3, rfl⟩ := own_form own3)
        all_goals
          obtain ⟨f1, f2, f3, f4⟩ := four_set ⟨_, e3⟩ (.slice A3 (trs.length + 1) c3) (.slice none 0 0) (.int .u64 0) (.int .u64 ((i : Int) + 1))
          have fin := Lib.hid (HAg.out.commit (alloc_drew wg _) hg3 own3 hlt (i + 1) f2 (show Blk _ T [_, _, _, .int .u64 ((i + 1 : Nat) : Int), _] from f1) f3 ⟨rfl, rfl, rfl, f4⟩)
          clear f1 f2 f3 f4
          go_wp2
          go_ret
          exact ⟨rfl, ⟨_, _, _, _, fin.out.1⟩, HkB.out.1.trans fin.out.2.1, HkB.out.2.trans fin.out.2.2⟩
end Go.Proofs.YtchcmklelmlbgaaGreat.Wal

/- The log: the sectors of a life, one behind the other: the iterator's contract. No statement is proved here. -/
namespace Go.Proofs.YtchcmklelmlbgaaGreat.Wal
open Go.RowKit Go.Shelf
open Go.Proofs.YtchcmklelmlbgaaGreat.Geom
open Go.Proofs.YtchcmklelmlbgaaGreat.Ch (SeqOk)
open Go.Proofs.YtchcmklelmlbgaaGreat.Sup (Gb gv gcell gthree)
open Go.Proofs.YtchcmklelmlbgaaGreat.Disk (St DAt read_any)
open Go.Proofs.YtchcmklelmlbgaaGreat.Sec (X SymAt decode_sym xv five5x)
attribute [local go_sem] Oper.semAt_some
set_option linter.unusedVariables false
set_option maxRecDepth 100000
/-- what is handed to a round -/
structure It where
  k : Nat
  x : X
  A : Option Addr
  c : Nat
def It.enc (t : It) : Array Value := #[.int .i64 (t.k : Int), .agg #[.int .i64 t.x.kind, .int .u64 (t.x.life.toNat : Int), .int .i64 t.x.seq, .int .u64 (t.x.gen.toNat : Int), .slice t.A t.x.body.length t.c]]
def It.Ok (n0 : Nat) (W : World) (t : It) : Prop := W.ownsRow n0 5 1 (.slice t.A t.x.body.length t.c) t.x.body.length (t.x.body.map e8) ∧ t.x.body.length ≤ 1000 ∧ t.k ≤ 1000
def It.f (t : It) : Nat × X := (t.k, t.x)
def rdL (l : List (List UInt8)) (s : St) (ga gd gl base : Int) (k : Nat) : X × Int := Enc.rd l s (logAt ga gd gl (base + (k : Int)))
def goodL (l : List (List UInt8)) (s : St) (ga gd gl base : Int) (life : UInt64) (k : Nat) : Bool := decide ((rdL l s ga gd gl base k).2 = 0) && (decide ((rdL l s ga gd gl base k).1.life = life) && decide ((rdL l s ga gd gl base k).1.seq = (k : Int)))
def want (l : List (List UInt8)) (s : St) (ga gd gl base : Int) (k : Nat) : Nat × X := (k, (rdL l s ga gd gl base k).1)
/-- so many were handed -/
def Given (l : List (List UInt8)) (s : St) (ga gd gl base : Int) (life : UInt64) (N k : Nat) (pre : List It) : Prop := k ≤ N ∧ pre.map It.f = (List.range k).map (want l s ga gd gl base) ∧ ∀ j, j < k → goodL l s ga gd gl base life j = true
theorem Given.snoc {l : List (List UInt8)} {s : St} {ga gd gl base : Int} {life : UInt64} {N k : Nat} {pre : List It} {t : It} (h : Given l s ga gd gl base life N k pre) (hk : k < N) (ht : t.f = want l s ga gd gl base k) (hg : goodL l s ga gd gl base life k = true) : Given l s ga gd gl base life N (k + 1) (pre ++ [t]) := by
  refine ⟨hk, ?_, fun j hj => ?_⟩
  · rw [List.range_succ, List.map_append, List.map_append, h.2.1, List.map_cons, List.map_nil, List.map_cons, List.map_nil, ht]
  · rcases Nat.lt_succ_iff_lt_or_eq.1 hj with e | e
    · exact h.2.2 j e
    · rw [e]; exact hg
theorem log_size {ga gd gl : Int} (h : right ga gd gl = true) : 4 + gl ≤ Geom.sizeOf ga gd gl := by
  unfold Geom.sizeOf; rw [if_pos h]; have := pagesOf_bd ga gd gl; omega
set_option maxHeartbeats 2000000 in
theorem secs1_in (n : Nat) (hn : 1 ≤ n) (lp B Br Bf F g : Nat) (fp : List Nat) (s : St) (gS bS : Nat) (l : List (List UInt8)) (ga gd gl : Int) (life : UInt64) (base : Int) (N : Nat) (hG : Gb ga gd gl) (hN : (N : Int) = gl) (hr : right ga gd gl = true) (hb0 : 0 ≤ base) (hb1 : base ≤ 1073741824) (hl : l.length ≤ 1000000) (hs : s.sz ≤ 90000000) (hd : s.down = false) (hsz : (s.size : Int) = Geom.sizeOf ga gd gl)
    (w : World) (hP : SecsAt w Br Bf F (.pointer (some ⟨g, 0, none⟩)) (.pointer (some ⟨gS, 0, none⟩)) ga gd gl life base) (hB : Both w g fp s gS bS l) (hne : ∀ j ∈ bS :: gS :: fp, j ≠ B) (hneA : Br ≠ B)
    (J Jx : List It → World → Prop)
    (hY : ∀ pre x W, J pre W → It.Ok w.heap.size W x → pre.length < N → YieldAt Fence.wide (n - 1) Tryz.prog lp x.enc W fun e W' =>
      (e = .returned (.bool true) ∧ J (pre ++ [x]) W' ∧ KpK B w.heap.size W W') ∨ (e = .returned (.bool false) ∧ Jx (pre ++ [x]) W'))
    (W : World) (hW : Below w.heap.size w W) (hJb : ∀ pre (W W' : World), J pre W → Below W.heap.size W W' → J pre W') (h0 : J [] W) :
    CallsIn Fence.wide n Tryz.prog 117 #[.func (.yield lp) #[] #[], .pointer (some ⟨Br, 0, none⟩), .pointer (some ⟨Bf, 0, none⟩)] W fun e W' => (∃ v, e = .returned v) ∧
      ((∃ ys, (∃ k, Given l s ga gd gl base life N k ys ∧ (k = N ∨ goodL l s ga gd gl base life k = false)) ∧ J ys W') ∨ (∃ pre, (∃ k, Given l s ga gd gl base life N k pre) ∧ Jx pre W')) := by
  have hall : ∀ j ∈ bS :: gS :: fp, j < w.heap.size ∧ j ≠ B := by
    intro j hj
    refine ⟨?_, hne j hj⟩
    rcases List.mem_cons.1 hj with e | e
    · rw [e]; exact hB.sym.lt.2
    rcases List.mem_cons.1 e with e | e
    · rw [e]; exact hB.sym.lt.1
    · exact hB.disk.lt _ e
  have hPA := hP.ring
  have hLA := hPA.lt
  have facts : ∀ X, KpK B w.heap.size w X → Blk X Br (rcell (.pointer (some ⟨g, 0, none⟩)) (.pointer (some ⟨gS, 0, none⟩)) ga gd gl life base) ∧ Both X g fp s gS bS l := fun X k => ⟨hPA.kpk k hLA hneA, hB.kpk k hall⟩
  have HF := Lib.hid facts
  have hry := right_yes hr
  have hAr := Lib.hid (fun (k : Nat) (hk : k < N) W => place_any (.pointer (some ⟨g, 0, none⟩)) (.pointer (some ⟨gS, 0, none⟩)) ga gd gl life base (k : Int) W g gS rfl rfl hG hb0 hb1 (by omega) (by omega))
  have har := Lib.hid (fun (k : Nat) (hk : k < N) => log_bd (i := base + (k : Int)) hr (by omega))
  have hW0 : KpK B w.heap.size w W := KpK.of_below hW (Nat.le_refl _)
  obtain ⟨hA0, _⟩ := facts W hW0
  obtain ⟨z0, z1, z2, z3, z4, z5, z6⟩ := seven7 hA0
  have HS := Lib.hid (And.intro hsz hd)
  have HZ := Lib.hid (log_size hr)
  have hN64 : N ≤ 64 := by omega
  subst hN
  have HN := Lib.hid hb1
  clear facts hall hPA hLA hW hP hB hsz hA0 hry hr hb1
  refine callsIn_of_wp Tryz.func117 rfl trivial ?_ rfl
  simp only [Tryz.ntmps117, List.size_toArray, List.length_cons, List.length_nil, Nat.reduceAdd, Nat.reduceSub, Array.replicate_succ, Array.replicate_zero, List.push_toArray, List.append_toArray, List.nil_append, List.cons_append]
  gi_wp2_with fail
  gi_loopw [13] (fun i wr => ∃ k : Nat, k ≤ N ∧ i = .int .i64 (k : Int) ∧ KpK B w.heap.size w wr ∧ ∃ pre : List It, Hid (Given l s ga gd N base life N k pre) ∧ J pre wr) (fun i _ => N - (intOf i).toNat)
  case atStart => exact ⟨0, by omega, rfl, hW0, [], Lib.hid ⟨Nat.zero_le _, rfl, fun j hj => absurd hj (Nat.not_lt_zero j)⟩, h0⟩
  case round =>
    obtain ⟨k, hk, rfl, kp, pre, hpre, hJ⟩ := hrel
    clear z0 z1 z2 z3 z4 z5 z6 h0 hW0
    have hwk := Snap.wrap_up (k := k) (by omega)
    obtain ⟨hA, hBo⟩ := HF.out wr kp
    by_cases hlt : k < N
    · obtain ⟨hp0, hp2, hp1⟩ := har.out k hlt
      have hArk := hAr.out k hlt
      have hri : rdL l s ga gd N base k = Sec.decode (Sec.ckS l (Disk.read s (logAt ga gd N (base + (k : Int)))).1) (logAt ga gd N (base + (k : Int))) (Disk.read s (logAt ga gd N (base + (k : Int)))).1 := rfl
      have hpg : goodL l s ga gd N base life k = (decide ((rdL l s ga gd N base k).2 = 0) && (decide ((rdL l s ga gd N base k).1.life = life) && decide ((rdL l s ga gd N base k).1.seq = (k : Int)))) := rfl
      have hwt : want l s ga gd N base k = (k, (rdL l s ga gd N base k).1) := rfl
      obtain ⟨p, hp⟩ : ∃ p, p = logAt ga gd N (base + (k : Int)) := ⟨_, rfl⟩
      rw [← hp] at hArk hp0 hp1 hp2 hri
      have hps : p < (s.size : Int) := by have := HS.out.1; have := HZ.out; omega
      have hrd : (Disk.read s p).2 = 0 := by unfold Disk.read; rw [if_neg (by rw [HS.out.2]; simp), if_neg (by omega)]
      have hbl : (Disk.read s p).1.length = 512 := by unfold Disk.read; rw [if_neg (by rw [HS.out.2]; simp), if_neg (by omega)]; exact Disk.kept_len (n := s.size) (fun x hx => (List.mem_append.1 hx).elim (hBo.disk.ok.all x) (hBo.disk.ok.pend x)) _
      have hR := fun W (h : DAt W g fp s) => read_any g fp s p W h (by omega)
      obtain ⟨r, hr⟩ : ∃ r, r = Disk.read s p := ⟨_, rfl⟩
      rw [← hr] at hR hbl hri hrd
      obtain ⟨b, f⟩ := r
      simp only at hrd hbl hri
      subst hrd
      have hD := fun W (hS : SymAt W gS bS l) A c hr hc hcm => decode_sym p gS bS l A b b.length c W hS hl (by omega) (by omega) rfl hr (by omega) hc hcm
      rw [← hri] at hD
      have hlen : (rdL l s ga gd N base k).1.body.length ≤ 1000 := by rw [hri]; exact Snap.dec_body_len _ _ hbl
      obtain ⟨d, hd'⟩ : ∃ d, d = rdL l s ga gd N base k := ⟨_, rfl⟩
      rw [← hd'] at hD hpg hwt hlen
      have HArk := Lib.hid hArk
      have HR := Lib.hid hR
      have HD := Lib.hid hD
      have Hwt := Lib.hid hwt
      have Hlen := Lib.hid hlen
      clear hArk hR hD hwt hp hr hbl hri hd' hp0 hp1 hp2 hlen hps
      obtain ⟨z0, z1, z2, z3, z4, z5, z6⟩ := seven7 hA
      gi_wp2_with fail
      refine ⟨trivial, (callsIn_wide.2 (HArk.out _)).mono ?_⟩
      rintro e2 w2 ⟨rfl, b2⟩
      have k2 := kp.trans (KpK.of_below b2 kp.size)
      obtain ⟨hA2, hBo2⟩ := HF.out w2 k2
      clear z0 z1 z2 z3 z4 z5 z6
      obtain ⟨z0, z1, z2, z3, z4, z5, z6⟩ := seven7 hA2
      gi_wp2_with fail
      refine ⟨trivial, (callsIn_wide.2 (HR.out _ hBo2.disk)).mono ?_⟩
      rintro e3 w3 ⟨v, rfl, hN3, b3⟩
      obtain ⟨A1, c1, rfl, hc1, hm1, rd1⟩ := hN3.rdN (fp := []) (by simp)
      have k3 := k2.trans (KpK.of_below b3 k2.size)
      obtain ⟨hA3, hBo3⟩ := HF.out w3 k3
      clear z0 z1 z2 z3 z4 z5 z6
      obtain ⟨z0, z1, z2, z3, z4, z5, z6⟩ := seven7 hA3
      gi_wp2_with fail
      refine ⟨trivial, (callsIn_wide.2 (HD.out _ hBo3.sym A1 c1 rd1.rd hc1 hm1)).mono ?_⟩
      rintro e4 w4 ⟨⟨A4, c4, rfl, own4⟩, b4⟩
      unfold xv
      have k4 := k3.trans (KpK.of_below b4 k3.size)
      clear z0 z1 z2 z3 z4 z5 z6
      have hx5 : Blk (w4.alloc (.cells #[.int .i64 d.1.kind, .int .u64 (d.1.life.toNat : Int), .int .i64 d.1.seq, .int .u64 (d.1.gen.toNat : Int), .slice A4 d.1.body.length c4] 157)) w4.heap.size [.int .i64 d.1.kind, .int .u64 (d.1.life.toNat : Int), .int .i64 d.1.seq, .int .u64 (d.1.gen.toNat : Int), .slice A4 d.1.body.length c4] := Blk.new w4 _ _
      have b5 : Below w4.heap.size w4 (w4.alloc (.cells #[.int .i64 d.1.kind, .int .u64 (d.1.life.toNat : Int), .int .i64 d.1.seq, .int .u64 (d.1.gen.toNat : Int), .slice A4 d.1.body.length c4] 157)) := b1alloc w4 _
      have k5 := k4.trans (KpK.of_below b5 k4.size)
      obtain ⟨hA5, _⟩ := HF.out _ k5
      obtain ⟨x0, x1, x2, x3, x4⟩ := five5x hx5
      obtain ⟨z0, z1, z2, z3, z4, z5, z6⟩ := seven7 (HF.out w4 k4).1
      obtain ⟨q0, q1, q2, q3, q4, q5, q6⟩ := seven7 hA5
      have J5 := hJb _ _ _ hJ (bt (bt (bt b2 b3) b4) b5)
      have ok5 : It.Ok w.heap.size (w4.alloc (.cells #[.int .i64 d.1.kind, .int .u64 (d.1.life.toNat : Int), .int .i64 d.1.seq, .int .u64 (d.1.gen.toNat : Int), .slice A4 d.1.body.length c4] 157)) ⟨k, d.1, A4, c4⟩ := ⟨own_base (own_on own4 b5) k3.size, Hlen.out, (show k ≤ 1000 by omega)⟩
      have hYk := hY pre ⟨k, d.1, A4, c4⟩ (w4.alloc (.cells #[.int .i64 d.1.kind, .int .u64 (d.1.life.toNat : Int), .int .i64 d.1.seq, .int .u64 (d.1.gen.toNat : Int), .slice A4 d.1.body.length c4] 157)) J5 ok5 (by have := congrArg List.length hpre.out.2.1; simp at this; omega)
      clear hx5 own4 hA5 ok5
      by_cases c0 : d.2 = 0
      rotate_left
      · have Hpg := Lib.hid (show goodL l s ga gd N base life k = false by rw [hpg, decide_eq_false c0]; rfl)
        have e0 := bne_yes c0
        clear c0
        clear hpg
        gi_wp2_with fail
        refine ⟨fun _ h => (by cases h), ?_⟩
        gi_wp2_with fail
        refine bodyPost_ret (results_none rfl _ _ _) rfl ?_
        exact ⟨⟨_, rfl⟩, .inl ⟨pre, ⟨k, hpre.out, .inr Hpg.out⟩, J5⟩⟩
      have e0 := bne_no c0
      by_cases c1' : d.1.life = life
      rotate_left
      · have Hpg := Lib.hid (show goodL l s ga gd N base life k = false by rw [hpg, decide_eq_false c1']; simp)
        have e1 := bne_yes (show (d.1.life.toNat : Int) ≠ (life.toNat : Int) from fun e => c1' (UInt64.toNat_inj.1 (by omega)))
        clear c0 c1'
        clear hpg
        gi_wp2_with fail
        refine ⟨fun _ h => (by cases h), ?_⟩
        gi_wp2_with fail
        refine bodyPost_ret (results_none rfl _ _ _) rfl ?_
        exact ⟨⟨_, rfl⟩, .inl ⟨pre, ⟨k, hpre.out, .inr Hpg.out⟩, J5⟩⟩
      have e1 := bne_no (show (d.1.life.toNat : Int) = (life.toNat : Int) by rw [c1'])
      by_cases c2' : d.1.seq = (k : Int)
      rotate_left
      · have Hpg := Lib.hid (show goodL l s ga gd N base life k = false by rw [hpg, decide_eq_false c2']; simp)
        have e2 := bne_yes c2'
        clear c0 c1' c2'
        clear hpg
        gi_wp2_with fail
        refine ⟨fun _ h => (by cases h), ?_⟩
        gi_wp2_with fail
        refine bodyPost_ret (results_none rfl _ _ _) rfl ?_
        exact ⟨⟨_, rfl⟩, .inl ⟨pre, ⟨k, hpre.out, .inr Hpg.out⟩, J5⟩⟩
      have e2 := bne_no c2'
      have Hpg := Lib.hid (show goodL l s ga gd N base life k = true by rw [hpg, decide_eq_true c0, decide_eq_true c1', decide_eq_true c2']; rfl)
      clear hpg c0 c1' c2'
      obtain ⟨fn, tmps, assign, body, hy, hRr⟩ := hYk
      unfold It.enc at hy
      simp only at hy
      have Hgo := Lib.hid (hpre.out.snoc (t := ⟨k, d.1, A4, c4⟩) hlt (by rw [Hwt.out]; rfl) Hpg.out)
      gi_wp2_with fail
      refine hRr.mono ?_
      rintro e7 w7 (⟨rfl, hJ7, hk7⟩ | ⟨rfl, hJx7⟩)
      · gi_wp2_with fail
        go_roundw
        case rel => exact ⟨k + 1, by omega, by go_num, k5.trans hk7, _, Lib.hid Hgo.out, hJ7⟩
        case measure => simp only [intOf]; omega
      · gi_wp2_with fail
        refine bodyPost_ret (results_none rfl _ _ _) rfl ?_
        exact ⟨⟨_, rfl⟩, .inr ⟨_, ⟨k + 1, Hgo.out⟩, hJx7⟩⟩
    · have hkN : k = N := by omega
      have Hk := Lib.hid hkN
      have hkn : ¬ (k : Int) < (N : Int) := by omega
      clear hkN
      gi_wp2
      go_end0
      exact ⟨⟨_, rfl⟩, .inl ⟨pre, ⟨k, hpre.out, .inl Hk.out⟩, hJ⟩⟩
theorem secs1_ok (n : Nat) (hn : 1 ≤ n) (B Br Bf F g : Nat) (fp : List Nat) (s : St) (gS bS : Nat) (l : List (List UInt8)) (ga gd gl : Int) (life : UInt64) (base : Int) (N : Nat) (hG : Gb ga gd gl) (hN : (N : Int) = gl) (hr : right ga gd gl = true) (hb0 : 0 ≤ base) (hb1 : base ≤ 1073741824) (hl : l.length ≤ 1000000) (hs : s.sz ≤ 90000000) (hd : s.down = false) (hsz : (s.size : Int) = Geom.sizeOf ga gd gl)
    (w : World) (hP : SecsAt w Br Bf F (.pointer (some ⟨g, 0, none⟩)) (.pointer (some ⟨gS, 0, none⟩)) ga gd gl life base) (hB : Both w g fp s gS bS l) (hne : ∀ j ∈ bS :: gS :: fp, j ≠ B) (hneA : Br ≠ B) :
    SeqOk n Tryz.prog 117 #[.pointer (some ⟨Br, 0, none⟩), .pointer (some ⟨Bf, 0, none⟩)] It.enc (It.Ok w.heap.size) (KpK B w.heap.size) (fun ys => ∃ k, Given l s ga gd gl base life N k ys ∧ (k = N ∨ goodL l s ga gd gl base life k = false))
      (fun pre => ∃ k, Given l s ga gd gl base life N k pre) N w := fun lp J Jx W hW hJ hJx hY h0 =>
  secs1_in n hn lp B Br Bf F g fp s gS bS l ga gd gl life base N hG hN hr hb0 hb1 hl hs hd hsz w hP hB hne hneA J Jx hY W hW (fun pre W W' h b => hJ pre W W' none h (below_grown b none) (fun r e => by cases e)) h0
end Go.Proofs.YtchcmklelmlbgaaGreat.Wal

/- The log: what a scan comes to: plain. No statement is proved here. -/
namespace Go.Proofs.YtchcmklelmlbgaaGreat.Wal
open Go.RowKit
open Go.Proofs.YtchcmklelmlbgaaGreat.Sec (X)
set_option linter.unusedVariables false
def r00 : Rg := ⟨[], [], 0, 0⟩
/-- what is read, sector by sector -/
def scanH (np : Int) (rd : Nat → X) (good : Nat → Bool) : Nat → Nat → Rg → Rg
  | 0, _, r => r
  | n + 1, i, r => if good i = true then (if (takeF np r i (rd i)).2 = true then scanH np rd good n (i + 1) (takeF np r i (rd i)).1 else (takeF np r i (rd i)).1) else r
def foldR (np : Int) (l : List (Nat × X)) : Rg := l.foldl (fun r t => (takeF np r t.1 t.2).1) r00
theorem foldR_snoc (np : Int) (l : List (Nat × X)) (t : Nat × X) : foldR np (l ++ [t]) = (takeF np (foldR np l) t.1 t.2).1 := by simp [foldR]
def okR (np : Int) (l : List (Nat × X)) : Prop := ∀ q t q', l = q ++ t :: q' → (takeF np (foldR np q) t.1 t.2).2 = true
theorem okR_nil (np : Int) : okR np [] := fun q t q' h => by cases q <;> cases h
theorem okR_snoc {np : Int} {l : List (Nat × X)} {t : Nat × X} (h : okR np l) (ht : (takeF np (foldR np l) t.1 t.2).2 = true) : okR np (l ++ [t]) := fun q u q' e => by
  rcases List.eq_nil_or_concat q' with rfl | ⟨q2, v, rfl⟩
  · have := List.append_inj' e rfl
    obtain ⟨rfl, e2⟩ := this
    injection e2 with e2
    subst e2
    exact ht
  · have e' : l ++ [t] = (q ++ u :: q2) ++ [v] := by rw [e]; simp
    exact h q u q2 (List.append_inj' e' rfl).1
theorem takeF_len (np : Int) (r : Rg) (i : Nat) (x : X) : (takeF np r i x).1.all.length + (takeF np r i x).1.now.length ≤ r.all.length + r.now.length + 1 := by
  unfold takeF
  split
  · simp only; omega
  · split
    · simp only; omega
    · split
      · simp; omega
      · split
        · simp
        · simp only; omega
theorem foldR_len (np : Int) : ∀ (n : Nat) (l : List (Nat × X)), l.length = n → (foldR np l).all.length + (foldR np l).now.length ≤ n
  | 0, l, h => by
    obtain rfl := List.eq_nil_of_length_eq_zero h
    simp [foldR, r00]
  | n + 1, l, h => by
    rcases List.eq_nil_or_concat l with rfl | ⟨q, t, rfl⟩
    · cases h
    · have ih := foldR_len np n q (by simpa using h)
      rw [List.concat_eq_append, foldR_snoc]
      have := takeF_len np (foldR np q) t.1 t.2
      omega
theorem scanH_go {np : Int} {rd : Nat → X} {good : Nat → Bool} (N : Nat) : ∀ (k : Nat), k ≤ N → (∀ j, j < k → good j = true) → okR np ((List.range k).map fun j => (j, rd j)) →
    scanH np rd good N 0 r00 = scanH np rd good (N - k) k (foldR np ((List.range k).map fun j => (j, rd j)))
  | 0, _, _, _ => by simp [foldR]
  | k + 1, hk, hg, ho => by
    have e : (List.range (k + 1)).map (fun j => (j, rd j)) = (List.range k).map (fun j => (j, rd j)) ++ [(k, rd k)] := by rw [List.range_succ, List.map_append]; rfl
    have ho' : okR np ((List.range k).map fun j => (j, rd j)) := fun q t q' h => ho q t (q' ++ [(k, rd k)]) (by rw [e, h]; simp)
    have ht := ho ((List.range k).map fun j => (j, rd j)) (k, rd k) [] e
    rw [scanH_go N k (by omega) (fun j hj => hg j (by omega)) ho', e, foldR_snoc]
    obtain ⟨m, hm⟩ : ∃ m, N - k = m + 1 := ⟨N - k - 1, by omega⟩
    rw [hm, show N - (k + 1) = m by omega]
    show (if _ then _ else _) = _
    rw [if_pos (hg k (by omega)), if_pos ht]
/-- the scan has come to its end -/
theorem scanH_done {np : Int} {rd : Nat → X} {good : Nat → Bool} {N k : Nat} (hk : k ≤ N) (hg : ∀ j, j < k → good j = true) (ho : okR np ((List.range k).map fun j => (j, rd j))) (he : k = N ∨ good k = false) : scanH np rd good N 0 r00 = foldR np ((List.range k).map fun j => (j, rd j)) := by
  rw [scanH_go N k hk hg ho]
  rcases he with rfl | he
  · rw [Nat.sub_self]; rfl
  · cases hm : N - k with
    | zero => rfl
    | succ m => show (if _ then _ else _) = _; rw [if_neg (by rw [he]; simp)]
/-- it ended at a sector that is none -/
theorem scanH_stop {np : Int} {rd : Nat → X} {good : Nat → Bool} {N k : Nat} (hk : k + 1 ≤ N) (hg : ∀ j, j < k + 1 → good j = true) (ho : okR np ((List.range k).map fun j => (j, rd j))) (ht : (takeF np (foldR np ((List.range k).map fun j => (j, rd j))) k (rd k)).2 = false) :
    scanH np rd good N 0 r00 = foldR np ((List.range (k + 1)).map fun j => (j, rd j)) := by
  have e : (List.range (k + 1)).map (fun j => (j, rd j)) = (List.range k).map (fun j => (j, rd j)) ++ [(k, rd k)] := by rw [List.range_succ, List.map_append]; rfl
  rw [scanH_go N k (by omega) (fun j hj => hg j (by omega)) ho, e, foldR_snoc]
  obtain ⟨m, hm⟩ : ∃ m, N - k = m + 1 := ⟨N - k - 1, by omega⟩
  rw [hm]
  show (if _ then _ else _) = _
  rw [if_pos (hg k (by omega)), if_neg (by rw [ht]; simp)]
end Go.Proofs.YtchcmklelmlbgaaGreat.Wal

/- The log: what is scanned. No statement is proved here. -/
namespace Go.Proofs.YtchcmklelmlbgaaGreat.Wal
open Go.RowKit Go.Shelf
open Go.Proofs.YtchcmklelmlbgaaGreat.Geom
open Go.Proofs.YtchcmklelmlbgaaGreat.Ch (SeqOk range_ok)
open Go.Proofs.YtchcmklelmlbgaaGreat.Sup (Gb gv gcell gthree)
open Go.Proofs.YtchcmklelmlbgaaGreat.Disk (St DAt)
open Go.Proofs.YtchcmklelmlbgaaGreat.Sec (X)
attribute [local go_sem] Oper.semAt_some
set_option linter.unusedVariables false
set_option maxRecDepth 100000
theorem It.Ok.grown {n0 : Nat} {W W' : World} {t : It} {row : Option Nat} (h : It.Ok n0 W t) (hg : W.grownBy W' row) (hr : ∀ r, row = some r → ∃ o : Obj, W.heap[r]? = some o ∧ o.isCells = false) : It.Ok n0 W' t :=
  ⟨ownU h.1 fun j cs hj => hg.block j (lt_of_block hj) fun e => (by
    obtain ⟨o, ho, hc⟩ := hr j e.symm
    rw [hj] at ho; cases ho; cases hc), h.2⟩
theorem It.Ok.on {n0 : Nat} {W W' : World} {t : It} (h : It.Ok n0 W t) (b : Below W.heap.size W W') : It.Ok n0 W' t := ⟨own_on h.1 b, h.2⟩
/-- transactions of the call's own -/
def OwnTx (w : World) (base : Nat) (v : Value) (l : List Tx) : Prop := ∃ trs : List Tr, w.ownsRow base 106 2 v trs.length (trs.flatMap Tr.cells) ∧ trs.map Tr.tx = l ∧ (∀ t ∈ trs, TrOk w base none t) ∧ trs.length ≤ 100000
/-- what is scanned -/
def scanTx (l : List (List UInt8)) (s : St) (ga gd gl base : Int) (life : UInt64) : List Tx := (scanH (pagesOf ga gd gl) (fun k => (rdL l s ga gd gl base k).1) (goodL l s ga gd gl base life) gl.toNat 0 r00).all
theorem PrOk.base {w : World} {n0 n1 : Nat} {p : Pr} (h : PrOk w n0 p) (hb : n1 ≤ n0) : PrOk w n1 p :=
  ⟨fun hne => by obtain ⟨g, off, cs, e, hg, hh, hc⟩ := h.rd hne; exact ⟨g, off, cs, e, Nat.le_trans hb hg, hh, hc⟩, h.cap, h.max, h.lo, h.hi, h.len⟩
theorem RdAt.tx {w : World} {n0 T b : Nat} {np : Int} {r : Rg} {allv nowv : Value} {trs : List Tr} {prs : List Pr} (h : RdAt w n0 T np r allv nowv trs prs) (hb : b ≤ n0) : OwnTx w b allv r.all :=
  ⟨trs, own_base h.all hb, h.eA.symm, fun t ht => ⟨own_base (h.okA t ht).row hb, fun g _ e => (by cases e), fun p hp => ((h.okA t ht).pages p hp).base hb⟩, h.bd.1⟩
/-- between two rounds of Scan -/
structure SInv (w w4 : World) (np : Int) (T F : Nat) (pre : List It) (X : World) : Prop where
  rd : ∃ allv nowv trs prs, RdAt X w4.heap.size T np (foldR np (pre.map It.f)) allv nowv trs prs
  kp : KpK T w4.heap.size w4 X
  bel : Below w.heap.size w X
theorem SInv.own {w w4 : World} {np : Int} {T F : Nat} (hw : w.heap.size ≤ w4.heap.size) : OwnFrom w4.heap.size (SInv w w4 np T F) := by
  intro pre X X' row hI hg hr
  obtain ⟨⟨allv, nowv, trs, prs, h⟩, kp, b⟩ := hI
  exact ⟨⟨allv, nowv, trs, prs, h.own hg hr⟩, kpK_grown kp hg (fun r e => (hr r e).1) (Nat.le_refl _), b.grown hg (by have := b.size; omega) (fun r e => by have := (hr r e).1; omega)⟩
set_option maxHeartbeats 2000000 in
theorem scan_any (g : Nat) (fp : List Nat) (s : St) (gS bS : Nat) (l : List (List UInt8)) (ga gd gl : Int) (life : UInt64) (base : Int) (w : World) (hG : Gb ga gd gl) (h : Both w g fp s gS bS l) (hl : l.length ≤ 1000000) (hs : s.sz ≤ 90000000) (hf : wrightF s ga gd gl base = 0) (hd : s.down = false) :
    Calls Tryz.prog 55 #[.pointer (some ⟨g, 0, none⟩), .pointer (some ⟨gS, 0, none⟩), gv ga gd gl, .int .u64 (life.toNat : Int), .int .i64 base] w fun e w' => (∃ v, e = .returned (.tuple #[v, .int .i64 0]) ∧ OwnTx w' w.heap.size v (scanTx l s ga gd gl base life)) ∧ Below w.heap.size w w' := by
  have FG := Blk.new w (gcell ga gd gl) 23
  obtain ⟨z0, z1, z2⟩ := gthree FG
  have HR := Lib.hid (fun W (bW : Below w.heap.size w W) => right_any g fp s gS ga gd gl life base W hG (h.disk.on bW))
  rw [hf] at HR
  obtain ⟨hr, hsz, hb0, hb1⟩ : right ga gd gl = true ∧ (s.size : Int) = Geom.sizeOf ga gd gl ∧ 0 ≤ base ∧ base ≤ 1073741824 := by
    unfold wrightF at hf
    split at hf
    · assumption
    · cases hf
  have hry := right_yes hr
  have HP := Lib.hid (fun W => Geom.pages_any ga gd gl W hG.a0 hG.a1 hG.d0 hG.d1 hG.g0 hG.g1)
  obtain ⟨np, hnp⟩ : ∃ np, np = pagesOf ga gd gl := ⟨_, rfl⟩
  rw [← hnp] at HP
  have hnp0 : 0 ≤ np ∧ np ≤ 100 := by have := pagesOf_bd ga gd gl; omega
  have HR0 := Lib.hid (show scanTx l s ga gd gl base life = (scanH np (fun k => (rdL l s ga gd gl base k).1) (goodL l s ga gd gl base life) gl.toNat 0 r00).all by rw [hnp]; rfl)
  obtain ⟨R, hR⟩ : ∃ R, R = scanTx l s ga gd gl base life := ⟨_, rfl⟩
  rw [← hR]
  have HRR := Lib.hid hR
  clear hR hnp
  refine (callsIn_wide (n := 8)).1 ?_
  refine callsIn_of_wp_marks Tryz.func55 rfl trivial ?_ rfl
  simp only [Tryz.ntmps55, List.size_toArray, List.length_cons, List.length_nil, Nat.reduceAdd, Nat.reduceSub, Array.replicate_succ, Array.replicate_zero, List.push_toArray, List.append_toArray, List.nil_append, List.cons_append]
  gi_wp2_with fail
  refine wpIn_wide.2 (wp_scope_straight ((wpIn_wide (n := 8)).1 ?_))
  gi_wp2_with fail
  obtain ⟨w0, hw0⟩ : ∃ w0, w0 = (w.alloc (.cells (gcell ga gd gl).toArray 23)).alloc (.cells (rcell (.pointer (some ⟨g, 0, none⟩)) (.pointer (some ⟨gS, 0, none⟩)) ga gd gl life base).toArray 133) := ⟨_, rfl⟩
  have ba : Blk w0 (w.heap.size + 1) (rcell (.pointer (some ⟨g, 0, none⟩)) (.pointer (some ⟨gS, 0, none⟩)) ga gd gl life base) := by
    rw [hw0]
    have := Blk.new (w.alloc (.cells (gcell ga gd gl).toArray 23)) (rcell (.pointer (some ⟨g, 0, none⟩)) (.pointer (some ⟨gS, 0, none⟩)) ga gd gl life base) 133
    simpa using this
  have bg : Blk w0 w.heap.size (gcell ga gd gl) := by rw [hw0]; exact FG.alloc _
  have b0 : Below w.heap.size w w0 := by rw [hw0]; exact b2alloc _ _ _
  rw [show (w.alloc (.cells #[.int .i64 ga, .int .i64 gd, .int .i64 gl] 23)).alloc (.cells #[.pointer (some ⟨g, 0, none⟩), .pointer (some ⟨gS, 0, none⟩), .int .i64 ga, .int .i64 gd, .int .i64 gl, .int .u64 (life.toNat : Int), .int .i64 base] 133) = w0 from hw0.symm]
  clear hw0 z0 z1 z2 FG
  refine ⟨trivial, (callsIn_wide.2 (HR.out _ b0)).mono ?_⟩
  rintro e1 w1 ⟨rfl, b1⟩
  have b01 := bt b0 b1
  have bg1 := (bg.on b1).alloc (.cells #[.int .i64 0] 29)
  obtain ⟨z0, z1, z2⟩ := gthree bg1
  gi_wp2_with fail
  have bf := Boxed.new w1 29 (.int .i64 0)
  have b1f := b1alloc w1 (.cells #[.int .i64 0] 29)
  refine ⟨trivial, (callsIn_wide.2 (HP.out _)).mono ?_⟩
  rintro e2 w2 ⟨rfl, b2⟩
  clear z0 z1 z2
  gi_wp2_with fail
  refine wpIn_label ?_
  obtain ⟨w3, hw3⟩ : ∃ w3, w3 = (w2.alloc (.cells #[.slice none 0 0, .slice none 0 0, .int .u64 0, .int .u64 0, .int .i64 np] 152)).alloc (.cells #[.pointer (some ⟨w2.heap.size, 0, none⟩)] 150) := ⟨_, rfl⟩
  have bT : Blk w3 w2.heap.size [.slice none 0 0, .slice none 0 0, .int .u64 0, .int .u64 0, .int .i64 np] := by
    rw [hw3]; exact (Blk.new w2 [.slice none 0 0, .slice none 0 0, .int .u64 0, .int .u64 0, .int .i64 np] 152).alloc _
  have bP : Box w3 (w2.heap.size + 1) (.pointer (some ⟨w2.heap.size, 0, none⟩)) := by
    rw [hw3]
    have := Box.new (w2.alloc (.cells #[.slice none 0 0, .slice none 0 0, .int .u64 0, .int .u64 0, .int .i64 np] 152)) 150 (.pointer (some ⟨w2.heap.size, 0, none⟩))
    simpa using this
  have b3 : Below w2.heap.size w2 w3 := by rw [hw3]; exact b2alloc _ _ _
  rw [show (w2.alloc (.cells #[.slice none 0 0, .slice none 0 0, .int .u64 0, .int .u64 0, .int .i64 np] 152)).alloc (.cells #[.pointer (some ⟨w2.heap.size, 0, none⟩)] 150) = w3 from hw3.symm]
  clear hw3
  have bf2 : Box w3 w1.heap.size (.int .i64 0) := ⟨_, ((bt b2 b3).block _ bf.lt).trans bf⟩
  have ba3 : Blk w3 (w.heap.size + 1) (rcell (.pointer (some ⟨g, 0, none⟩)) (.pointer (some ⟨gS, 0, none⟩)) ga gd gl life base) := ba.on (bt (bt b1 b1f) (bt b2 b3))
  obtain ⟨z0, z1, z2, z3, z4, z5, z6⟩ := seven7 ba3
  have s01 := ba.lt
  have s1 := b1.size
  have s1f : w1.heap.size < (w1.alloc (.cells #[.int .i64 0] 29)).heap.size := by simp
  have s2 := b2.size
  have s3 := b3.size
  have lP := bP.lt
  gi_wp2_with fail
  refine ⟨trivial, (callsIn_wide.2 (sectors_any g gS w1.heap.size ga gd gl life base w3)).mono ?_⟩
  rintro e4 w4 ⟨rfl, hP4, b4⟩
  have s4 := b4.size
  have lS := hP4.fault.lt
  have b03 : Below w.heap.size w w3 := bt (bt b01 b1f) (bt b2 b3)
  have b04 := bt b03 b4
  have hB4 := h.on b04
  clear z0 z1 z2 z3 z4 z5 z6
  have hne : ∀ j ∈ bS :: gS :: fp, j ≠ w2.heap.size := by
    intro j hj
    have := b01.size
    rcases List.mem_cons.1 hj with e | e
    · have := h.sym.lt.2; omega
    rcases List.mem_cons.1 e with e | e
    · have := h.sym.lt.1; omega
    · have := h.disk.lt _ e; omega
  have hr0 : RdAt w4 w4.heap.size w2.heap.size np (foldR np []) (.slice none 0 0) (.slice none 0 0) [] [] :=
    ⟨bT.on b4, own_nil _ _ _ _, own_nil _ _ _ _, fun t ht => (by cases ht), fun t ht => (by cases ht), rfl, rfl, by have := (bT.on b4).lt; omega, Nat.le_refl _, by simp⟩
  have hS0 := SInv.own (np := np) (T := w2.heap.size) (F := w1.heap.size) (w := w) (w4 := w4) b04.size
  obtain ⟨N, hN⟩ : ∃ N : Nat, N = gl.toNat := ⟨_, rfl⟩
  have hNg : (N : Int) = gl := by omega
  rw [← hN] at HR0
  gi_wp2_with fail
  refine range_ok (n := 8) (by omega) (gf := 117) (lb := #[.pointer (some ⟨w3.heap.size, 0, none⟩), .pointer (some ⟨w3.heap.size + 1, 0, none⟩)]) rfl (enters_of Tryz.func117 (by kernel_rfl) rfl)
    (secs1_ok 7 (by omega) w2.heap.size w3.heap.size (w3.heap.size + 1) w1.heap.size g fp s gS bS l ga gd gl life base N hG hNg hr hb0 hb1 hl hs hd hsz w4 hP4 hB4 hne (by omega))
    (fun h k => h.trans k) (fun W l o o' hl h _ _ => KpK.turn W l o' hl) (Below.refl _ _) (fun _ => rfl)
    (fun pre X => SInv w w4 np w2.heap.size w1.heap.size pre X ∧ okR np (pre.map It.f))
    (fun c (pre' : List It) X => (∃ (pre : List It) (x : It), pre' = pre ++ [x] ∧ c = .exit 0 ∧ okR np (pre.map It.f) ∧ (takeF np (foldR np (pre.map It.f)) x.k x.x).2 = false) ∧ SInv w w4 np w2.heap.size w1.heap.size pre' X)
    (fun pre X X' row hI hg hr => ⟨hS0 pre X X' row hI.1 hg hr, hI.2⟩)
    (fun c pre X X' row hI hg hr => ⟨hI.1, hS0 pre X X' row hI.2 hg hr⟩)
    ⟨⟨⟨_, _, _, _, hr0⟩, KpK.refl _ _ _, b04⟩, okR_nil np⟩
    (fun pre x a' X => ∃ pb, a' = { tmps := #[.pointer (some ⟨g, 0, none⟩), .pointer (some ⟨gS, 0, none⟩), gv ga gd gl, .int .u64 (life.toNat : Int), .int .i64 base, undef, undef, .pointer (some ⟨w.heap.size, 0, none⟩), undef, undef, .slice none 0 0, .int .i64 0, .pointer (some ⟨w.heap.size + 1, 0, none⟩), .int .i64 0, .pointer (some ⟨w1.heap.size, 0, none⟩), .pointer (some ⟨w2.heap.size + 1, 0, none⟩), .int .i64 (x.k : Int), .pointer (some ⟨pb, 0, none⟩), .pointer (some ⟨g, 0, none⟩), .pointer (some ⟨gS, 0, none⟩), gv ga gd gl, .int .u64 (life.toNat : Int), .int .i64 base, (rv (.pointer (some ⟨g, 0, none⟩)) (.pointer (some ⟨gS, 0, none⟩)) ga gd gl life base), (rv (.pointer (some ⟨g, 0, none⟩)) (.pointer (some ⟨gS, 0, none⟩)) ga gd gl life base), .int .i64 0, .int .i64 0, .bool false, undef, gv ga gd gl, .int .i64 np, .agg #[.slice none 0 0, .slice none 0 0, .int .u64 0, .int .u64 0, .int .i64 np], .pointer (some ⟨w2.heap.size, 0, none⟩), (rv (.pointer (some ⟨g, 0, none⟩)) (.pointer (some ⟨gS, 0, none⟩)) ga gd gl life base), .func (.func 117) #[] #[.pointer (some ⟨w3.heap.size, 0, none⟩), .pointer (some ⟨w3.heap.size + 1, 0, none⟩)], .int .i64 (x.k : Int), .agg #[.int .i64 x.x.kind, .int .u64 (x.x.life.toNat : Int), .int .i64 x.x.seq, .int .u64 (x.x.gen.toNat : Int), .slice x.A x.x.body.length x.c], undef, undef, undef, undef, undef, undef, undef, undef, undef, undef, undef, undef], defers := [] } ∧ Blk X pb [.int .i64 x.x.kind, .int .u64 (x.x.life.toNat : Int), .int .i64 x.x.seq, .int .u64 (x.x.gen.toNat : Int), .slice x.A x.x.body.length x.c] ∧ w4.heap.size ≤ pb ∧ It.Ok w4.heap.size X x ∧ SInv w w4 np w2.heap.size w1.heap.size pre X ∧ okR np (pre.map It.f))
    ?_ ?assign ?body ?done ?stop
  · rintro pre x a' X lp o o' hl ho hc ⟨pb, rfl, hpb, hpl, hok, hIx, hokr⟩
    have hg := grownBy_putObj' X lp o'
    refine ⟨pb, rfl, ?_, hpl, hok.grown hg (fun r e => by cases e; exact ⟨o, ho, hc⟩), hS0 pre X _ (some lp) hIx hg (fun r e => by cases e; exact ⟨hl, o, ho, hc⟩), hokr⟩
    obtain ⟨t, ht⟩ := hpb
    refine ⟨t, (hg.block pb (lt_of_block ht) (fun e => ?_)).trans ht⟩
    injection e with e
    subst e
    rw [ht] at ho; cases ho; cases hc
  case assign =>
    intro lp pre x X hIx hok hlen
    unfold It.enc
    simp [List.zip_toArray, List.setIfInBounds_toArray]
    gi_wp2
    refine ⟨KeepsOthers.alloc _ _, KpK.of_below (b1alloc _ _) hIx.1.kp.size, X.heap.size, rfl, Blk.new X [.int .i64 x.x.kind, .int .u64 (x.x.life.toNat : Int), .int .i64 x.x.seq, .int .u64 (x.x.gen.toNat : Int), .slice x.A x.x.body.length x.c] _, hIx.1.kp.size, hok.on (b1alloc _ _), hS0 pre X _ none hIx.1 (below_grown (b1alloc _ _) none) (fun r e => by cases e), hIx.2⟩
  case body =>
    rintro lp pre x a' X ⟨pb, rfl, hpb, hpl, hok, ⟨⟨allv, nowv, trs, prs, hrd⟩, hkp, hbX⟩, hokr⟩ hlen
    obtain ⟨x0, x1, x2, x3, x4⟩ := five5r hpb
    have hP := (Box.on' bP b4).kpk hkp (by omega) (by omega)
    have p0 := hP.cell
    have hlx := hpb.lt
    have lP := hP.lt
    have hln := foldR_len np _ (pre.map It.f) rfl
    rw [List.length_map] at hln
    have e1 := congrArg List.length hrd.eA
    have e2 := congrArg List.length hrd.eN
    rw [List.length_map] at e1 e2
    have HT := Lib.hid (take_any w4.heap.size w2.heap.size np (foldR np (pre.map It.f)) allv nowv trs prs x.k x.x x.A x.c X hrd hok.1 hok.2.1 hok.2.2 hnp0.1 hnp0.2 (by omega) (by omega))
    have hsn : foldR np ((pre ++ [x]).map It.f) = (takeF np (foldR np (pre.map It.f)) x.k x.x).1 := by rw [List.map_append]; exact foldR_snoc np (pre.map It.f) x.f
    have hso : (takeF np (foldR np (pre.map It.f)) x.k x.x).2 = true → okR np ((pre ++ [x]).map It.f) := fun h => by rw [List.map_append]; exact okR_snoc hokr h
    obtain ⟨q, hq⟩ : ∃ q, q = takeF np (foldR np (pre.map It.f)) x.k x.x := ⟨_, rfl⟩
    rw [← hq] at HT hsn hso
    have Hq := Lib.hid hq
    have Hsn := Lib.hid hsn
    have Hso := Lib.hid hso
    clear hq hsn hso hln e1 e2 hrd
    gi_wp2_with fail
    refine ⟨trivial, (callsIn_wide.2 HT.out).mono ?_⟩
    rintro e5 w5 ⟨rfl, hR5, hk5, hp5⟩
    have hb5 : Below w.heap.size w w5 := ⟨hp5.1.trans hbX.os, hp5.2.1.trans hbX.tape, hp5.2.2.1.trans hbX.output, Nat.le_trans hbX.size hp5.size, fun j hj => (hp5.block (by omega) (by omega)).trans (hbX.block j hj)⟩
    obtain ⟨r5, t5⟩ := q
    have hS5 : SInv w w4 np w2.heap.size w1.heap.size (pre ++ [x]) w5 := ⟨by rw [Hsn.out]; exact hR5, hkp.trans hp5, hb5⟩
    cases t5 with
    | true =>
      gi_wp2
      exact ⟨hk5, hp5, hS5, Hso.out (by first | trivial | rfl)⟩
    | false =>
      gi_wp2
      exact ⟨hk5, ⟨pre, x, rfl, rfl, hokr, by rw [← Hq.out]⟩, hS5⟩
  case done =>
    rintro D xs X hD ⟨k, ⟨hkN, hmap, hgood⟩, hend⟩ ⟨⟨⟨allv, nowv, trs, prs, hrd⟩, hkp, hbX⟩, hokr⟩ hKD
    have hexit : R = (foldR np (xs.map It.f)).all := by
      rw [HRR.out, HR0.out, hmap]
      rw [hmap] at hokr
      exact congrArg Rg.all (scanH_done hkN hgood hokr hend)
    have hfb := Box.on' bf2 b4
    have f0 := (hfb.kpk hkp (by omega) (by omega)).cell
    have p0 := ((Box.on' bP b4).kpk hkp (by omega) (by omega)).cell
    have lfb := hfb.lt
    obtain ⟨y0, y1, y2, y3, y4⟩ := five5r hrd.blk
    have lT := hrd.blk.lt
    have lXs := hkp.size
    have g0 := grownBy_putObj' X D (.deferred none)
    have Hrd := Lib.hid (hrd.own g0 (fun r e => (by cases e; exact ⟨hD, _, hKD, rfl⟩)))
    have Hex := Lib.hid hexit
    clear hexit hrd hfb
    gi_wp2_with fail
    refine ⟨by simp, .inl ⟨_, _, rfl, run_takeDeferred hKD, ?_⟩⟩
    refine ⟨.tuple #[allv, .int .i64 0], (by simp [results, Tryz.results55, go_sem]), ?_⟩
    refine ⟨⟨allv, rfl, ?_⟩, hbX.trans (belowK_b (w := w) (Nat.le_refl _) _ D _ _ (by have := b04.size; omega) hKD rfl rfl)⟩
    rw [Hex.out]
    exact Hrd.out.tx b04.size
  case stop =>
    rintro D c pre' X hD ⟨k, hkN, hmap, hgood⟩ ⟨⟨pre, x, rfl, rfl, hokr, hlast⟩, ⟨⟨allv, nowv, trs, prs, hrd⟩, hkp, hbX⟩⟩ hKD
    have hk1 : pre.length + 1 = k := by simpa using congrArg List.length hmap
    subst hk1
    have hmap2 := hmap
    rw [List.range_succ, List.map_append, List.map_append] at hmap2
    obtain ⟨hm1, hm2⟩ := List.append_inj' hmap2 rfl
    simp only [List.map_cons, List.map_nil, List.cons.injEq, and_true] at hm2
    have hxk : x.k = pre.length := congrArg Prod.fst hm2
    have hxx : x.x = (rdL l s ga gd gl base pre.length).1 := congrArg Prod.snd hm2
    have hexit : R = (foldR np ((pre ++ [x]).map It.f)).all := by
      rw [HRR.out, HR0.out, hmap]
      rw [hm1] at hokr
      rw [hm1, hxk, hxx] at hlast
      exact congrArg Rg.all (scanH_stop hkN hgood hokr hlast)
    clear hm1 hm2 hxk hxx hmap2
    have hfb := Box.on' bf2 b4
    have f0 := (hfb.kpk hkp (by omega) (by omega)).cell
    have p0 := ((Box.on' bP b4).kpk hkp (by omega) (by omega)).cell
    have lfb := hfb.lt
    obtain ⟨y0, y1, y2, y3, y4⟩ := five5r hrd.blk
    have lT := hrd.blk.lt
    have lXs := hkp.size
    have g0 := grownBy_putObj' X D (.deferred none)
    have Hrd := Lib.hid (hrd.own g0 (fun r e => (by cases e; exact ⟨hD, _, hKD, rfl⟩)))
    have Hex := Lib.hid hexit
    clear hexit hrd hfb
    gi_wp2_with fail
    refine ⟨by simp, .inl ⟨_, _, rfl, run_takeDeferred hKD, ?_⟩⟩
    refine ⟨.tuple #[allv, .int .i64 0], (by simp [results, Tryz.results55, go_sem]), ?_⟩
    refine ⟨⟨allv, rfl, ?_⟩, hbX.trans (belowK_b (w := w) (Nat.le_refl _) _ D _ _ (by have := b04.size; omega) hKD rfl rfl)⟩
    rw [Hex.out]
    exact Hrd.out.tx b04.size
end Go.Proofs.YtchcmklelmlbgaaGreat.Wal

/- The log, in plain Lean: what stands behind what was appended, and that it is read back. No statement is proved here. -/
namespace Go.Proofs.YtchcmklelmlbgaaGreat.Wal
open Go.RowKit
open Go.Proofs.YtchcmklelmlbgaaGreat.Geom
open Go.Proofs.YtchcmklelmlbgaaGreat.Num (putL putL_len getN getN_putL)
open Go.Proofs.YtchcmklelmlbgaaGreat.Disk (St Wr write flush read kept new zero512)
open Go.Proofs.YtchcmklelmlbgaaGreat.Sec (X X0 text rightF)
open Go.Proofs.YtchcmklelmlbgaaGreat.Sup (UpN Gb)
open Go.Proofs.YtchcmklelmlbgaaGreat.Enc (Itm Enf enf enf_of More kept_of rd rd_good rd_zero)
set_option linter.unusedVariables false
/-- one behind the other -/
def takes (np : Int) : List (Nat × X) → Rg → Rg × Bool
  | [], r => (r, true)
  | t :: l, r => if (takeF np r t.1 t.2).2 = true then takes np l (takeF np r t.1 t.2).1 else ((takeF np r t.1 t.2).1, false)
theorem takes_append (np : Int) : ∀ (a b : List (Nat × X)) (r r' : Rg), takes np a r = (r', true) → takes np (a ++ b) r = takes np b r'
  | [], b, r, r', h => by injection h with h _; subst h; rfl
  | t :: a, b, r, r', h => by
    unfold takes at h
    rw [List.cons_append]
    show (if _ then _ else _) = _
    split at h
    · rename_i ht
      rw [if_pos ht]
      exact takes_append np a b _ _ h
    · cases h
theorem takes_fold (np : Int) : ∀ (l : List (Nat × X)) (r' : Rg) (pre : List (Nat × X)), okR np pre → takes np l (foldR np pre) = (r', true) → okR np (pre ++ l) ∧ foldR np (pre ++ l) = r'
  | [], r', pre, ho, h => by injection h with h _; rw [List.append_nil]; exact ⟨ho, h⟩
  | t :: l, r', pre, ho, h => by
    unfold takes at h
    split at h
    · rename_i ht
      have := takes_fold np l r' (pre ++ [t]) (okR_snoc ho ht) (by rw [foldR_snoc]; exact h)
      simpa using this
    · cases h
/-- the sectors of a transaction -/
def dSecs (life : UInt64) (q : Nat) (gen : UInt64) : Nat → List Pg → List X
  | _, [] => []
  | i, x :: r => dX 4 life q i gen x.n.toNat x.body :: dSecs life q gen (i + 1) r
def tSecs (life : UInt64) (q : Nat) (t : Tx) : List X := dSecs life q t.gen 0 t.pages ++ [dX 5 life q t.pages.length t.gen t.pages.length []]
theorem dSecs_len (life : UInt64) (q : Nat) (gen : UInt64) : ∀ (l : List Pg) (i : Nat), (dSecs life q gen i l).length = l.length
  | [], i => rfl
  | x :: r, i => by simp [dSecs, dSecs_len life q gen r (i + 1)]
theorem tSecs_len (life : UInt64) (q : Nat) (t : Tx) : (tSecs life q t).length = t.pages.length + 1 := by simp [tSecs, dSecs_len]
theorem dSecs_get (life : UInt64) (q : Nat) (gen : UInt64) : ∀ (l : List Pg) (i k : Nat) (h : k < (dSecs life q gen i l).length) (h' : k < l.length), (dSecs life q gen i l)[k] = dX 4 life q (i + k) gen l[k].n.toNat l[k].body
  | [], i, k, h, h' => absurd h' (by simp)
  | x :: r, i, 0, h, h' => rfl
  | x :: r, i, k + 1, h, h' => by
    have := dSecs_get life q gen r (i + 1) k (by rw [dSecs_len]; simpa using h') (by simpa using h')
    rw [show i + (k + 1) = i + 1 + k by omega]
    exact this
theorem tSecs_at (life : UInt64) (q : Nat) (t : Tx) (k : Nat) (h : k < (tSecs life q t).length) : (tSecs life q t)[k].life = life ∧ (tSecs life q t)[k].seq = ((q + k : Nat) : Int) := by
  have hk := tSecs_len life q t
  have h' : k < (dSecs life q t.gen 0 t.pages ++ [dX 5 life q t.pages.length t.gen t.pages.length []]).length := h
  show ((dSecs life q t.gen 0 t.pages ++ [dX 5 life q t.pages.length t.gen t.pages.length []])[k]'h').life = life ∧ ((dSecs life q t.gen 0 t.pages ++ [dX 5 life q t.pages.length t.gen t.pages.length []])[k]'h').seq = ((q + k : Nat) : Int)
  by_cases h1 : k < t.pages.length
  · rw [List.getElem_append_left (by rw [dSecs_len]; exact h1), dSecs_get _ _ _ _ _ _ _ h1, Nat.zero_add]
    exact ⟨rfl, rfl⟩
  · obtain rfl : k = t.pages.length := by omega
    rw [List.getElem_append_right (Nat.le_of_eq (dSecs_len _ _ _ _ _))]
    simp only [dSecs_len, Nat.sub_self, List.getElem_cons_zero]
    exact ⟨rfl, rfl⟩
/-- numbered from a number on -/
def num (q : Nat) : List X → List (Nat × X)
  | [] => []
  | x :: r => (q, x) :: num (q + 1) r
theorem num_append (q : Nat) : ∀ (a b : List X), num q (a ++ b) = num q a ++ num (q + a.length) b
  | [], b => by simp [num]
  | x :: a, b => by simp only [List.cons_append, num, List.length_cons]; rw [num_append (q + 1) a b, show q + 1 + a.length = q + (a.length + 1) by omega]
theorem num_range (l : List X) : (List.range l.length).map (fun j => (j, l.getD j X0)) = num 0 l := by
  have h : ∀ (l : List X) (q : Nat) (f : Nat → X), (∀ j (h : j < l.length), f (q + j) = l[j]) → (List.range' q l.length).map (fun j => (j, f j)) = num q l := by
    intro l
    induction l with
    | nil => intro q f hf; rfl
    | cons x l ih =>
      intro q f hf
      rw [List.length_cons, List.range'_succ, List.map_cons, num]
      congr 1
      · rw [show f q = x by have := hf 0 (by simp); rw [Nat.add_zero] at this; exact this]
      · exact ih (q + 1) f (fun j hj => by have := hf (j + 1) (by simpa using hj); rw [show q + 1 + j = q + (j + 1) by omega]; simpa using this)
  rw [List.range_eq_range']
  exact h l 0 _ (fun j hj => by simp [List.getD, hj])
theorem take_dX4 {np : Int} {life : UInt64} {q i n : Nat} {gen : UInt64} {b : List UInt8} (r : Rg) (hq : q < 4294967296) (hn : n < 65536) (hnp : (n : Int) < np) (hf : r.frm = q) (hg : r.now ≠ [] → r.gen = gen) (j : Nat) :
    takeF np r j (dX 4 life q i gen n b) = ({ r with gen := gen, now := r.now ++ [⟨(n : Int), b⟩] }, true) := by
  have e0 : (dX 4 life q i gen n b).body = putL q 4 ++ putL n 2 ++ b := rfl
  have h4 := putL_len q 4
  have h2 := putL_len n 2
  have hl : ¬ (dX 4 life q i gen n b).body.length < 6 := by rw [e0]; simp only [List.length_append]; omega
  have ef : fstN (dX 4 life q i gen n b).body = q := by
    unfold fstN
    rw [e0, List.append_assoc, List.take_append_of_le_length (by omega), List.take_of_length_le (by omega), getN_putL]
    exact Nat.mod_eq_of_lt (by rw [show 256 ^ 4 = 4294967296 from rfl]; exact hq)
  have es : sndN (dX 4 life q i gen n b).body = n := by
    unfold sndN
    rw [e0, List.append_assoc, List.drop_append_of_le_length (by omega), List.drop_of_length_le (by omega), List.nil_append, List.take_append_of_le_length (by omega), List.take_of_length_le (by omega), getN_putL]
    exact Nat.mod_eq_of_lt (by rw [show 256 ^ 2 = 65536 from rfl]; exact hn)
  have ed : (dX 4 life q i gen n b).body.drop 6 = b := by
    rw [e0, List.drop_append, List.drop_of_length_le (by rw [List.length_append]; omega), List.nil_append, List.length_append, h4, h2]; rfl
  unfold takeF
  rw [if_neg (fun h => h.elim hl (fun h => h.2 (hg h.1).symm)), ef, es, ed, if_neg (fun h => h hf.symm), if_pos ⟨rfl, hnp⟩]
  rfl
theorem take_dX5 {np : Int} {life : UInt64} {q n : Nat} {gen : UInt64} (r : Rg) (hq : q < 4294967296) (hn : n < 65536) (hf : r.frm = q) (hg : r.now ≠ [] → r.gen = gen) (hln : r.now.length = n) (j : Nat) :
    takeF np r j (dX 5 life q n gen n []) = (⟨r.all ++ [⟨r.now, gen⟩], [], 0, j + 1⟩, true) := by
  have e0 : (dX 5 life q n gen n []).body = putL q 4 ++ putL n 2 := by show putL q 4 ++ putL n 2 ++ [] = _; rw [List.append_nil]
  have h4 := putL_len q 4
  have h2 := putL_len n 2
  have h6 : (dX 5 life q n gen n []).body.length = 6 := by rw [e0, List.length_append]; omega
  have ef : fstN (dX 5 life q n gen n []).body = q := by
    unfold fstN
    rw [e0, List.take_append_of_le_length (by omega), List.take_of_length_le (by omega), getN_putL]
    exact Nat.mod_eq_of_lt (by rw [show 256 ^ 4 = 4294967296 from rfl]; exact hq)
  have es : sndN (dX 5 life q n gen n []).body = n := by
    unfold sndN
    rw [e0, List.drop_append_of_le_length (by omega), List.drop_of_length_le (by omega), List.nil_append, List.take_of_length_le (by omega), getN_putL]
    exact Nat.mod_eq_of_lt (by rw [show 256 ^ 2 = 65536 from rfl]; exact hn)
  unfold takeF
  rw [if_neg (fun h => h.elim (by omega) (fun h => h.2 (hg h.1).symm)), ef, es, if_neg (fun h => h hf.symm), if_neg (fun h => absurd h.1 (show ¬ (5 : Int) = 4 by decide)), if_pos ⟨rfl, hln.symm, h6⟩]
  rfl
theorem takes_data {np : Int} {life : UInt64} {q : Nat} {gen : UInt64} (hq : q < 4294967296) (hnp : np ≤ 65536) : ∀ (l : List Pg) (i : Nat) (r : Rg), (∀ x ∈ l, 0 ≤ x.n ∧ x.n < np) → r.frm = q → (r.now ≠ [] → r.gen = gen) →
    ∃ g, takes np (num (q + i) (dSecs life q gen i l)) r = (⟨r.all, r.now ++ l, g, q⟩, true) ∧ (r.now ++ l ≠ [] → g = gen)
  | [], i, r, _, hf, hg => ⟨r.gen, by subst hf; simp [dSecs, num, takes], by simpa using hg⟩
  | x :: l, i, r, hx, hf, hg => by
    obtain ⟨h0, h1⟩ := hx x (by simp)
    have ht := take_dX4 (np := np) (life := life) (i := i) (b := x.body) (n := x.n.toNat) r hq (by omega) (by omega) hf hg (q + i)
    obtain ⟨g, e1, e2⟩ := takes_data hq hnp l (i + 1) { r with gen := gen, now := r.now ++ [⟨(x.n.toNat : Int), x.body⟩] } (fun y hy => hx y (by simp [hy])) hf (fun _ => rfl)
    have hxe : (⟨(x.n.toNat : Int), x.body⟩ : Pg) = x := by rw [Int.toNat_of_nonneg h0]
    refine ⟨g, ?_, fun _ => e2 (by simp)⟩
    rw [dSecs, num]
    show (if _ then _ else _) = _
    rw [ht, if_pos rfl, show q + i + 1 = q + (i + 1) by omega, e1, hxe]
    simp
/-- a transaction is read -/
theorem takes_tx {np : Int} {life : UInt64} {q : Nat} {t : Tx} (hq : q < 4294967296) (hnp : np ≤ 65536) (hl : t.pages.length < 65536) (hx : ∀ x ∈ t.pages, 0 ≤ x.n ∧ x.n < np) (A : List Tx) (g : UInt64) :
    takes np (num q (tSecs life q t)) ⟨A, [], g, q⟩ = (⟨A ++ [t], [], 0, q + (t.pages.length + 1)⟩, true) := by
  obtain ⟨g', e1, e2⟩ := takes_data (life := life) (gen := t.gen) hq hnp t.pages 0 ⟨A, [], g, q⟩ hx rfl (fun h => absurd rfl h)
  rw [Nat.add_zero] at e1
  unfold tSecs
  rw [num_append, takes_append np _ _ _ _ e1, dSecs_len]
  show (if _ then _ else _) = _
  have ht := take_dX5 (np := np) (life := life) (n := t.pages.length) (gen := t.gen) ⟨A, [] ++ t.pages, g', q⟩ hq hl rfl (fun h => e2 h) (by simp) (q + t.pages.length)
  rw [ht, if_pos rfl]
  rfl
/-- the sectors of transactions, one behind the other -/
def allSecs (life : UInt64) : Nat → List Tx → List X
  | _, [] => []
  | q, t :: r => tSecs life q t ++ allSecs life (q + (t.pages.length + 1)) r
theorem allSecs_snoc (life : UInt64) : ∀ (l : List Tx) (q : Nat) (t : Tx), allSecs life q (l ++ [t]) = allSecs life q l ++ tSecs life (q + (allSecs life q l).length) t
  | [], q, t => by simp [allSecs]
  | u :: l, q, t => by
    rw [List.cons_append, allSecs, allSecs_snoc life l _ t, allSecs, List.append_assoc, List.length_append, tSecs_len]
    congr 3
    omega
theorem allSecs_at (life : UInt64) : ∀ (l : List Tx) (q k : Nat) (h : k < (allSecs life q l).length), (allSecs life q l)[k].life = life ∧ (allSecs life q l)[k].seq = ((q + k : Nat) : Int)
  | [], q, k, h => absurd h (by simp [allSecs])
  | t :: l, q, k, h => by
    simp only [allSecs] at h ⊢
    by_cases h1 : k < (tSecs life q t).length
    · rw [List.getElem_append_left h1]; exact tSecs_at life q t k h1
    · rw [List.getElem_append_right (by omega)]
      have h2 := tSecs_len life q t
      rw [List.length_append] at h
      have := allSecs_at life l (q + (t.pages.length + 1)) (k - (tSecs life q t).length) (by omega)
      rw [show q + (t.pages.length + 1) + (k - (tSecs life q t).length) = q + k by omega] at this
      exact this
theorem takes_all {np : Int} {life : UInt64} (hnp : np ≤ 65536) : ∀ (l : List Tx) (q : Nat) (A : List Tx) (g : UInt64), q + (allSecs life q l).length < 65536 → (∀ t ∈ l, ∀ x ∈ t.pages, 0 ≤ x.n ∧ x.n < np) →
    ∃ g', takes np (num q (allSecs life q l)) ⟨A, [], g, q⟩ = (⟨A ++ l, [], g', q + (allSecs life q l).length⟩, true)
  | [], q, A, g, _, _ => ⟨g, by simp [allSecs, num, takes]⟩
  | t :: l, q, A, g, hq, hx => by
    simp only [allSecs, List.length_append, tSecs_len] at hq ⊢
    obtain ⟨g', e⟩ := takes_all (life := life) hnp l (q + (t.pages.length + 1)) (A ++ [t]) 0 (by omega) (fun u hu => hx u (by simp [hu]))
    refine ⟨g', ?_⟩
    rw [num_append, takes_append np _ _ _ _ (takes_tx (by omega) hnp (by omega) (hx t (by simp)) A g), tSecs_len, e, List.append_assoc]
    congr 2
    omega
/-- what is scanned where just these stand -/
theorem scan_all {np : Int} {life : UInt64} {rdf : Nat → X} {good : Nat → Bool} {N : Nat} {l : List Tx} (hnp : np ≤ 65536) (hN : (allSecs life 0 l).length ≤ N) (hN1 : N < 65536) (hx : ∀ t ∈ l, ∀ x ∈ t.pages, 0 ≤ x.n ∧ x.n < np)
    (hr : ∀ k (h : k < (allSecs life 0 l).length), rdf k = (allSecs life 0 l)[k] ∧ good k = true) (he : (allSecs life 0 l).length = N ∨ good (allSecs life 0 l).length = false) : (scanH np rdf good N 0 r00).all = l := by
  obtain ⟨g', e⟩ := takes_all (life := life) hnp l 0 [] 0 (by omega) hx
  obtain ⟨e1, e2⟩ := takes_fold np _ _ [] (okR_nil np) e
  rw [List.nil_append] at e1 e2
  have hm : (List.range (allSecs life 0 l).length).map (fun j => (j, rdf j)) = num 0 (allSecs life 0 l) := by
    rw [← num_range]
    apply List.map_congr_left
    intro j hj
    have hj' := List.mem_range.1 hj
    rw [(hr j hj').1]
    simp [List.getD, hj']
  rw [scanH_done hN (fun j hj => (hr j hj).2) (by rw [hm]; exact e1) he, hm, e2]
  simp
end Go.Proofs.YtchcmklelmlbgaaGreat.Wal

/- The log, in plain Lean: what the disk has behind what was appended. No statement is proved here. -/
namespace Go.Proofs.YtchcmklelmlbgaaGreat.Wal
open Go.RowKit
open Go.Proofs.YtchcmklelmlbgaaGreat.Geom
open Go.Proofs.YtchcmklelmlbgaaGreat.Disk (St Wr write flush read kept new zero512)
open Go.Proofs.YtchcmklelmlbgaaGreat.Sec (X X0 text rightF)
open Go.Proofs.YtchcmklelmlbgaaGreat.Sup (UpN Gb)
open Go.Proofs.YtchcmklelmlbgaaGreat.Enc (Itm Enf enf enf_of More kept_of rd rd_good rd_zero)
set_option linter.unusedVariables false
structure EnfUp (n : Nat) (is : List Itm) (l : List (List UInt8)) (s : St) (q : List (List UInt8) × St × Int) : Prop where
  res : q.2.2 = 0
  up : UpN q.2.1 n
  good : ∀ k (h : k < is.length), Sup.Good q.1 is[k].1 is[k].2 (kept q.2.1.all is[k].1.toNat)
  beside : ∀ p : Nat, (∀ i ∈ is, i.1.toNat ≠ p) → kept q.2.1.all p = kept s.all p
  more : More l q.1
theorem enf_up {n : Nat} {is : List Itm} {l : List (List UInt8)} {s : St} (hu : UpN s n) (hi : ∀ i ∈ is, rightF i.1 i.2 = 0 ∧ 0 ≤ i.1 ∧ i.1 < n) (hd : ∀ a b (ha : a < is.length) (hb : b < is.length), is[a].1 = is[b].1 → a = b) : EnfUp n is l s (enf is l s) := by
  obtain ⟨m, e⟩ := enf_of is l s hu.size hu.down hi
  rcases e.res with ⟨_, _, _, _, h⟩ | ⟨h1, h2, h3, h4, h5, h6⟩
  · exact absurd hu.fuse h
  · rw [hu.pend, List.nil_append] at h3
    have hat : ∀ k (h : k < m.length), ∃ h' : k < is.length, m[k].1 = is[k].1.toNat ∧ Sup.Good (enf is l s).1 is[k].1 is[k].2 m[k].2 := fun k h => ⟨by omega, e.at_ k h (by omega)⟩
    refine ⟨h1, ⟨e.size, h4, h2, h6 hu.fuse⟩, fun k h => ?_, fun p hp => ?_, e.more⟩
    · obtain ⟨_, g1, g2⟩ := hat k (by omega)
      rw [h3, ← g1, kept_of s.all m k (by omega) (fun a b ha hb hab => ?_)]
      · exact g2
      · obtain ⟨ha', ea, _⟩ := hat a ha
        obtain ⟨hb', eb, _⟩ := hat b hb
        rw [ea, eb] at hab
        have p1 := (hi _ (List.getElem_mem ha')).2.1
        have p2 := (hi _ (List.getElem_mem hb')).2.1
        exact hd a b ha' hb' (by omega)
    · rw [h3]
      refine Disk.kept_append s.all m p (fun w hw he => ?_)
      obtain ⟨k, hk, rfl⟩ := List.mem_iff_getElem.1 hw
      obtain ⟨hk', g1, _⟩ := hat k hk
      exact hp _ (List.getElem_mem hk') (g1.symm.trans he)
/-- the k-th place of a log -/
abbrev pl (ga gd gl base : Int) (k : Nat) : Int := logAt ga gd gl (base + (k : Int))
theorem pl_eq {ga gd gl base : Int} (hr : right ga gd gl = true) (hb : 0 ≤ base) (k : Nat) : pl ga gd gl base k = 4 + (base + (k : Int)) % gl := by
  unfold pl logAt; rw [if_pos ⟨hr, by omega⟩]
theorem pl_inj {ga gd gl base : Int} (hr : right ga gd gl = true) (hb : 0 ≤ base) {j k : Nat} (hj : (j : Int) < gl) (hk : (k : Int) < gl) (h : pl ga gd gl base j = pl ga gd gl base k) : j = k := by
  rw [pl_eq hr hb, pl_eq hr hb] at h
  have hy := right_yes hr
  have h1 : (base + (j : Int)) % gl = (base + (k : Int)) % gl := by omega
  have h2 := Int.emod_emod_of_dvd
  have h3 : ((j : Int) - k) % gl = 0 := by
    rw [show (j : Int) - k = (base + j) - (base + k) by omega, Int.sub_emod, h1]; simp
  have h4 := Int.emod_add_mul_ediv ((j : Int) - k) gl
  have hb1 : ((j : Int) - k) < gl := by omega
  have hb2 : -gl < ((j : Int) - k) := by omega
  rw [h3] at h4
  rcases Int.lt_trichotomy (((j : Int) - k) / gl) 0 with hq | hq | hq
  · have : gl * (((j : Int) - k) / gl) ≤ gl * (-1) := Int.mul_le_mul_of_nonneg_left (by omega) (by omega)
    omega
  · rw [hq] at h4; omega
  · have : gl * 1 ≤ gl * (((j : Int) - k) / gl) := Int.mul_le_mul_of_nonneg_left (by omega) (by omega)
    omega
/-- the items of sectors from the k-th place on -/
def items (ga gd gl base : Int) : Nat → List X → List Itm
  | _, [] => []
  | q, x :: r => (pl ga gd gl base q, x) :: items ga gd gl base (q + 1) r
theorem items_len (ga gd gl base : Int) : ∀ (l : List X) (q : Nat), (items ga gd gl base q l).length = l.length
  | [], q => rfl
  | x :: r, q => by simp [items, items_len ga gd gl base r (q + 1)]
theorem items_get (ga gd gl base : Int) : ∀ (l : List X) (q k : Nat) (h : k < (items ga gd gl base q l).length) (h' : k < l.length), (items ga gd gl base q l)[k] = (pl ga gd gl base (q + k), l[k])
  | [], q, k, h, h' => absurd h' (by simp)
  | x :: r, q, 0, h, h' => rfl
  | x :: r, q, k + 1, h, h' => by
    have := items_get ga gd gl base r (q + 1) k (by rw [items_len]; simpa using h') (by simpa using h')
    rw [show q + (k + 1) = q + 1 + k by omega]
    exact this
theorem items_data (ga gd gl base : Int) (life : UInt64) (q : Nat) (gen : UInt64) : ∀ (l : List Pg) (i : Nat), items ga gd gl base (q + i) (dSecs life q gen i l) = dItems ga gd gl base life q gen i l
  | [], i => rfl
  | x :: r, i => by rw [dSecs, items, dItems, ← items_data ga gd gl base life q gen r (i + 1)]; rfl
/-- the disk has these sectors in the log's places, and nothing behind them -/
structure LogIs (ga gd gl base : Int) (n : Nat) (l : List (List UInt8)) (s : St) (xs : List X) : Prop where
  up : UpN s n
  good : ∀ k (h : k < xs.length), Sup.Good l (pl ga gd gl base k) xs[k] (kept s.all (pl ga gd gl base k).toNat)
  zero : ∀ k : Nat, xs.length ≤ k → (k : Int) < gl → kept s.all (pl ga gd gl base k).toNat = zero512
theorem LogIs.new (ga gd gl base : Int) (n : Nat) : LogIs ga gd gl base n [] (new n) [] := ⟨Sup.up_new n, fun k h => absurd h (by simp), fun k _ _ => rfl⟩
theorem pl_bd {ga gd gl base : Int} {n : Nat} (hr : right ga gd gl = true) (hb : 0 ≤ base) (hn : (n : Int) = Geom.sizeOf ga gd gl) (k : Nat) : 0 ≤ pl ga gd gl base k ∧ pl ga gd gl base k < n ∧ pl ga gd gl base k ≤ 1023 := by
  have h1 := log_bd (i := base + (k : Int)) hr (by omega)
  have h2 := log_size hr
  exact ⟨h1.1, by show logAt _ _ _ _ < _; omega, h1.2.1⟩
/-- more of them are written and flushed -/
theorem LogIs.more {ga gd gl base : Int} {n : Nat} {l : List (List UInt8)} {s : St} {xs ys : List X} (h : LogIs ga gd gl base n l s xs) (hr : right ga gd gl = true) (hb : 0 ≤ base) (hn : (n : Int) = Geom.sizeOf ga gd gl) (hl : ((xs.length + ys.length : Nat) : Int) ≤ gl)
    (hy : ∀ k (hk : k < ys.length), rightF (pl ga gd gl base (xs.length + k)) ys[k] = 0) : (enf (items ga gd gl base xs.length ys) l s).2.2 = 0 ∧ LogIs ga gd gl base n (enf (items ga gd gl base xs.length ys) l s).1 (enf (items ga gd gl base xs.length ys) l s).2.1 (xs ++ ys) := by
  have hg := fun (k : Nat) (hk : k < ys.length) => items_get ga gd gl base ys xs.length k (by rw [items_len]; exact hk) hk
  have e := enf_up (l := l) (is := items ga gd gl base xs.length ys) h.up (fun i hi => by
    obtain ⟨k, hk, rfl⟩ := List.mem_iff_getElem.1 hi
    rw [items_len] at hk
    rw [hg k hk]
    have := pl_bd hr hb hn (xs.length + k)
    exact ⟨hy k hk, this.1, this.2.1⟩) (fun a b ha hb' hab => by
    rw [items_len] at ha hb'
    rw [hg a ha, hg b hb'] at hab
    have := pl_inj hr hb (j := xs.length + a) (k := xs.length + b) (by omega) (by omega) hab
    omega)
  have hbs : ∀ k : Nat, (k < xs.length ∨ xs.length + ys.length ≤ k) → (k : Int) < gl → kept (enf (items ga gd gl base xs.length ys) l s).2.1.all (pl ga gd gl base k).toNat = kept s.all (pl ga gd gl base k).toNat := fun k hk hkg => e.beside _ (fun i hi he => by
    obtain ⟨j, hj, rfl⟩ := List.mem_iff_getElem.1 hi
    rw [items_len] at hj
    rw [hg j hj] at he
    have p1 := pl_bd hr hb hn (xs.length + j)
    have p2 := pl_bd hr hb hn k
    have := pl_inj hr hb (j := xs.length + j) (k := k) (by omega) hkg (by simp only at he; omega)
    omega)
  refine ⟨e.res, e.up, fun k hk => ?_, fun k hk hkg => ?_⟩
  · rw [List.length_append] at hk
    by_cases h1 : k < xs.length
    · rw [List.getElem_append_left h1, hbs k (.inl h1) (by omega)]
      exact e.more _ _ _ (h.good k h1)
    · rw [List.getElem_append_right (by omega)]
      have h2 := e.good (k - xs.length) (by rw [items_len]; omega)
      rw [hg _ (by omega), show xs.length + (k - xs.length) = k by omega] at h2
      exact h2
  · rw [List.length_append] at hk
    rw [hbs k (.inr hk) hkg]
    exact h.zero k (by omega) hkg
/-- a transaction is appended -/
theorem LogIs.append {ga gd gl base : Int} {n : Nat} {l : List (List UInt8)} {s : St} {xs : List X} {t : Tx} {life : UInt64} (h : LogIs ga gd gl base n l s xs) (hr : right ga gd gl = true) (hb : 0 ≤ base) (hn : (n : Int) = Geom.sizeOf ga gd gl) (hl : (xs.length : Int) + t.pages.length < gl) (hbd : badB ga gd gl t.pages = false) :
    (putF ga gd gl base life xs.length t.gen t.pages l s).2.2 = 0 ∧ LogIs ga gd gl base n (putF ga gd gl base life xs.length t.gen t.pages l s).1 (putF ga gd gl base life xs.length t.gen t.pages l s).2.1 (xs ++ tSecs life xs.length t) := by
  have hy64 := right_yes hr
  have hd := items_data ga gd gl base life xs.length t.gen t.pages 0
  rw [Nat.add_zero] at hd
  obtain ⟨r1, h1⟩ := h.more (ys := dSecs life xs.length t.gen 0 t.pages) hr hb hn (by rw [dSecs_len]; omega) (fun k hk => by
    rw [dSecs_len] at hk
    rw [dSecs_get _ _ _ _ _ _ _ hk, Nat.zero_add]
    have hp := pl_bd hr hb hn (xs.length + k)
    exact dX_right hp.1 hp.2.2 (by decide) (by omega) (badB_of hbd hk).2.2)
  rw [hd] at r1 h1
  obtain ⟨r2, h2⟩ := h1.more (ys := [dX 5 life xs.length t.pages.length t.gen t.pages.length []]) hr hb hn (by simp only [List.length_append, dSecs_len, List.length_singleton]; omega) (fun k hk => by
    obtain rfl : k = 0 := by simp at hk; exact hk
    have hp := pl_bd hr hb hn ((xs ++ dSecs life xs.length t.gen 0 t.pages).length + 0)
    exact dX_right hp.1 hp.2.2 (by decide) (by omega) (by simp))
  rw [List.length_append, dSecs_len] at r2 h2
  unfold putF
  rw [if_pos r1]
  refine ⟨r2, ?_⟩
  have := h2
  rw [List.append_assoc] at this
  exact this
/-- the scan of such a disk -/
theorem LogIs.scan {ga gd gl base : Int} {n : Nat} {l : List (List UInt8)} {s : St} {life : UInt64} {ts : List Tx} (h : LogIs ga gd gl base n l s (allSecs life 0 ts)) (hr : right ga gd gl = true) (hb : 0 ≤ base) (hn : (n : Int) = Geom.sizeOf ga gd gl) (hl : ((allSecs life 0 ts).length : Int) ≤ gl) (hx : ∀ t ∈ ts, ∀ x ∈ t.pages, 0 ≤ x.n ∧ x.n < pagesOf ga gd gl) : scanTx l s ga gd gl base life = ts := by
  have hy := right_yes hr
  have hp := pagesOf_bd ga gd gl
  have hrd : ∀ k (hk : k < (allSecs life 0 ts).length), rdL l s ga gd gl base k = ((allSecs life 0 ts)[k], 0) := fun k hk => by
    have p := pl_bd hr hb hn k
    exact rd_good h.up p.1 p.2.1 (h.good k hk)
  unfold scanTx
  refine scan_all (life := life) (by omega) (by omega) (by omega) hx (fun k hk => ?_) ?_
  · have e := hrd k hk
    have a := allSecs_at life ts 0 k hk
    refine ⟨by rw [e], ?_⟩
    unfold goodL
    rw [e]
    simp only [a.1, a.2]
    simp
  · by_cases hN : (allSecs life 0 ts).length = gl.toNat
    · exact .inl hN
    · right
      have p := pl_bd hr hb hn (allSecs life 0 ts).length
      have e : rdL l s ga gd gl base (allSecs life 0 ts).length = (X0, 7) := rd_zero h.up p.1 p.2.1 (h.zero _ (Nat.le_refl _) (by omega))
      unfold goodL
      rw [e]
      simp
end Go.Proofs.YtchcmklelmlbgaaGreat.Wal

/- The log, in plain Lean: what stands where the power went: those that were appended, and perhaps the one that was being appended, are read. No statement is proved here. -/
namespace Go.Proofs.YtchcmklelmlbgaaGreat.Wal
open Go.RowKit
open Go.Proofs.YtchcmklelmlbgaaGreat.Geom
open Go.Proofs.YtchcmklelmlbgaaGreat.Disk (St Wr write flush read kept new zero512 restart)
open Go.Proofs.YtchcmklelmlbgaaGreat.Sec (X X0 text rightF place_of)
open Go.Proofs.YtchcmklelmlbgaaGreat.Sup (UpN Gb text_inj)
open Go.Proofs.YtchcmklelmlbgaaGreat.Enc (Itm Enf enf enf_of More kept_of rd rd_good rd_zero rd_sound restart_up)
set_option linter.unusedVariables false
theorem items_append (ga gd gl base : Int) : ∀ (a b : List X) (q : Nat), items ga gd gl base q (a ++ b) = items ga gd gl base q a ++ items ga gd gl base (q + a.length) b
  | [], b, q => by simp [items]
  | x :: a, b, q => by simp only [List.cons_append, items, List.length_cons]; rw [items_append ga gd gl base a b (q + 1), show q + 1 + a.length = q + (a.length + 1) by omega]
theorem tSecs_items (ga gd gl base : Int) (life : UInt64) (q : Nat) (t : Tx) : items ga gd gl base q (tSecs life q t) = dItems ga gd gl base life q t.gen 0 t.pages ++ [(logAt ga gd gl (base + ((q + t.pages.length : Nat) : Int)), dX 5 life q t.pages.length t.gen t.pages.length [])] := by
  have hd := items_data ga gd gl base life q t.gen t.pages 0
  rw [Nat.add_zero] at hd
  unfold tSecs
  rw [items_append, hd, dSecs_len]; rfl
theorem tSecs_right {ga gd gl base : Int} {life : UInt64} {q : Nat} {t : Tx} {n : Nat} (hr : right ga gd gl = true) (hb : 0 ≤ base) (hn : (n : Int) = Geom.sizeOf ga gd gl) (hl : (q : Int) + t.pages.length < gl) (hbd : badB ga gd gl t.pages = false) (j : Nat) (h : j < (tSecs life q t).length) : rightF (pl ga gd gl base (q + j)) (tSecs life q t)[j] = 0 := by
  have hy := right_yes hr
  have hp := pl_bd (base := base) hr hb hn (q + j)
  have hk := tSecs_len life q t
  have h' : j < (dSecs life q t.gen 0 t.pages ++ [dX 5 life q t.pages.length t.gen t.pages.length []]).length := h
  show rightF _ ((dSecs life q t.gen 0 t.pages ++ [dX 5 life q t.pages.length t.gen t.pages.length []])[j]'h') = 0
  by_cases h1 : j < t.pages.length
  · rw [List.getElem_append_left (by rw [dSecs_len]; exact h1), dSecs_get _ _ _ _ _ _ _ h1, Nat.zero_add]
    exact dX_right hp.1 hp.2.2 (by decide) (by omega) (badB_of hbd h1).2.2
  · obtain rfl : j = t.pages.length := by omega
    rw [List.getElem_append_right (Nat.le_of_eq (dSecs_len _ _ _ _ _))]
    simp only [dSecs_len, Nat.sub_self, List.getElem_cons_zero]
    exact dX_right hp.1 hp.2.2 (by decide) (by omega) (by simp)
/-- what becomes of an append, whatever the power does -/
structure PutT (ga gd gl base : Int) (n : Nat) (life : UInt64) (q : Nat) (t : Tx) (sm : List (List UInt8)) (st : St) (V : List (List UInt8) × St × Int) : Prop where
  size : V.2.1.size = n
  more : More sm V.1
  old : ∀ T ∈ sm, T ∈ V.1
  text : ∀ T ∈ V.1, T ∈ sm ∨ ∃ (j : Nat) (h : j < (tSecs life q t).length), T = text (pl ga gd gl base (q + j)) (tSecs life q t)[j]
  res : (V.2.2 = 12 ∧ V.2.1.down = true ∧ ¬ st.fuse < 0 ∧ ∃ m : List Wr, V.2.1.all = st.all ++ m ∧ ∀ w ∈ m ++ V.2.1.pend, ∃ j : Nat, j < (tSecs life q t).length ∧ w.1 = (pl ga gd gl base (q + j)).toNat) ∨
    (V.2.2 = 0 ∧ V.2.1.down = false ∧ V.2.1.pend = [] ∧ (st.fuse < 0 → V.2.1.fuse < 0) ∧ ∃ m : List Wr, V.2.1.all = st.all ++ m ∧ m.length = (tSecs life q t).length ∧ ∀ (j : Nat) (h : j < m.length) (h' : j < (tSecs life q t).length), m[j].1 = (pl ga gd gl base (q + j)).toNat ∧ Sup.Good V.1 (pl ga gd gl base (q + j)) (tSecs life q t)[j] m[j].2)
theorem putF_turn {ga gd gl base : Int} {n : Nat} {life : UInt64} {q : Nat} {t : Tx} {sm : List (List UInt8)} {st : St} (hs : st.size = n) (hp : st.pend = []) (hdn : st.down = false) (hr : right ga gd gl = true) (hb : 0 ≤ base) (hn : (n : Int) = Geom.sizeOf ga gd gl) (hl : (q : Int) + t.pages.length < gl) (hbd : badB ga gd gl t.pages = false) :
    PutT ga gd gl base n life q t sm st (putF ga gd gl base life q t.gen t.pages sm st) := by
  have htl := tSecs_len life q t
  have hit := tSecs_items ga gd gl base life q t
  have hget := fun (j : Nat) (h : j < (tSecs life q t).length) => items_get ga gd gl base (tSecs life q t) q j (by rw [items_len]; exact h) h
  unfold putF
  obtain ⟨I1, hI1⟩ : ∃ I1, I1 = dItems ga gd gl base life q t.gen 0 t.pages := ⟨_, rfl⟩
  obtain ⟨i2, hi2⟩ : ∃ i2 : Itm, i2 = (logAt ga gd gl (base + ((q + t.pages.length : Nat) : Int)), dX 5 life q t.pages.length t.gen t.pages.length []) := ⟨_, rfl⟩
  rw [← hI1, ← hi2] at hit
  rw [← hI1, ← hi2]
  have hl1 : I1.length = t.pages.length := by
    have h1 := congrArg List.length hit
    rw [items_len, htl, List.length_append, List.length_singleton] at h1
    omega
  have g1 : ∀ (j : Nat) (h : j < I1.length), ∃ h' : j < (tSecs life q t).length, I1[j] = (pl ga gd gl base (q + j), (tSecs life q t)[j]) := fun j h => by
    have h' : j < (tSecs life q t).length := by omega
    refine ⟨h', ?_⟩
    have e := hget j h'
    have e2 : (items ga gd gl base q (tSecs life q t))[j]'(by rw [items_len]; exact h') = (I1 ++ [i2])[j]'(by simp; omega) := by simp only [hit]
    rw [e2, List.getElem_append_left h] at e
    exact e
  have g2 : ∃ h' : t.pages.length < (tSecs life q t).length, i2 = (pl ga gd gl base (q + t.pages.length), (tSecs life q t)[t.pages.length]) := by
    have h' : t.pages.length < (tSecs life q t).length := by omega
    refine ⟨h', ?_⟩
    have e := hget _ h'
    have e2 : (items ga gd gl base q (tSecs life q t))[t.pages.length]'(by rw [items_len]; exact h') = (I1 ++ [i2])[t.pages.length]'(by simp; omega) := by simp only [hit]
    rw [e2, List.getElem_append_right (by omega)] at e
    simpa [hl1] using e
  obtain ⟨g2l, g2e⟩ := g2
  clear hget hit
  have hri := fun j h => tSecs_right (base := base) (life := life) hr hb hn hl hbd j h
  have hbdp := fun k => pl_bd (base := base) hr hb hn k
  obtain ⟨m1, e1⟩ := enf_of I1 sm st hs hdn (fun i hi => by
    obtain ⟨j, hj, rfl⟩ := List.mem_iff_getElem.1 hi
    obtain ⟨h', e⟩ := g1 j hj
    rw [e]
    exact ⟨hri j h', (hbdp _).1, (hbdp _).2.1⟩)
  have p1 : ∀ w ∈ m1, ∃ j : Nat, j < (tSecs life q t).length ∧ w.1 = (pl ga gd gl base (q + j)).toNat := fun w hw => by
    obtain ⟨j, hj, rfl⟩ := List.mem_iff_getElem.1 hw
    have hj' : j < I1.length := by have := e1.len; omega
    obtain ⟨h', e⟩ := g1 j hj'
    exact ⟨j, h', by rw [(e1.at_ j hj hj').1, e]⟩
  have t1 : ∀ T ∈ (enf I1 sm st).1, T ∈ sm ∨ ∃ (j : Nat) (h : j < (tSecs life q t).length), T = text (pl ga gd gl base (q + j)) (tSecs life q t)[j] := fun T hT => by
    rcases e1.text T hT with h | ⟨i, hi, h⟩
    · exact .inl h
    · obtain ⟨j, hj, rfl⟩ := List.mem_iff_getElem.1 hi
      obtain ⟨h', e⟩ := g1 j hj
      rw [e] at h
      exact .inr ⟨j, h', h⟩
  rcases e1.res with ⟨r1, r2, r3, r4, r5⟩ | ⟨r1, r2, r3, r4, r5, r6⟩
  · rw [if_neg (by rw [r1]; decide)]
    refine ⟨e1.size, e1.more, e1.old, t1, .inl ⟨r1, r2, r5, [], by rw [r3]; simp, fun w hw => ?_⟩⟩
    rw [List.nil_append, r4, hp, List.nil_append] at hw
    exact p1 w hw
  · rw [if_pos r1]
    rw [hp, List.nil_append] at r3
    obtain ⟨D, hD⟩ : ∃ D, D = enf I1 sm st := ⟨_, rfl⟩
    rw [← hD] at e1 t1 r1 r2 r3 r4 r6
    rw [← hD]
    obtain ⟨m2, e2⟩ := enf_of [i2] D.1 D.2.1 e1.size r2 (fun i hi => by
      rw [List.mem_singleton] at hi
      rw [hi, g2e]
      exact ⟨hri _ g2l, (hbdp _).1, (hbdp _).2.1⟩)
    have p2 : ∀ w ∈ m2, ∃ j : Nat, j < (tSecs life q t).length ∧ w.1 = (pl ga gd gl base (q + j)).toNat := fun w hw => by
      obtain ⟨j, hj, rfl⟩ := List.mem_iff_getElem.1 hw
      have hj' : j < [i2].length := by have := e2.len; omega
      obtain rfl : j = 0 := by simpa using hj'
      refine ⟨t.pages.length, g2l, ?_⟩
      rw [(e2.at_ 0 hj hj').1]
      show i2.1.toNat = _
      rw [g2e]
    have t2 : ∀ T ∈ (enf [i2] D.1 D.2.1).1, T ∈ sm ∨ ∃ (j : Nat) (h : j < (tSecs life q t).length), T = text (pl ga gd gl base (q + j)) (tSecs life q t)[j] := fun T hT => by
      rcases e2.text T hT with h | ⟨i, hi, h⟩
      · exact t1 T h
      · rw [List.mem_singleton] at hi
        rw [hi, g2e] at h
        exact .inr ⟨_, g2l, h⟩
    refine ⟨e2.size, e1.more.trans e2.more, fun T hT => e2.old T (e1.old T hT), t2, ?_⟩
    rcases e2.res with ⟨s1, s2, s3, s4, s5⟩ | ⟨s1, s2, s3, s4, s5, s6⟩
    · refine .inl ⟨s1, s2, fun e => s5 (r6 e), m1, by rw [s3, r3], fun w hw => ?_⟩
      rw [s4, r4, List.nil_append] at hw
      rcases List.mem_append.1 hw with hw | hw
      · exact p1 w hw
      · exact p2 w hw
    · refine .inr ⟨s1, s2, s4, fun e => s6 (r6 e), m1 ++ m2, by rw [s3, r3, r4, List.nil_append, List.append_assoc], by rw [List.length_append, r5, s5, htl, hl1]; rfl, fun j h h' => ?_⟩
      by_cases hj : j < m1.length
      · rw [List.getElem_append_left hj]
        have hj' : j < I1.length := by omega
        obtain ⟨h'', e⟩ := g1 j hj'
        obtain ⟨a1, a2⟩ := e1.at_ j hj hj'
        rw [e] at a1 a2
        exact ⟨a1, e2.more _ _ _ a2⟩
      · have s5' : m2.length = 1 := s5
        obtain rfl : j = t.pages.length := by rw [List.length_append] at h; omega
        obtain ⟨a1, a2⟩ := e2.at_ 0 (by omega) (by simp)
        rw [List.getElem_append_right (by omega)]
        simp only [r5, hl1, Nat.sub_self]
        have g21 : i2.1 = pl ga gd gl base (q + t.pages.length) := by rw [g2e]
        have g22 : i2.2 = (tSecs life q t)[t.pages.length] := by rw [g2e]
        rw [show [i2][0] = i2 from rfl, g21] at a1 a2
        rw [g22] at a2
        exact ⟨a1, a2⟩
/-- the log of a life has these sectors, by what was summed: no other sector of the life is ever read in its places -/
structure LogC (ga gd gl base : Int) (n : Nat) (life : UInt64) (sm : List (List UInt8)) (all : List Wr) (xs ys : List X) : Prop where
  good : ∀ k (h : k < xs.length), Sup.Good sm (pl ga gd gl base k) xs[k] (kept all (pl ga gd gl base k).toNat)
  only : ∀ (k : Nat) (x : X), (k : Int) < gl → rightF (pl ga gd gl base k) x = 0 → text (pl ga gd gl base k) x ∈ sm → x.life = life → (ys)[k]? = some x
theorem text_at {ga gd gl base : Int} {n : Nat} (hr : right ga gd gl = true) (hb : 0 ≤ base) (hn : (n : Int) = Geom.sizeOf ga gd gl) {j k : Nat} (hj : (j : Int) < gl) (hk : (k : Int) < gl) {x y : X} (hx : rightF (pl ga gd gl base k) x = 0) (hy : rightF (pl ga gd gl base j) y = 0) (h : text (pl ga gd gl base k) x = text (pl ga gd gl base j) y) : x = y ∧ k = j := by
  have e := text_inj hx hy h
  subst e
  have e2 := place_of hx hy h.symm
  exact ⟨rfl, (pl_inj hr hb hj hk e2).symm⟩
theorem LogC.kept {ga gd gl base : Int} {n : Nat} {life : UInt64} {sm sm' : List (List UInt8)} {all m : List Wr} {xs ys : List X} (h : LogC ga gd gl base n life sm all xs ys) (hr : right ga gd gl = true) (hb : 0 ≤ base) (hn : (n : Int) = Geom.sizeOf ga gd gl) (hl : (xs.length : Int) ≤ gl) (hm : More sm sm') {q e : Nat} (hq : xs.length ≤ q) (he : ((q + e : Nat) : Int) ≤ gl) (hw : ∀ w ∈ m, ∃ j : Nat, j < e ∧ w.1 = (pl ga gd gl base (q + j)).toNat) : ∀ k (h : k < xs.length), Sup.Good sm' (pl ga gd gl base k) xs[k] (Disk.kept (all ++ m) (pl ga gd gl base k).toNat) := fun k hk => by
  rw [Disk.kept_append all m _ (fun w h1 h2 => by
    obtain ⟨j, hj, e1⟩ := hw w h1
    rw [e1] at h2
    have p1 := pl_bd (base := base) hr hb hn (q + j)
    have p2 := pl_bd (base := base) hr hb hn k
    have := pl_inj hr hb (base := base) (j := q + j) (k := k) (by omega) (by omega) (by omega)
    omega)]
  exact hm _ _ _ (h.good k hk)
theorem LogC.only' {ga gd gl base : Int} {n : Nat} {life : UInt64} {sm sm' : List (List UInt8)} {all : List Wr} {xs : List X} {t : Tx} (h : LogC ga gd gl base n life sm all xs xs) (hr : right ga gd gl = true) (hb : 0 ≤ base) (hn : (n : Int) = Geom.sizeOf ga gd gl) (hl : (xs.length : Int) + t.pages.length < gl) (hbd : badB ga gd gl t.pages = false) (ht : ∀ T ∈ sm', T ∈ sm ∨ ∃ (j : Nat) (h : j < (tSecs life xs.length t).length), T = text (pl ga gd gl base (xs.length + j)) (tSecs life xs.length t)[j]) :
    ∀ (k : Nat) (x : X), (k : Int) < gl → rightF (pl ga gd gl base k) x = 0 → text (pl ga gd gl base k) x ∈ sm' → x.life = life → (xs ++ tSecs life xs.length t)[k]? = some x := fun k x hk hx hT hlf => by
  rcases ht _ hT with h1 | ⟨j, hj, e⟩
  · have h2 := h.only k x hk hx h1 hlf
    have h3 : k < xs.length := by
      rcases Nat.lt_or_ge k xs.length with h4 | h4
      · exact h4
      · rw [List.getElem?_eq_none h4] at h2; cases h2
    rw [List.getElem?_append_left h3]; exact h2
  · have htl := tSecs_len life xs.length t
    obtain ⟨e1, e2⟩ := text_at hr hb hn (j := xs.length + j) (by omega) hk hx (tSecs_right hr hb hn hl hbd j hj) e
    rw [e2, List.getElem?_append_right (by omega), Nat.add_sub_cancel_left, e1, List.getElem?_eq_getElem hj]
/-- an append that is told -/
theorem LogC.append {ga gd gl base : Int} {n : Nat} {life : UInt64} {sm : List (List UInt8)} {st : St} {xs : List X} {t : Tx} {V : List (List UInt8) × St × Int} (h : LogC ga gd gl base n life sm st.all xs xs) (hr : right ga gd gl = true) (hb : 0 ≤ base) (hn : (n : Int) = Geom.sizeOf ga gd gl) (hl : (xs.length : Int) + t.pages.length < gl) (hbd : badB ga gd gl t.pages = false) (hV : PutT ga gd gl base n life xs.length t sm st V) (hz : V.2.2 = 0) : LogC ga gd gl base n life V.1 V.2.1.all (xs ++ tSecs life xs.length t) (xs ++ tSecs life xs.length t) := by
  have htl := tSecs_len life xs.length t
  refine ⟨fun k hk => ?_, h.only' hr hb hn hl hbd hV.text⟩
  rcases hV.res with ⟨r, _⟩ | ⟨_, _, _, _, m, r1, r2, r3⟩
  · rw [r] at hz; cases hz
  have hat : ∀ k (h : k < m.length), ∃ h' : k < (tSecs life xs.length t).length, m[k].1 = (pl ga gd gl base (xs.length + k)).toNat := fun k h => ⟨by omega, (r3 k h (by omega)).1⟩
  rw [r1]
  by_cases h1 : k < xs.length
  · rw [List.getElem_append_left h1]
    exact h.kept hr hb hn (by omega) hV.more (Nat.le_refl _) (e := (tSecs life xs.length t).length) (by omega) (fun w hw => by
      obtain ⟨j, hj, rfl⟩ := List.mem_iff_getElem.1 hw
      obtain ⟨h', e⟩ := hat j hj
      exact ⟨j, h', e⟩) k h1
  · rw [List.length_append] at hk
    rw [List.getElem_append_right (by omega)]
    obtain ⟨a1, a2⟩ := r3 (k - xs.length) (by omega) (by omega)
    rw [show xs.length + (k - xs.length) = k by omega] at a1 a2
    rw [← a1, kept_of st.all m (k - xs.length) (by omega) (fun a b ha hb' hab => ?_)]
    · exact a2
    · obtain ⟨ha', ea⟩ := hat a ha
      obtain ⟨hb'', eb⟩ := hat b hb'
      rw [ea, eb] at hab
      have p1 := pl_bd (base := base) hr hb hn (xs.length + a)
      have p2 := pl_bd (base := base) hr hb hn (xs.length + b)
      have := pl_inj hr hb (base := base) (j := xs.length + a) (k := xs.length + b) (by omega) (by omega) (by omega)
      omega
/-- an append in which the power goes: and behind it, whatever becomes of what was pending -/
theorem LogC.crash {ga gd gl base : Int} {n : Nat} {life : UInt64} {sm : List (List UInt8)} {st : St} {xs : List X} {t : Tx} {V : List (List UInt8) × St × Int} (h : LogC ga gd gl base n life sm st.all xs xs) (hr : right ga gd gl = true) (hb : 0 ≤ base) (hn : (n : Int) = Geom.sizeOf ga gd gl) (hl : (xs.length : Int) + t.pages.length < gl) (hbd : badB ga gd gl t.pages = false) (hV : PutT ga gd gl base n life xs.length t sm st V) (hz : V.2.2 ≠ 0) (keep : List Int) (torn at_ : Int) :
    UpN (restart V.2.1 keep torn at_) n ∧ LogC ga gd gl base n life V.1 (restart V.2.1 keep torn at_).all xs (xs ++ tSecs life xs.length t) := by
  have htl := tSecs_len life xs.length t
  obtain ⟨u, _, m', e, hm'⟩ := restart_up hV.size keep torn at_
  refine ⟨u, fun k hk => ?_, h.only' hr hb hn hl hbd hV.text⟩
  rcases hV.res with ⟨_, _, _, m, r1, r2⟩ | ⟨r, _⟩
  rotate_left
  · exact absurd r hz
  rw [e, r1, List.append_assoc]
  exact h.kept hr hb hn (by omega) hV.more (Nat.le_refl _) (e := (tSecs life xs.length t).length) (by omega) (fun w hw => by
    rcases List.mem_append.1 hw with hw | hw
    · exact r2 w (List.mem_append.2 (.inl hw))
    · obtain ⟨v, hv, e⟩ := hm' w hw
      obtain ⟨j, hj, e2⟩ := r2 v (List.mem_append.2 (.inr hv))
      exact ⟨j, hj, e.trans e2⟩) k hk
end Go.Proofs.YtchcmklelmlbgaaGreat.Wal

/- The log, in plain Lean: what is scanned where the power went. No statement is proved here. -/
namespace Go.Proofs.YtchcmklelmlbgaaGreat.Wal
open Go.RowKit
open Go.Proofs.YtchcmklelmlbgaaGreat.Geom
open Go.Proofs.YtchcmklelmlbgaaGreat.Disk (St Wr write flush read kept new zero512 restart)
open Go.Proofs.YtchcmklelmlbgaaGreat.Sec (X X0 text rightF place_of)
open Go.Proofs.YtchcmklelmlbgaaGreat.Sup (UpN Gb text_inj)
open Go.Proofs.YtchcmklelmlbgaaGreat.Enc (Itm Enf enf enf_of More kept_of rd rd_good rd_zero rd_sound restart_up)
set_option linter.unusedVariables false
theorem find_stop (good : Nat → Bool) : ∀ N : Nat, ∃ K, K ≤ N ∧ (∀ j, j < K → good j = true) ∧ (K = N ∨ good K = false)
  | 0 => ⟨0, Nat.le_refl _, fun j h => absurd h (Nat.not_lt_zero _), .inl rfl⟩
  | N + 1 => by
    obtain ⟨K, h1, h2, h3⟩ := find_stop good N
    rcases h3 with h3 | h3
    · subst h3
      cases hg : good K with
      | true => exact ⟨K + 1, Nat.le_refl _, fun j hj => by
          rcases Nat.lt_or_ge j K with h | h
          · exact h2 j h
          · obtain rfl : j = K := by omega
            exact hg, .inl rfl⟩
      | false => exact ⟨K, by omega, h2, .inr hg⟩
    · exact ⟨K, by omega, h2, .inr h3⟩
theorem dSecs_take (life : UInt64) (q : Nat) (gen : UInt64) : ∀ (l : List Pg) (i j : Nat), (dSecs life q gen i l).take j = dSecs life q gen i (l.take j)
  | [], i, j => by simp [dSecs]
  | x :: r, i, 0 => by simp [dSecs]
  | x :: r, i, j + 1 => by simp only [dSecs, List.take_succ_cons]; rw [dSecs_take life q gen r (i + 1) j]
theorem range_num {rdf : Nat → X} {S : List X} {K : Nat} (hK : K ≤ S.length) (h : ∀ k, k < K → S[k]? = some (rdf k)) : (List.range K).map (fun j => (j, rdf j)) = num 0 (S.take K) := by
  have h1 := num_range (S.take K)
  have h2 : (S.take K).length = K := by rw [List.length_take]; omega
  rw [h2] at h1
  rw [← h1]
  apply List.map_congr_left
  intro j hj
  have hj' := List.mem_range.1 hj
  have h3 : (S.take K).getD j X0 = rdf j := by
    rw [List.getD, List.getElem?_take_of_lt hj', h j hj']; rfl
  rw [h3]
theorem LogC.read {ga gd gl base : Int} {n : Nat} {life : UInt64} {sm : List (List UInt8)} {st : St} {xs ys : List X} (h : LogC ga gd gl base n life sm st.all xs ys) (hu : UpN st n) (hr : right ga gd gl = true) (hb : 0 ≤ base) (hn : (n : Int) = Geom.sizeOf ga gd gl) {k : Nat} (hk : k < xs.length) : rdL sm st ga gd gl base k = (xs[k], 0) := by
  have p := pl_bd (base := base) hr hb hn k
  exact rd_good hu p.1 p.2.1 (h.good k hk)
theorem LogC.sound {ga gd gl base : Int} {n : Nat} {life : UInt64} {sm : List (List UInt8)} {st : St} {xs ys : List X} (h : LogC ga gd gl base n life sm st.all xs ys) {k : Nat} (hk : (k : Int) < gl) (hg : goodL sm st ga gd gl base life k = true) : ys[k]? = some (rdL sm st ga gd gl base k).1 := by
  unfold goodL at hg
  simp only [Bool.and_eq_true, decide_eq_true_eq] at hg
  obtain ⟨r1, r2⟩ := rd_sound hg.1
  exact h.only k _ hk r1 r2 hg.2.1
theorem LogC.isgood {ga gd gl base : Int} {n : Nat} {life : UInt64} {sm : List (List UInt8)} {st : St} {ts : List Tx} {ys : List X} (h : LogC ga gd gl base n life sm st.all (allSecs life 0 ts) ys) (hu : UpN st n) (hr : right ga gd gl = true) (hb : 0 ≤ base) (hn : (n : Int) = Geom.sizeOf ga gd gl) {k : Nat} (hk : k < (allSecs life 0 ts).length) : goodL sm st ga gd gl base life k = true := by
  have e := h.read hu hr hb hn hk
  have a := allSecs_at life ts 0 k hk
  unfold goodL
  rw [e]
  simp only [a.1, a.2]
  simp
/-- what is scanned: just these -/
theorem LogC.scan {ga gd gl base : Int} {n : Nat} {life : UInt64} {sm : List (List UInt8)} {st : St} {ts : List Tx} (h : LogC ga gd gl base n life sm st.all (allSecs life 0 ts) (allSecs life 0 ts)) (hu : UpN st n) (hr : right ga gd gl = true) (hb : 0 ≤ base) (hn : (n : Int) = Geom.sizeOf ga gd gl) (hl : ((allSecs life 0 ts).length : Int) ≤ gl) (hx : ∀ t ∈ ts, ∀ x ∈ t.pages, 0 ≤ x.n ∧ x.n < pagesOf ga gd gl) : scanTx sm st ga gd gl base life = ts := by
  have hy := right_yes hr
  have hp := pagesOf_bd ga gd gl
  unfold scanTx
  refine scan_all (life := life) (by omega) (by omega) (by omega) hx (fun k hk => ?_) ?_
  · exact ⟨by rw [h.read hu hr hb hn hk], h.isgood hu hr hb hn hk⟩
  · by_cases hN : (allSecs life 0 ts).length = gl.toNat
    · exact .inl hN
    · right
      cases hg : goodL sm st ga gd gl base life (allSecs life 0 ts).length with
      | false => rfl
      | true =>
        have := h.sound (by omega) hg
        rw [List.getElem?_eq_none (Nat.le_refl _)] at this; cases this
/-- all that was summed is of one life -/
def Lives (life : UInt64) (sm : List (List UInt8)) : Prop := ∀ (p : Int) (x : X), rightF p x = 0 → text p x ∈ sm → x.life = life
theorem Lives.put {ga gd gl base : Int} {n : Nat} {life : UInt64} {q : Nat} {t : Tx} {sm : List (List UInt8)} {st : St} {V : List (List UInt8) × St × Int} (h : Lives life sm) (hV : PutT ga gd gl base n life q t sm st V) (hr : right ga gd gl = true) (hb : 0 ≤ base) (hn : (n : Int) = Geom.sizeOf ga gd gl) (hl : (q : Int) + t.pages.length < gl) (hbd : badB ga gd gl t.pages = false) : Lives life V.1 := fun p x hx hT => by
  rcases hV.text _ hT with h1 | ⟨j, hj, e⟩
  · exact h p x hx h1
  · rw [text_inj hx (tSecs_right hr hb hn hl hbd j hj) e]
    exact (tSecs_at life q t j hj).1
theorem putF_lim (ga gd gl base : Int) (life : UInt64) (q : Nat) (t : Tx) (sm : List (List UInt8)) (st : St) : (putF ga gd gl base life q t.gen t.pages sm st).1.length ≤ sm.length + (t.pages.length + 1) ∧ (putF ga gd gl base life q t.gen t.pages sm st).2.1.sz ≤ st.sz + 2 * (t.pages.length + 2) := by
  have hd := items_data ga gd gl base life q t.gen t.pages 0
  rw [Nat.add_zero] at hd
  have hl : (dItems ga gd gl base life q t.gen 0 t.pages).length = t.pages.length := by rw [← hd, items_len, dSecs_len]
  obtain ⟨l1, l2⟩ := Enc.enf_lim (dItems ga gd gl base life q t.gen 0 t.pages) sm st
  rw [hl] at l1 l2
  unfold putF
  split
  · obtain ⟨l3, l4⟩ := Enc.enf_lim [(logAt ga gd gl (base + ((q + t.pages.length : Nat) : Int)), dX 5 life q t.pages.length t.gen t.pages.length [])] (enf (dItems ga gd gl base life q t.gen 0 t.pages) sm st).1 (enf (dItems ga gd gl base life q t.gen 0 t.pages) sm st).2.1
    simp only [List.length_cons, List.length_nil] at l3 l4
    omega
  · omega
end Go.Proofs.YtchcmklelmlbgaaGreat.Wal

/- The store, in plain Lean: what its disk has while the power is there. No statement is proved here. -/
namespace Go.Proofs.YtchcmklelmlbgaaGreat.Sto
open Go.RowKit
open Go.Proofs.YtchcmklelmlbgaaGreat.Geom
open Go.Proofs.YtchcmklelmlbgaaGreat.Disk (St Wr write flush kept new zero512)
open Go.Proofs.YtchcmklelmlbgaaGreat.Sec (X X0 text rightF sumAfter)
open Go.Proofs.YtchcmklelmlbgaaGreat.Sup (UpN splace splace_ok splace_next sx sx_right sB sB_len sB_good sL wf atR best best_first best_later SV)
open Go.Proofs.YtchcmklelmlbgaaGreat.Snap (PagesOk px snapF snapR snapR_some rdAt_good area_eq area_inj area_apart)
open Go.Proofs.YtchcmklelmlbgaaGreat.Wal (Tx Lives allSecs allSecs_at allSecs_snoc tSecs tSecs_len tSecs_at pl pl_eq pl_inj pl_bd badB badB_of putF PutT putF_turn scanTx scan_all rdL goodL tSecs_right)
open Go.Proofs.YtchcmklelmlbgaaGreat.Enc (Enf More rd_good rd_zero kept_of)
set_option linter.unusedVariables false
/-- what a place of the log has: nothing, or a sector of an elder life -/
def Elder (sm : List (List UInt8)) (all : List Wr) (life : UInt64) (p : Int) : Prop := kept all p.toNat = zero512 ∨ ∃ y, Sup.Good sm p y (kept all p.toNat) ∧ y.life < life
/-- what the other super's place has -/
def Other (ga gd gl : Int) (sm : List (List UInt8)) (all : List Wr) (life : UInt64) : Prop := kept all (5 - splace life).toNat = zero512 ∨ ∃ (l' : UInt64) (b' : Int) (g' : UInt64), l' < life ∧ splace l' = 5 - splace life ∧ Sup.Good sm (splace l') (sx ga gd gl l' b' g') (kept all (splace l').toNat)
/-- a life may begin -/
structure PreN (ga gd gl : Int) (n : Nat) (sm : List (List UInt8)) (st : St) (life : UInt64) : Prop where
  up : UpN st n
  oth : Other ga gd gl sm st.all life
  log : ∀ p : Int, 4 ≤ p → p < 4 + gl → Elder sm st.all life p
/-- a life, and its transactions -/
structure InvN (ga gd gl : Int) (n : Nat) (sm : List (List UInt8)) (st : St) (life : UInt64) (base : Int) (gen0 : UInt64) (P0 : List (List UInt8)) (ts : List Tx) : Prop where
  up : UpN st n
  hb : 0 ≤ base ∧ base ≤ 1073741824
  pages : PagesOk ga gd gl n P0
  snap : ∀ k (hk : k < P0.length), Sup.Good sm (areaAt ga gd gl life.toNat k) (px life k P0[k]) (kept st.all (areaAt ga gd gl life.toNat k).toNat)
  sup : Sup.Good sm (splace life) (sx ga gd gl life base gen0) (kept st.all (splace life).toNat)
  oth : Other ga gd gl sm st.all life
  log : ∀ k (h : k < (allSecs life 0 ts).length), Sup.Good sm (pl ga gd gl base k) (allSecs life 0 ts)[k] (kept st.all (pl ga gd gl base k).toNat)
  rest : ∀ p : Int, 4 ≤ p → p < 4 + gl → (∃ k, k < (allSecs life 0 ts).length ∧ p = pl ga gd gl base k) ∨ Elder sm st.all life p
  len : ((allSecs life 0 ts).length : Int) ≤ gl
  bad : ∀ t ∈ ts, badB ga gd gl t.pages = false
theorem Elder.keep {sm sm' : List (List UInt8)} {all all' : List Wr} {life : UInt64} {p : Int} (h : Elder sm all life p) (m : More sm sm') (k : kept all' p.toNat = kept all p.toNat) : Elder sm' all' life p := by
  rcases h with h | ⟨y, h1, h2⟩
  · exact .inl (k.trans h)
  · exact .inr ⟨y, by rw [k]; exact m _ _ _ h1, h2⟩
theorem Other.keep {ga gd gl : Int} {sm sm' : List (List UInt8)} {all all' : List Wr} {life : UInt64} (h : Other ga gd gl sm all life) (m : More sm sm') (k : kept all' (5 - splace life).toNat = kept all (5 - splace life).toNat) : Other ga gd gl sm' all' life := by
  rcases h with h | ⟨l', b', g', h1, h2, h3⟩
  · exact .inl (k.trans h)
  · exact .inr ⟨l', b', g', h1, h2, by rw [h2, k, ← h2]; exact m _ _ _ h3⟩
theorem life_next {life : UInt64} (h : life.toNat ≠ 18446744073709551615) : life < life + 1 := by
  have h1 : (life + 1).toNat = (life.toNat + 1) % 18446744073709551616 := by simp [UInt64.toNat_add]
  have h2 : life.toNat < 18446744073709551616 := life.toNat_lt
  rw [UInt64.lt_iff_toNat_lt]; omega
/-- behind a life the next one may begin -/
theorem InvN.pre {ga gd gl : Int} {n : Nat} {sm : List (List UInt8)} {st : St} {life : UInt64} {base : Int} {gen0 : UInt64} {P0 : List (List UInt8)} {ts : List Tx} (h : InvN ga gd gl n sm st life base gen0 P0 ts) (hl : life.toNat ≠ 18446744073709551615) : PreN ga gd gl n sm st (life + 1) := by
  have hlt := life_next hl
  have hsn := splace_next life
  refine ⟨h.up, .inr ⟨life, base, gen0, hlt, by omega, h.sup⟩, fun p h0 h1 => ?_⟩
  rcases h.rest p h0 h1 with ⟨k, hk, rfl⟩ | h2 | ⟨y, h2, h3⟩
  · exact .inr ⟨_, h.log k hk, by rw [(allSecs_at life ts 0 k hk).1]; exact hlt⟩
  · exact .inl h2
  · exact .inr ⟨y, h2, by rw [UInt64.lt_iff_toNat_lt] at h3 hlt ⊢; omega⟩
/-- a life begins -/
theorem PreN.begin {ga gd gl : Int} {n : Nat} {sm : List (List UInt8)} {st : St} {life : UInt64} (h : PreN ga gd gl n sm st life) (hr : right ga gd gl = true) {P : List (List UInt8)} (hP : PagesOk ga gd gl n P) (base : Int) (gen : UInt64) (hb : 0 ≤ base ∧ base ≤ 1073741824) :
    (snapF ga gd gl life P sm st).2.2 = 0 ∧ (wf (snapF ga gd gl life P sm st).2.1 (splace life) (sB (snapF ga gd gl life P sm st).1 ga gd gl life base gen)).2 = 0 ∧
      InvN ga gd gl n (sL (snapF ga gd gl life P sm st).1 ga gd gl life base gen) (wf (snapF ga gd gl life P sm st).2.1 (splace life) (sB (snapF ga gd gl life P sm st).1 ga gd gl life base gen)).1 life base gen P [] := by
  obtain ⟨u1, u2, u3, u4, u5, _⟩ := hP.up life sm h.up
  obtain ⟨V, hV⟩ : ∃ V, V = snapF ga gd gl life P sm st := ⟨_, rfl⟩
  rw [← hV] at u1 u2 u3 u4 u5 ⊢
  have hy := right_yes hr
  have hsp := splace_ok life
  have hlz := Wal.log_size hr
  have hPl := hP.len
  have hn7 : 4 ≤ n := by have := hP.size; omega
  have hpl : ∀ k, k < P.length → 4 + gl ≤ areaAt ga gd gl life.toNat k := fun k hk => by
    rw [area_eq (by omega)]
    have hpb := pagesOf_bd ga gd gl
    have : 0 ≤ (life.toNat : Int) % 2 * pagesOf ga gd gl := Int.mul_nonneg (by omega) (by omega)
    omega
  obtain ⟨w1, w2, w3⟩ := u2.wf (p := splace life) (by omega) (by omega) (sB_len V.1 ga gd gl life base gen)
  have hm : More V.1 (sL V.1 ga gd gl life base gen) := More.after _ _
  -- what stands elsewhere
  have hk : ∀ p : Int, 0 ≤ p → p ≠ splace life → p < 4 + gl → kept (wf V.2.1 (splace life) (sB V.1 ga gd gl life base gen)).1.all p.toNat = kept st.all p.toNat := fun p h0 h1 h2 => by
    rw [w3, Sup.kept_beside _ _ (by omega)]
    exact u5 _ (fun k hk => by have := hpl k hk; omega)
  refine ⟨u1, w1, w2, hb, hP, fun k hk' => ?_, ?_, ?_, fun k hk' => absurd hk' (by simp [allSecs]), fun p h0 h1 => .inr ?_, by simp [allSecs]; omega, fun t ht => (by cases ht)⟩
  · rw [w3, Sup.kept_beside _ _ (by have := hpl k hk'; omega)]
    exact hm _ _ _ (u4 k hk')
  · rw [w3, Sup.kept_after]
    exact sB_good V.1 hb.1 hb.2
  · exact h.oth.keep (u3.trans hm) (hk _ (by omega) (by omega) (by omega))
  · exact (h.log p h0 h1).keep (u3.trans hm) (hk p (by omega) (by omega) h1)
/-- a transaction is appended -/
theorem InvN.append {ga gd gl : Int} {n : Nat} {sm : List (List UInt8)} {st : St} {life : UInt64} {base : Int} {gen0 : UInt64} {P0 : List (List UInt8)} {ts : List Tx} {t : Tx} (h : InvN ga gd gl n sm st life base gen0 P0 ts) (hr : right ga gd gl = true) (hl : ((allSecs life 0 ts).length : Int) + t.pages.length < gl) (hbd : badB ga gd gl t.pages = false) :
    (putF ga gd gl base life (allSecs life 0 ts).length t.gen t.pages sm st).2.2 = 0 ∧
      InvN ga gd gl n (putF ga gd gl base life (allSecs life 0 ts).length t.gen t.pages sm st).1 (putF ga gd gl base life (allSecs life 0 ts).length t.gen t.pages sm st).2.1 life base gen0 P0 (ts ++ [t]) := by
  have hn := h.pages.size
  have hV := putF_turn (life := life) (q := (allSecs life 0 ts).length) (t := t) (sm := sm) h.up.size h.up.pend h.up.down hr h.hb.1 hn hl hbd
  obtain ⟨V, hVe⟩ : ∃ V, V = putF ga gd gl base life (allSecs life 0 ts).length t.gen t.pages sm st := ⟨_, rfl⟩
  rw [← hVe] at hV ⊢
  rcases hV.res with ⟨_, _, h3, _⟩ | ⟨r1, r2, r3, r4, m, r5, r6, r7⟩
  · exact absurd h.up.fuse h3
  have hs := allSecs_snoc life ts 0 t
  rw [Nat.zero_add] at hs
  have htl := tSecs_len life (allSecs life 0 ts).length t
  have hlen : (allSecs life 0 (ts ++ [t])).length = (allSecs life 0 ts).length + (t.pages.length + 1) := by rw [hs, List.length_append, htl]
  have hat : ∀ k (h : k < m.length), ∃ h' : k < (tSecs life (allSecs life 0 ts).length t).length, m[k].1 = (pl ga gd gl base ((allSecs life 0 ts).length + k)).toNat := fun k h => ⟨by omega, (r7 k h (by omega)).1⟩
  have hkp : ∀ p : Int, 0 ≤ p → (∀ j, j < t.pages.length + 1 → p ≠ pl ga gd gl base ((allSecs life 0 ts).length + j)) → kept V.2.1.all p.toNat = kept st.all p.toNat := fun p h0 h1 => by
    rw [r5]
    refine Disk.kept_append _ _ _ (fun w hw he => ?_)
    obtain ⟨j, hj, rfl⟩ := List.mem_iff_getElem.1 hw
    obtain ⟨h', e⟩ := hat j hj
    have p1 := pl_bd (base := base) hr h.hb.1 hn ((allSecs life 0 ts).length + j)
    exact h1 j (by omega) (by omega)
  have hy := right_yes hr
  have hsp := splace_ok life
  have hplb : ∀ k, 4 ≤ pl ga gd gl base k ∧ pl ga gd gl base k < 4 + gl := fun k => by
    rw [pl_eq hr h.hb.1]
    have := Int.emod_nonneg (base + (k : Int)) (show gl ≠ 0 by omega)
    have := Int.emod_lt_of_pos (base + (k : Int)) (show 0 < gl by omega)
    omega
  have hPl := h.pages.len
  have hpl : ∀ k, k < P0.length → 4 + gl ≤ areaAt ga gd gl life.toNat k := fun k hk => by
    rw [area_eq (by omega)]
    have hpb := pagesOf_bd ga gd gl
    have : 0 ≤ (life.toNat : Int) % 2 * pagesOf ga gd gl := Int.mul_nonneg (by omega) (by omega)
    omega
  refine ⟨r1, ⟨hV.size, r3, r2, r4 h.up.fuse⟩, h.hb, h.pages, fun k hk => ?_, ?_, ?_, fun k hk => ?_, fun p h0 h1 => ?_, by rw [hlen]; omega, fun u hu => ?_⟩
  · rw [hkp _ (by have := hpl k hk; omega) (fun j hj => by have := hpl k hk; have := hplb ((allSecs life 0 ts).length + j); omega)]
    exact hV.more _ _ _ (h.snap k hk)
  · rw [hkp _ (by omega) (fun j hj => by have := hplb ((allSecs life 0 ts).length + j); omega)]
    exact hV.more _ _ _ h.sup
  · exact h.oth.keep hV.more (hkp _ (by omega) (fun j hj => by have := hplb ((allSecs life 0 ts).length + j); omega))
  · rw [hlen] at hk
    by_cases h1 : k < (allSecs life 0 ts).length
    · rw [hkp _ (by have := hplb k; omega) (fun j hj e => by
        have := pl_inj hr h.hb.1 (base := base) (j := k) (k := (allSecs life 0 ts).length + j) (by omega) (by omega) e
        omega)]
      have e : (allSecs life 0 (ts ++ [t]))[k]'(by rw [hlen]; omega) = (allSecs life 0 ts)[k] := by
        simp only [hs]; exact List.getElem_append_left h1
      rw [e]
      exact hV.more _ _ _ (h.log k h1)
    · have e : (allSecs life 0 (ts ++ [t]))[k]'(by rw [hlen]; omega) = (tSecs life (allSecs life 0 ts).length t)[k - (allSecs life 0 ts).length]'(by omega) := by
        simp only [hs]; exact List.getElem_append_right (by omega)
      obtain ⟨a1, a2⟩ := r7 (k - (allSecs life 0 ts).length) (by omega) (by omega)
      rw [show (allSecs life 0 ts).length + (k - (allSecs life 0 ts).length) = k by omega] at a1 a2
      rw [e, r5, ← a1, kept_of st.all m (k - (allSecs life 0 ts).length) (by omega) (fun a b ha hb' hab => ?_)]
      · exact a2
      · obtain ⟨ha', ea⟩ := hat a ha
        obtain ⟨hb'', eb⟩ := hat b hb'
        rw [ea, eb] at hab
        have p1 := hplb ((allSecs life 0 ts).length + a)
        have p2 := hplb ((allSecs life 0 ts).length + b)
        have := pl_inj hr h.hb.1 (base := base) (j := (allSecs life 0 ts).length + a) (k := (allSecs life 0 ts).length + b) (by omega) (by omega) (by omega)
        omega
  · by_cases hj : ∃ j, j < t.pages.length + 1 ∧ p = pl ga gd gl base ((allSecs life 0 ts).length + j)
    · obtain ⟨j, hj, rfl⟩ := hj
      exact .inl ⟨_, by rw [hlen]; omega, rfl⟩
    · rcases h.rest p h0 h1 with ⟨k, hk, e⟩ | h2
      · exact .inl ⟨k, by rw [hlen]; omega, e⟩
      · exact .inr (h2.keep hV.more (hkp p (by omega) (fun j hj' e => hj ⟨j, hj', e⟩)))
  · rcases List.mem_append.1 hu with hu | hu
    · exact h.bad u hu
    · rw [List.mem_singleton] at hu; rw [hu]; exact hbd
/-! what is read of it -/
theorem InvN.super {ga gd gl : Int} {n : Nat} {sm : List (List UInt8)} {st : St} {life : UInt64} {base : Int} {gen0 : UInt64} {P0 : List (List UInt8)} {ts : List Tx} (h : InvN ga gd gl n sm st life base gen0 P0 ts) (hn : 4 ≤ n) : best (best none (atR sm st ga gd gl 2)) (atR sm st ga gd gl 3) = some ⟨life, base, gen0⟩ := by
  have hsp := splace_ok life
  have a1 := h.up.at_own (by omega) h.sup
  rcases h.oth with h1 | ⟨l', b', g', h1, h2, h3⟩
  · exact best_first (f := atR sm st ga gd gl) hsp rfl a1 (h.up.at_zero (by omega) (by omega) h1)
  · have a2 := h.up.at_own (by omega) h3
    exact best_later (f := atR sm st ga gd gl) (p := splace l') (q := splace life) (splace_ok l') (by omega) a2 a1 h1
theorem InvN.read {ga gd gl : Int} {n : Nat} {sm : List (List UInt8)} {st : St} {life : UInt64} {base : Int} {gen0 : UInt64} {P0 : List (List UInt8)} {ts : List Tx} (h : InvN ga gd gl n sm st life base gen0 P0 ts) : snapR sm st ga gd gl life P0.length = some P0 :=
  (snapR_some (fun k hk => rdAt_good h.up h.pages hk (h.snap k hk))).1
theorem InvN.scan {ga gd gl : Int} {n : Nat} {sm : List (List UInt8)} {st : St} {life : UInt64} {base : Int} {gen0 : UInt64} {P0 : List (List UInt8)} {ts : List Tx} (h : InvN ga gd gl n sm st life base gen0 P0 ts) (hr : right ga gd gl = true) : scanTx sm st ga gd gl base life = ts := by
  have hy := right_yes hr
  have hp := pagesOf_bd ga gd gl
  have hn := h.pages.size
  have hrd : ∀ k (hk : k < (allSecs life 0 ts).length), rdL sm st ga gd gl base k = ((allSecs life 0 ts)[k], 0) := fun k hk => by
    have p := pl_bd (base := base) hr h.hb.1 hn k
    exact rd_good h.up p.1 p.2.1 (h.log k hk)
  have hlen := h.len
  unfold scanTx
  refine scan_all (life := life) (by omega) (by omega) (by omega) (fun t ht x hx => ?_) (fun k hk => ?_) ?_
  · obtain ⟨j, hj, rfl⟩ := List.mem_iff_getElem.1 hx
    have := badB_of (h.bad t ht) hj
    exact ⟨this.1, this.2.1⟩
  · have e := hrd k hk
    have a := allSecs_at life ts 0 k hk
    refine ⟨by rw [e], ?_⟩
    unfold goodL
    rw [e]
    simp only [a.1, a.2]
    simp
  · by_cases hN : (allSecs life 0 ts).length = gl.toNat
    · exact .inl hN
    · right
      have p := pl_bd (base := base) hr h.hb.1 hn (allSecs life 0 ts).length
      have hpe := pl_eq (base := base) hr h.hb.1 (allSecs life 0 ts).length
      have e1 := Int.emod_nonneg (base + ((allSecs life 0 ts).length : Int)) (show gl ≠ 0 by omega)
      have e2 := Int.emod_lt_of_pos (base + ((allSecs life 0 ts).length : Int)) (show 0 < gl by omega)
      rcases h.rest (pl ga gd gl base (allSecs life 0 ts).length) (by omega) (by omega) with ⟨k, hk, e⟩ | h1 | ⟨y, h1, h2⟩
      · have := pl_inj hr h.hb.1 (base := base) (by omega) (by omega) e
        omega
      · have e : rdL sm st ga gd gl base (allSecs life 0 ts).length = (X0, 7) := rd_zero h.up p.1 p.2.1 h1
        unfold goodL
        rw [e]
        simp
      · have e : rdL sm st ga gd gl base (allSecs life 0 ts).length = (y, 0) := rd_good h.up p.1 p.2.1 h1
        unfold goodL
        rw [e]
        have : ¬ y.life = life := fun e => by rw [e, UInt64.lt_iff_toNat_lt] at h2; omega
        simp [this]
/-! a log that is wiped -/
def wipeL : List Int → St → St × Int
  | [], s => (s, 0)
  | p :: r, s => if (write s p zero512).2 = 0 then wipeL r (write s p zero512).1 else write s p zero512
def wipeF (gl : Int) (s : St) : St × Int := if (wipeL ((List.range gl.toNat).map fun i : Nat => 4 + (i : Int)) s).2 = 0 then flush (wipeL ((List.range gl.toNat).map fun i : Nat => 4 + (i : Int)) s).1 else wipeL ((List.range gl.toNat).map fun i : Nat => 4 + (i : Int)) s
theorem wipeL_up {n : Nat} : ∀ (ps : List Int) (s : St), s.size = n → s.down = false → s.fuse < 0 → (∀ p ∈ ps, 0 ≤ p ∧ p < n) →
    (wipeL ps s).2 = 0 ∧ (wipeL ps s).1.size = n ∧ (wipeL ps s).1.down = false ∧ (wipeL ps s).1.fuse < 0 ∧ (wipeL ps s).1.all = s.all ∧ (wipeL ps s).1.pend = s.pend ++ ps.map fun p => (p.toNat, zero512)
  | [], s, h1, h2, h3, _ => ⟨rfl, h1, h2, h3, rfl, by simp [wipeL]⟩
  | p :: r, s, h1, h2, h3, hp => by
    obtain ⟨hp0, hp1⟩ := hp p (by simp)
    obtain ⟨w1, w2, w3, w4⟩ := Enc.write_cases h1 h2 hp0 hp1 Disk.zero512_len
    rcases w4 with ⟨_, _, w5⟩ | ⟨w4, w5, w6⟩
    · exact absurd h3 w5
    · obtain ⟨e1, e2, e3, e4, e5, e6⟩ := wipeL_up r (write s p zero512).1 w1 w5 (w6 h3) (fun q hq => hp q (by simp [hq]))
      have e : wipeL (p :: r) s = wipeL r (write s p zero512).1 := by show (if _ then _ else _) = _; rw [if_pos w4]
      rw [e]
      exact ⟨e1, e2, e3, e4, e5.trans w2, by rw [e6, w3]; simp⟩
theorem kept_zero (all : List Wr) (ps : List Int) {p : Int} (hp : p ∈ ps) (h0 : ∀ q ∈ ps, 0 ≤ q) : kept (all ++ ps.map fun p => (p.toNat, zero512)) p.toNat = zero512 := by
  have hz : ∀ (l : List Wr) (all : List Wr) (k : Nat), (∀ w ∈ l, w.2 = zero512) → (kept all k = zero512 ∨ ∃ w ∈ l, w.1 = k) → kept (all ++ l) k = zero512 := by
    intro l
    induction l with
    | nil =>
      intro all k _ h
      rcases h with h | ⟨w, hw, _⟩
      · simpa using h
      · cases hw
    | cons w l ih =>
      intro all k hw h
      have e : all ++ w :: l = (all ++ [w]) ++ l := by simp
      rw [e]
      refine ih _ _ (fun v hv => hw v (by simp [hv])) ?_
      obtain ⟨q, b⟩ := w
      have hb : b = zero512 := hw (q, b) (by simp)
      subst hb
      by_cases hq : q = k
      · subst hq; exact .inl (Sup.kept_after _ _ _)
      · rcases h with h | ⟨v, hv, e⟩
        · exact .inl ((Sup.kept_beside _ _ hq).trans h)
        · rcases List.mem_cons.1 hv with hv | hv
          · rw [hv] at e; exact absurd e hq
          · exact .inr ⟨v, hv, e⟩
  exact hz _ _ _ (fun w hw => by obtain ⟨q, _, rfl⟩ := List.mem_map.1 hw; rfl) (.inr ⟨_, List.mem_map.2 ⟨p, hp, rfl⟩, rfl⟩)
theorem wipe_up {n : Nat} {s : St} {gl : Int} (h : UpN s n) (h0 : 0 ≤ gl) (hn : 4 + gl ≤ n) : (wipeF gl s).2 = 0 ∧ UpN (wipeF gl s).1 n ∧ (∀ p : Int, 4 ≤ p → p < 4 + gl → kept (wipeF gl s).1.all p.toNat = zero512) ∧ ∀ p : Int, 0 ≤ p → (p < 4 ∨ 4 + gl ≤ p) → kept (wipeF gl s).1.all p.toNat = kept s.all p.toNat := by
  have hps : ∀ p ∈ (List.range gl.toNat).map (fun i : Nat => 4 + (i : Int)), 4 ≤ p ∧ p < 4 + gl := fun p hp => by
    obtain ⟨i, hi, rfl⟩ := List.mem_map.1 hp
    have := List.mem_range.1 hi
    omega
  obtain ⟨e1, e2, e3, e4, e5, e6⟩ := wipeL_up (n := n) ((List.range gl.toNat).map fun i : Nat => 4 + (i : Int)) s h.size h.down h.fuse (fun p hp => by have := hps p hp; omega)
  unfold wipeF
  rw [if_pos e1]
  obtain ⟨f1, f2⟩ := Enc.flush_cases e2 e3
  rcases f2 with ⟨_, _, _, _, f⟩ | ⟨f2, f3, f4, f5, f6⟩
  · exact absurd e4 f
  · have ha : (flush (wipeL ((List.range gl.toNat).map fun i : Nat => 4 + (i : Int)) s).1).1.all = s.all ++ ((List.range gl.toNat).map fun i : Nat => 4 + (i : Int)).map fun p => (p.toNat, zero512) := by rw [f4, e5, e6, h.pend, List.nil_append]
    refine ⟨f2, ⟨f1, f5, f3, f6 e4⟩, fun p h1 h2 => ?_, fun p h1 h2 => ?_⟩
    · rw [ha]
      exact kept_zero _ _ (List.mem_map.2 ⟨(p - 4).toNat, List.mem_range.2 (by omega), by omega⟩) (fun q hq => by have := hps q hq; omega)
    · rw [ha]
      refine Disk.kept_append _ _ _ (fun w hw he => ?_)
      obtain ⟨q, hq, rfl⟩ := List.mem_map.1 hw
      have := hps q hq
      simp only at he
      omega
/-- a disk that is made anew -/
theorem pre_first {ga gd gl : Int} {n : Nat} {s : St} (h : UpN s n) (hr : right ga gd gl = true) (hn : (n : Int) = Geom.sizeOf ga gd gl) (sm : List (List UInt8)) : (Sup.clr s).2 = 0 ∧ (wipeF gl (Sup.clr s).1).2 = 0 ∧ PreN ga gd gl n sm (wipeF gl (Sup.clr s).1).1 1 := by
  have hy := right_yes hr
  have hlz := Wal.log_size hr
  obtain ⟨c1, c2, c3, _⟩ := h.clr (by omega)
  obtain ⟨w1, w2, w3, w4⟩ := wipe_up (gl := gl) c2 (by omega) (by omega)
  refine ⟨c1, w1, w2, .inl ?_, fun p h0 h1 => .inl (w3 p h0 h1)⟩
  have h5 : 5 - splace (1 : UInt64) = 2 := by decide
  rw [h5, w4 2 (by omega) (by omega), c3]
  show kept (s.all ++ ([(2, zero512)] ++ [(3, zero512)])) 2 = zero512
  rw [← List.append_assoc, Sup.kept_beside _ _ (by decide), Sup.kept_after]
end Go.Proofs.YtchcmklelmlbgaaGreat.Sto

/- The store, in plain Lean: what its disk has wherever the power goes. No statement is proved here. -/
namespace Go.Proofs.YtchcmklelmlbgaaGreat.Sto
open Go.RowKit
open Go.Proofs.YtchcmklelmlbgaaGreat.Geom
open Go.Proofs.YtchcmklelmlbgaaGreat.Disk (St Wr write flush kept new zero512 restart)
open Go.Proofs.YtchcmklelmlbgaaGreat.Sec (X X0 text text_len rightF sumAfter ckS checkOf sumOf place_of)
open Go.Proofs.YtchcmklelmlbgaaGreat.Sup (UpN splace splace_ok splace_next sx sx_right sB sB_len sB_good sL wf wf_cases atR best best_first best_later SV text_inj isSup mem_after)
open Go.Proofs.YtchcmklelmlbgaaGreat.Snap (PagesOk px snapF snapR snapR_some rdAt_good area_eq area_inj area_apart next_odd)
open Go.Proofs.YtchcmklelmlbgaaGreat.Wal (Tx allSecs allSecs_at allSecs_snoc tSecs tSecs_len tSecs_at dSecs dSecs_len dSecs_get dSecs_take pl pl_eq pl_inj pl_bd badB badB_of putF PutT putF_turn scanTx scan_all rdL goodL tSecs_right LogC takes takes_all takes_data takes_append takes_fold okR_nil num num_append range_num scanH_done find_stop r00 scanH)
open Go.Proofs.YtchcmklelmlbgaaGreat.Enc (Enf More rd_good rd_zero kept_of encs enf encs_go encs_stop Itm restart_up)
set_option linter.unusedVariables false
/-! pages and transactions -/
def putP (P : List (List UInt8)) (l : List Pg) : List (List UInt8) := l.foldl (fun P x => P.set x.n.toNat x.body) P
def applyT (P : List (List UInt8)) (ts : List Tx) : List (List UInt8) := ts.foldl (fun P t => putP P t.pages) P
def genT (g : UInt64) (ts : List Tx) : UInt64 := ts.foldl (fun _ t => t.gen) g
theorem putP_len : ∀ (l : List Pg) (P : List (List UInt8)), (putP P l).length = P.length
  | [], P => rfl
  | x :: l, P => by show (putP (P.set x.n.toNat x.body) l).length = _; rw [putP_len l]; simp
theorem applyT_len : ∀ (ts : List Tx) (P : List (List UInt8)), (applyT P ts).length = P.length
  | [], P => rfl
  | t :: ts, P => by show (applyT (putP P t.pages) ts).length = _; rw [applyT_len ts, putP_len]
theorem applyT_snoc (P : List (List UInt8)) (ts : List Tx) (t : Tx) : applyT P (ts ++ [t]) = putP (applyT P ts) t.pages := by simp [applyT]
theorem genT_snoc (g : UInt64) (ts : List Tx) (t : Tx) : genT g (ts ++ [t]) = t.gen := by simp [genT]
theorem putP_ok {ga gd gl : Int} {n : Nat} : ∀ (l : List Pg) (P : List (List UInt8)), PagesOk ga gd gl n P → (∀ x ∈ l, x.body.length ≤ 479) → PagesOk ga gd gl n (putP P l)
  | [], P, h, _ => h
  | x :: l, P, h, hl => putP_ok l (P.set x.n.toNat x.body) ⟨h.size, by rw [List.length_set]; exact h.len, fun j hj => by
      rw [List.getElem_set]
      split
      · exact hl x (by simp)
      · exact h.short j (by simpa using hj)⟩ (fun y hy => hl y (by simp [hy]))
theorem bad_short {ga gd gl : Int} {l : List Pg} (h : badB ga gd gl l = false) : ∀ x ∈ l, x.body.length ≤ 473 := fun x hx => by
  obtain ⟨j, hj, rfl⟩ := List.mem_iff_getElem.1 hx
  exact (badB_of h hj).2.2
theorem bad_num {ga gd gl : Int} {l : List Pg} (h : badB ga gd gl l = false) : ∀ x ∈ l, 0 ≤ x.n ∧ x.n < pagesOf ga gd gl := fun x hx => by
  obtain ⟨j, hj, rfl⟩ := List.mem_iff_getElem.1 hx
  exact ⟨(badB_of h hj).1, (badB_of h hj).2.1⟩
theorem applyT_ok {ga gd gl : Int} {n : Nat} : ∀ (ts : List Tx) (P : List (List UInt8)), PagesOk ga gd gl n P → (∀ t ∈ ts, badB ga gd gl t.pages = false) → PagesOk ga gd gl n (applyT P ts)
  | [], P, h, _ => h
  | t :: ts, P, h, hb => applyT_ok ts (putP P t.pages) (putP_ok _ _ h (fun x hx => by have := bad_short (hb t (by simp)) x hx; omega)) (fun u hu => hb u (by simp [hu]))
/-! sums grow at their end -/
def Ext (l l' : List (List UInt8)) : Prop := ∃ e, l' = l ++ e
theorem Ext.refl (l : List (List UInt8)) : Ext l l := ⟨[], by simp⟩
theorem Ext.trans {a b c : List (List UInt8)} (h : Ext a b) (k : Ext b c) : Ext a c := by
  obtain ⟨e, rfl⟩ := h
  obtain ⟨f, rfl⟩ := k
  exact ⟨e ++ f, by simp⟩
theorem Ext.after (l : List (List UInt8)) (T : List UInt8) : Ext l (sumAfter l T) := by
  unfold sumAfter
  split
  · exact Ext.refl l
  · exact ⟨[T], rfl⟩
theorem encs_ext : ∀ (is : List Itm) (l : List (List UInt8)) (s : St), Ext l (encs is l s).1
  | [], l, s => Ext.refl l
  | i :: r, l, s => by
    by_cases h : (write s i.1 (Enc.xB l i.1 i.2)).2 = 0
    · rw [encs_go h]; exact (Ext.after _ _).trans (encs_ext r _ _)
    · rw [encs_stop h]; exact Ext.after _ _
theorem enf_ext (is : List Itm) (l : List (List UInt8)) (s : St) : Ext l (enf is l s).1 := by
  unfold enf
  split
  · exact encs_ext is l s
  · exact encs_ext is l s
theorem putF_ext (ga gd gl base : Int) (life : UInt64) (q : Nat) (gen : UInt64) (pages : List Pg) (l : List (List UInt8)) (s : St) : Ext l (putF ga gd gl base life q gen pages l s).1 := by
  unfold putF
  split
  · exact (enf_ext _ _ _).trans (enf_ext _ _ _)
  · exact enf_ext _ _ _
theorem Good.back {l l' : List (List UInt8)} {p : Int} {x : X} {b : List UInt8} (h : Sup.Good l' p x b) (e : Ext l l') (hT : text p x ∈ l) : Sup.Good l p x b := by
  obtain ⟨h1, h2, s, hs, rfl⟩ := h
  refine ⟨h1, ?_, s, hs, rfl⟩
  obtain ⟨f, rfl⟩ := e
  unfold ckS checkOf at h2 ⊢
  rw [List.take_left' (text_len p x), List.drop_left' (text_len p x)] at h2 ⊢
  rw [Bool.and_eq_true] at h2 ⊢
  refine ⟨decide_eq_true hT, ?_⟩
  have h3 := h2.2
  rw [List.idxOf_append, if_pos hT] at h3
  exact h3
theorem Good.text {l : List (List UInt8)} {p : Int} {x : X} {b : List UInt8} (h : Sup.Good l p x b) : rightF p x = 0 ∧ text p x ∈ l := Sup.dec_sound h.dec
theorem Good.uniq {l l' : List (List UInt8)} {p : Int} {x y : X} {b : List UInt8} (h : Sup.Good l p x b) (k : Sup.Good l' p y b) : x = y := by
  obtain ⟨h1, _, s, hs, rfl⟩ := h
  obtain ⟨k1, _, t, ht, e⟩ := k
  have := (List.append_inj e (by rw [text_len, text_len])).1
  exact text_inj h1 k1 this
theorem dec_good {l : List (List UInt8)} {p : Int} {b : List UInt8} {x : X} (h : Sec.decode (ckS l b) p b = (x, 0)) : Sup.Good l p x b := by
  have hs := Sup.dec_sound h
  have h0 := h
  unfold Sec.decode at h
  split at h
  · cases h
  · rename_i hl
    split at h
    · cases h
    · split at h
      · rename_i y hr
        split at h
        · rename_i hc
          injection h with h _
          subst h
          refine ⟨hs.1, hc, b.drop 504, by rw [List.length_drop]; omega, ?_⟩
          have ht : text p y = b.take 504 := by
            unfold Sec.reads at hr
            split at hr
            · rename_i hq
              injection hr with hr
              subst hr
              exact hq.2.2
            · cases hr
          rw [ht, List.take_append_drop]
        · cases h
      · cases h
end Go.Proofs.YtchcmklelmlbgaaGreat.Sto

/- The store, in plain Lean: its log and its lives wherever the power goes. No statement is proved here. -/
namespace Go.Proofs.YtchcmklelmlbgaaGreat.Sto
open Go.RowKit
open Go.Proofs.YtchcmklelmlbgaaGreat.Geom
open Go.Proofs.YtchcmklelmlbgaaGreat.Disk (St Wr write flush kept new zero512 restart)
open Go.Proofs.YtchcmklelmlbgaaGreat.Sec (X X0 text text_len rightF sumAfter ckS checkOf sumOf place_of)
open Go.Proofs.YtchcmklelmlbgaaGreat.Sup (UpN splace splace_ok splace_next sx sx_right sB sB_len sB_good sL wf wf_cases atR best best_first best_later SV text_inj isSup mem_after)
open Go.Proofs.YtchcmklelmlbgaaGreat.Snap (PagesOk px snapF snapR snapR_some rdAt_good area_eq area_inj area_apart next_odd)
open Go.Proofs.YtchcmklelmlbgaaGreat.Wal (Tx allSecs allSecs_at allSecs_snoc tSecs tSecs_len tSecs_at dSecs dSecs_len dSecs_get dSecs_take pl pl_eq pl_inj pl_bd badB badB_of putF PutT putF_turn scanTx scan_all rdL goodL tSecs_right LogC takes takes_all takes_data takes_append takes_fold okR_nil num num_append range_num scanH_done find_stop r00 scanH)
open Go.Proofs.YtchcmklelmlbgaaGreat.Enc (Enf More rd_good rd_zero kept_of encs enf encs_go encs_stop Itm restart_up)
set_option linter.unusedVariables false
/-- no sector of this kind is read at a place -/
def NoG (sm : List (List UInt8)) (all : List Wr) (p : Int) (Q : X → Prop) : Prop := ∀ y, Sup.Good sm p y (kept all p.toNat) → ¬ Q y
theorem NoG.keep {sm sm' : List (List UInt8)} {all all' : List Wr} {p : Int} {Q : X → Prop} (h : NoG sm all p Q) (e : Ext sm sm') (ht : ∀ y, rightF p y = 0 → text p y ∈ sm' → text p y ∈ sm ∨ ¬ Q y) (k : kept all' p.toNat = kept all p.toNat) : NoG sm' all' p Q := fun y hy hq => by
  rw [k] at hy
  obtain ⟨h1, h2⟩ := Good.text hy
  rcases ht y h1 h2 with h3 | h3
  · exact h y (Good.back hy e h3) hq
  · exact h3 hq
/-- the sectors that are read: those of the transactions, and perhaps pages of one more -/
def zsec (life : UInt64) (ts : List Tx) (gen : UInt64) (pgs : List Pg) : List X := allSecs life 0 ts ++ dSecs life (allSecs life 0 ts).length gen 0 pgs
theorem zsec_at (life : UInt64) (ts : List Tx) (gen : UInt64) (pgs : List Pg) (k : Nat) (h : k < (zsec life ts gen pgs).length) : (zsec life ts gen pgs)[k].life = life ∧ (zsec life ts gen pgs)[k].seq = (k : Int) := by
  have hl : (zsec life ts gen pgs).length = (allSecs life 0 ts).length + pgs.length := by simp [zsec, dSecs_len]
  have h' : k < (allSecs life 0 ts ++ dSecs life (allSecs life 0 ts).length gen 0 pgs).length := h
  show ((allSecs life 0 ts ++ dSecs life (allSecs life 0 ts).length gen 0 pgs)[k]'h').life = life ∧ ((allSecs life 0 ts ++ dSecs life (allSecs life 0 ts).length gen 0 pgs)[k]'h').seq = (k : Int)
  by_cases h1 : k < (allSecs life 0 ts).length
  · rw [List.getElem_append_left h1]
    have := allSecs_at life ts 0 k h1
    rw [Nat.zero_add] at this
    exact this
  · rw [List.getElem_append_right (by omega), dSecs_get _ _ _ _ _ _ _ (by omega)]
    refine ⟨rfl, ?_⟩
    show ((((allSecs life 0 ts).length + (0 + (k - (allSecs life 0 ts).length)) : Nat) : Int)) = k
    omega
/-- what the log's places are read as -/
structure LogS (ga gd gl base : Int) (life : UInt64) (sm : List (List UInt8)) (all : List Wr) (ts : List Tx) : Prop where
  ex : ∃ (gen : UInt64) (pgs : List Pg), (∀ x ∈ pgs, 0 ≤ x.n ∧ x.n < pagesOf ga gd gl) ∧ ((zsec life ts gen pgs).length : Int) ≤ gl ∧ (∀ k (h : k < (zsec life ts gen pgs).length), Sup.Good sm (pl ga gd gl base k) (zsec life ts gen pgs)[k] (kept all (pl ga gd gl base k).toNat)) ∧
    (((zsec life ts gen pgs).length : Int) = gl ∨ NoG sm all (pl ga gd gl base (zsec life ts gen pgs).length) (fun y => y.life = life ∧ y.seq = ((zsec life ts gen pgs).length : Int)))
theorem LogS.keep {ga gd gl base : Int} {life : UInt64} {sm sm' : List (List UInt8)} {all all' : List Wr} {ts : List Tx} (h : LogS ga gd gl base life sm all ts) (e : Ext sm sm') (m : More sm sm') (ht : ∀ (k : Nat) y, (k : Int) < gl → rightF (pl ga gd gl base k) y = 0 → text (pl ga gd gl base k) y ∈ sm' → text (pl ga gd gl base k) y ∈ sm) (k : ∀ k : Nat, (k : Int) < gl → kept all' (pl ga gd gl base k).toNat = kept all (pl ga gd gl base k).toNat) : LogS ga gd gl base life sm' all' ts := by
  obtain ⟨gen, pgs, h1, h2, h3, h4⟩ := h.ex
  refine ⟨gen, pgs, h1, h2, fun j hj => by rw [k j (by omega)]; exact m _ _ _ (h3 j hj), ?_⟩
  rcases h4 with h4 | h4
  · exact .inl h4
  · by_cases hz : ((zsec life ts gen pgs).length : Int) = gl
    · exact .inl hz
    · exact .inr (h4.keep e (fun y a b => .inl (ht _ y (by omega) a b)) (k _ (by omega)))
theorem LogS.scan {ga gd gl base : Int} {n : Nat} {life : UInt64} {sm : List (List UInt8)} {st : St} {ts : List Tx} (h : LogS ga gd gl base life sm st.all ts) (hu : UpN st n) (hr : right ga gd gl = true) (hb : 0 ≤ base) (hn : (n : Int) = Geom.sizeOf ga gd gl) (hx : ∀ t ∈ ts, ∀ x ∈ t.pages, 0 ≤ x.n ∧ x.n < pagesOf ga gd gl) : scanTx sm st ga gd gl base life = ts := by
  have hy := right_yes hr
  have hp := pagesOf_bd ga gd gl
  obtain ⟨gen, pgs, h1, h2, h3, h4⟩ := h.ex
  obtain ⟨Z, hZ⟩ : ∃ Z, Z = zsec life ts gen pgs := ⟨_, rfl⟩
  have hzat := zsec_at life ts gen pgs
  rw [← hZ] at h2 h3 h4 hzat
  have hZl : Z.length = (allSecs life 0 ts).length + pgs.length := by rw [hZ]; simp [zsec, dSecs_len]
  have hrd : ∀ k (hk : k < Z.length), rdL sm st ga gd gl base k = (Z[k], 0) := fun k hk => by
    have p := pl_bd (base := base) hr hb hn k
    exact rd_good hu p.1 p.2.1 (h3 k hk)
  have hg : ∀ k, k < Z.length → goodL sm st ga gd gl base life k = true := fun k hk => by
    have a := hzat k hk
    unfold goodL
    rw [hrd k hk]
    simp only [a.1, a.2]
    simp
  have he : Z.length = gl.toNat ∨ goodL sm st ga gd gl base life Z.length = false := by
    rcases h4 with h4 | h4
    · exact .inl (by omega)
    · right
      cases hgz : goodL sm st ga gd gl base life Z.length with
      | false => rfl
      | true =>
        unfold goodL at hgz
        simp only [Bool.and_eq_true, decide_eq_true_eq] at hgz
        have p := pl_bd (base := base) hr hb hn Z.length
        have hd : Sec.decode (ckS sm (kept st.all (pl ga gd gl base Z.length).toNat)) (pl ga gd gl base Z.length) (kept st.all (pl ga gd gl base Z.length).toNat) = ((rdL sm st ga gd gl base Z.length).1, 0) := by
          have e1 := hgz.1
          unfold rdL Enc.rd at e1 ⊢
          rw [hu.read p.1 p.2.1] at e1 ⊢
          simp only [] at e1 ⊢
          generalize Sec.decode (ckS sm (kept st.all (pl ga gd gl base Z.length).toNat)) (pl ga gd gl base Z.length) (kept st.all (pl ga gd gl base Z.length).toNat) = d at e1
          obtain ⟨x, f⟩ := d
          simp only at e1
          rw [e1]
        exact absurd hgz.2 (h4 _ (dec_good hd))
  have hm := range_num (rdf := fun k => (rdL sm st ga gd gl base k).1) (S := Z) (K := Z.length) (Nat.le_refl _) (fun k hk => by rw [List.getElem?_eq_getElem hk, hrd k hk])
  rw [List.take_length] at hm
  obtain ⟨g', e⟩ := takes_all (life := life) (np := pagesOf ga gd gl) (by omega) ts 0 [] 0 (by omega) hx
  obtain ⟨g2, f1, f2⟩ := takes_data (life := life) (gen := gen) (q := (allSecs life 0 ts).length) (np := pagesOf ga gd gl) (by omega) (by omega) pgs 0 ⟨[] ++ ts, [], g', 0 + (allSecs life 0 ts).length⟩ h1 (Nat.zero_add _) (fun h => absurd rfl h)
  have e3 := takes_append (pagesOf ga gd gl) (num 0 (allSecs life 0 ts)) (num (0 + (allSecs life 0 ts).length) (dSecs life (allSecs life 0 ts).length gen 0 pgs)) _ _ e
  rw [← num_append] at e3
  rw [Nat.add_zero] at f1
  rw [show 0 + (allSecs life 0 ts).length = (allSecs life 0 ts).length from Nat.zero_add _] at e3 f1
  rw [f1] at e3
  rw [show allSecs life 0 ts ++ dSecs life (allSecs life 0 ts).length gen 0 pgs = Z from hZ.symm] at e3
  obtain ⟨e1, e2⟩ := takes_fold (pagesOf ga gd gl) _ _ [] (okR_nil _) e3
  rw [List.nil_append] at e1 e2
  unfold scanTx
  rw [scanH_done (by omega) hg (by rw [hm]; exact e1) he, hm, e2]
  simp
/-- behind an append in which the power went -/
theorem LogS.crash {ga gd gl base : Int} {n : Nat} {life : UInt64} {sm : List (List UInt8)} {st : St} {ts : List Tx} {t : Tx} (h : LogC ga gd gl base n life sm st.all (allSecs life 0 ts) (allSecs life 0 ts ++ tSecs life (allSecs life 0 ts).length t)) (hu : UpN st n) (hr : right ga gd gl = true) (hb : 0 ≤ base) (hn : (n : Int) = Geom.sizeOf ga gd gl) (hl : ((allSecs life 0 ts).length : Int) + t.pages.length < gl) (hx : ∀ x ∈ t.pages, 0 ≤ x.n ∧ x.n < pagesOf ga gd gl) :
    LogS ga gd gl base life sm st.all ts ∨ LogS ga gd gl base life sm st.all (ts ++ [t]) := by
  obtain ⟨K, hK, hg, he⟩ := find_stop (goodL sm st ga gd gl base life) gl.toNat
  have hs := allSecs_snoc life ts 0 t
  rw [Nat.zero_add] at hs
  have htl := tSecs_len life (allSecs life 0 ts).length t
  obtain ⟨S, hS⟩ : ∃ S, S = allSecs life 0 ts ++ tSecs life (allSecs life 0 ts).length t := ⟨_, rfl⟩
  rw [← hS] at h hs
  have hSl : S.length = (allSecs life 0 ts).length + (t.pages.length + 1) := by rw [hS, List.length_append, htl]
  have hrd : ∀ k : Nat, (k : Int) < gl → goodL sm st ga gd gl base life k = true → Sup.Good sm (pl ga gd gl base k) (rdL sm st ga gd gl base k).1 (kept st.all (pl ga gd gl base k).toNat) ∧ S[k]? = some (rdL sm st ga gd gl base k).1 := fun k hk hgk => by
    refine ⟨?_, h.sound hk hgk⟩
    unfold goodL at hgk
    simp only [Bool.and_eq_true, decide_eq_true_eq] at hgk
    have p := pl_bd (base := base) hr hb hn k
    apply dec_good
    have e1 := hgk.1
    unfold rdL Enc.rd at e1 ⊢
    rw [hu.read p.1 p.2.1] at e1 ⊢
    simp only [] at e1 ⊢
    generalize Sec.decode (ckS sm (kept st.all (pl ga gd gl base k).toNat)) (pl ga gd gl base k) (kept st.all (pl ga gd gl base k).toNat) = d at e1
    obtain ⟨x, f⟩ := d
    simp only at e1
    rw [e1]
  have hKS : K ≤ S.length := by
    rcases Nat.lt_or_ge S.length K with h5 | h5
    · have := (hrd S.length (by omega) (hg _ h5)).2
      rw [List.getElem?_eq_none (Nat.le_refl _)] at this; cases this
    · exact h5
  have hMK : (allSecs life 0 ts).length ≤ K := by
    rcases Nat.lt_or_ge K (allSecs life 0 ts).length with h5 | h5
    · have := h.isgood hu hr hb hn h5
      rcases he with e | e
      · omega
      · rw [this] at e; cases e
    · exact h5
  have hgood : ∀ k (hk : k < K), Sup.Good sm (pl ga gd gl base k) (S[k]'(by omega)) (kept st.all (pl ga gd gl base k).toNat) := fun k hk => by
    obtain ⟨h5, h6⟩ := hrd k (by omega) (hg k hk)
    rw [List.getElem?_eq_getElem (by omega)] at h6
    rw [Option.some.inj h6]; exact h5
  have hstop : (K : Int) = gl ∨ NoG sm st.all (pl ga gd gl base K) (fun y => y.life = life ∧ y.seq = (K : Int)) := by
    have hy := right_yes hr
    rcases he with e | e
    · exact .inl (by omega)
    · right
      intro y hy' hq
      have p := pl_bd (base := base) hr hb hn K
      have e1 : rdL sm st ga gd gl base K = (y, 0) := rd_good hu p.1 p.2.1 hy'
      unfold goodL at e
      rw [e1] at e
      simp [hq.1, hq.2] at e
  by_cases hKe : K = S.length
  · right
    have hz : zsec life (ts ++ [t]) 0 [] = S := by rw [← hs]; simp [zsec, dSecs]
    refine ⟨0, [], fun x hx => (by cases hx), ?_⟩
    rw [hz]
    subst hKe
    exact ⟨by omega, fun k hk => hgood k hk, hstop⟩
  · left
    obtain ⟨j, hj⟩ : ∃ j, K = (allSecs life 0 ts).length + j := ⟨K - (allSecs life 0 ts).length, by omega⟩
    have hjl : j ≤ t.pages.length := by omega
    have htake : zsec life ts t.gen (t.pages.take j) = S.take K := by
      have hR : (allSecs life 0 ts ++ tSecs life (allSecs life 0 ts).length t).take ((allSecs life 0 ts).length + j) = allSecs life 0 ts ++ (tSecs life (allSecs life 0 ts).length t).take j := by
        rw [List.take_append, List.take_of_length_le (by omega), Nat.add_sub_cancel_left]
      rw [hS, hj, hR]
      unfold tSecs zsec
      rw [List.take_append_of_le_length (by rw [dSecs_len]; exact hjl), dSecs_take]
    have hln : (zsec life ts t.gen (t.pages.take j)).length = K := by rw [htake, List.length_take]; omega
    refine ⟨t.gen, t.pages.take j, fun x hx' => hx x (List.mem_of_mem_take hx'), by rw [hln]; omega, fun k hk => ?_, by rw [hln]; exact hstop⟩
    have hk' : k < K := by omega
    have e : (zsec life ts t.gen (t.pages.take j))[k] = S[k]'(by omega) := by
      have : (zsec life ts t.gen (t.pages.take j))[k]? = (S.take K)[k]? := by rw [htake]
      rw [List.getElem?_eq_getElem hk, List.getElem?_take_of_lt hk', List.getElem?_eq_getElem (by omega)] at this
      exact Option.some.inj this
    rw [e]
    exact hgood k hk'
theorem LogS.of_C {ga gd gl base : Int} {n : Nat} {life : UInt64} {sm : List (List UInt8)} {all : List Wr} {ts : List Tx} (h : LogC ga gd gl base n life sm all (allSecs life 0 ts) (allSecs life 0 ts)) (hl : ((allSecs life 0 ts).length : Int) ≤ gl) : LogS ga gd gl base life sm all ts := by
  have hz : zsec life ts 0 [] = allSecs life 0 ts := by simp [zsec, dSecs]
  refine ⟨0, [], fun x hx => (by cases hx), ?_⟩
  rw [hz]
  refine ⟨hl, h.good, ?_⟩
  by_cases e : ((allSecs life 0 ts).length : Int) = gl
  · exact .inl e
  · right
    intro y hy hq
    obtain ⟨h1, h2⟩ := Good.text hy
    have := h.only (allSecs life 0 ts).length y (by omega) h1 h2 hq.1
    rw [List.getElem?_eq_none (Nat.le_refl _)] at this; cases this
end Go.Proofs.YtchcmklelmlbgaaGreat.Sto

/- The store, in plain Lean: its lives wherever the power goes. No statement is proved here. -/
namespace Go.Proofs.YtchcmklelmlbgaaGreat.Sto
open Go.RowKit
open Go.Proofs.YtchcmklelmlbgaaGreat.Geom
open Go.Proofs.YtchcmklelmlbgaaGreat.Disk (St Wr write flush kept new zero512 restart)
open Go.Proofs.YtchcmklelmlbgaaGreat.Sec (X X0 text text_len rightF sumAfter ckS checkOf sumOf place_of)
open Go.Proofs.YtchcmklelmlbgaaGreat.Sup (UpN splace splace_ok splace_next sx sx_right sB sB_len sB_good sL wf wf_cases atR best best_first best_later SV text_inj isSup mem_after)
open Go.Proofs.YtchcmklelmlbgaaGreat.Snap (PagesOk px snapF snapR snapR_some rdAt_good area_eq area_inj area_apart next_odd)
open Go.Proofs.YtchcmklelmlbgaaGreat.Wal (Tx allSecs allSecs_at allSecs_snoc tSecs tSecs_len tSecs_at pl pl_eq pl_inj pl_bd badB badB_of putF PutT putF_turn scanTx tSecs_right LogC)
open Go.Proofs.YtchcmklelmlbgaaGreat.Enc (Enf More kept_of restart_up)
set_option linter.unusedVariables false
def nextB (gl base : Int) (life : UInt64) (ts : List Tx) : Int := (base + ((allSecs life 0 ts).length : Int)) % gl
/-- a sector of the next life, as it would begin -/
def NextAt (ga gd gl : Int) (life : UInt64) (base : Int) (gen0 : UInt64) (P0 : List (List UInt8)) (ts : List Tx) (p : Int) (y : X) : Prop :=
  (∃ k, ∃ h : k < (applyT P0 ts).length, p = areaAt ga gd gl (life + 1).toNat k ∧ y = px (life + 1) k (applyT P0 ts)[k]) ∨ (p = splace (life + 1) ∧ y = sx ga gd gl (life + 1) (nextB gl base life ts) (genT gen0 ts))
/-- a life on a disk, whatever stands of the next one -/
structure KB (ga gd gl : Int) (n : Nat) (sm : List (List UInt8)) (all : List Wr) (life : UInt64) (base : Int) (gen0 : UInt64) (P0 : List (List UInt8)) (ts : List Tx) : Prop where
  hb : 0 ≤ base ∧ base ≤ 1073741824
  pages : PagesOk ga gd gl n P0
  snap : ∀ k (hk : k < P0.length), Sup.Good sm (areaAt ga gd gl life.toNat k) (px life k P0[k]) (kept all (areaAt ga gd gl life.toNat k).toNat)
  sup : Sup.Good sm (splace life) (sx ga gd gl life base gen0) (kept all (splace life).toNat)
  log : LogS ga gd gl base life sm all ts
  len : ((allSecs life 0 ts).length : Int) ≤ gl
  bad : ∀ t ∈ ts, badB ga gd gl t.pages = false
  texts : ∀ (p : Int) (y : X), rightF p y = 0 → text p y ∈ sm → y.life.toNat ≤ life.toNat ∨ (y.life = life + 1 ∧ NextAt ga gd gl life base gen0 P0 ts p y)
/-- it counts -/
structure KC (ga gd gl : Int) (n : Nat) (sm : List (List UInt8)) (all : List Wr) (life : UInt64) (base : Int) (gen0 : UInt64) (P0 : List (List UInt8)) (ts : List Tx) : Prop where
  kb : KB ga gd gl n sm all life base gen0 P0 ts
  oth : NoG sm all (5 - splace life) (fun y => y.kind = 2 ∧ splace y.life = 5 - splace life ∧ ¬ y.life < life)
/-- its store may be turned -/
structure KA (ga gd gl : Int) (n : Nat) (sm : List (List UInt8)) (st : St) (life : UInt64) (base : Int) (gen0 : UInt64) (P0 : List (List UInt8)) (ts : List Tx) : Prop where
  kc : KC ga gd gl n sm st.all life base gen0 P0 ts
  size : st.size = n
  pend : st.pend = []
  down : st.down = false
  logc : LogC ga gd gl base n life sm st.all (allSecs life 0 ts) (allSecs life 0 ts)
  nonext : ∀ (p : Int) (y : X), rightF p y = 0 → text p y ∈ sm → y.life.toNat ≤ life.toNat
theorem pl_log {ga gd gl base : Int} (hr : right ga gd gl = true) (hb : 0 ≤ base) (k : Nat) : 4 ≤ pl ga gd gl base k ∧ pl ga gd gl base k < 4 + gl := by
  have hy := right_yes hr
  rw [pl_eq hr hb]
  have := Int.emod_nonneg (base + (k : Int)) (show gl ≠ 0 by omega)
  have := Int.emod_lt_of_pos (base + (k : Int)) (show 0 < gl by omega)
  omega
theorem area_high {ga gd gl : Int} {m k : Nat} (h : (k : Int) < pagesOf ga gd gl) : 4 + gl ≤ areaAt ga gd gl m k := by
  rw [area_eq h]
  have : 0 ≤ (m : Int) % 2 * pagesOf ga gd gl := Int.mul_nonneg (by omega) (by omega)
  omega
theorem NextAt.place {ga gd gl : Int} {n : Nat} {life : UInt64} {base : Int} {gen0 : UInt64} {P0 : List (List UInt8)} {ts : List Tx} {p : Int} {y : X} (h : NextAt ga gd gl life base gen0 P0 ts p y) (hP : PagesOk ga gd gl n P0) : p = splace (life + 1) ∨ 4 + gl ≤ p := by
  rcases h with ⟨k, hk, e, _⟩ | ⟨e, _⟩
  · right
    rw [applyT_len] at hk
    rw [e]
    exact area_high (by have := hP.len; omega)
  · exact .inl e
theorem life1 {life : UInt64} (h : life.toNat ≠ 18446744073709551615) : (life + 1).toNat = life.toNat + 1 := by
  have h1 : (life + 1).toNat = (life.toNat + 1) % 18446744073709551616 := by simp [UInt64.toNat_add]
  have h2 : life.toNat < 18446744073709551616 := life.toNat_lt
  omega
/-- elsewhere something is written -/
theorem KB.keep {ga gd gl : Int} {n : Nat} {sm sm' : List (List UInt8)} {all all' : List Wr} {life : UInt64} {base : Int} {gen0 : UInt64} {P0 : List (List UInt8)} {ts : List Tx} (h : KB ga gd gl n sm all life base gen0 P0 ts) (hr : right ga gd gl = true) (e : Ext sm sm') (m : More sm sm')
    (hs : ∀ k, k < P0.length → kept all' (areaAt ga gd gl life.toNat k).toNat = kept all (areaAt ga gd gl life.toNat k).toNat) (hp : kept all' (splace life).toNat = kept all (splace life).toNat) (hl : ∀ p : Int, 4 ≤ p → p < 4 + gl → kept all' p.toNat = kept all p.toNat)
    (ht : ∀ (p : Int) (y : X), rightF p y = 0 → text p y ∈ sm' → text p y ∈ sm ∨ (y.life = life + 1 ∧ NextAt ga gd gl life base gen0 P0 ts p y)) : KB ga gd gl n sm' all' life base gen0 P0 ts := by
  refine ⟨h.hb, h.pages, fun k hk => by rw [hs k hk]; exact m _ _ _ (h.snap k hk), by rw [hp]; exact m _ _ _ h.sup, h.log.keep e m (fun k y hk hy hT => ?_) (fun k hk => ?_), h.len, h.bad, fun p y hy hT => ?_⟩
  · rcases ht _ y hy hT with h1 | ⟨_, h1⟩
    · exact h1
    · have := pl_log (k := k) hr h.hb.1
      have := h1.place h.pages
      have := splace_ok (life + 1)
      omega
  · have := pl_log (k := k) hr h.hb.1
    exact hl _ this.1 this.2
  · rcases ht p y hy hT with h1 | h1
    · exact h.texts p y hy h1
    · exact .inr h1
/-- the next life has come to be -/
theorem KB.next {ga gd gl : Int} {n : Nat} {sm : List (List UInt8)} {all : List Wr} {life : UInt64} {base : Int} {gen0 : UInt64} {P0 : List (List UInt8)} {ts : List Tx} (h : KB ga gd gl n sm all life base gen0 P0 ts) (hr : right ga gd gl = true) (hL : life.toNat ≠ 18446744073709551615)
    (hg : ∀ k (hk : k < (applyT P0 ts).length), Sup.Good sm (areaAt ga gd gl (life + 1).toNat k) (px (life + 1) k (applyT P0 ts)[k]) (kept all (areaAt ga gd gl (life + 1).toNat k).toNat))
    (hs : Sup.Good sm (splace (life + 1)) (sx ga gd gl (life + 1) (nextB gl base life ts) (genT gen0 ts)) (kept all (splace (life + 1)).toNat)) :
    KC ga gd gl n sm all (life + 1) (nextB gl base life ts) (genT gen0 ts) (applyT P0 ts) [] ∧ LogC ga gd gl (nextB gl base life ts) n (life + 1) sm all [] [] ∧ ∀ (p : Int) (y : X), rightF p y = 0 → text p y ∈ sm → y.life.toNat ≤ (life + 1).toNat := by
  have hy := right_yes hr
  have hl1 := life1 hL
  have hnb : 0 ≤ nextB gl base life ts ∧ nextB gl base life ts ≤ 1073741824 := by
    unfold nextB
    have := Int.emod_nonneg (base + ((allSecs life 0 ts).length : Int)) (show gl ≠ 0 by omega)
    have := Int.emod_lt_of_pos (base + ((allSecs life 0 ts).length : Int)) (show 0 < gl by omega)
    omega
  have hall : ∀ (p : Int) (y : X), rightF p y = 0 → text p y ∈ sm → y.life.toNat ≤ (life + 1).toNat := fun p y h1 h2 => by
    rcases h.texts p y h1 h2 with h3 | ⟨h3, _⟩
    · omega
    · rw [h3]; exact Nat.le_refl _
  have hlc : LogC ga gd gl (nextB gl base life ts) n (life + 1) sm all [] [] := ⟨fun k hk => absurd hk (by simp), fun k x hk h1 h2 h3 => by
    rcases h.texts _ x h1 h2 with h4 | ⟨_, h4⟩
    · rw [h3] at h4; omega
    · have := pl_log (k := k) hr hnb.1
      have := h4.place h.pages
      have := splace_ok (life + 1)
      omega⟩
  refine ⟨⟨⟨hnb, applyT_ok _ _ h.pages h.bad, hg, hs, LogS.of_C (n := n) (by simpa [allSecs] using hlc) (by simp [allSecs]; omega), by simp [allSecs]; omega, fun t ht => (by cases ht), fun p y h1 h2 => .inl (hall p y h1 h2)⟩, fun y hy' hq => ?_⟩, hlc, hall⟩
  have hsn := splace_next life
  have e1 : 5 - splace (life + 1) = splace life := by omega
  rw [e1] at hy'
  have e2 := Good.uniq hy' h.sup
  refine hq.2.2 ?_
  rw [e2]
  exact life_next hL
end Go.Proofs.YtchcmklelmlbgaaGreat.Sto

/- The store, in plain Lean: appends, what is read, and how it begins, wherever the power goes. No statement is proved here. -/
namespace Go.Proofs.YtchcmklelmlbgaaGreat.Sto
open Go.RowKit
open Go.Proofs.YtchcmklelmlbgaaGreat.Geom
open Go.Proofs.YtchcmklelmlbgaaGreat.Disk (St Wr write flush kept new zero512 restart)
open Go.Proofs.YtchcmklelmlbgaaGreat.Sec (X X0 text text_len rightF sumAfter ckS checkOf sumOf place_of)
open Go.Proofs.YtchcmklelmlbgaaGreat.Sup (UpN splace splace_ok splace_next sx sx_right sB sB_len sB_good sL wf wf_cases atR best best_first best_later SV text_inj isSup mem_after)
open Go.Proofs.YtchcmklelmlbgaaGreat.Snap (PagesOk px snapF snapR snapR_some rdAt_good area_eq area_inj area_apart next_odd)
open Go.Proofs.YtchcmklelmlbgaaGreat.Wal (Tx allSecs allSecs_at allSecs_snoc tSecs tSecs_len tSecs_at pl pl_eq pl_inj pl_bd badB badB_of putF PutT putF_turn scanTx tSecs_right LogC)
open Go.Proofs.YtchcmklelmlbgaaGreat.Enc (Enf More kept_of restart_up)
set_option linter.unusedVariables false
theorem KC.wrote {ga gd gl : Int} {n : Nat} {sm sm' : List (List UInt8)} {all all' : List Wr} {life : UInt64} {base : Int} {gen0 : UInt64} {P0 : List (List UInt8)} {ts ts' : List Tx} (h : KC ga gd gl n sm all life base gen0 P0 ts) (hr : right ga gd gl = true) (e : Ext sm sm') (m : More sm sm') (hk : ∀ p : Int, 0 ≤ p → (p < 4 ∨ 4 + gl ≤ p) → kept all' p.toNat = kept all p.toNat)
    (ht : ∀ (p : Int) (y : X), rightF p y = 0 → text p y ∈ sm' → text p y ∈ sm ∨ (4 ≤ p ∧ p < 4 + gl)) (hn : ∀ (p : Int) (y : X), rightF p y = 0 → text p y ∈ sm' → y.life.toNat ≤ life.toNat) (hlog : LogS ga gd gl base life sm' all' ts') (hlen : ((allSecs life 0 ts').length : Int) ≤ gl) (hbad : ∀ t ∈ ts', badB ga gd gl t.pages = false) : KC ga gd gl n sm' all' life base gen0 P0 ts' := by
  have hsp := splace_ok life
  have hpl := h.kb.pages.len
  refine ⟨⟨h.kb.hb, h.kb.pages, fun k hk' => ?_, ?_, hlog, hlen, hbad, fun p y h1 h2 => .inl (hn p y h1 h2)⟩, ?_⟩
  · rw [hk _ (h.kb.pages.place life hk').1 (.inr (area_high (by omega)))]
    exact m _ _ _ (h.kb.snap k hk')
  · rw [hk _ (by omega) (.inl (by omega))]
    exact m _ _ _ h.kb.sup
  · refine h.oth.keep e (fun y h1 h2 => ?_) (hk _ (by omega) (.inl (by omega)))
    rcases ht _ y h1 h2 with h3 | h3
    · exact .inl h3
    · omega
/-- a transaction is appended, or the power goes in it -/
theorem KA.append {ga gd gl : Int} {n : Nat} {sm : List (List UInt8)} {st : St} {life : UInt64} {base : Int} {gen0 : UInt64} {P0 : List (List UInt8)} {ts : List Tx} {t : Tx} (h : KA ga gd gl n sm st life base gen0 P0 ts) (hr : right ga gd gl = true) (hl : ((allSecs life 0 ts).length : Int) + t.pages.length < gl) (hbd : badB ga gd gl t.pages = false) {V : List (List UInt8) × St × Int} (hV : V = putF ga gd gl base life (allSecs life 0 ts).length t.gen t.pages sm st) :
    (V.2.2 = 0 ∧ KA ga gd gl n V.1 V.2.1 life base gen0 P0 (ts ++ [t])) ∨
      (V.2.2 = 12 ∧ V.2.1.down = true ∧ ∀ keep torn a, UpN (restart V.2.1 keep torn a) n ∧ (KC ga gd gl n V.1 (restart V.2.1 keep torn a).all life base gen0 P0 ts ∨ KC ga gd gl n V.1 (restart V.2.1 keep torn a).all life base gen0 P0 (ts ++ [t]))) := by
  have hn := h.kc.kb.pages.size
  have hb := h.kc.kb.hb.1
  have hT := putF_turn (life := life) (q := (allSecs life 0 ts).length) (t := t) (sm := sm) h.size h.pend h.down hr hb hn hl hbd
  have hext : Ext sm V.1 := by rw [hV]; exact putF_ext _ _ _ _ _ _ _ _ _ _
  rw [← hV] at hT
  have hy := right_yes hr
  have hs := allSecs_snoc life ts 0 t
  rw [Nat.zero_add] at hs
  have htl := tSecs_len life (allSecs life 0 ts).length t
  have hlen : (allSecs life 0 (ts ++ [t])).length = (allSecs life 0 ts).length + (t.pages.length + 1) := by rw [hs, List.length_append, htl]
  have hbad : ∀ u ∈ ts ++ [t], badB ga gd gl u.pages = false := fun u hu => by
    rcases List.mem_append.1 hu with hu | hu
    · exact h.kc.kb.bad u hu
    · rw [List.mem_singleton] at hu; rw [hu]; exact hbd
  have htx : ∀ (p : Int) (y : X), rightF p y = 0 → text p y ∈ V.1 → text p y ∈ sm ∨ ((4 ≤ p ∧ p < 4 + gl) ∧ y.life = life) := fun p y h1 h2 => by
    rcases hT.text _ h2 with h3 | ⟨j, hj, h3⟩
    · exact .inl h3
    · have hR := tSecs_right (base := base) (life := life) hr hb hn hl hbd j hj
      have e1 := text_inj h1 hR h3
      subst e1
      have e2 := place_of h1 hR h3.symm
      have := pl_log (k := (allSecs life 0 ts).length + j) hr hb
      exact .inr ⟨by omega, (tSecs_at life _ t j hj).1⟩
  have hno : ∀ (p : Int) (y : X), rightF p y = 0 → text p y ∈ V.1 → y.life.toNat ≤ life.toNat := fun p y h1 h2 => by
    rcases htx p y h1 h2 with h3 | ⟨_, h3⟩
    · exact h.nonext p y h1 h3
    · rw [h3]; exact Nat.le_refl _
  have hkp : ∀ (all' m : List Wr), all' = st.all ++ m → (∀ w ∈ m, ∃ j : Nat, j < (tSecs life (allSecs life 0 ts).length t).length ∧ w.1 = (pl ga gd gl base ((allSecs life 0 ts).length + j)).toNat) → ∀ p : Int, 0 ≤ p → (p < 4 ∨ 4 + gl ≤ p) → kept all' p.toNat = kept st.all p.toNat := fun all' m ea hm p h0 hp => by
    rw [ea]
    refine Disk.kept_append _ _ _ (fun w hw he => ?_)
    obtain ⟨j, hj, e⟩ := hm w hw
    have := pl_log (k := (allSecs life 0 ts).length + j) hr hb
    omega
  rcases hT.res with ⟨r1, r2, _, m, r3, r4⟩ | ⟨r1, r2, r3, _, m, r5, r6, r7⟩
  · right
    refine ⟨r1, r2, fun keep torn a => ?_⟩
    obtain ⟨u, hc⟩ := h.logc.crash hr hb hn hl hbd hT (by rw [r1]; decide) keep torn a
    obtain ⟨_, _, m', e1, e2⟩ := restart_up hT.size keep torn a
    have hk := hkp (restart V.2.1 keep torn a).all (m ++ m') (by rw [e1, r3, List.append_assoc]) (fun w hw => by
      rcases List.mem_append.1 hw with hw | hw
      · exact r4 w (List.mem_append.2 (.inl hw))
      · obtain ⟨v, hv, ev⟩ := e2 w hw
        obtain ⟨j, hj, ej⟩ := r4 v (List.mem_append.2 (.inr hv))
        exact ⟨j, hj, ev.trans ej⟩)
    refine ⟨u, ?_⟩
    rcases LogS.crash hc u hr hb hn hl (bad_num hbd) with hc | hc
    · exact .inl (h.kc.wrote hr hext hT.more hk (fun p y h1 h2 => (htx p y h1 h2).imp id (fun h => h.1)) hno hc h.kc.kb.len h.kc.kb.bad)
    · exact .inr (h.kc.wrote hr hext hT.more hk (fun p y h1 h2 => (htx p y h1 h2).imp id (fun h => h.1)) hno hc (by rw [hlen]; omega) hbad)
  · left
    have hlc := h.logc.append hr hb hn hl hbd hT r1
    rw [← hs] at hlc
    have hk := hkp V.2.1.all m r5 (fun w hw => by
      obtain ⟨j, hj, rfl⟩ := List.mem_iff_getElem.1 hw
      exact ⟨j, by omega, (r7 j hj (by omega)).1⟩)
    exact ⟨r1, h.kc.wrote hr hext hT.more hk (fun p y h1 h2 => (htx p y h1 h2).imp id (fun h => h.1)) hno (LogS.of_C hlc (by rw [hlen]; omega)) (by rw [hlen]; omega) hbad, hT.size, r3, r2, hlc, hno⟩
/-! what is read -/
theorem KC.super {ga gd gl : Int} {n : Nat} {sm : List (List UInt8)} {st : St} {life : UInt64} {base : Int} {gen0 : UInt64} {P0 : List (List UInt8)} {ts : List Tx} (h : KC ga gd gl n sm st.all life base gen0 P0 ts) (hu : UpN st n) (hn : 4 ≤ n) : best (best none (atR sm st ga gd gl 2)) (atR sm st ga gd gl 3) = some ⟨life, base, gen0⟩ := by
  have hsp := splace_ok life
  have a1 := hu.at_own (by omega) h.kb.sup
  cases ha : atR sm st ga gd gl (5 - splace life) with
  | none => exact best_first (f := atR sm st ga gd gl) hsp rfl a1 ha
  | some x =>
    have hx : x.life < life := by
      unfold atR at ha
      split at ha
      · rename_i hs
        injection ha with ha
        unfold isSup at hs
        simp only [Bool.and_eq_true, decide_eq_true_eq] at hs
        obtain ⟨⟨⟨s1, s2⟩, s3⟩, _⟩ := hs
        unfold Sup.dec at s1 s2 s3 ha
        rw [hu.read (by omega) (by omega)] at s1 s2 s3 ha
        simp only [] at s1 s2 s3 ha
        have hd : Sec.decode (ckS sm (kept st.all (5 - splace life).toNat)) (5 - splace life) (kept st.all (5 - splace life).toNat) = ((Sec.decode (ckS sm (kept st.all (5 - splace life).toNat)) (5 - splace life) (kept st.all (5 - splace life).toNat)).1, 0) := by
          generalize Sec.decode (ckS sm (kept st.all (5 - splace life).toNat)) (5 - splace life) (kept st.all (5 - splace life).toNat) = d at s1
          obtain ⟨y, f⟩ := d
          simp only at s1
          rw [s1]
        have hg := dec_good hd
        have hno := h.oth _ hg
        rw [← ha]
        exact Decidable.byContradiction fun hc => hno ⟨s2, s3, hc⟩
      · cases ha
    exact best_later (f := atR sm st ga gd gl) (p := 5 - splace life) (q := splace life) (by omega) (by omega) ha a1 hx
theorem KC.read {ga gd gl : Int} {n : Nat} {sm : List (List UInt8)} {st : St} {life : UInt64} {base : Int} {gen0 : UInt64} {P0 : List (List UInt8)} {ts : List Tx} (h : KC ga gd gl n sm st.all life base gen0 P0 ts) (hu : UpN st n) : snapR sm st ga gd gl life P0.length = some P0 :=
  (snapR_some (fun k hk => rdAt_good hu h.kb.pages hk (h.kb.snap k hk))).1
theorem KC.scan {ga gd gl : Int} {n : Nat} {sm : List (List UInt8)} {st : St} {life : UInt64} {base : Int} {gen0 : UInt64} {P0 : List (List UInt8)} {ts : List Tx} (h : KC ga gd gl n sm st.all life base gen0 P0 ts) (hu : UpN st n) (hr : right ga gd gl = true) : scanTx sm st ga gd gl base life = ts :=
  h.kb.log.scan hu hr h.kb.hb.1 h.kb.pages.size (fun t ht => bad_num (h.kb.bad t ht))
/-! how it begins -/
end Go.Proofs.YtchcmklelmlbgaaGreat.Sto
