/- Texts of this claim, joined: WalTxQ, Snap8Q, SupL1Q, Rows20Q, SnapL1Q, WalL1Q, WalRf3Q, WalRefQ, OpenSecQ, OpenSecsQ, WalRfQ, WalRf2Q, WalRf4Q, StoFQ, Sto1Q, Eto2Q, Eto6Q, Eto7Q, Eto3Q, Eto4Q, Eto5Q, Eto8Q, SupL2Q, SnapRdQ, SnapL2Q, WalCallsQ, WalL2Q, Eto9Q, Eto10Q, Eto11Q. -/
import Derived.Test.YtchcmklelmlbgaaGreatStoreAnewF
import Derived.Test.YtchcmklelmlbgaaGreatStoreAnewE
import Derived.Test.YtchcmklelmlbgaaGreatStoreAnewD
import Derived.Test.YtchcmklelmlbgaaGreatStoreAnewB
import Derived.Lib.MinMax
import Derived.Deep.RegionLaw
import Derived.Test.YtchcmklelmlbgaaGreatStoreAnewA
import Derived.Test.YtchcmklelmlbgaaGreatRows
import Derived.Outline
import Derived.Deep.RegionHeld3
import Derived.Deep.RegionWith
import Derived.Deep.DeepCutAuto
/- Transactions ([]Txn) in memory: how they read, in blocks of a kind. No statement is proved here. -/
namespace Go.Proofs.YtchcmklelmlbgaaGreat.Wal
open Go.RowKit
set_option linter.unusedVariables false
instance : DecidableEq Pg := fun a b => decidable_of_iff (a.n = b.n ∧ a.body = b.body) ⟨fun h => by cases a; cases b; simp_all, fun h => by rw [h]; exact ⟨rfl, rfl⟩⟩
instance : DecidableEq Tx := fun a b => decidable_of_iff (a.pages = b.pages ∧ a.gen = b.gen) ⟨fun h => by cases a; cases b; simp_all, fun h => by rw [h]; exact ⟨rfl, rfl⟩⟩
/-- a transaction in two cells -/
structure TxAt (w : World) (Q : Nat → Prop) (b o : Nat) (x : Tx) (Ai : Option Addr) (ci : Nat) : Prop where
  c0 : w.cell? ⟨b, o, none⟩ = some (.slice Ai x.pages.length ci)
  c1 : w.cell? ⟨b, o + 1, none⟩ = some (.int .u64 (x.gen.toNat : Int))
  pgs : Pgs w Q Ai x.pages
  cap : x.pages.length ≤ ci
  max : ci ≤ maxLen
def Txs (w : World) (Q : Nat → Prop) (A : Option Addr) (l : List Tx) : Prop :=
  l ≠ [] → ∃ b off, A = some ⟨b, off, none⟩ ∧ b < w.heap.size ∧ Q b ∧ ∀ i (h : i < l.length), ∃ Ai ci, TxAt w Q b (off + i * 2) l[i] Ai ci
theorem Txs.nil (w : World) (Q : Nat → Prop) (A : Option Addr) : Txs w Q A [] := fun h => absurd rfl h
theorem Txs.get {w : World} {Q : Nat → Prop} {A : Option Addr} {l : List Tx} (h : Txs w Q A l) {i : Nat} (hi : i < l.length) :
    ∃ b off Ai ci, A = some ⟨b, off, none⟩ ∧ b < w.heap.size ∧ TxAt w Q b (off + i * 2) l[i] Ai ci := by
  obtain ⟨b, off, rfl, hb, _, hc⟩ := h (by intro e; rw [e] at hi; exact absurd hi (by simp))
  obtain ⟨Ai, ci, h1⟩ := hc i hi
  exact ⟨b, off, Ai, ci, rfl, hb, h1⟩
theorem TxAt.keep {w w' : World} {Q : Nat → Prop} {b o : Nat} {x : Tx} {Ai : Option Addr} {ci : Nat} {fp : List Nat} (h : TxAt w Q b o x Ai ci) (k : Keep fp w w') (hf : ∀ j, Q j → j < w.heap.size → j ∉ fp) (hb : b < w.heap.size) (hq : Q b) : TxAt w' Q b o x Ai ci :=
  ⟨(World.cell?_of_block (k.block hb (hf b hq hb))).trans h.c0, (World.cell?_of_block (k.block hb (hf b hq hb))).trans h.c1, h.pgs.keep k hf, h.cap, h.max⟩
theorem Txs.keep {w w' : World} {Q : Nat → Prop} {A : Option Addr} {l : List Tx} {fp : List Nat} (h : Txs w Q A l) (k : Keep fp w w') (hf : ∀ j, Q j → j < w.heap.size → j ∉ fp) : Txs w' Q A l := fun hne => by
  obtain ⟨b, off, rfl, hb, hq, hc⟩ := h hne
  refine ⟨b, off, rfl, Nat.lt_of_lt_of_le hb k.size, hq, fun i hi => ?_⟩
  obtain ⟨Ai, ci, h1⟩ := hc i hi
  exact ⟨Ai, ci, h1.keep k hf hb hq⟩
theorem Txs.on {w w' : World} {Q : Nat → Prop} {A : Option Addr} {l : List Tx} (h : Txs w Q A l) (b : Below w.heap.size w w') : Txs w' Q A l := h.keep (Keep.of_below b []) (fun j _ _ => by simp)
theorem Txs.imp {w : World} {Q Q' : Nat → Prop} {A : Option Addr} {l : List Tx} (h : Txs w Q A l) (hq : ∀ j, j < w.heap.size → Q j → Q' j) : Txs w Q' A l := fun hne => by
  obtain ⟨b, off, rfl, hb, h1, hc⟩ := h hne
  refine ⟨b, off, rfl, hb, hq b hb h1, fun i hi => ?_⟩
  obtain ⟨Ai, ci, h⟩ := hc i hi
  exact ⟨Ai, ci, h.c0, h.c1, h.pgs.imp hq, h.cap, h.max⟩
theorem flat2 {α : Type} {f : α → List Value} (hf : ∀ x, (f x).length = 2) : ∀ (l : List α) (i : Nat) (h : i < l.length) (k : Nat), k < 2 → (l.flatMap f)[i * 2 + k]? = (f l[i])[k]?
  | [], i, h, _, _ => by cases h
  | x :: l, 0, _, k, hk => by rw [List.flatMap_cons, List.getElem?_append_left (by rw [hf]; omega)]; simp
  | x :: l, i + 1, h, k, hk => by
    rw [List.flatMap_cons, List.getElem?_append_right (by rw [hf]; omega), hf, show (i + 1) * 2 + k - 2 = i * 2 + k by omega]
    simpa using flat2 hf l i (by simpa using h) k hk
theorem own_cell2 {w : World} {base n c g : Nat} {e : TypeId} {α : Type} {f : α → List Value} (hf : ∀ x, (f x).length = 2) {l : List α} (h : w.ownsRow base e 2 (.slice (some ⟨g, 0, none⟩) n c) n (l.flatMap f)) (i : Nat) (hi : i < l.length) (k : Nat) (hk : k < 2) : w.cell? ⟨g, i * 2 + k, none⟩ = (f l[i])[k]? := by
  have hl := h.1
  have h2 : (l.flatMap f).length = l.length * 2 := by
    clear h hl hi
    induction l with
    | nil => rfl
    | cons x l ih => rw [List.flatMap_cons, List.length_append, hf, ih, List.length_cons]; omega
  have := World.ownsRow.cellAt (j := i * 2 + k) h (by omega)
  rw [this]
  exact flat2 hf l i hi k hk
theorem PrOk.rdQ {w : World} {base : Nat} {p : Pr} (h : PrOk w base p) : RdQ w (fun j => base ≤ j) p.A (p.body.map e8) := fun hne => by
  obtain ⟨g, off, cs, e, hg, hh, hc⟩ := h.rd (fun e => hne (by rw [e]; rfl))
  refine ⟨g, off, e, lt_of_block hh, hg, fun i hi => ?_⟩
  rw [cell_of_row _ _ _ _ _ _ hh, hc i (by simpa using hi)]
  simp
theorem TrOk.pgs {w : World} {base : Nat} {now : Option Nat} {t : Tr} (h : TrOk w base now t) : Pgs w (fun j => base ≤ j) t.A (t.ps.map Pr.pg) := fun hne => by
  have hp : 0 < t.ps.length := by
    rcases Nat.eq_zero_or_pos t.ps.length with e | e
    · exact absurd (by rw [List.eq_nil_of_length_eq_zero e]; rfl) hne
    · exact e
  obtain ⟨g, c, e, hg⟩ := own_some h.row (by omega)
  unfold Tr.sl at e
  injection e with e1 e2 e3
  have hr := h.row
  unfold Tr.sl at hr
  rw [e1] at hr
  obtain ⟨cs, hcs⟩ := Disk.own_blk hr
  refine ⟨g, 0, e1, lt_of_block hcs, by omega, fun i hi => ?_⟩
  have hi' : i < t.ps.length := by simpa using hi
  have hk := h.pages _ (List.getElem_mem hi')
  have c0 := own_cell2 (f := Pr.cells) (fun _ => rfl) hr i hi' 0 (by omega)
  have c1 := own_cell2 (f := Pr.cells) (fun _ => rfl) hr i hi' 1 (by omega)
  refine ⟨t.ps[i].A, t.ps[i].c, ?_⟩
  rw [Nat.zero_add, List.getElem_map]
  exact ⟨by simpa [Pr.cells, Pr.pg] using c0, by simpa [Pr.cells, Pr.pg] using c1, hk.rdQ, hk.cap, hk.max, by have := hk.lo; show _ ≤ t.ps[i].n; omega, by have := hk.hi; show t.ps[i].n ≤ _; omega⟩
theorem OwnTx.txs {w : World} {base : Nat} {v : Value} {l : List Tx} (h : OwnTx w base v l) : ∃ A c, v = .slice A l.length c ∧ Txs w (fun j => base ≤ j) A l ∧ l.length ≤ c ∧ c ≤ maxLen := by
  obtain ⟨trs, hr, rfl, hok, _⟩ := h
  obtain ⟨A, c, rfl⟩ := own_form hr
  have hcp := Disk.own_caps hr
  refine ⟨A, c, by simp, fun hne => ?_, by simpa using hcp.1, hcp.2⟩
  have hp : 0 < trs.length := by
    rcases Nat.eq_zero_or_pos trs.length with e | e
    · exact absurd (by rw [List.eq_nil_of_length_eq_zero e]; rfl) hne
    · exact e
  obtain ⟨g, c', e, hg⟩ := own_some hr (by omega)
  injection e with e1 e2 e3
  subst e1
  obtain ⟨cs, hcs⟩ := Disk.own_blk hr
  refine ⟨g, 0, rfl, lt_of_block hcs, by omega, fun i hi => ?_⟩
  have hi' : i < trs.length := by simpa using hi
  have hk := hok _ (List.getElem_mem hi')
  have c0 := own_cell2 (f := Tr.cells) (fun _ => rfl) hr i hi' 0 (by omega)
  have c1 := own_cell2 (f := Tr.cells) (fun _ => rfl) hr i hi' 1 (by omega)
  have hc2 := Disk.own_caps hk.row
  refine ⟨trs[i].A, trs[i].c, ?_⟩
  rw [Nat.zero_add, List.getElem_map]
  exact ⟨by simpa [Tr.cells, Tr.sl, Tr.tx] using c0, by simpa [Tr.cells, Tr.tx] using c1, hk.pgs, by simpa [Tr.tx] using hc2.1, hc2.2⟩
end Go.Proofs.YtchcmklelmlbgaaGreat.Wal

/- The pages of a life: Bad of no disk; rows of bytes compared: Diff and Rows. -/
namespace Go.Proofs.YtchcmklelmlbgaaGreat.Snap
open Go.RowKit
open Go.Proofs.YtchcmklelmlbgaaGreat.Geom
open Go.Proofs.YtchcmklelmlbgaaGreat.Sup (Gb gv gcell srightF gthree)
set_option linter.unusedVariables false
set_option maxRecDepth 100000
end Go.Proofs.YtchcmklelmlbgaaGreat.Snap

/- What the laws on supers share: the reference's Mark, Place and Sector, the example. -/
namespace Go.Proofs.YtchcmklelmlbgaaGreat
end Go.Proofs.YtchcmklelmlbgaaGreat
namespace Go.Proofs.YtchcmklelmlbgaaGreat.Sup
open Go.RowKit
open Go.Proofs.YtchcmklelmlbgaaGreat.Geom
open Go.Proofs.YtchcmklelmlbgaaGreat.Disk (St DAt Did New8 Told8 new)
open Go.Proofs.YtchcmklelmlbgaaGreat.Sec (X SymAt text sumOf sumAfter ckS blankB rightF xv RetX X0 five5x symbolic_any bset5)
set_option linter.unusedVariables false
set_option maxRecDepth 100000
theorem newN_any (n : Nat) (z : Int) (hz : z = (n : Int)) (h1 : 1 ≤ n) (h2 : n ≤ 1024) (w : World) : Calls Tryz.prog 11 #[.int .i64 z] w fun e w' => ∃ g fp, e = .returned (.tuple #[.pointer (some ⟨g, 0, none⟩), .int .i64 0]) ∧ DAt w' g fp (new n) ∧ (∀ j ∈ fp, w.heap.size ≤ j) ∧ Below w.heap.size w w' := by
  subst hz
  refine (Disk.new_any n w (by omega) (by omega)).mono ?_
  rintro e w' ⟨h, b⟩
  rw [if_neg (by omega)] at h
  obtain ⟨g, fp, he, hd, hf⟩ := h
  exact ⟨g, fp, he, by simpa using hd, hf, b⟩
end Go.Proofs.YtchcmklelmlbgaaGreat.Sup

/- The document's comparisons: rows of bytes, rows of numbers. -/
namespace Go.Proofs.YtchcmklelmlbgaaGreat.R20
open Go.RowKit
set_option linter.unusedVariables false
set_option maxRecDepth 100000
theorem take_snoc_eq {α : Type} {a b : List α} {k : Nat} (ha : k < a.length) (hb : k < b.length) : a.take (k + 1) = b.take (k + 1) ↔ (a.take k = b.take k ∧ a[k] = b[k]) := by
  rw [List.take_succ_eq_append_getElem ha, List.take_succ_eq_append_getElem hb]
  constructor
  · intro h
    have h1 := List.append_inj_left h (by simp; omega)
    have h2 := List.append_inj_right h (by simp; omega)
    exact ⟨h1, by simpa using h2⟩
  · rintro ⟨h1, h2⟩
    rw [h1, h2]
def Diffs (d : Bool) (e : Ending) : Prop := ∃ C k c, e = .returned (.slice C k c) ∧ (((k : Nat) : Int) == 0) = d
theorem infoI : (Tryz.prog.info? 3).map (fun i => (i.zero, i.size, i.bytes)) = some (some (.int .i64 0), 1, 8) := by kernel_rfl
set_option maxHeartbeats 1000000 in
theorem diff_any (A B : Option Addr) (a b : List (List UInt8)) (n m ca cb : Nat) (w : World) (ha : Rws w w.heap.size A a) (hb : Rws w w.heap.size B b) (hn : n = a.length) (hm : m = n) (hl : a.length = b.length) (hl1 : n ≤ 1000) (hla : ∀ x ∈ a, x.length ≤ 1000000) (hlb : ∀ x ∈ b, x.length ≤ 1000000) :
    Calls Tryz.prog 56 #[.slice A n ca, .slice B m cb] w fun e w' => Diffs (decide (a = b)) e ∧ Below w.heap.size w w' := by
  subst hm
  obtain ⟨i0, hi0, hz0, hz1, hz2⟩ := info_parts infoI
  have Hn := Lib.hid hn
  have HL := Lib.hid hl
  clear hn hl
  go_enter Tryz.func56, Tryz.ntmps56
  go_wp2_with fail
  go_loopw [5, 6] (fun o i wr => ∃ k : Nat, k ≤ m ∧ i = .int .i64 (k : Int) ∧ Below w.heap.size w wr ∧ ∃ j xs, wr.ownsRow w.heap.size 3 1 o j xs ∧ j ≤ k ∧ Hid ((j = 0) ↔ a.take k = b.take k)) (fun _ i _ => m - (intOf i).toNat)
  case atStart => exact ⟨0, by omega, rfl, Below.refl _ _, 0, [], own_nil _ _ _ _, Nat.le_refl _, Lib.hid (by simp)⟩
  case round =>
    obtain ⟨k, hk, rfl, bel, j, xs, hown, hjk, hj⟩ := hrel
    have hmx : max (m : Int) (m : Int) = (m : Int) := by omega
    have hwk : wrap64 ((k : Int) + 1) = (k : Int) + 1 := by unfold wrap64; omega
    by_cases hlt : k < m
    · have hka : k < a.length := by have := Hn.out; omega
      have hkb : k < b.length := by have := Hn.out; have := HL.out; omega
      have hkm : (k : Int) < (m : Int) := by omega
      have hge : ¬ (m : Int) ≤ (k : Int) := by omega
      obtain ⟨b1, o1, A1, c1, rfl, hb1, hc1, hr1, _, _⟩ := (ha.below bel).get hka
      obtain ⟨b2, o2, A2, c2, rfl, hb2, hc2, hr2, _, _⟩ := (hb.below bel).get hkb
      have hS := fun W (bW : Below wr.heap.size wr W) => R1.same_any A1 A2 a[k] b[k] _ _ c1 c2 W rfl rfl ((hr1.below (bW.mono bel.size)).more (by have := bel.size; have := bW.size; omega)) ((hr2.below (bW.mono bel.size)).more (by have := bel.size; have := bW.size; omega)) (by have := hla _ (List.getElem_mem hka); omega) (by have := hlb _ (List.getElem_mem hkb); omega)
      have hst := take_snoc_eq hka hkb
      have hsame : R1.sameB a[k] b[k] = decide (a[k] = b[k]) := rfl
      obtain ⟨x, hx⟩ : ∃ x, x = a[k] := ⟨_, rfl⟩
      obtain ⟨y, hy⟩ : ∃ y, y = b[k] := ⟨_, rfl⟩
      rw [← hx, ← hy] at hS hst hsame
      rw [← hx] at hc1
      rw [← hy] at hc2
      have hb1' : b1 < wr.heap.size := by have := bel.size; omega
      have hb2' : b2 < wr.heap.size := by have := bel.size; omega
      by_cases he : x = y
      · rw [hsame, decide_eq_true he] at hS
        have HS := Lib.hid hS
        have Hst := Lib.hid hst
        have He := Lib.hid he
        clear hS hst hsame hx hy he hr1 hr2 ha hb
        go_wp2_with fail
        refine region_inb (by kernel_rfl) (by kernel_rfl) ?_
        have inbNe := InB.some
        have inbW := @wrap_small
        have inbU := IntKind.wrap_u8'
        repeat (refine wpQuiet_step (fun K hK => ?_); go_simp; first | (refine hK _ ?_; clear hK K) | (apply Exists.intro; refine ⟨?_, hK _ ?_⟩; (· (intro w' hw'; first | (go_at_call 95; refine (HS.out _ hw'.below).mono ?_; rintro e w1 ⟨rfl, b1⟩; exact ⟨rfl, hw'.on b1⟩) | (have hcw := hw'.cell; go_simp; exact rfl))); clear hK K))
        refine wpQuiet_nil ?_
        intro wq hq
        clear inbNe inbW inbU
        go_wp2
        case roundEnd => exact ⟨⟨k + 1, by omega, rfl, bt bel hq.below, j, xs, own_on hown hq.below, by omega, Lib.hid (by rw [hj.out, Hst.out]; exact ⟨fun h => ⟨h, He.out⟩, fun h => h.1⟩)⟩, by simp only [intOf]; omega⟩
      · rw [hsame, decide_eq_false he] at hS
        have HS := Lib.hid hS
        have Hst := Lib.hid hst
        have He := Lib.hid he
        clear hS hst hsame hx hy he hr1 hr2 ha hb
        obtain ⟨A5, c5, rfl⟩ := own_form hown
        go_wp2_with fail
        refine region_inb (by kernel_rfl) (by kernel_rfl) ?_
        have inbNe := InB.some
        have inbW := @wrap_small
        have inbU := IntKind.wrap_u8'
        repeat (refine wpQuiet_step (fun K hK => ?_); go_simp; first | (refine hK _ ?_; clear hK K) | (apply Exists.intro; refine ⟨?_, hK _ ?_⟩; (· (intro w' hw'; first | (go_at_call 95; refine (HS.out _ hw'.below).mono ?_; rintro e w1 ⟨rfl, b1⟩; exact ⟨rfl, hw'.on b1⟩) | (have hcw := hw'.cell; go_simp; exact rfl))); clear hK K))
        refine wpQuiet_nil ?_
        intro wq hq
        clear inbNe inbW inbU
        have own2 := own_on hown hq.below
        have hsz2 := hq.below.size
        go_wp2_with (refine wpList_append_rd _ rfl _ _ _ rfl w.heap.size 3 i0 _ 1 8 Tryz.underlying66 hi0 hz0 hz1 hz2 rfl (by omega) _ j xs rfl (own2.alloc _) (wq.heap.size + 1) (some ⟨wq.heap.size, 0, none⟩) 1 1 [.int .i64 (k : Int)] rfl rfl (Rd.lit wq _ _ _ _ rfl (by omega)) (one_int _ _) (by simp only [maxLen]; omega) (by omega) (le_alloc (Nat.le_trans bel.size hsz2) _) ?_; intro v2 w2 hown2 hg2 hat2)
        have bel2 : Below w.heap.size w w2 := by
          refine ((bt bel hq.below).alloc (Nat.le_trans bel.size hsz2) _).grown hg2 (le_alloc (Nat.le_trans bel.size hsz2) _) (fun g hg => ?_)
          exact own_block hown hg
        case roundEnd => exact ⟨⟨k + 1, by omega, rfl, bel2, j + 1, _, hown2, by omega, Lib.hid ⟨fun h => absurd h (by omega), fun h => absurd (Hst.out.1 h).2 He.out⟩⟩, by simp only [intOf]; omega⟩
    · have hkm : k = m := by omega
      have hkn : ¬ (k : Int) < (m : Int) := by omega
      obtain ⟨A5, c5, rfl⟩ := own_form hown
      have Hk := Lib.hid hkm
      clear hkm
      go_wp2
      go_ret
      refine ⟨⟨A5, j, c5, rfl, ?_⟩, bel⟩
      have h1 := hj.out
      have h2 := Hk.out
      have h3 := Hn.out
      have h4 := HL.out
      rw [List.take_of_length_le (by omega), List.take_of_length_le (by omega)] at h1
      by_cases hj0 : j = 0
      · rw [beq_yes (by omega), decide_eq_true (h1.1 hj0)]
      · rw [beq_no (by omega), decide_eq_false (fun e => hj0 (h1.2 e))]
theorem rows_any (A B : Option Addr) (a b : List (List UInt8)) (n m ca cb : Nat) (w : World) (ha : Rws w w.heap.size A a) (hb : Rws w w.heap.size B b) (hn : n = a.length) (hm : m = b.length) (hl1 : n ≤ 1000) (hla : ∀ x ∈ a, x.length ≤ 1000000) (hlb : ∀ x ∈ b, x.length ≤ 1000000) :
    Calls Tryz.prog 18 #[.slice A n ca, .slice B m cb] w fun e w' => e = .returned (.bool (decide (a = b))) ∧ Below w.heap.size w w' := by
  by_cases hl : n = m
  · have HD := Lib.hid (diff_any A B a b n m ca cb w ha hb hn hl.symm (by omega) hl1 hla hlb)
    obtain ⟨d, hd⟩ : ∃ d, d = decide (a = b) := ⟨_, rfl⟩
    rw [← hd] at HD ⊢
    have t0 := bne_no (show (n : Int) = (m : Int) by omega)
    clear ha hb hn hm hd hl hla hlb
    go_enter Tryz.func18, Tryz.ntmps18
    go_wp2_with (go_at_call 56; refine HD.out.mono ?_; rintro e w1 ⟨⟨C, k, c, rfl, hk⟩, b1⟩)
    go_ret
    exact ⟨by first | rfl | exact ret_bool hk, b1⟩
  · have hne : decide (a = b) = false := decide_eq_false (fun e => hl (by rw [hn, hm, e]))
    rw [hne]
    have t0 := bne_yes (show (n : Int) ≠ (m : Int) by omega)
    clear ha hb hn hm hl hla hlb hne
    go_enter Tryz.func18, Tryz.ntmps18
    go_wp2
    go_ret
    exact ⟨rfl, Below.refl _ _⟩
end Go.Proofs.YtchcmklelmlbgaaGreat.R20

/- What the laws on pages share: which are light, which may be, the reference's sector, the example. -/
namespace Go.Proofs.YtchcmklelmlbgaaGreat.Snap
open Go.RowKit
open Go.Proofs.YtchcmklelmlbgaaGreat.Geom
open Go.Proofs.YtchcmklelmlbgaaGreat.Disk (St DAt Did New8 Told8 new)
open Go.Proofs.YtchcmklelmlbgaaGreat.Sup (Gb gv gcell srightF gthree newN_any UpN up_new srightF_new)
open Go.Proofs.YtchcmklelmlbgaaGreat.Sec (X SymAt text sumOf sumAfter ckS blankB rightF xv RetX X0 five5x symbolic_any bset5)
set_option linter.unusedVariables false
set_option maxRecDepth 100000
theorem OwnRows.rws {w : World} {base : Nat} {A : Option Addr} {n c : Nat} {l : List (List UInt8)} (h : OwnRows w base (.slice A n c) l) (hn : n = l.length) : Rws w w.heap.size A l := by
  obtain ⟨its, hown, rfl, hall⟩ := h
  rw [List.length_map] at hn
  subst hn
  have hrd := RdQ.own hown
  intro hne
  have hne' : its.map It.sl ≠ [] := by intro e; apply hne; simp at e; simp [e]
  obtain ⟨b, off, rfl, hb, _, hc⟩ := hrd hne'
  refine ⟨b, off, rfl, hb, fun i hi => ?_⟩
  have hi' : i < its.length := by simpa using hi
  have h1 := hc i (by simpa using hi')
  rw [List.getElem_map] at h1
  have h2 := hall _ (List.getElem_mem hi')
  refine ⟨its[i].A, its[i].c, ?_, ?_, ?_, ?_⟩
  · rw [h1]; simp [It.sl]
  · rw [List.getElem_map]; exact Rd.own h2.1
  · rw [List.getElem_map]; exact (own_cap h2.1).1
  · exact (own_cap h2.1).2
theorem OwnRows.on {w w' : World} {base : Nat} {v : Value} {l : List (List UInt8)} (h : OwnRows w base v l) (b : Below w.heap.size w w') : OwnRows w' base v l := by
  obtain ⟨its, hown, hl, hall⟩ := h
  exact ⟨its, own_on hown b, hl, fun x hx => (hall x hx).on b⟩
theorem OwnRows.short {w : World} {base : Nat} {v : Value} {l : List (List UInt8)} (h : OwnRows w base v l) : ∀ x ∈ l, x.length ≤ 1000000 := by
  obtain ⟨its, _, rfl, hall⟩ := h
  intro x hx
  obtain ⟨y, hy, rfl⟩ := List.mem_map.1 hx
  have := (hall y hy).2
  omega
end Go.Proofs.YtchcmklelmlbgaaGreat.Snap

/- The laws of the log: a log beside a disk, and the chapter's example. No statement is proved here. -/
namespace Go.Proofs.YtchcmklelmlbgaaGreat.Wal
open Go.RowKit
open Go.Proofs.YtchcmklelmlbgaaGreat.Geom
open Go.Proofs.YtchcmklelmlbgaaGreat.Sup (Gb gv gcell gthree newN_any UpN up_new)
open Go.Proofs.YtchcmklelmlbgaaGreat.Disk (St DAt new)
open Go.Proofs.YtchcmklelmlbgaaGreat.Sec (X symbolic_any)
set_option linter.unusedVariables false
set_option maxRecDepth 100000
/-- in a law: a log in a block of the law's own, beside the disk -/
structure HereL (w0 w : World) (g : Nat) (fp : List Nat) (s : St) (gS bS : Nat) (l : List (List UInt8)) (L : Nat) (ga gd gl : Int) (life : UInt64) (base : Int) (seq : Nat) : Prop where
  both : Both w g fp s gS bS l
  bel : Below w0.heap.size w0 w
  own : ∀ j ∈ L :: bS :: fp, w0.heap.size ≤ j
  lat : LAt w L g gS ga gd gl life base seq
  nL : L ∉ bS :: gS :: fp
theorem HereL.on {w0 w w' : World} {g : Nat} {fp : List Nat} {s : St} {gS bS : Nat} {l : List (List UInt8)} {L : Nat} {ga gd gl : Int} {life : UInt64} {base : Int} {seq : Nat} (h : HereL w0 w g fp s gS bS l L ga gd gl life base seq) (b : Below w.heap.size w w') : HereL w0 w' g fp s gS bS l L ga gd gl life base seq := ⟨h.both.on b, bt h.bel b, h.own, h.lat.on b, h.nL⟩
theorem HereL.turn {w0 w w' : World} {g : Nat} {fp : List Nat} {s s' : St} {gS bS : Nat} {l l' : List (List UInt8)} {L : Nat} {ga gd gl : Int} {life : UInt64} {base : Int} {seq seq' : Nat} (h : HereL w0 w g fp s gS bS l L ga gd gl life base seq) (t : WTurn w g fp gS bS L ga gd gl life base s' l' seq' w') : ∃ fp', HereL w0 w' g fp' s' gS bS l' L ga gd gl life base seq' := by
  obtain ⟨fp', b, k, f, la⟩ := t
  refine ⟨fp', b, h.bel.trans (k.below h.own h.bel.size), fun j hj => ?_, la, fun hj => ?_⟩
  · rcases List.mem_cons.1 hj with e | hj
    · exact h.own j (by rw [e]; simp)
    rcases List.mem_cons.1 hj with e | hj
    · exact h.own j (by rw [e]; simp)
    · exact f.ge (fun i hi => h.own i (by simp [hi])) h.bel.size j hj
  · rcases List.mem_cons.1 hj with e | hj
    · exact h.nL (by rw [e]; simp)
    rcases List.mem_cons.1 hj with e | hj
    · exact h.nL (by rw [e]; simp)
    · exact f.out h.lat.lt (fun e => h.nL (by simp [e])) hj
theorem HereL.start {w0 w w' : World} {g : Nat} {fp : List Nat} {s : St} {gS bS : Nat} {l : List (List UInt8)} {ga gd gl : Int} {life : UInt64} {base : Int} {L : Nat} (h : Here w0 w g fp s gS bS l) (hL : L = w.heap.size + 1) (ha : LAt w' L g gS ga gd gl life base 0) (b : Below w.heap.size w w') : HereL w0 w' g fp s gS bS l L ga gd gl life base 0 := by
  subst hL
  refine ⟨h.both.on b, bt h.bel b, fun j hj => ?_, ha, fun hj => ?_⟩
  · have := h.bel.size
    rcases List.mem_cons.1 hj with e | hj
    · omega
    · exact h.own j hj
  · have h1 := h.both.sym.lt
    rcases List.mem_cons.1 hj with e | hj
    · omega
    rcases List.mem_cons.1 hj with e | hj
    · omega
    · have := h.both.disk.lt _ hj; omega
theorem HereL.here {w0 w : World} {g : Nat} {fp : List Nat} {s : St} {gS bS : Nat} {l : List (List UInt8)} {L : Nat} {ga gd gl : Int} {life : UInt64} {base : Int} {seq : Nat} (h : HereL w0 w g fp s gS bS l L ga gd gl life base seq) : Here w0 w g fp s gS bS l := ⟨h.both, h.bel, fun j hj => h.own j (by simp only [List.mem_cons] at hj ⊢; exact .inr hj)⟩
end Go.Proofs.YtchcmklelmlbgaaGreat.Wal

/- The laws of the log: which inputs are light, which pages may be, why a transaction is not appended. No statement is proved here. -/
namespace Go.Proofs.YtchcmklelmlbgaaGreat.Wal
open Go.RowKit
open Go.Proofs.YtchcmklelmlbgaaGreat.Geom
open Go.Proofs.YtchcmklelmlbgaaGreat.Sup (Gb gv gcell gthree)
set_option linter.unusedVariables false
set_option maxRecDepth 100000
attribute [local irreducible] wpQuiet
/-- what is light -/
structure LightOk (gl : Int) (l : List Tx) : Prop where
  log : ¬ (16 < gl ∧ gl ≤ 64)
  len : l.length ≤ 20
  pages : ∀ t ∈ l, t.pages.length ≤ 20 ∧ ∀ p ∈ t.pages, p.body.length ≤ 600
def LightRet (gl : Int) (l : List Tx) (e : Ending) : Prop := ∃ B : Bool, e = .returned (.bool B) ∧ (B = true → LightOk gl l)
set_option maxHeartbeats 2000000 in
theorem light_any (Q : Nat → Prop) (A : Option Addr) (l : List Tx) (c : Nat) (ga gd gl : Int) (w : World) (hr : Txs w Q A l) :
    Calls Tryz.prog 33 #[gv ga gd gl, .slice A l.length c] w fun e w' => LightRet gl l e ∧ Below w.heap.size w w' := by
  have FG := Blk.new w (gcell ga gd gl) 23
  have b0 := b1alloc w (.cells (gcell ga gd gl).toArray 23)
  obtain ⟨z0, z1, z2⟩ := gthree FG
  obtain ⟨N, hN⟩ : ∃ N, N = l.length := ⟨_, rfl⟩
  rw [← hN]
  have HN := Lib.hid hN
  have HR := Lib.hid (hr.on b0)
  clear hN hr FG
  by_cases h1 : 16 < gl ∧ gl ≤ 64
  · have h2 := h1.1
    have h3 := h1.2
    clear h1
    go_enter Tryz.func33, Tryz.ntmps33
    go_wp2
    all_goals (go_ret; exact ⟨⟨false, rfl, fun h => (by cases h)⟩, b0⟩)
  by_cases h20 : N ≤ 20
  rotate_left
  · have t2 : (20 : Int) < (N : Int) := by omega
    have t3 : (decide (16 < gl) && decide (gl ≤ 64)) = false := by
      rw [Bool.and_eq_false_iff, decide_eq_false_iff_not, decide_eq_false_iff_not]
      by_cases hx : 16 < gl
      · exact .inr (fun h => h1 ⟨hx, h⟩)
      · exact .inl hx
    clear h1 h20
    by_cases hx : 16 < gl
    · go_enter Tryz.func33, Tryz.ntmps33
      go_wp2
      all_goals (go_ret; exact ⟨⟨false, rfl, fun h => (by cases h)⟩, b0⟩)
    · go_enter Tryz.func33, Tryz.ntmps33
      go_wp2
      all_goals (go_ret; exact ⟨⟨false, rfl, fun h => (by cases h)⟩, b0⟩)
  have t2 : ¬ (20 : Int) < (N : Int) := by omega
  have H1 := Lib.hid h1
  have hsp : (16 < gl ∧ ¬ gl ≤ 64) ∨ ¬ 16 < gl := by
    by_cases hx : 16 < gl
    · exact .inl ⟨hx, fun h => h1 ⟨hx, h⟩⟩
    · exact .inr hx
  clear h1
  rcases hsp with ⟨hx, hy⟩ | hx
  all_goals
    go_enter Tryz.func33, Tryz.ntmps33
    go_wp2_with fail
    go_loopw [5] (fun i wr => ∃ k : Nat, k ≤ N ∧ i = .int .i64 (k : Int) ∧ wr = w.alloc (.cells (gcell ga gd gl).toArray 23) ∧ Hid (∀ t ∈ l.take k, t.pages.length ≤ 20 ∧ ∀ p ∈ t.pages, p.body.length ≤ 600)) (fun i _ => N - (intOf i).toNat)
    case atStart => exact ⟨0, Nat.zero_le _, rfl, rfl, Lib.hid (fun t ht => by simp at ht)⟩
    case round =>
      obtain ⟨k, hk, rfl, rfl, hid⟩ := hrel
      by_cases hlt : k < N
      · have hkm : (k : Int) < (N : Int) := by omega
        have hge : ¬ (N : Int) ≤ (k : Int) := by omega
        have hll : k < l.length := by have := HN.out; omega
        have htk : l.take (k + 1) = l.take k ++ [l[k]] := List.take_succ_eq_append_getElem hll
        obtain ⟨b, off, Ai, ci, rfl, hb, hT⟩ := HR.out.get hll
        obtain ⟨x, hx'⟩ : ∃ x, x = l[k] := ⟨_, rfl⟩
        rw [← hx'] at hT htk
        have c0 := hT.c0
        have HPg := Lib.hid hT.pgs
        have Htk := Lib.hid htk
        obtain ⟨m, hm⟩ : ∃ m, m = x.pages.length := ⟨_, rfl⟩
        rw [← hm] at c0
        have Hm := Lib.hid hm
        clear hm hT htk hx'
        by_cases hm20 : m ≤ 20
        rotate_left
        · have t5 : (20 : Int) < (m : Int) := by omega
          go_wp2
          go_ret
          exact ⟨⟨false, rfl, fun h => (by cases h)⟩, b0⟩
        have t5 : ¬ (20 : Int) < (m : Int) := by omega
        go_wp2_with fail
        go_loopw [6] (fun i wr => ∃ j : Nat, j ≤ m ∧ i = .int .i64 (j : Int) ∧ wr = w.alloc (.cells (gcell ga gd gl).toArray 23) ∧ Hid (∀ p ∈ x.pages.take j, p.body.length ≤ 600)) (fun i _ => m - (intOf i).toNat)
        case atStart => exact ⟨0, Nat.zero_le _, rfl, rfl, Lib.hid (fun t ht => by simp at ht)⟩
        case round =>
          obtain ⟨j, hj, rfl, rfl, hid2⟩ := hrel
          by_cases hjt : j < m
          · have hjm : (j : Int) < (m : Int) := by omega
            have hge2 : ¬ (m : Int) ≤ (j : Int) := by omega
            have hjl : j < x.pages.length := by have := Hm.out; omega
            have htj : x.pages.take (j + 1) = x.pages.take j ++ [x.pages[j]] := List.take_succ_eq_append_getElem hjl
            obtain ⟨b2, off2, Aj, cj, rfl, hb2, hP⟩ := HPg.out.get hjl
            obtain ⟨y, hy'⟩ : ∃ y, y = x.pages[j] := ⟨_, rfl⟩
            rw [← hy'] at hP htj
            have d1 := hP.c1
            have Htj := Lib.hid htj
            by_cases h600 : y.body.length ≤ 600
            · have t6 : ¬ (600 : Int) < (y.body.length : Int) := by omega
              have Hyl := Lib.hid h600
              clear hP htj hy' h600
              go_wp2
              case roundEnd => exact ⟨⟨j + 1, by omega, by go_num, by first | trivial | rfl, Lib.hid (by rw [Htj.out]; intro p hp; rcases List.mem_append.1 hp with hp | hp; (· exact hid2.out p hp); (· rw [List.mem_singleton] at hp; rw [hp]; exact Hyl.out))⟩, by simp only [intOf]; omega⟩
            · have t6 : (600 : Int) < (y.body.length : Int) := by omega
              clear hP htj hy' h600
              go_wp2
              go_ret
              exact ⟨⟨false, rfl, fun h => (by cases h)⟩, b0⟩
          · have hjm : j = m := by omega
            have hjn : ¬ (j : Int) < (m : Int) := by omega
            have Hj := Lib.hid hjm
            clear hjm
            go_wp2
            have hgo := Lib.hid (show ∀ t ∈ l.take (k + 1), t.pages.length ≤ 20 ∧ ∀ p ∈ t.pages, p.body.length ≤ 600 by
              rw [Htk.out]
              intro t ht
              rcases List.mem_append.1 ht with ht | ht
              · exact hid.out t ht
              · rw [List.mem_singleton] at ht
                rw [ht]
                have h2 := hid2.out
                rw [Hj.out, Hm.out, List.take_length] at h2
                exact ⟨by have := Hm.out; omega, h2⟩)
            exact ⟨⟨k + 1, by omega, by go_num, by first | trivial | rfl, Lib.hid hgo.out⟩, by simp only [intOf]; omega⟩
      · have hkm : k = N := by omega
        have hkn : ¬ (k : Int) < (N : Int) := by omega
        have Hk := Lib.hid hkm
        clear hkm
        go_wp2
        go_ret
        refine ⟨⟨true, rfl, fun _ => ⟨H1.out, by have := HN.out; omega, ?_⟩⟩, b0⟩
        have h2 := hid.out
        rw [Hk.out, HN.out, List.take_length] at h2
        exact h2
end Go.Proofs.YtchcmklelmlbgaaGreat.Wal

/- The log: the document's comparisons. No statement is proved here. -/
namespace Go.Proofs.YtchcmklelmlbgaaGreat.Wal
open Go.RowKit
set_option linter.unusedVariables false
set_option maxRecDepth 100000
attribute [local irreducible] wpQuiet
end Go.Proofs.YtchcmklelmlbgaaGreat.Wal

/- How a sector (a struct of five fields, one of them a slice of bytes) comes in as an argument. -/
namespace Go.Proofs.YtchcmklelmlbgaaGreat
open Go.ChangeShapes Go.WideShapes Go.ChangeAt Go.RowKit Go.Joins Go.Deep
set_option maxRecDepth 100000
set_option linter.unusedVariables false
end Go.Proofs.YtchcmklelmlbgaaGreat

/- Rows of sectors ([]Sector): how they read, and how they come in as an argument. -/
namespace Go.Proofs.YtchcmklelmlbgaaGreat
open Go.RowKit
set_option linter.unusedVariables false
/-- a sector in five cells -/
structure SecAt (w : World) (B b o : Nat) (x : Sec.X) (Ai : Option Addr) (ci : Nat) : Prop where
  c0 : w.cell? ⟨b, o, none⟩ = some (.int .i64 x.kind)
  c1 : w.cell? ⟨b, o + 1, none⟩ = some (.int .u64 (x.life.toNat : Int))
  c2 : w.cell? ⟨b, o + 2, none⟩ = some (.int .i64 x.seq)
  c3 : w.cell? ⟨b, o + 3, none⟩ = some (.int .u64 (x.gen.toNat : Int))
  c4 : w.cell? ⟨b, o + 4, none⟩ = some (.slice Ai x.body.length ci)
  rd : Rd w B Ai (x.body.map e8)
  cap : x.body.length ≤ ci
  max : ci ≤ maxLen
/-- a slice of sectors -/
def Secs (w : World) (B : Nat) (A : Option Addr) (l : List Sec.X) : Prop :=
  l ≠ [] → ∃ b off, A = some ⟨b, off, none⟩ ∧ b < B ∧ ∀ i (h : i < l.length), ∃ Ai ci, SecAt w B b (off + i * 5) l[i] Ai ci
theorem Secs.get {w : World} {B : Nat} {A : Option Addr} {l : List Sec.X} (h : Secs w B A l) {i : Nat} (hi : i < l.length) :
    ∃ b off Ai ci, A = some ⟨b, off, none⟩ ∧ b < B ∧ SecAt w B b (off + i * 5) l[i] Ai ci := by
  obtain ⟨b, off, rfl, hb, hc⟩ := h (by intro e; rw [e] at hi; exact absurd hi (by simp))
  obtain ⟨Ai, ci, h1⟩ := hc i hi
  exact ⟨b, off, Ai, ci, rfl, hb, h1⟩
theorem SecAt.below {w w' : World} {B b o : Nat} {x : Sec.X} {Ai : Option Addr} {ci : Nat} (h : SecAt w B b o x Ai ci) (hb : Below B w w') (hlt : b < B) : SecAt w' B b o x Ai ci :=
  ⟨(hb.cell (p := ⟨b, _, none⟩) hlt).trans h.c0, (hb.cell (p := ⟨b, _, none⟩) hlt).trans h.c1, (hb.cell (p := ⟨b, _, none⟩) hlt).trans h.c2, (hb.cell (p := ⟨b, _, none⟩) hlt).trans h.c3, (hb.cell (p := ⟨b, _, none⟩) hlt).trans h.c4, h.rd.below hb, h.cap, h.max⟩
theorem Secs.below {w w' : World} {B : Nat} {A : Option Addr} {l : List Sec.X} (h : Secs w B A l) (hb : Below B w w') : Secs w' B A l := by
  intro hne
  obtain ⟨b, off, rfl, hlt, hc⟩ := h hne
  refine ⟨b, off, rfl, hlt, fun i hi => ?_⟩
  obtain ⟨Ai, ci, h1⟩ := hc i hi
  exact ⟨Ai, ci, h1.below hb hlt⟩
open Go.ChangeShapes Go.WideShapes Go.ChangeAt Go.Joins Go.Deep
set_option maxRecDepth 100000
end Go.Proofs.YtchcmklelmlbgaaGreat

/- The log: what the document scans, and the laws' turning of transactions. No statement is proved here. -/
namespace Go.Proofs.YtchcmklelmlbgaaGreat.Wal
open Go.RowKit
open Go.Proofs.YtchcmklelmlbgaaGreat.Sec (X X0)
set_option linter.unusedVariables false
set_option maxRecDepth 100000
attribute [local irreducible] wpQuiet
/-- a page whose bytes lie below -/
structure PfOk (w : World) (n : Nat) (p : Pr) : Prop where
  rd : RdQ w (fun j => j < n) p.A (p.body.map e8)
  cap : p.body.length ≤ p.c
  max : p.c ≤ maxLen
  lo : 0 ≤ p.n
  hi : p.n ≤ 1000000
theorem PfOk.keep {w w' : World} {n : Nat} {p : Pr} (h : PfOk w n p) (hk : ∀ j, j < n → j < w.heap.size → w'.heap[j]? = w.heap[j]?) (hs : w.heap.size ≤ w'.heap.size) : PfOk w' n p :=
  ⟨fun hne => by obtain ⟨b, off, e, hb, hq, hc⟩ := h.rd hne; exact ⟨b, off, e, by omega, hq, fun i hi => (World.cell?_of_block (hk b hq hb)).trans (hc i hi)⟩, h.cap, h.max, h.lo, h.hi⟩
structure TfOk (w : World) (n0 n : Nat) (now : Option Nat) (t : Tr) : Prop where
  row : w.ownsRow n0 53 2 t.sl t.ps.length (t.ps.flatMap Pr.cells)
  ne : ∀ g, t.sl.ownBlock = some g → now ≠ some g
  pages : ∀ p ∈ t.ps, PfOk w n p
theorem TfOk.keep {w w' : World} {n0 n : Nat} {now now' : Option Nat} {t : Tr} (h : TfOk w n0 n now t) (hu : ∀ j, j < n → j < w.heap.size → w'.heap[j]? = w.heap[j]?) (hs : w.heap.size ≤ w'.heap.size)
    (hp : ∀ (j : Nat) (cs : Array Value), now ≠ some j → n0 ≤ j → w.heap[j]? = some (Obj.cells cs 53 (0, 0)) → w'.heap[j]? = w.heap[j]?) (hn : ∀ g, t.sl.ownBlock = some g → now' ≠ some g) : TfOk w' n0 n now' t :=
  ⟨own_keep h.row (fun j cs e hb hh => hp j cs (h.ne j e) hb hh), hn, fun p hpm => (h.pages p hpm).keep hu hs⟩
end Go.Proofs.YtchcmklelmlbgaaGreat.Wal

/- The log: what the document scans. No statement is proved here. -/
namespace Go.Proofs.YtchcmklelmlbgaaGreat.Wal
open Go.RowKit
open Go.Proofs.YtchcmklelmlbgaaGreat.Sec (X X0)
set_option linter.unusedVariables false
set_option maxRecDepth 100000
attribute [local irreducible] wpQuiet
end Go.Proofs.YtchcmklelmlbgaaGreat.Wal

/- The laws of the log: why a transaction is not appended; the document's sectors of one. No statement is proved here. -/
namespace Go.Proofs.YtchcmklelmlbgaaGreat.Wal
open Go.RowKit
open Go.Proofs.YtchcmklelmlbgaaGreat.Geom
open Go.Proofs.YtchcmklelmlbgaaGreat.Sup (Gb gv gcell gthree)
open Go.Proofs.YtchcmklelmlbgaaGreat.Num (putL putL_len)
open Go.Proofs.YtchcmklelmlbgaaGreat.Sec (X)
set_option linter.unusedVariables false
set_option maxRecDepth 100000
attribute [local irreducible] wpQuiet
/-- why a transaction is not appended -/
def whyF (ga gd gl : Int) (seq : Nat) (l : List Pg) : Int := if badB ga gd gl l = true then 2 else if fitsB ga gd gl l.length = false then 6 else if gl - (seq : Int) ≤ (l.length : Int) then 5 else 0
end Go.Proofs.YtchcmklelmlbgaaGreat.Wal

/- The store's functions, in plain Lean: what becomes of its mind, its disk and the sums. No statement is proved here. -/
namespace Go.Proofs.YtchcmklelmlbgaaGreat.Sto
open Go.RowKit
open Go.Proofs.YtchcmklelmlbgaaGreat.Geom
open Go.Proofs.YtchcmklelmlbgaaGreat.Disk (St Wr write flush kept new zero512)
open Go.Proofs.YtchcmklelmlbgaaGreat.Sup (splace sB sL wf)
open Go.Proofs.YtchcmklelmlbgaaGreat.Snap (snapF)
open Go.Proofs.YtchcmklelmlbgaaGreat.Wal (Tx badB putF whyF fitsB)
open Go.Proofs.YtchcmklelmlbgaaGreat.Enc (enf enf_lim)
set_option linter.unusedVariables false
/-- what a store has in mind -/
structure Z where
  life : UInt64
  base : Int
  gen : UInt64
  next : Int
  pages : List (List UInt8)
  due : Bool
  dead : Bool
  seq : Nat
  has : Bool
abbrev Out := List (List UInt8) × St × Int
/-- a life begins -/
def begF (ga gd gl : Int) (life : UInt64) (base : Int) (gen : UInt64) (P : List (List UInt8)) (l : List (List UInt8)) (s : St) : Out :=
  if (snapF ga gd gl life P l s).2.2 = 0 then
    (sL (snapF ga gd gl life P l s).1 ga gd gl life base gen, wf (snapF ga gd gl life P l s).2.1 (splace life) (sB (snapF ga gd gl life P l s).1 ga gd gl life base gen))
  else snapF ga gd gl life P l s
def baseN (gl : Int) (z : Z) : Int := if z.due = true then z.next else (z.base + (z.seq : Int)) % gl
def renO (ga gd gl : Int) (z : Z) (l : List (List UInt8)) (s : St) : Out := begF ga gd gl (z.life + 1) (baseN gl z) z.gen z.pages l s
def Z.begun (z : Z) (life : UInt64) (base : Int) (gen : UInt64) : Z := { z with life := life, base := base, gen := gen, due := false, seq := 0, has := true }
def Z.told (z : Z) (f : Int) : Z := { z with dead := z.dead || decide (f = 12) }
def Z.renew (gl : Int) (z : Z) (f : Int) : Z := if f = 0 then z.begun (z.life + 1) (baseN gl z) z.gen else z.told f
/-- a renewal, of a store that lives -/
def renF (ga gd gl : Int) (z : Z) (l : List (List UInt8)) (s : St) : Z × Out := (z.renew gl (renO ga gd gl z l s).2.2, renO ga gd gl z l s)
def appO (ga gd gl : Int) (z : Z) (pages : List Pg) (gen : UInt64) (l : List (List UInt8)) (s : St) : Out := putF ga gd gl z.base z.life z.seq gen pages l s
def Z.append (z : Z) (pages : List Pg) (gen : UInt64) (f : Int) : Z := if f = 0 then { z with pages := putP z.pages pages, gen := gen, seq := z.seq + (pages.length + 1) } else z.told f
def appF (ga gd gl : Int) (z : Z) (pages : List Pg) (gen : UInt64) (l : List (List UInt8)) (s : St) : Z × Out := (z.append pages gen (appO ga gd gl z pages gen l s).2.2, appO ga gd gl z pages gen l s)
/-- a commit, of a store that lives and is not to be renewed -/
def comF (ga gd gl : Int) (z : Z) (pages : List Pg) (gen : UInt64) (l : List (List UInt8)) (s : St) : Z × Out :=
  if whyF ga gd gl z.seq pages = 0 then appF ga gd gl z pages gen l s
  else if whyF ga gd gl z.seq pages = 5 then
    if (renO ga gd gl z l s).2.2 = 0 then appF ga gd gl (renF ga gd gl z l s).1 pages gen (renO ga gd gl z l s).1 (renO ga gd gl z l s).2.1
    else renF ga gd gl z l s
  else (z, l, s, whyF ga gd gl z.seq pages)
theorem begF_lim (ga gd gl : Int) (life : UInt64) (base : Int) (gen : UInt64) (P : List (List UInt8)) (l : List (List UInt8)) (s : St) : (begF ga gd gl life base gen P l s).1.length ≤ l.length + (P.length + 1) ∧ (begF ga gd gl life base gen P l s).2.1.sz ≤ s.sz + 2 * (P.length + 2) := by
  obtain ⟨h1, h2⟩ := enf_lim (Snap.pItems ga gd gl life 0 P) l s
  rw [Snap.pItems_len] at h1 h2
  unfold begF snapF
  split
  · have h3 := Enc.sumAfter_len (enf (Snap.pItems ga gd gl life 0 P) l s).1 (Sec.text (splace life) (Sup.sx ga gd gl life base gen))
    have h4 := Sup.wf_sz (enf (Snap.pItems ga gd gl life 0 P) l s).2.1 (splace life) (sB (enf (Snap.pItems ga gd gl life 0 P) l s).1 ga gd gl life base gen)
    refine ⟨?_, ?_⟩
    · show (Sec.sumAfter _ _).length ≤ _; omega
    · show (wf _ _ _).1.sz ≤ _; omega
  · omega
theorem why_cases (ga gd gl : Int) (seq : Nat) (l : List Pg) : whyF ga gd gl seq l = 0 ∨ whyF ga gd gl seq l = 2 ∨ whyF ga gd gl seq l = 5 ∨ whyF ga gd gl seq l = 6 := by
  unfold whyF
  split
  · exact .inr (.inl rfl)
  · split
    · exact .inr (.inr (.inr rfl))
    · split
      · exact .inr (.inr (.inl rfl))
      · exact .inl rfl
theorem why_full {ga gd gl : Int} {seq : Nat} {l : List Pg} (h : whyF ga gd gl seq l = 5) : badB ga gd gl l = false ∧ fitsB ga gd gl l.length = true ∧ gl - (seq : Int) ≤ (l.length : Int) := by
  unfold whyF at h
  split at h
  · cases h
  · rename_i h1
    split at h
    · cases h
    · rename_i h2
      split at h
      · rename_i h3
        exact ⟨by simpa using h1, by simpa using h2, h3⟩
      · cases h
theorem why_first {ga gd gl : Int} {seq : Nat} {l : List Pg} (h : whyF ga gd gl seq l = 5) : whyF ga gd gl 0 l = 0 := by
  obtain ⟨h1, h2, _⟩ := why_full h
  have h3 : (l.length : Int) < gl := by
    unfold fitsB at h2
    simp only [Bool.and_eq_true, decide_eq_true_eq] at h2
    exact h2.2.2
  unfold whyF
  rw [if_neg (by rw [h1]; decide), if_neg (by rw [h2]; decide), if_neg (by omega)]
theorem comF_lim (ga gd gl : Int) (z : Z) (pages : List Pg) (gen : UInt64) (l : List (List UInt8)) (s : St) : (comF ga gd gl z pages gen l s).2.1.length ≤ l.length + (z.pages.length + pages.length + 2) ∧ (comF ga gd gl z pages gen l s).2.2.1.sz ≤ s.sz + 2 * (z.pages.length + pages.length + 4) := by
  obtain ⟨b1, b2⟩ := begF_lim ga gd gl (z.life + 1) (baseN gl z) z.gen z.pages l s
  have ha := fun (z' : Z) (l' : List (List UInt8)) (s' : St) => Wal.putF_lim ga gd gl z'.base z'.life z'.seq ⟨pages, gen⟩ l' s'
  unfold comF
  split
  · have := ha z l s
    show (putF _ _ _ _ _ _ _ _ _ _).1.length ≤ _ ∧ (putF _ _ _ _ _ _ _ _ _ _).2.1.sz ≤ _
    simp only at this
    omega
  · split
    · split
      · have := ha (renF ga gd gl z l s).1 (renO ga gd gl z l s).1 (renO ga gd gl z l s).2.1
        show (putF _ _ _ _ _ _ _ _ _ _).1.length ≤ _ ∧ (putF _ _ _ _ _ _ _ _ _ _).2.1.sz ≤ _
        simp only at this
        unfold renO at this ⊢
        omega
      · show (begF _ _ _ _ _ _ _ _ _).1.length ≤ _ ∧ (begF _ _ _ _ _ _ _ _ _).2.1.sz ≤ _
        omega
    · show l.length ≤ _ ∧ s.sz ≤ _
      omega
theorem write_size (s : St) (p : Int) (b : List UInt8) : (write s p b).1.size = s.size := by
  unfold write
  split
  · rfl
  · split
    · rfl
    · split
      · rfl
      · exact (Disk.burn_lists _).2.2
theorem flush_size (s : St) : (flush s).1.size = s.size := by
  unfold flush
  split
  · rfl
  · split
    · exact (Disk.burn_lists _).2.2
    · exact (Disk.burn_lists _).2.2
theorem encs_size : ∀ (is : List Enc.Itm) (l : List (List UInt8)) (s : St), (Enc.encs is l s).2.1.size = s.size
  | [], l, s => rfl
  | i :: r, l, s => by
    by_cases h : (write s i.1 (Enc.xB l i.1 i.2)).2 = 0
    · rw [Enc.encs_go h, encs_size r]; exact write_size _ _ _
    · rw [Enc.encs_stop h]; exact write_size _ _ _
theorem enf_size (is : List Enc.Itm) (l : List (List UInt8)) (s : St) : (enf is l s).2.1.size = s.size := by
  unfold enf
  split
  · exact (flush_size _).trans (encs_size is l s)
  · exact encs_size is l s
theorem wf_size (s : St) (p : Int) (b : List UInt8) : (wf s p b).1.size = s.size := by
  unfold wf
  split
  · exact (flush_size _).trans (write_size _ _ _)
  · exact write_size _ _ _
theorem snapF_size (ga gd gl : Int) (life : UInt64) (P : List (List UInt8)) (l : List (List UInt8)) (s : St) : (snapF ga gd gl life P l s).2.1.size = s.size := enf_size _ _ _
theorem begF_size (ga gd gl : Int) (life : UInt64) (base : Int) (gen : UInt64) (P : List (List UInt8)) (l : List (List UInt8)) (s : St) : (begF ga gd gl life base gen P l s).2.1.size = s.size := by
  unfold begF
  split
  · exact (wf_size _ _ _).trans (snapF_size _ _ _ _ _ _ _)
  · exact snapF_size _ _ _ _ _ _ _
theorem sright_of {s s' : St} {ga gd gl : Int} (h : Sup.srightF s ga gd gl = 0) (e : s'.size = s.size) : Sup.srightF s' ga gd gl = 0 := by
  unfold Sup.srightF at h ⊢
  rw [e]; exact h
theorem wright_of {s : St} {ga gd gl base : Int} (h : Sup.srightF s ga gd gl = 0) (h0 : 0 ≤ base) (h1 : base ≤ 1073741824) : Wal.wrightF s ga gd gl base = 0 := by
  unfold Sup.srightF at h
  unfold Wal.wrightF
  split at h
  · rename_i h2
    rw [if_pos ⟨h2.1, h2.2, h0, h1⟩]
  · cases h
end Go.Proofs.YtchcmklelmlbgaaGreat.Sto

/- The store's steps: one of several that are done one behind the other, whatever they are. No statement is proved here. -/
namespace Go.Proofs.YtchcmklelmlbgaaGreat.Sto
open Go.RowKit
set_option linter.unusedVariables false
set_option maxRecDepth 100000
set_option maxHeartbeats 1000000 in
theorem steps_any (n c : Nat) (b off : Nat) (ks : Nat → FuncId) (rs cs : Nat → Array Value) (In : Nat → World → Prop) (Out : Int → World → Prop) (w : World) (hn : n ≤ 1000) (h0 : In 0 w)
    (hcell : ∀ i, i < n → ∀ W, In i W → W.cell? ⟨b, off + i, none⟩ = some (.func (.func (ks i)) (rs i) (cs i)))
    (hm : ∀ i, i < n → ∀ (x : Array Value) (W : World), Sem.run Tryz.prog (callFunc (ks i) x) W = .ok (.enter (ks i) x) W)
    (hcall : ∀ i, i < n → ∀ W, In i W → Calls Tryz.prog (ks i) (rs i ++ cs i) W fun e W' => ∃ f : Int, e = .returned (.int .i64 f) ∧ (f = 0 → In (i + 1) W') ∧ (f ≠ 0 → Out f W')) :
    Calls Tryz.prog 38 #[.slice (some ⟨b, off, none⟩) n c] w fun e w' => ∃ f : Int, e = .returned (.int .i64 f) ∧ (f = 0 → In n w') ∧ (f ≠ 0 → Out f w') := by
  go_enter Tryz.func38, Tryz.ntmps38
  go_wp2
  go_step3
  go_wp2
  go_step3
  go_wp2
  go_loopw [8] (fun i wr => ∃ k : Nat, k ≤ n ∧ i = .int .i64 k ∧ In k wr) (fun i _ => n - (intOf i).toNat)
  case atStart => exact ⟨0, by omega, rfl, h0⟩
  case round =>
    obtain ⟨k, hk, rfl, hI⟩ := hrel
    by_cases hlt : k < n
    · have hkn : (k : Int) < (n : Int) := by omega
      have z0 := hcell k hlt wr hI
      have hmk := hm k hlt
      have HC := Lib.hid (hcall k hlt wr hI)
      obtain ⟨kf, hkf⟩ : ∃ q, q = ks k := ⟨_, rfl⟩
      obtain ⟨rk, hrk⟩ : ∃ q, q = rs k := ⟨_, rfl⟩
      obtain ⟨ck, hck⟩ : ∃ q, q = cs k := ⟨_, rfl⟩
      rw [← hkf, ← hrk, ← hck] at z0 HC
      rw [← hkf] at hmk
      clear hkf hrk hck hcell hm hcall
      go_wp2_with fail
      refine HC.out.mono ?_
      rintro e w1 ⟨f, rfl, h1, h2⟩
      by_cases hf : f = 0
      · have hI1 := h1 hf
        have t0 := bne_no hf
        clear h1 h2
        go_wp2_with fail
        case roundEnd => exact ⟨⟨k + 1, by omega, rfl, hI1⟩, by simp only [intOf]; omega⟩
      · have hO := h2 hf
        have t0 := bne_yes hf
        clear h1 h2
        go_wp2_with fail
        try rw [Exit.noGoto_ret]
        go_ret
        exact ⟨f, rfl, fun e => absurd e hf, fun _ => hO⟩
    · obtain rfl : k = n := by omega
      clear hcell hm hcall
      go_wp2_with fail
      try rw [Exit.noGoto_ret]
      go_ret
      exact ⟨0, rfl, fun _ => hI, fun e => absurd rfl e⟩
end Go.Proofs.YtchcmklelmlbgaaGreat.Sto

/- A store in memory: its block, its row of pages, its log, beside its disk and its suite. No statement is proved here. -/
namespace Go.Proofs.YtchcmklelmlbgaaGreat.Sto
open Go.RowKit
open Go.Proofs.YtchcmklelmlbgaaGreat.Geom
open Go.Proofs.YtchcmklelmlbgaaGreat.Disk (St DAt Did)
open Go.Proofs.YtchcmklelmlbgaaGreat.Sup (Gb gv)
open Go.Proofs.YtchcmklelmlbgaaGreat.Wal (LAt lcell)
set_option linter.unusedVariables false
variable {ex : List Nat}
/-! a row of pages -/
def SRow (w : World) (R c : Nat) (P : List (List UInt8)) (Q : Nat → Prop) : Prop :=
  ∃ xs : List Value, w.ownsRow 0 51 1 (.slice (some ⟨R, 0, none⟩) P.length c) P.length xs ∧ ∀ i (h : i < P.length), ∃ Ai ci, xs[i]? = some (.slice Ai P[i].length ci) ∧ RdQ w Q Ai (P[i].map e8) ∧ P[i].length ≤ ci ∧ ci ≤ maxLen
theorem SRow.keep {w w' : World} {R c : Nat} {P : List (List UInt8)} {Q : Nat → Prop} {fp : List Nat} (h : SRow w R c P Q) (k : Keep fp w w') (hR : R ∉ fp) (hf : ∀ j, Q j → j < w.heap.size → j ∉ fp) : SRow w' R c P Q := by
  obtain ⟨xs, h1, h2⟩ := h
  refine ⟨xs, own_keep h1 k (fun g hg => by simp [Value.ownBlock] at hg; rw [← hg]; exact hR), fun i hi => ?_⟩
  obtain ⟨Ai, ci, a, b, d⟩ := h2 i hi
  exact ⟨Ai, ci, a, b.keep k hf, d⟩
theorem _root_.Go.Proofs.YtchcmklelmlbgaaGreat.RdQ.move {w w' : World} {Q Q' : Nat → Prop} {A : Option Addr} {xs : List Value} {fp : List Nat} (h : RdQ w Q A xs) (k : Keep fp w w') (hf : ∀ j, Q j → j < w.heap.size → j ∉ fp ∧ Q' j) : RdQ w' Q' A xs :=
  RdQ.keep (h.imp (Q' := fun j => Q j ∧ Q' j) (fun j hj hq => ⟨hq, (hf j hq hj).2⟩)) k (fun j hj hlt => (hf j hj.1 hlt).1) |>.imp (fun j _ h => h.2)
theorem SRow.move {w w' : World} {R c : Nat} {P : List (List UInt8)} {Q Q' : Nat → Prop} {fp : List Nat} (h : SRow w R c P Q) (k : Keep fp w w') (hR : R ∉ fp) (hf : ∀ j, Q j → j < w.heap.size → j ∉ fp ∧ Q' j) : SRow w' R c P Q' := by
  obtain ⟨xs, h1, h2⟩ := h
  refine ⟨xs, own_keep h1 k (fun g hg => by simp [Value.ownBlock] at hg; rw [← hg]; exact hR), fun i hi => ?_⟩
  obtain ⟨Ai, ci, a, b, d⟩ := h2 i hi
  exact ⟨Ai, ci, a, b.move k hf, d⟩
theorem SRow.on {w w' : World} {R c : Nat} {P : List (List UInt8)} {Q : Nat → Prop} (h : SRow w R c P Q) (b : Below w.heap.size w w') : SRow w' R c P Q := h.keep (Keep.of_below b []) (by simp) (fun _ _ _ => by simp)
theorem SRow.imp {w : World} {R c : Nat} {P : List (List UInt8)} {Q Q' : Nat → Prop} (h : SRow w R c P Q) (hq : ∀ j, j < w.heap.size → Q j → Q' j) : SRow w R c P Q' := by
  obtain ⟨xs, h1, h2⟩ := h
  refine ⟨xs, h1, fun i hi => ?_⟩
  obtain ⟨Ai, ci, a, b, d⟩ := h2 i hi
  exact ⟨Ai, ci, a, b.imp hq, d⟩
theorem SRow.lt {w : World} {R c : Nat} {P : List (List UInt8)} {Q : Nat → Prop} (h : SRow w R c P Q) : R < w.heap.size := by
  obtain ⟨xs, h1, _⟩ := h
  exact (h1.lt R rfl).2
theorem SRow.cap {w : World} {R c : Nat} {P : List (List UInt8)} {Q : Nat → Prop} (h : SRow w R c P Q) : P.length ≤ c ∧ c ≤ maxLen := by
  obtain ⟨xs, h1, _⟩ := h
  exact own_cap h1
theorem SRow.get {w : World} {R c : Nat} {P : List (List UInt8)} {Q : Nat → Prop} (h : SRow w R c P Q) {i : Nat} (hi : i < P.length) : ∃ Ai ci, w.cell? ⟨R, i, none⟩ = some (.slice Ai P[i].length ci) ∧ RdQ w Q Ai (P[i].map e8) ∧ P[i].length ≤ ci ∧ ci ≤ maxLen := by
  obtain ⟨xs, h1, h2⟩ := h
  obtain ⟨Ai, ci, a, b, d⟩ := h2 i hi
  exact ⟨Ai, ci, (World.ownsRow.cellAt (j := i) h1 (by omega)).trans a, b, d⟩
theorem SRow.free {w : World} {R c : Nat} {P : List (List UInt8)} {Q : Nat → Prop} (h : SRow w R c P Q) (i : Nat) : w.frozen? ⟨R, i, none⟩ = false := by
  obtain ⟨xs, h1, _⟩ := h
  exact h1.frozenAt i
theorem SRow.rw {w : World} {R c : Nat} {P : List (List UInt8)} {Q Q' : Nat → Prop} (h : SRow w R c P Q) (hq : ∀ j, j < w.heap.size → Q j → Q' j) (hR : Q' R) : Rw w Q' (some ⟨R, 0, none⟩) P := fun hne =>
  ⟨R, 0, rfl, h.lt, hR, fun i hi => by
    obtain ⟨Ai, ci, a, b, d⟩ := h.get hi
    exact ⟨Ai, ci, by rw [Nat.zero_add]; exact a, b.imp hq, d⟩⟩
theorem _root_.Go.Proofs.YtchcmklelmlbgaaGreat.RdQ.set {w : World} {Q : Nat → Prop} {A : Option Addr} {xs : List Value} {R i : Nat} (h : RdQ w Q A xs) (hR : ¬ Q R) (v : Value) : RdQ (w.setCell ⟨R, i, none⟩ v) Q A xs :=
  h.keep (fp := [R]) ((Keep.refl _ _).set (.inl (by simp)) _) (fun j hj _ e => hR (by rw [List.mem_singleton] at e; exact e ▸ hj))
theorem SRow.set {w : World} {R c : Nat} {P : List (List UInt8)} {Q : Nat → Prop} (h : SRow w R c P Q) (hR : ¬ Q R) (k : Nat) {m : List UInt8} {A : Option Addr} {ci : Nat} (hm : RdQ w Q A (m.map e8)) (h1 : m.length ≤ ci) (h2 : ci ≤ maxLen) :
    SRow (w.setCell ⟨R, k, none⟩ (.slice A m.length ci)) R c (P.set k m) Q := by
  obtain ⟨xs, o, hx⟩ := h
  have hxl : xs.length = P.length := by have := o.1; omega
  refine ⟨xs.set k (.slice A m.length ci), by rw [List.length_set]; exact (o.stored k _).1, fun i hi => ?_⟩
  rw [List.length_set] at hi
  by_cases e : k = i
  · subst e
    refine ⟨A, ci, ?_, ?_⟩
    · rw [List.getElem_set_self]; exact List.getElem?_set_self (by omega)
    · rw [List.getElem_set_self]; exact ⟨hm.set hR _, h1, h2⟩
  · obtain ⟨Ai, cj, a, b, d⟩ := hx i hi
    refine ⟨Ai, cj, ?_, ?_⟩
    · rw [List.getElem?_set_ne e, List.getElem_set_ne e]; exact a
    · rw [List.getElem_set_ne e]; exact ⟨b.set hR _, d⟩
/-! the store's block -/
abbrev xc (g gS : Nat) (ga gd gl : Int) (z : Z) (lv pv : Value) : List Value :=
  [.pointer (some ⟨g, 0, none⟩), .pointer (some ⟨gS, 0, none⟩), .int .i64 ga, .int .i64 gd, .int .i64 gl, .int .u64 (z.life.toNat : Int), .int .i64 z.base, .int .u64 (z.gen.toNat : Int), lv, .int .i64 z.next, pv, .bool z.due, .bool z.dead]
theorem thirteen {w : World} {X : Nat} {a0 a1 a2 a3 a4 a5 a6 a7 a8 a9 a10 a11 a12 : Value} (h : Blk w X [a0, a1, a2, a3, a4, a5, a6, a7, a8, a9, a10, a11, a12]) :
    w.cell? ⟨X, 0, none⟩ = some a0 ∧ w.cell? ⟨X, 1, none⟩ = some a1 ∧ w.cell? ⟨X, 2, none⟩ = some a2 ∧ w.cell? ⟨X, 3, none⟩ = some a3 ∧ w.cell? ⟨X, 4, none⟩ = some a4 ∧ w.cell? ⟨X, 5, none⟩ = some a5 ∧ w.cell? ⟨X, 6, none⟩ = some a6 ∧ w.cell? ⟨X, 7, none⟩ = some a7 ∧ w.cell? ⟨X, 8, none⟩ = some a8 ∧ w.cell? ⟨X, 9, none⟩ = some a9 ∧ w.cell? ⟨X, 10, none⟩ = some a10 ∧ w.cell? ⟨X, 11, none⟩ = some a11 ∧ w.cell? ⟨X, 12, none⟩ = some a12 :=
  ⟨h.cell (k := 0) (by simp), h.cell (k := 1) (by simp), h.cell (k := 2) (by simp), h.cell (k := 3) (by simp), h.cell (k := 4) (by simp), h.cell (k := 5) (by simp), h.cell (k := 6) (by simp), h.cell (k := 7) (by simp), h.cell (k := 8) (by simp), h.cell (k := 9) (by simp), h.cell (k := 10) (by simp), h.cell (k := 11) (by simp), h.cell (k := 12) (by simp)⟩
/-- what lies apart from a store -/
def Off (ex : List Nat) (X R L bS gS : Nat) (fp : List Nat) (j : Nat) : Prop := j ≠ X ∧ j ≠ R ∧ j ≠ L ∧ j ≠ bS ∧ (j ≠ gS ∧ j ∉ ex) ∧ j ∉ fp
/-- a store: X its block, R its row of pages, L its log (X, where it has none that counts) -/
structure SAt (ex : List Nat) (w : World) (X R L g : Nat) (fp : List Nat) (gS bS : Nat) (ga gd gl : Int) (z : Z) (s : St) (l : List (List UInt8)) : Prop where
  both : Both w g fp s gS bS l
  blk : ∃ lv c, Blk w X (xc g gS ga gd gl z lv (.slice (some ⟨R, 0, none⟩) z.pages.length c)) ∧ (z.has = true → lv = .pointer (some ⟨L, 0, none⟩)) ∧ SRow w R c z.pages (Off ex X R L bS gS fp)
  log : z.has = true → LAt w L g gS ga gd gl z.life z.base z.seq ∧ L ≠ X
  nX : X ≠ R ∧ X ≠ bS ∧ X ≠ gS ∧ X ∉ fp
  nR : R ≠ L ∧ R ≠ bS ∧ R ≠ gS ∧ R ∉ fp
  nL : L ≠ bS ∧ L ≠ gS ∧ L ∉ fp
  lt : L < w.heap.size
  exl : ∀ j ∈ ex, j < w.heap.size
/-- a footprint that has grown by new blocks alone, and a log that stays or is new -/
def FreshL (w : World) (L : Nat) (fp : List Nat) (L' : Nat) (fp' : List Nat) : Prop := Fresh w fp fp' ∧ (L' = L ∨ w.heap.size ≤ L')
theorem FreshL.refl (w : World) (L : Nat) (fp : List Nat) : FreshL w L fp L fp := ⟨Fresh.refl _ _, .inl rfl⟩
theorem FreshL.trans {w w1 : World} {L L1 L2 : Nat} {fp fp1 fp2 : List Nat} (h : FreshL w L fp L1 fp1) (hs : w.heap.size ≤ w1.heap.size) (k : FreshL w1 L1 fp1 L2 fp2) : FreshL w L fp L2 fp2 := by
  refine ⟨h.1.trans hs k.1, ?_⟩
  rcases k.2 with e | e
  · rw [e]; exact h.2
  · exact .inr (Nat.le_trans hs e)
theorem FreshL.all {w : World} {L L' : Nat} {fp fp' : List Nat} (h : FreshL w L fp L' fp') : Fresh w (L :: fp) (L' :: fp') := fun j hj => by
  rcases List.mem_cons.1 hj with e | e
  · rcases h.2 with e2 | e2
    · exact .inl (by simp [e, e2])
    · exact .inr (by rw [e]; exact e2)
  · exact (h.1 j e).imp (fun h => List.mem_cons_of_mem _ h) id
/-- turned by a call -/
def STurn (ex : List Nat) (w : World) (X R L g : Nat) (fp : List Nat) (gS bS : Nat) (ga gd gl : Int) (z' : Z) (s' : St) (l' : List (List UInt8)) (w' : World) : Prop :=
  ∃ L' fp', SAt ex w' X R L' g fp' gS bS ga gd gl z' s' l' ∧ Keep (X :: R :: L :: bS :: fp) w w' ∧ FreshL w L fp L' fp'
theorem SAt.ltX {w : World} {X R L g : Nat} {fp : List Nat} {gS bS : Nat} {ga gd gl : Int} {z : Z} {s : St} {l : List (List UInt8)} (h : SAt ex w X R L g fp gS bS ga gd gl z s l) : X < w.heap.size ∧ R < w.heap.size := by
  obtain ⟨lv, c, h1, _, h2⟩ := h.blk
  exact ⟨h1.lt, h2.lt⟩
theorem SAt.on {w w' : World} {X R L g : Nat} {fp : List Nat} {gS bS : Nat} {ga gd gl : Int} {z : Z} {s : St} {l : List (List UInt8)} (h : SAt ex w X R L g fp gS bS ga gd gl z s l) (b : Below w.heap.size w w') : SAt ex w' X R L g fp gS bS ga gd gl z s l := by
  obtain ⟨lv, c, h1, h2, h3⟩ := h.blk
  exact ⟨h.both.on b, ⟨lv, c, h1.on b, h2, h3.on b⟩, fun hd => ⟨(h.log hd).1.on b, (h.log hd).2⟩, h.nX, h.nR, h.nL, Nat.lt_of_lt_of_le h.lt b.size, fun j hj => Nat.lt_of_lt_of_le (h.exl j hj) b.size⟩
theorem STurn.same {w w' : World} {X R L g : Nat} {fp : List Nat} {gS bS : Nat} {ga gd gl : Int} {z : Z} {s : St} {l : List (List UInt8)} (h : SAt ex w X R L g fp gS bS ga gd gl z s l) (b : Below w.heap.size w w') : STurn ex w X R L g fp gS bS ga gd gl z s l w' :=
  ⟨L, fp, h.on b, Keep.of_below b _, FreshL.refl _ _ _⟩
theorem freshAll {w : World} {X R L L' bS : Nat} {fp fp' : List Nat} (f : Fresh w (L :: fp) (L' :: fp')) : Fresh w (X :: R :: L :: bS :: fp) (X :: R :: L' :: bS :: fp') := fun j hj => by
  simp only [List.mem_cons] at hj ⊢
  rcases hj with e | e | e | e | e
  · exact .inl (.inl e)
  · exact .inl (.inr (.inl e))
  · rcases f j (by simp [e]) with h | h
    · rcases List.mem_cons.1 h with h | h
      · exact .inl (.inr (.inr (.inl h)))
      · exact .inl (.inr (.inr (.inr (.inr h))))
    · exact .inr h
  · exact .inl (.inr (.inr (.inr (.inl e))))
  · rcases f j (by simp [e]) with h | h
    · rcases List.mem_cons.1 h with h | h
      · exact .inl (.inr (.inr (.inl h)))
      · exact .inl (.inr (.inr (.inr (.inr h))))
    · exact .inr h
theorem STurn.trans {w w1 w2 : World} {X R L L1 g : Nat} {fp fp1 : List Nat} {gS bS : Nat} {ga gd gl : Int} {z2 : Z} {s2 : St} {l2 : List (List UInt8)} (k : Keep (X :: R :: L :: bS :: fp) w w1) (f : FreshL w L fp L1 fp1) (h : STurn ex w1 X R L1 g fp1 gS bS ga gd gl z2 s2 l2 w2) : STurn ex w X R L g fp gS bS ga gd gl z2 s2 l2 w2 := by
  obtain ⟨L2, fp2, b2, k2, f2⟩ := h
  exact ⟨L2, fp2, b2, k.trans k2 (freshAll f.all), f.trans k.size f2⟩
theorem STurn.first {w w1 w2 : World} {X R L g : Nat} {fp : List Nat} {gS bS : Nat} {ga gd gl : Int} {z2 : Z} {s2 : St} {l2 : List (List UInt8)} (b : Below w.heap.size w w1) (h : STurn ex w1 X R L g fp gS bS ga gd gl z2 s2 l2 w2) : STurn ex w X R L g fp gS bS ga gd gl z2 s2 l2 w2 :=
  STurn.trans (Keep.of_below b _) (FreshL.refl _ _ _) h
theorem Off.fresh {w : World} {X R L bS gS : Nat} {fp fp' : List Nat} {j : Nat} (h : Off ex X R L bS gS fp j) (hj : j < w.heap.size) (f : Fresh w fp fp') : Off ex X R L bS gS fp' j :=
  ⟨h.1, h.2.1, h.2.2.1, h.2.2.2.1, h.2.2.2.2.1, f.out hj h.2.2.2.2.2⟩
/-- its disk and its sums are turned by a call, not itself -/
theorem SAt.turned {w w' : World} {X R L g : Nat} {fp fp' : List Nat} {gS bS : Nat} {ga gd gl : Int} {z : Z} {s s' : St} {l l' : List (List UInt8)} (h : SAt ex w X R L g fp gS bS ga gd gl z s l) (b : Both w' g fp' s' gS bS l') (k : Keep (bS :: fp) w w') (f : Fresh w fp fp') :
    SAt ex w' X R L g fp' gS bS ga gd gl z s' l' := by
  obtain ⟨lv, c, h1, h2, h3⟩ := h.blk
  have hX := h.ltX
  obtain ⟨x1, x2, x3, x4⟩ := h.nX
  obtain ⟨r1, r2, r3, r4⟩ := h.nR
  obtain ⟨l1, l2, l3⟩ := h.nL
  refine ⟨b, ⟨lv, c, h1.keepK k (by simp [x2, x4]), h2, h3.move k (by simp [r2, r4]) (fun j hj hlt => ⟨by simp [hj.2.2.2.1, hj.2.2.2.2.2], hj.fresh hlt f⟩)⟩, fun hd => ⟨(h.log hd).1.keepK k (by simp [l1, l3]), (h.log hd).2⟩, ⟨x1, x2, x3, f.out hX.1 x4⟩, ⟨r1, r2, r3, f.out hX.2 r4⟩, ⟨l1, l2, f.out h.lt l3⟩, Nat.lt_of_lt_of_le h.lt k.size, fun j hj => Nat.lt_of_lt_of_le (h.exl j hj) k.size⟩
end Go.Proofs.YtchcmklelmlbgaaGreat.Sto

/- The store: ready, told, Gen, Life, Room, Dead. No statement is proved here. -/
namespace Go.Proofs.YtchcmklelmlbgaaGreat.Sto
open Go.RowKit
open Go.Proofs.YtchcmklelmlbgaaGreat.Geom
open Go.Proofs.YtchcmklelmlbgaaGreat.Disk (St DAt Did)
open Go.Proofs.YtchcmklelmlbgaaGreat.Sup (Gb gv)
open Go.Proofs.YtchcmklelmlbgaaGreat.Wal (LAt lcell)
set_option linter.unusedVariables false
variable {ex : List Nat}
set_option maxRecDepth 100000
theorem ready_any (X R L g : Nat) (fp : List Nat) (gS bS : Nat) (ga gd gl : Int) (z : Z) (s : St) (l : List (List UInt8)) (w : World) (h : SAt ex w X R L g fp gS bS ga gd gl z s l) :
    Calls Tryz.prog 44 #[.pointer (some ⟨X, 0, none⟩)] w fun e w' => e = .returned (.int .i64 (if z.dead = true then 12 else 0)) ∧ w = w' := by
  obtain ⟨lv, c, h1, _, h3⟩ := h.blk
  obtain ⟨z0, z1, z2, z3, z4, z5, z6, z7, z8, z9, z10, z11, z12⟩ := thirteen h1
  clear h h1 h3
  cases hd : z.dead with
  | true =>
    rw [hd] at z12
    rw [if_pos rfl]
    go_enter Tryz.func44, Tryz.ntmps44
    go_wp2
    go_ret
    exact ⟨rfl, rfl⟩
  | false =>
    rw [hd] at z12
    rw [if_neg (by simp)]
    go_enter Tryz.func44, Tryz.ntmps44
    go_wp2
    go_ret
    exact ⟨rfl, rfl⟩
theorem SAt.tell {w : World} {X R L g : Nat} {fp : List Nat} {gS bS : Nat} {ga gd gl : Int} {z : Z} {s : St} {l : List (List UInt8)} (h : SAt ex w X R L g fp gS bS ga gd gl z s l) {b : Bool} {f : Int} (hb : b = (z.dead || decide (f = 12))) : SAt ex (w.setCell ⟨X, 12, none⟩ (.bool b)) X R L g fp gS bS ga gd gl (z.told f) s l ∧ Keep [X] w (w.setCell ⟨X, 12, none⟩ (.bool b)) := by
  subst hb
  obtain ⟨lv, c, h1, h2, h3⟩ := h.blk
  obtain ⟨x1, x2, x3, x4⟩ := h.nX
  obtain ⟨r1, r2, r3, r4⟩ := h.nR
  have hk : Keep [X] w (w.setCell ⟨X, 12, none⟩ (.bool (z.dead || decide (f = 12)))) := (Keep.refl _ _).set (.inl (by simp)) _
  refine ⟨⟨⟨h.both.disk.keep hk (fun j hj e => x4 (by rw [List.mem_singleton] at e; exact e ▸ hj)), h.both.sym.keepK hk (by simp; exact fun e => x3 e.symm) (by simp; exact fun e => x2 e.symm), h.both.nS, h.both.nB⟩, ⟨lv, c, (h1.set (k := 12) _ : Blk _ X (xc g gS ga gd gl (z.told f) lv (.slice (some ⟨R, 0, none⟩) z.pages.length c))), h2, h3.move hk (by simp; exact fun e => x1 e.symm) (fun j hj hlt => ⟨by simp; exact hj.1, hj⟩)⟩,
    fun hd => ⟨Blk.other (h.log hd).1 _ (h.log hd).2, (h.log hd).2⟩, h.nX, h.nR, h.nL, Nat.lt_of_lt_of_le h.lt hk.size, fun j hj => Nat.lt_of_lt_of_le (h.exl j hj) hk.size⟩, hk⟩
theorem STurn.tell {w w1 : World} {X R L g : Nat} {fp : List Nat} {gS bS : Nat} {ga gd gl : Int} {z : Z} {s : St} {l : List (List UInt8)} (h : STurn ex w X R L g fp gS bS ga gd gl z s l w1) {b : Bool} {f : Int} (hb : b = (z.dead || decide (f = 12))) : STurn ex w X R L g fp gS bS ga gd gl (z.told f) s l (w1.setCell ⟨X, 12, none⟩ (.bool b)) := by
  obtain ⟨L2, fp2, b2, k2, f2⟩ := h
  obtain ⟨t1, t2⟩ := b2.tell hb
  exact ⟨L2, fp2, t1, k2.trans (t2.more (fp' := X :: R :: L :: bS :: fp) (fun j hj => by simp only [List.mem_cons, List.not_mem_nil, or_false] at hj ⊢; exact .inl hj)) (Fresh.refl _ _), f2⟩
theorem told_any (X R L g : Nat) (fp : List Nat) (gS bS : Nat) (ga gd gl : Int) (z : Z) (s : St) (l : List (List UInt8)) (f : Int) (w : World) (h : SAt ex w X R L g fp gS bS ga gd gl z s l) :
    Calls Tryz.prog 47 #[.pointer (some ⟨X, 0, none⟩), .int .i64 f] w fun e w' => e = .returned (.int .i64 f) ∧ STurn ex w X R L g fp gS bS ga gd gl (z.told f) s l w' := by
  have HT := Lib.hid (fun b hb => (STurn.same h (Below.refl _ _)).tell (b := b) (f := f) hb)
  obtain ⟨lv, c, h1, _, h3⟩ := h.blk
  obtain ⟨z0, z1, z2, z3, z4, z5, z6, z7, z8, z9, z10, z11, z12⟩ := thirteen h1
  have fX := h1.free
  have hlX := h1.lt
  clear h h1 h3
  cases hd : z.dead with
  | true =>
    rw [hd] at z12
    have HD := Lib.hid hd
    clear hd
    go_enter Tryz.func47, Tryz.ntmps47
    go_wp2_with fail
    go_ret
    exact ⟨rfl, HT.out true (by rw [HD.out]; rfl)⟩
  | false =>
    rw [hd] at z12
    have HD := Lib.hid hd
    clear hd
    by_cases hf : f = 12
    · have t0 := beq_yes hf
      have HF := Lib.hid hf
      clear hf
      go_enter Tryz.func47, Tryz.ntmps47
      go_wp2_with fail
      go_ret
      exact ⟨rfl, HT.out true (by rw [HD.out, HF.out]; rfl)⟩
    · have t0 := beq_no hf
      have HF := Lib.hid hf
      clear hf
      go_enter Tryz.func47, Tryz.ntmps47
      go_wp2_with fail
      go_ret
      exact ⟨rfl, HT.out false (by rw [HD.out, decide_eq_false HF.out]; rfl)⟩
/-! what a store tells of itself -/
theorem gen_any (X R L g : Nat) (fp : List Nat) (gS bS : Nat) (ga gd gl : Int) (z : Z) (s : St) (l : List (List UInt8)) (w : World) (h : SAt ex w X R L g fp gS bS ga gd gl z s l) :
    Calls Tryz.prog 20 #[.pointer (some ⟨X, 0, none⟩)] w fun e w' => e = .returned (.int .u64 (z.gen.toNat : Int)) ∧ w = w' := by
  obtain ⟨lv, c, h1, _, h3⟩ := h.blk
  obtain ⟨z0, z1, z2, z3, z4, z5, z6, z7, z8, z9, z10, z11, z12⟩ := thirteen h1
  clear h h1 h3
  go_enter Tryz.func20, Tryz.ntmps20
  go_wp2
  go_ret
  exact ⟨rfl, rfl⟩
theorem life_any (X R L g : Nat) (fp : List Nat) (gS bS : Nat) (ga gd gl : Int) (z : Z) (s : St) (l : List (List UInt8)) (w : World) (h : SAt ex w X R L g fp gS bS ga gd gl z s l) :
    Calls Tryz.prog 21 #[.pointer (some ⟨X, 0, none⟩)] w fun e w' => e = .returned (.int .u64 (z.life.toNat : Int)) ∧ w = w' := by
  obtain ⟨lv, c, h1, _, h3⟩ := h.blk
  obtain ⟨z0, z1, z2, z3, z4, z5, z6, z7, z8, z9, z10, z11, z12⟩ := thirteen h1
  clear h h1 h3
  go_enter Tryz.func21, Tryz.ntmps21
  go_wp2
  go_ret
  exact ⟨rfl, rfl⟩
theorem room_any (X R L g : Nat) (fp : List Nat) (gS bS : Nat) (ga gd gl : Int) (z : Z) (s : St) (l : List (List UInt8)) (w : World) (h : SAt ex w X R L g fp gS bS ga gd gl z s l) (hs : z.seq ≤ 100000) (hg : 0 ≤ gl) (hg1 : gl ≤ 100000) (hh : z.due = false → z.has = true) :
    Calls Tryz.prog 28 #[.pointer (some ⟨X, 0, none⟩)] w fun e w' => e = .returned (.int .i64 (if z.due = true then 0 else gl - z.seq)) ∧ Below w.heap.size w w' := by
  obtain ⟨lv, c, h1, h2, h3⟩ := h.blk
  obtain ⟨z0, z1, z2, z3, z4, z5, z6, z7, z8, z9, z10, z11, z12⟩ := thirteen h1
  cases hd : z.due with
  | true =>
    rw [if_pos rfl]
    rw [hd] at z11
    clear h h1 h2 h3 hh
    go_enter Tryz.func28, Tryz.ntmps28
    go_wp2
    go_ret
    exact ⟨rfl, Below.refl _ _⟩
  | false =>
    rw [if_neg (by simp)]
    rw [hd] at z11
    rw [h2 (hh hd)] at z8
    have HR := Lib.hid (Wal.room_any L g gS ga gd gl z.life z.base z.seq w (h.log (hh hd)).1 hs hg hg1)
    clear h h1 h2 h3 hh
    go_enter Tryz.func28, Tryz.ntmps28
    go_wp2_with (go_at_call 64; refine HR.out.mono ?_; rintro e w1 ⟨rfl, b1⟩)
    go_ret
    exact ⟨rfl, b1⟩
end Go.Proofs.YtchcmklelmlbgaaGreat.Sto

/- The store: put. No statement is proved here. -/
namespace Go.Proofs.YtchcmklelmlbgaaGreat.Sto
open Go.RowKit
open Go.Proofs.YtchcmklelmlbgaaGreat.Geom
open Go.Proofs.YtchcmklelmlbgaaGreat.Disk (St DAt Did)
open Go.Proofs.YtchcmklelmlbgaaGreat.Sup (Gb gv)
open Go.Proofs.YtchcmklelmlbgaaGreat.Wal (LAt lcell)
set_option linter.unusedVariables false
variable {ex : List Nat}
set_option maxRecDepth 100000
def Z.put (z : Z) (pages : List Pg) : Z := { z with pages := putP z.pages pages }
theorem putP_snoc (P : List (List UInt8)) (l : List Pg) (x : Pg) : putP P (l ++ [x]) = (putP P l).set x.n.toNat x.body := by simp [putP]
/-- one page is put -/
theorem SAt.put1 {w w1 : World} {X R L g : Nat} {fp : List Nat} {gS bS : Nat} {ga gd gl : Int} {z : Z} {s : St} {l : List (List UInt8)} (h : SAt ex w X R L g fp gS bS ga gd gl z s l) (b1 : Below w.heap.size w w1) {A : Option Addr} {c : Nat} {x : Pg} {m : Int} (hm : m = x.n) (hm0 : 0 ≤ m) (o : w1.ownsRow w.heap.size 5 1 (.slice A x.body.length c) x.body.length (x.body.map e8)) :
    SAt ex (w1.setCell ⟨R, m.toNat, none⟩ (.slice A x.body.length c)) X R L g fp gS bS ga gd gl (z.put [x]) s l ∧ Keep [R] w (w1.setCell ⟨R, m.toNat, none⟩ (.slice A x.body.length c)) := by
  subst hm
  have h1 := h.on b1
  obtain ⟨lv, c', a1, a2, a3⟩ := h1.blk
  obtain ⟨x1, x2, x3, x4⟩ := h.nX
  obtain ⟨r1, r2, r3, r4⟩ := h.nR
  have hk : Keep [R] w1 (w1.setCell ⟨R, x.n.toNat, none⟩ (.slice A x.body.length c)) := (Keep.refl _ _).set (.inl (by simp)) _
  have hlt := h.both.disk.lt
  have hls := h.both.sym.lt
  have hX := h.ltX
  have hL := h.lt
  have hcap := own_cap o
  have hq : RdQ w1 (Off ex X R L bS gS fp) A (x.body.map e8) := (RdQ.own o).imp (fun j _ hj => ⟨by omega, by omega, by omega, by omega, ⟨by omega, fun e => by have := h.exl _ e; omega⟩, fun e => by have := hlt _ e; omega⟩)
  have hs := a3.set (fun e => e.2.1 rfl) x.n.toNat hq hcap.1 hcap.2
  refine ⟨⟨⟨h1.both.disk.keep hk (fun j hj e => r4 (by rw [List.mem_singleton] at e; exact e ▸ hj)), h1.both.sym.keepK hk (by simp; exact fun e => r3 e.symm) (by simp; exact fun e => r2 e.symm), h.both.nS, h.both.nB⟩, ⟨lv, c', ?_, a2, hs⟩,
    fun hd => ⟨Blk.other (h1.log hd).1 _ (fun e => r1 e.symm), (h.log hd).2⟩, h.nX, h.nR, h.nL, by rw [World.setCell]; simpa using h1.lt, fun j hj => by have := h1.exl j hj; rw [World.setCell]; simpa using this⟩, (Keep.of_below b1 [R]).trans hk (Fresh.refl _ _)⟩
  have := a1.keepK hk (by simpa using x1)
  show Blk _ X (xc g gS ga gd gl (z.put [x]) lv (.slice (some ⟨R, 0, none⟩) (z.pages.set x.n.toNat x.body).length c'))
  rw [List.length_set]
  exact this
set_option maxHeartbeats 1000000 in
theorem put_any (X R L g : Nat) (fp : List Nat) (gS bS : Nat) (ga gd gl : Int) (z : Z) (s : St) (l : List (List UInt8)) (Q : Nat → Prop) (A : Option Addr) (pages : List Pg) (c : Nat) (w : World) (h : SAt ex w X R L g fp gS bS ga gd gl z s l) (hr : Pgs w Q A pages) (hQ : ∀ j, Q j → j < w.heap.size → j ≠ R)
    (hcl : pages.length ≤ 1000000) (hp : ∀ k (hk : k < pages.length), 0 ≤ pages[k].n ∧ pages[k].n < z.pages.length ∧ pages[k].body.length ≤ 1000000) (hzl : z.pages.length ≤ 1000000) :
    Calls Tryz.prog 48 #[.pointer (some ⟨X, 0, none⟩), .slice A pages.length c] w fun e w' => e = .returned (.tuple #[]) ∧ SAt ex w' X R L g fp gS bS ga gd gl (z.put pages) s l ∧ Keep [R] w w' := by
  have HP := Lib.hid hp
  have HR := Lib.hid hr
  have HQ := Lib.hid hQ
  have HH := Lib.hid h
  have hzl' : ∀ k, (z.put (pages.take k)).pages.length = z.pages.length := fun k => putP_len _ _
  have HZ := Lib.hid hzl'
  clear hp hr hQ h hzl'
  go_enter Tryz.func48, Tryz.ntmps48
  go_wp2_with fail
  go_loopw [8] (fun i wr => ∃ k : Nat, k ≤ pages.length ∧ i = .int .i64 (k : Int) ∧ Keep [R] w wr ∧ SAt ex wr X R L g fp gS bS ga gd gl (z.put (pages.take k)) s l) (fun i _ => pages.length - (intOf i).toNat)
  case atStart => exact ⟨0, by omega, rfl, Keep.refl _ _, HH.out⟩
  case round =>
    obtain ⟨k, hk, rfl, kr, hS⟩ := hrel
    by_cases hlt : k < pages.length
    · have hkn : (k : Int) < (pages.length : Int) := by omega
      obtain ⟨p1, p2, p3⟩ := HP.out k hlt
      obtain ⟨b, off, Ai, ci, rfl, hb, hx⟩ := (HR.out.keep kr (fun j hj hlt' e => HQ.out j hj hlt' (by simpa using e))).get hlt
      obtain ⟨x, hx0⟩ : ∃ x, x = pages[k] := ⟨_, rfl⟩
      rw [← hx0] at p1 p2 p3 hx
      obtain ⟨m, hm⟩ : ∃ m : Nat, m = x.n.toNat := ⟨_, rfl⟩
      have hxn : x.n = (m : Int) := by omega
      have htk : z.put (pages.take (k + 1)) = (z.put (pages.take k)).put [x] := by
        unfold Z.put
        rw [List.take_succ_eq_append_getElem hlt, ← hx0, putP_snoc]; rfl
      have c0 := hx.c0
      have c1 := hx.c1
      have hci := hx.cap
      rw [hxn] at c0
      have hzz := HZ.out k
      obtain ⟨zz, hzz0⟩ : ∃ zz, zz = z.put (pages.take k) := ⟨_, rfl⟩
      rw [← hzz0] at hS hzz htk
      obtain ⟨lv, c', a1, _, a3⟩ := hS.blk
      obtain ⟨z0, z1, z2, z3, z4, z5, z6, z7, z8, z9, z10, z11, z12⟩ := thirteen a1
      have hcap := a3.cap
      obtain ⟨vR, r0⟩ : ∃ v, wr.cell? ⟨R, m, none⟩ = some v := by obtain ⟨AR, cR, r, _⟩ := a3.get (i := m) (by omega); exact ⟨_, r⟩
      have fR := a3.free m
      have hlR := a3.lt
      have hlX := a1.lt
      have hmi : (m : Int) < (zz.pages.length : Int) := by omega
      obtain ⟨w2, hw2⟩ : ∃ w2, w2 = wr.alloc (.cells #[.int .i64 (m : Int), .slice Ai x.body.length ci] 53) := ⟨_, rfl⟩
      have b2 : Below wr.heap.size wr w2 := by rw [hw2]; exact b1alloc _ _
      have FP : Blk w2 wr.heap.size [.int .i64 (m : Int), .slice Ai x.body.length ci] := by rw [hw2]; exact Blk.new wr [.int .i64 (m : Int), .slice Ai x.body.length ci] 53
      have FX := a1.on b2
      have hlP := FP.lt
      have HS2 := Lib.hid (fun W (bW : Below w2.heap.size w2 W) => show W.cell? ⟨X, 10, none⟩ = some (.slice (some ⟨R, 0, none⟩) zz.pages.length c') ∧ W.cell? ⟨wr.heap.size, 0, none⟩ = some (.int .i64 (m : Int)) ∧ W.cell? ⟨wr.heap.size, 1, none⟩ = some (.slice Ai x.body.length ci) from
        ⟨(FX.on bW).cell (k := 10) (by simp), (FP.on bW).cell (k := 0) (by simp), (FP.on bW).cell (k := 1) (by simp)⟩)
      have HS3 := Lib.hid (fun W (bW : Below w2.heap.size w2 W) (v : Value) => show (W.setCell ⟨R, m, none⟩ v).cell? ⟨X, 10, none⟩ = some (.slice (some ⟨R, 0, none⟩) zz.pages.length c') ∧ (W.setCell ⟨R, m, none⟩ v).cell? ⟨wr.heap.size, 0, none⟩ = some (.int .i64 (m : Int)) ∧ (W.setCell ⟨R, m, none⟩ v).cell? ⟨wr.heap.size, 1, none⟩ = some (.slice Ai x.body.length ci) from
        ⟨((FX.on bW).other v hS.nX.1).cell (k := 10) (by simp), ((FP.on bW).other v (by omega)).cell (k := 0) (by simp), ((FP.on bW).other v (by omega)).cell (k := 1) (by simp)⟩)
      have HC := Lib.hid (fun W (bW : Below w2.heap.size w2 W) => Sl.clone_any Ai x.body _ ci W rfl ((hx.rd.rd.on b2).on bW) (by omega))
      have HFR := Lib.hid (fun W (bW : Below w2.heap.size w2 W) => show W.cell? ⟨R, m, none⟩ = some vR ∧ W.frozen? ⟨R, m, none⟩ = false from
        ⟨(World.cell?_of_block ((bt b2 bW).block _ hlR)).trans r0, (World.frozen?_of_block ((bt b2 bW).block _ hlR)).trans fR⟩)
      have cz : Below w2.heap.size w2 w2.drew := (Below.refl _ _).drew
      have HW2 := Lib.hid hw2
      have HB2 := Lib.hid b2
      have HSS := Lib.hid hS
      have Htk := Lib.hid htk
      have Hx0 := Lib.hid hxn
      have Hkr := Lib.hid kr
      clear hw2 FP FX a1 a3 hS htk hx0 hx hxn p1 p2 p3 hm kr z0 z1 z2 z3 z4 z5 z6 z7 z8 z9 z11 z12 hzz0 hzz hzl b2
      go_upto_region 3 with (fail)
      rw [← HW2.out]
      go_region_held3 (fun W => W.cell? ⟨X, 10, none⟩ = some (.slice (some ⟨R, 0, none⟩) zz.pages.length c') ∧ W.cell? ⟨wr.heap.size, 0, none⟩ = some (.int .i64 (m : Int)) ∧ W.cell? ⟨wr.heap.size, 1, none⟩ = some (.slice Ai x.body.length ci)) (first | exact HS2.out _ cz | exact HS2.out _ bt1 | exact HS3.out _ bt1 _) ((go_at_call 57; refine (HC.out _ cz).mono ?_; rintro e w3 ⟨A3, c3, rfl, o3, b3⟩; have bt1 := bt cz b3; obtain ⟨y0, y1⟩ := HFR.out w3 bt1; have o4 := Lib.hid o3; clear o3))
      obtain ⟨s1, s2⟩ := SAt.put1 HSS.out (bt HB2.out bt1) (A := A3) (c := c3) (x := x) (m := (m : Int)) Hx0.out.symm (by omega) (own_base o4.out (by have := HB2.out.size; have := cz.size; omega))
      have S1 := Lib.hid s1
      have S2 := Lib.hid s2
      clear s1 s2 y0 y1
      go_wp2_with fail
      case roundEnd =>
        refine ⟨⟨k + 1, by omega, by go_num, Hkr.out.trans S2.out (Fresh.refl _ _), by rw [Htk.out]; exact S1.out⟩, by simp only [intOf]; omega⟩
    · obtain rfl : k = pages.length := by omega
      have hkn : ¬ (pages.length : Int) < (pages.length : Int) := by omega
      rw [List.take_length] at hS
      have HSS := Lib.hid hS
      have HK := Lib.hid kr
      clear hS kr
      go_wp2_with fail
      go_end0
      exact ⟨rfl, HSS.out, HK.out⟩
end Go.Proofs.YtchcmklelmlbgaaGreat.Sto

/- The store: right, and what a life that begins does. No statement is proved here. -/
namespace Go.Proofs.YtchcmklelmlbgaaGreat.Sto
open Go.RowKit
open Go.Proofs.YtchcmklelmlbgaaGreat.Geom
open Go.Proofs.YtchcmklelmlbgaaGreat.Disk (St DAt Did)
open Go.Proofs.YtchcmklelmlbgaaGreat.Sup (Gb gv gcell gthree srightF splace sB sL wf sv scell)
open Go.Proofs.YtchcmklelmlbgaaGreat.Snap (snapF)
open Go.Proofs.YtchcmklelmlbgaaGreat.Wal (LAt lcell wrightF)
set_option linter.unusedVariables false
variable {ex : List Nat}
set_option maxRecDepth 100000
theorem right_any (g : Nat) (fp : List Nat) (s : St) (gS : Nat) (ga gd gl : Int) (w : World) (hG : Gb ga gd gl) (h : DAt w g fp s) : Calls Tryz.prog 36 #[.pointer (some ⟨g, 0, none⟩), .pointer (some ⟨gS, 0, none⟩), gv ga gd gl] w fun e w' => e = .returned (.int .i64 (srightF s ga gd gl)) ∧ Below w.heap.size w w' := by
  have F := Blk.new w (gcell ga gd gl) 23
  have b0 := b1alloc w (.cells (gcell ga gd gl).toArray 23)
  obtain ⟨z0, z1, z2⟩ := gthree F
  have HR := Lib.hid (fun W => Geom.right_any ga gd gl W hG.a0 hG.a1 hG.d0 hG.d1 hG.g0 hG.g1)
  have HZ := Lib.hid (fun W => Geom.size_any ga gd gl W hG.a0 hG.a1 hG.d0 hG.d1 hG.g0 hG.g1)
  have HD := Lib.hid (fun W (bW : Below w.heap.size w W) => Disk.size_any g fp s W (h.on bW))
  unfold srightF
  obtain ⟨q, hq⟩ : ∃ q, q = right ga gd gl := ⟨_, rfl⟩
  obtain ⟨z, hz⟩ : ∃ z, z = Geom.sizeOf ga gd gl := ⟨_, rfl⟩
  rw [← hq] at HR ⊢
  rw [← hz] at HZ ⊢
  clear hq hz
  cases q with
  | false =>
    rw [if_neg (by simp)]
    go_enter Tryz.func36, Tryz.ntmps36
    go_wp2_with fail
    refine region_inb (by kernel_rfl) (by kernel_rfl) ?_
    have inbNe := InB.some
    have inbW := @wrap_small
    have inbU := IntKind.wrap_u8'
    repeat (refine wpQuiet_step (fun K hK => ?_); go_simp; first | (refine hK _ ?_; clear hK K) | (apply Exists.intro; refine ⟨?_, hK _ ?_⟩; (· (intro w' hw'; first | (go_at_call 67; refine (HR.out _).mono ?_; rintro e w1 ⟨rfl, b1⟩; exact ⟨rfl, hw'.on b1⟩) | (have hcw := hw'.cell; go_simp; exact rfl))); clear hK K))
    refine wpQuiet_nil ?_
    intro wq hq
    clear inbNe inbW inbU
    go_wp2
    go_ret
    exact ⟨rfl, bt b0 hq.below⟩
  | true =>
    by_cases hs : (s.size : Int) = z
    · rw [if_pos ⟨rfl, hs⟩]
      have t0 := bne_no hs
      have Hs := Lib.hid hs
      clear hs
      go_enter Tryz.func36, Tryz.ntmps36
      go_wp2_with fail
      refine region_inb (by kernel_rfl) (by kernel_rfl) ?_
      have inbNe := InB.some
      have inbW := @wrap_small
      have inbU := IntKind.wrap_u8'
      repeat (refine wpQuiet_step (fun K hK => ?_); go_simp; first | (refine hK _ ?_; clear hK K) | (apply Exists.intro; refine ⟨?_, hK _ ?_⟩; (· (intro w' hw'; first | (go_at_call 67; refine (HR.out _).mono ?_; rintro e w1 ⟨rfl, b1⟩; exact ⟨rfl, hw'.on b1⟩) | (go_at_call 68; refine (HD.out _ (bt b0 hw'.below)).mono ?_; rintro e w1 ⟨rfl, rfl⟩; exact ⟨rfl, hw'⟩) | (go_at_call 69; refine (HZ.out _).mono ?_; rintro e w1 ⟨rfl, b1⟩; exact ⟨rfl, hw'.on b1⟩) | (have hcw := hw'.cell; go_simp; exact rfl))); clear hK K))
      refine wpQuiet_nil ?_
      intro wq hq
      clear inbNe inbW inbU
      go_wp2
      go_ret
      exact ⟨rfl, bt b0 hq.below⟩
    · rw [if_neg (fun e => hs e.2)]
      have t0 := bne_yes hs
      have Hs := Lib.hid hs
      clear hs
      go_enter Tryz.func36, Tryz.ntmps36
      go_wp2_with fail
      refine region_inb (by kernel_rfl) (by kernel_rfl) ?_
      have inbNe := InB.some
      have inbW := @wrap_small
      have inbU := IntKind.wrap_u8'
      repeat (refine wpQuiet_step (fun K hK => ?_); go_simp; first | (refine hK _ ?_; clear hK K) | (apply Exists.intro; refine ⟨?_, hK _ ?_⟩; (· (intro w' hw'; first | (go_at_call 67; refine (HR.out _).mono ?_; rintro e w1 ⟨rfl, b1⟩; exact ⟨rfl, hw'.on b1⟩) | (go_at_call 68; refine (HD.out _ (bt b0 hw'.below)).mono ?_; rintro e w1 ⟨rfl, rfl⟩; exact ⟨rfl, hw'⟩) | (go_at_call 69; refine (HZ.out _).mono ?_; rintro e w1 ⟨rfl, b1⟩; exact ⟨rfl, hw'.on b1⟩) | (have hcw := hw'.cell; go_simp; exact rfl))); clear hK K))
      refine wpQuiet_nil ?_
      intro wq hq
      clear inbNe inbW inbU
      go_wp2
      go_ret
      exact ⟨rfl, bt b0 hq.below⟩
/-! a life begins: its three steps -/
set_option maxHeartbeats 1000000 in
theorem begin1_any (X R L g : Nat) (fp : List Nat) (gS bS : Nat) (ga gd gl : Int) (z : Z) (s : St) (l : List (List UInt8)) (life : UInt64) (base : Int) (gen : UInt64) (bX bA : Nat) (w : World) (hG : Gb ga gd gl) (h : SAt ex w X R L g fp gS bS ga gd gl z s l) (hX : Box w bX (.pointer (some ⟨X, 0, none⟩))) (hA : Blk w bA (scell life base gen))
    (hl : l.length ≤ 900000) (hs : s.sz ≤ 80000000) (hf : srightF s ga gd gl = 0) (hn : (z.pages.length : Int) = pagesOf ga gd gl) (hlong : Snap.longB z.pages = false) :
    Calls Tryz.prog 77 #[.pointer (some ⟨bX, 0, none⟩), .pointer (some ⟨bA, 0, none⟩)] w fun e w' => e = .returned (.int .i64 (snapF ga gd gl life z.pages l s).2.2) ∧ Turn w g fp gS bS (snapF ga gd gl life z.pages l s).2.1 (snapF ga gd gl life z.pages l s).1 w' := by
  obtain ⟨lv, c, h1, _, h3⟩ := h.blk
  obtain ⟨z0, z1, z2, z3, z4, z5, z6, z7, z8, z9, z10, z11, z12⟩ := thirteen h1
  obtain ⟨a0, a1, a2⟩ := gthree hA
  have q0 := hX.cell
  have HW := Lib.hid (fun W (bW : Below w.heap.size w W) => Snap.write_any g fp s gS bS l ga gd gl life (fun j => j ∉ bS :: fp) (some ⟨R, 0, none⟩) z.pages c W hG (h.both.on bW) hl hs hf ((h3.rw (fun j _ hj => by simp [hj.2.2.2.1, hj.2.2.2.2.2]) (by simp [h.nR])).on bW) (fun j hj _ => hj) hn hlong)
  obtain ⟨V, hV⟩ : ∃ V, V = snapF ga gd gl life z.pages l s := ⟨_, rfl⟩
  rw [← hV] at HW ⊢
  have hlX := h1.lt
  have hlA := hA.lt
  have hlB := hX.lt
  clear hV h1 h3 h hX hA hl hs hf hn hlong hG
  go_enter Tryz.func77, Tryz.ntmps77
  go_wp2_with fail
  refine region_inb_tail 18 (by kernel_rfl) (by kernel_rfl) ?_
  simp only [List.take_succ_cons, List.take_zero, List.drop_succ_cons, List.drop_zero]
  have inbNe := InB.some
  have inbW := @wrap_small
  have inbU := IntKind.wrap_u8'
  repeat (refine wpQuiet_step (fun K hK => ?_); go_simp; first | (refine hK _ ?_; clear hK K) | (apply Exists.intro; refine ⟨?_, hK _ ?_⟩; (· (intro w' hw'; first | (have hcw := hw'.cell; go_simp; exact rfl))); clear hK K))
  refine wpQuiet_nil ?_
  intro wq hq
  clear inbNe inbW inbU
  go_wp2_with (go_at_call 78; refine (HW.out _ hq.below).mono ?_; rintro e w1 ⟨rfl, t1⟩)
  go_ret
  exact ⟨rfl, Turn.trans (Keep.of_below hq.below _) (Fresh.refl _ _) t1⟩
set_option maxHeartbeats 1000000 in
theorem begin2_any (X R L g : Nat) (fp : List Nat) (gS bS : Nat) (ga gd gl : Int) (z : Z) (s : St) (l : List (List UInt8)) (life : UInt64) (base : Int) (gen : UInt64) (bX bA : Nat) (w : World) (hG : Gb ga gd gl) (h : SAt ex w X R L g fp gS bS ga gd gl z s l) (hX : Box w bX (.pointer (some ⟨X, 0, none⟩))) (hA : Blk w bA (scell life base gen))
    (hl : l.length ≤ 1000000) (hs : s.sz ≤ 90000000) (hf : srightF s ga gd gl = 0) (hb0 : 0 ≤ base) (hb1 : base ≤ 1073741824) :
    Calls Tryz.prog 79 #[.pointer (some ⟨bX, 0, none⟩), .pointer (some ⟨bA, 0, none⟩)] w fun e w' => e = .returned (.int .i64 (wf s (splace life) (sB l ga gd gl life base gen)).2) ∧ Turn w g fp gS bS (wf s (splace life) (sB l ga gd gl life base gen)).1 (sL l ga gd gl life base gen) w' := by
  obtain ⟨lv, c, h1, _, h3⟩ := h.blk
  obtain ⟨z0, z1, z2, z3, z4, z5, z6, z7, z8, z9, z10, z11, z12⟩ := thirteen h1
  obtain ⟨a0, a1, a2⟩ := gthree hA
  have q0 := hX.cell
  have HW := Lib.hid (fun W (bW : Below w.heap.size w W) => Sup.write_any g fp s gS bS l ga gd gl life base gen W hG (h.both.on bW) hl hs hf hb0 hb1)
  obtain ⟨V, hV⟩ : ∃ V, V = wf s (splace life) (sB l ga gd gl life base gen) := ⟨_, rfl⟩
  obtain ⟨U, hU⟩ : ∃ V, V = sL l ga gd gl life base gen := ⟨_, rfl⟩
  rw [← hV, ← hU] at HW ⊢
  have hlX := h1.lt
  have hlA := hA.lt
  have hlB := hX.lt
  clear hV hU h1 h3 h hX hA hl hs hf hb0 hb1 hG
  go_enter Tryz.func79, Tryz.ntmps79
  go_wp2_with fail
  refine region_inb_tail 13 (by kernel_rfl) (by kernel_rfl) ?_
  simp only [List.take_succ_cons, List.take_zero, List.drop_succ_cons, List.drop_zero]
  have inbNe := InB.some
  have inbW := @wrap_small
  have inbU := IntKind.wrap_u8'
  repeat (refine wpQuiet_step (fun K hK => ?_); go_simp; first | (refine hK _ ?_; clear hK K) | (apply Exists.intro; refine ⟨?_, hK _ ?_⟩; (· (intro w' hw'; first | (have hcw := hw'.cell; go_simp; exact rfl))); clear hK K))
  refine wpQuiet_nil ?_
  intro wq hq
  clear inbNe inbW inbU
  go_wp2_with (go_at_call 80; refine (HW.out _ hq.below).mono ?_; rintro e w1 ⟨rfl, t1⟩)
  go_ret
  exact ⟨rfl, Turn.trans (Keep.of_below hq.below _) (Fresh.refl _ _) t1⟩
end Go.Proofs.YtchcmklelmlbgaaGreat.Sto

/- The store: the last step of a life that begins, and begin itself. No statement is proved here. -/
namespace Go.Proofs.YtchcmklelmlbgaaGreat.Sto
open Go.RowKit
open Go.Proofs.YtchcmklelmlbgaaGreat.Geom
open Go.Proofs.YtchcmklelmlbgaaGreat.Disk (St DAt Did)
open Go.Proofs.YtchcmklelmlbgaaGreat.Sup (Gb gv gcell gthree srightF splace sB sL wf sv scell)
open Go.Proofs.YtchcmklelmlbgaaGreat.Snap (snapF)
open Go.Proofs.YtchcmklelmlbgaaGreat.Wal (LAt lcell wrightF)
set_option linter.unusedVariables false
variable {ex : List Nat}
set_option maxRecDepth 100000
theorem SAt.begun {w wc w1 : World} {X R L L' g : Nat} {fp : List Nat} {gS bS : Nat} {ga gd gl : Int} {z : Z} {s : St} {l : List (List UInt8)} {life : UInt64} {base : Int} {gen : UInt64} {lv : Value} {c : Nat} (h : SAt ex w X R L g fp gS bS ga gd gl z s l) (h3 : SRow w R c z.pages (Off ex X R L bS gS fp)) (kc : Keep [X] w wc) (fc : Blk wc X (xc g gS ga gd gl (z.begun life base gen) lv (.slice (some ⟨R, 0, none⟩) z.pages.length c)))
    (b1 : Below wc.heap.size wc w1) (hL : LAt w1 L' g gS ga gd gl life base 0) (hL' : wc.heap.size ≤ L') :
    SAt ex (w1.setCell ⟨X, 8, none⟩ (.pointer (some ⟨L', 0, none⟩))) X R L' g fp gS bS ga gd gl (z.begun life base gen) s l ∧ Keep [X] w (w1.setCell ⟨X, 8, none⟩ (.pointer (some ⟨L', 0, none⟩))) ∧ w.heap.size ≤ L' := by
  obtain ⟨x1, x2, x3, x4⟩ := h.nX
  obtain ⟨r1, r2, r3, r4⟩ := h.nR
  have hX := h.ltX
  have hs := kc.size
  have hb1 : Keep [X] w w1 := kc.trans (Keep.of_below b1 [X]) (Fresh.refl _ _)
  have hk := hb1.set (p := ⟨X, 8, none⟩) (.inl (by simp)) (.pointer (some ⟨L', 0, none⟩))
  have hlt := h.both.disk.lt
  have hls := h.both.sym.lt
  have hLx : L' ≠ X := by have := hX.1; omega
  refine ⟨⟨⟨h.both.disk.keep hk (fun j hj e => x4 (by rw [List.mem_singleton] at e; exact e ▸ hj)), h.both.sym.keepK hk (by simp; exact fun e => x3 e.symm) (by simp; exact fun e => x2 e.symm), h.both.nS, h.both.nB⟩, ⟨_, c, ((fc.on b1).set (k := 8) _ : Blk _ X (xc g gS ga gd gl (z.begun life base gen) (.pointer (some ⟨L', 0, none⟩)) (.slice (some ⟨R, 0, none⟩) z.pages.length c))), fun _ => rfl, h3.move hk (by simp; exact fun e => x1 e.symm) (fun j hj hlt => ⟨by simp; exact hj.1, hj.1, hj.2.1, by omega, hj.2.2.2⟩)⟩,
    fun _ => ⟨Blk.other hL _ hLx, hLx⟩, ⟨x1, x2, x3, x4⟩, ⟨by have := hX.2; omega, r2, r3, r4⟩, ⟨by have := hls.2; omega, by have := hls.1; omega, fun e => by have := hlt _ e; omega⟩, ?_, fun j hj => Nat.lt_of_lt_of_le (h.exl j hj) hk.size⟩, hk, by omega⟩
  have := hL.lt
  simpa [World.setCell] using this
def BMid (w : World) (X g gS : Nat) (ga gd gl : Int) (z : Z) (lv pv : Value) (wx : World) : Prop := Keep [X] w wx ∧ Blk wx X (xc g gS ga gd gl z lv pv)
set_option maxHeartbeats 1000000 in
theorem begin3_any (X R L g : Nat) (fp : List Nat) (gS bS : Nat) (ga gd gl : Int) (z : Z) (s : St) (l : List (List UInt8)) (life : UInt64) (base : Int) (gen : UInt64) (bX bA : Nat) (w : World) (hG : Gb ga gd gl) (h : SAt ex w X R L g fp gS bS ga gd gl z s l) (hX : Box w bX (.pointer (some ⟨X, 0, none⟩))) (hA : Blk w bA (scell life base gen)) (nX : bX ≠ X) (nA : bA ≠ X) (nXA : bX ≠ bA)
    (hf : wrightF s ga gd gl base = 0) :
    Calls Tryz.prog 81 #[.pointer (some ⟨bA, 0, none⟩), .pointer (some ⟨bX, 0, none⟩)] w fun e w' => e = .returned (.int .i64 0) ∧ ∃ L', SAt ex w' X R L' g fp gS bS ga gd gl (z.begun life base gen) s l ∧ Keep [X] w w' ∧ w.heap.size ≤ L' := by
  obtain ⟨lv, c, h1, _, h3⟩ := h.blk
  have H3 := Lib.hid h3
  obtain ⟨z0, z1, z2, z3, z4, z5, z6, z7, z8, z9, z10, z11, z12⟩ := thirteen h1
  obtain ⟨a0, a1, a2⟩ := gthree hA
  have q0 := hX.cell
  have fX := h1.free
  have hlX := h1.lt
  have hlA := hA.lt
  have hlB := hX.lt
  have HN := Lib.hid (fun W hD => Wal.new_any g fp s gS ga gd gl life base W hG hD hf)
  have HH := Lib.hid h
  have HB := Lib.hid h1
  have HX := Lib.hid hX
  have HA := Lib.hid hA
  clear h1 h3 h hX hA hf hG
  go_enter Tryz.func81, Tryz.ntmps81
  go_wp2_with fail
  have HS := Lib.hid (fun (W : World) (hW : Keep [X] w W) => show W.cell? ⟨bX, 0, none⟩ = some (.pointer (some ⟨X, 0, none⟩)) ∧ W.cell? ⟨bA, 0, none⟩ = some (.int .u64 (life.toNat : Int)) ∧ W.cell? ⟨bA, 1, none⟩ = some (.int .i64 base) ∧ W.cell? ⟨bA, 2, none⟩ = some (.int .u64 (gen.toNat : Int)) from ⟨(HX.out.keep hW (by simpa using nX)).cell, gthree (HA.out.keepK hW (by simpa using nA))⟩)
  have k0 : Keep [X] w w := Keep.refl _ _
  have k1 := ((k0.set (p := ⟨X, 5, none⟩) (.inl (by simp)) (.int .u64 (life.toNat : Int))).set (p := ⟨X, 6, none⟩) (.inl (by simp)) (.int .i64 base)).set (p := ⟨X, 7, none⟩) (.inl (by simp)) (.int .u64 (gen.toNat : Int))
  have k2 := k0.set (p := ⟨X, 11, none⟩) (.inl (by simp)) (.bool false)
  have k3 := k1.set (p := ⟨X, 11, none⟩) (.inl (by simp)) (.bool false)
  have k4 := ((k2.set (p := ⟨X, 5, none⟩) (.inl (by simp)) (.int .u64 (life.toNat : Int))).set (p := ⟨X, 6, none⟩) (.inl (by simp)) (.int .i64 base)).set (p := ⟨X, 7, none⟩) (.inl (by simp)) (.int .u64 (gen.toNat : Int))
  clear nX nA nXA z0 z1 z2 z3 z4 z8 z9 z10 z12
  go_cut [] (fun wx => BMid w X g gS ga gd gl (z.begun life base gen) lv (.slice (some ⟨R, 0, none⟩) z.pages.length c) wx)
  case first =>
    go_region_held3 (fun w' => w'.cell? ⟨bX, 0, none⟩ = some (.pointer (some ⟨X, 0, none⟩)) ∧ w'.cell? ⟨bA, 0, none⟩ = some (.int .u64 (life.toNat : Int)) ∧ w'.cell? ⟨bA, 1, none⟩ = some (.int .i64 base) ∧ w'.cell? ⟨bA, 2, none⟩ = some (.int .u64 (gen.toNat : Int))) (first | exact ⟨q0, a0, a1, a2⟩ | exact HS.out _ k1 | exact HS.out _ k2 | exact HS.out _ k3 | exact HS.out _ k4 | exact HS.out _ k0) (fail)
    go_wp2_with fail
    go_meet
    case rel => exact ⟨⟨k3.1, k3.2.1, k3.2.2.1, k3.2.2.2.1, k3.2.2.2.2⟩, ((((HB.out.set (k := 5) (.int .u64 (life.toNat : Int))).set (k := 6) (.int .i64 base)).set (k := 7) (.int .u64 (gen.toNat : Int))).set (k := 11) (.bool false) : Blk _ X _)⟩
  case rest =>
    clear k1 k2 k3 k4 z5 z6 z7 z11 q0 a0 a1 a2
    obtain ⟨kc, fc⟩ := hcut
    obtain ⟨q0, a0, a1, a2⟩ := HS.out wc kc
    obtain ⟨y0, y1, y2, y3, y4, y5, y6, y7, y8, y9, y10, y11, y12⟩ := thirteen fc
    have hlX := fc.lt
    have hD := Lib.hid (fun W (bW : Below wc.heap.size wc W) => show DAt W g fp s from (HH.out.both.disk.keep kc (fun j hj e => HH.out.nX.2.2.2 (by rw [List.mem_singleton] at e; exact e ▸ hj))).on bW)
    have HS2 := Lib.hid (fun W (bW : Below wc.heap.size wc W) => show W.cell? ⟨bX, 0, none⟩ = some (.pointer (some ⟨X, 0, none⟩)) ∧ W.cell? ⟨bA, 0, none⟩ = some (.int .u64 (life.toNat : Int)) ∧ W.cell? ⟨bA, 1, none⟩ = some (.int .i64 base) ∧ W.cell? ⟨X, 0, none⟩ = some (.pointer (some ⟨g, 0, none⟩)) ∧ W.cell? ⟨X, 1, none⟩ = some (.pointer (some ⟨gS, 0, none⟩)) ∧ W.cell? ⟨X, 2, none⟩ = some (.int .i64 ga) ∧ W.cell? ⟨X, 3, none⟩ = some (.int .i64 gd) ∧ W.cell? ⟨X, 4, none⟩ = some (.int .i64 gl) from by
      obtain ⟨u0, u1, u2, _⟩ := HS.out W (kc.trans (Keep.of_below bW [X]) (Fresh.refl _ _))
      obtain ⟨v0, v1, v2, v3, v4, _⟩ := thirteen (fc.on bW)
      exact ⟨u0, u1, u2, v0, v1, v2, v3, v4⟩)
    have HS3 := Lib.hid (fun W (bW : Below wc.heap.size wc W) (v : Value) => show (W.setCell ⟨X, 8, none⟩ v).cell? ⟨bX, 0, none⟩ = some (.pointer (some ⟨X, 0, none⟩)) ∧ (W.setCell ⟨X, 8, none⟩ v).cell? ⟨bA, 0, none⟩ = some (.int .u64 (life.toNat : Int)) ∧ (W.setCell ⟨X, 8, none⟩ v).cell? ⟨bA, 1, none⟩ = some (.int .i64 base) ∧ (W.setCell ⟨X, 8, none⟩ v).cell? ⟨X, 0, none⟩ = some (.pointer (some ⟨g, 0, none⟩)) ∧ (W.setCell ⟨X, 8, none⟩ v).cell? ⟨X, 1, none⟩ = some (.pointer (some ⟨gS, 0, none⟩)) ∧ (W.setCell ⟨X, 8, none⟩ v).cell? ⟨X, 2, none⟩ = some (.int .i64 ga) ∧ (W.setCell ⟨X, 8, none⟩ v).cell? ⟨X, 3, none⟩ = some (.int .i64 gd) ∧ (W.setCell ⟨X, 8, none⟩ v).cell? ⟨X, 4, none⟩ = some (.int .i64 gl) from by
      obtain ⟨u0, u1, u2, _⟩ := HS.out _ ((kc.trans (Keep.of_below bW [X]) (Fresh.refl _ _)).set (p := ⟨X, 8, none⟩) (.inl (by simp)) v)
      obtain ⟨v0, v1, v2, v3, v4, _⟩ := thirteen (show Blk (W.setCell ⟨X, 8, none⟩ v) X (xc g gS ga gd gl (z.begun life base gen) v (.slice (some ⟨R, 0, none⟩) z.pages.length c)) from (fc.on bW).set (k := 8) v)
      exact ⟨u0, u1, u2, v0, v1, v2, v3, v4⟩)
    have cz : Below wc.heap.size wc wc.drew := (Below.refl _ _).drew
    have fX := fc.free
    have FC := Lib.hid fc
    have KC := Lib.hid kc
    clear kc fc
    go_upto_region 2 with (fail)
    go_region_held3 (fun W => W.cell? ⟨bX, 0, none⟩ = some (.pointer (some ⟨X, 0, none⟩)) ∧ W.cell? ⟨bA, 0, none⟩ = some (.int .u64 (life.toNat : Int)) ∧ W.cell? ⟨bA, 1, none⟩ = some (.int .i64 base) ∧ W.cell? ⟨X, 0, none⟩ = some (.pointer (some ⟨g, 0, none⟩)) ∧ W.cell? ⟨X, 1, none⟩ = some (.pointer (some ⟨gS, 0, none⟩)) ∧ W.cell? ⟨X, 2, none⟩ = some (.int .i64 ga) ∧ W.cell? ⟨X, 3, none⟩ = some (.int .i64 gd) ∧ W.cell? ⟨X, 4, none⟩ = some (.int .i64 gl)) (first | exact HS2.out _ cz | exact HS2.out _ bt1 | exact HS3.out _ bt1 _) ((go_at_call 82; refine (HN.out _ (hD.out _ cz)).mono ?_; rintro e w1 ⟨rfl, hL1, b1⟩; have bt1 := bt cz b1; have y8' := (World.cell?_of_block (bt1.block _ hlX)).trans y8; have fx8 := (World.frozen?_of_block (bt1.block _ hlX)).trans (fX 8)))
    have fin := Lib.hid (SAt.begun HH.out H3.out KC.out FC.out bt1 hL1 (by simp))
    clear y0 y1 y2 y3 y4 y5 y6 y7 y8 y9 y10 y11 y12 fX fx8 y8'
    go_wp2_with fail
    go_ret
    exact ⟨rfl, _, fin.out⟩
end Go.Proofs.YtchcmklelmlbgaaGreat.Sto

/- The store: begin. No statement is proved here. -/
namespace Go.Proofs.YtchcmklelmlbgaaGreat.Sto
open Go.RowKit
open Go.Proofs.YtchcmklelmlbgaaGreat.Geom
open Go.Proofs.YtchcmklelmlbgaaGreat.Disk (St DAt Did)
open Go.Proofs.YtchcmklelmlbgaaGreat.Sup (Gb gv gcell gthree srightF splace sB sL wf sv scell)
open Go.Proofs.YtchcmklelmlbgaaGreat.Snap (snapF)
open Go.Proofs.YtchcmklelmlbgaaGreat.Wal (LAt lcell wrightF)
set_option linter.unusedVariables false
variable {ex : List Nat}
set_option maxRecDepth 100000
theorem begF_no {ga gd gl : Int} {life : UInt64} {base : Int} {gen : UInt64} {P : List (List UInt8)} {l : List (List UInt8)} {s : St} (h : (snapF ga gd gl life P l s).2.2 ≠ 0) : begF ga gd gl life base gen P l s = snapF ga gd gl life P l s := if_neg h
theorem begF_yes {ga gd gl : Int} {life : UInt64} {base : Int} {gen : UInt64} {P : List (List UInt8)} {l : List (List UInt8)} {s : St} (h : (snapF ga gd gl life P l s).2.2 = 0) : begF ga gd gl life base gen P l s = (sL (snapF ga gd gl life P l s).1 ga gd gl life base gen, wf (snapF ga gd gl life P l s).2.1 (splace life) (sB (snapF ga gd gl life P l s).1 ga gd gl life base gen)) := if_pos h
/-- where begin's steps stand -/
def BIn (ex : List Nat) (w3 : World) (X R L g : Nat) (fp : List Nat) (gS bS : Nat) (ga gd gl : Int) (z' : Z) (V B : Out) : Nat → World → Prop
  | 0, W => W = w3
  | 1, W => V.2.2 = 0 ∧ Turn w3 g fp gS bS V.2.1 V.1 W
  | 2, W => B.2.2 = 0 ∧ Turn w3 g fp gS bS B.2.1 B.1 W
  | _, W => B.2.2 = 0 ∧ STurn ex w3 X R L g fp gS bS ga gd gl z' B.2.1 B.1 W
def BOut (w3 : World) (g : Nat) (fp : List Nat) (gS bS : Nat) (B : Out) (f : Int) (W : World) : Prop := f = B.2.2 ∧ Turn w3 g fp gS bS B.2.1 B.1 W
def bks : Nat → FuncId
  | 0 => 77
  | 1 => 79
  | _ => 81
def bcs (bX bA : Nat) : Nat → Array Value
  | 0 => #[.pointer (some ⟨bX, 0, none⟩), .pointer (some ⟨bA, 0, none⟩)]
  | 1 => #[.pointer (some ⟨bX, 0, none⟩), .pointer (some ⟨bA, 0, none⟩)]
  | _ => #[.pointer (some ⟨bA, 0, none⟩), .pointer (some ⟨bX, 0, none⟩)]
theorem _root_.Go.Proofs.YtchcmklelmlbgaaGreat.Turn.keepOf {w w' : World} {g : Nat} {fp : List Nat} {gS bS : Nat} {s : St} {l : List (List UInt8)} (h : Turn w g fp gS bS s l w') : Keep (bS :: fp) w w' := by obtain ⟨_, _, k, _⟩ := h; exact k
/-- begin's steps, at the world behind its boxes -/
theorem begin_steps (X R L g : Nat) (fp : List Nat) (gS bS : Nat) (ga gd gl : Int) (z : Z) (s : St) (l : List (List UInt8)) (life : UInt64) (base : Int) (gen : UInt64) (bX bA bL : Nat) (w : World) (hG : Gb ga gd gl) (h : SAt ex w X R L g fp gS bS ga gd gl z s l) (hX : Box w bX (.pointer (some ⟨X, 0, none⟩))) (hA : Blk w bA (scell life base gen))
    (hF : Blk w bL [.func (.func 77) #[] (bcs bX bA 0), .func (.func 79) #[] (bcs bX bA 1), .func (.func 81) #[] (bcs bX bA 2)])
    (nX : bX ∉ X :: bS :: fp) (nA : bA ∉ X :: bS :: fp) (nXA : bX ≠ bA) (nF : bL ∉ bS :: fp)
    (hl : l.length ≤ 800000) (hs : s.sz ≤ 70000000) (hf : srightF s ga gd gl = 0) (hn : (z.pages.length : Int) = pagesOf ga gd gl) (hlong : Snap.longB z.pages = false) (hb0 : 0 ≤ base) (hb1 : base ≤ 1073741824) :
    Calls Tryz.prog 38 #[.slice (some ⟨bL, 0, none⟩) 3 3] w fun e w' => ∃ f : Int, e = .returned (.int .i64 f) ∧ (f = 0 → BIn ex w X R L g fp gS bS ga gd gl (z.begun life base gen) (snapF ga gd gl life z.pages l s) (begF ga gd gl life base gen z.pages l s) 3 w') ∧ (f ≠ 0 → BOut w g fp gS bS (begF ga gd gl life base gen z.pages l s) f w') := by
  have hpb := pagesOf_bd ga gd gl
  have lim : (snapF ga gd gl life z.pages l s).1.length ≤ l.length + z.pages.length ∧ (snapF ga gd gl life z.pages l s).2.1.sz ≤ s.sz + 2 * z.pages.length + 1 := by
    have := Enc.enf_lim (Snap.pItems ga gd gl life 0 z.pages) l s
    rw [Snap.pItems_len] at this
    exact this
  obtain ⟨V, hV⟩ : ∃ V, V = snapF ga gd gl life z.pages l s := ⟨_, rfl⟩
  obtain ⟨B, hB⟩ : ∃ B, B = begF ga gd gl life base gen z.pages l s := ⟨_, rfl⟩
  have hBn : V.2.2 ≠ 0 → B = V := fun e => by rw [hB, hV]; exact begF_no (by rw [← hV]; exact e)
  have hBy : V.2.2 = 0 → B = (sL V.1 ga gd gl life base gen, wf V.2.1 (splace life) (sB V.1 ga gd gl life base gen)) := fun e => by rw [hB, hV]; exact begF_yes (by rw [← hV]; exact e)
  have hVs : V.2.1.size = s.size := by rw [hV]; exact snapF_size _ _ _ _ _ _ _
  have hBs : B.2.1.size = s.size := by rw [hB]; exact begF_size _ _ _ _ _ _ _ _ _
  rw [← hV] at lim ⊢
  rw [← hB]
  have noXb : ∀ {j : Nat}, j ∉ X :: bS :: fp → j ∉ bS :: fp := fun hj e => hj (List.mem_cons_of_mem _ e)
  refine steps_any 3 3 bL 0 bks (fun _ => #[]) (bcs bX bA) (BIn ex w X R L g fp gS bS ga gd gl (z.begun life base gen) V B) (BOut w g fp gS bS B) w (by omega) rfl ?_ ?_ ?_
  · intro i hi W hI
    have hk : Keep (bS :: fp) w W := by
      match i, hI with
      | 0, hI => rw [show W = w from hI]; exact Keep.refl _ _
      | 1, hI => exact hI.2.keepOf
      | 2, hI => exact hI.2.keepOf
    have hF' := hF.keepK hk nF
    match i, hi with
    | 0, _ => exact hF'.cell (k := 0) (by simp)
    | 1, _ => exact hF'.cell (k := 1) (by simp)
    | 2, _ => exact hF'.cell (k := 2) (by simp)
  · intro i hi x W
    match i, hi with
    | 0, _ => simp [go_sem, bks]
    | 1, _ => simp [go_sem, bks]
    | 2, _ => simp [go_sem, bks]
  · intro i hi W hI
    match i, hi, hI with
    | 0, _, hI =>
      have hw : W = w := hI
      subst hw
      have hc := begin1_any X R L g fp gS bS ga gd gl z s l life base gen bX bA W hG h hX hA (by omega) (by omega) hf hn hlong
      rw [← hV] at hc
      rw [show (#[] : Array Value) ++ bcs bX bA 0 = #[.pointer (some ⟨bX, 0, none⟩), .pointer (some ⟨bA, 0, none⟩)] from by simp [bcs]]
      refine Calls.mono hc ?_
      rintro e w' ⟨rfl, t⟩
      exact ⟨_, rfl, fun e => ⟨e, t⟩, fun e => by rw [hBn e]; exact ⟨rfl, t⟩⟩
    | 1, _, hI =>
      obtain ⟨h0, fp1, hB1, k1, f1⟩ := hI
      have hc := begin2_any X R L g fp1 gS bS ga gd gl z V.2.1 V.1 life base gen bX bA W hG (h.turned hB1 k1 f1) (hX.keep k1 (noXb nX)) (hA.keepK k1 (noXb nA)) (by omega) (by omega) (sright_of hf hVs) hb0 hb1
      rw [show (#[] : Array Value) ++ bcs bX bA 1 = #[.pointer (some ⟨bX, 0, none⟩), .pointer (some ⟨bA, 0, none⟩)] from by simp [bcs]]
      refine Calls.mono hc ?_
      rintro e w' ⟨rfl, t⟩
      have e1 := hBy h0
      have t2 : Turn w g fp gS bS B.2.1 B.1 w' := by rw [e1]; exact Turn.trans k1 f1 t
      exact ⟨_, rfl, fun e => ⟨by rw [e1]; exact e, t2⟩, fun e => ⟨by rw [e1], t2⟩⟩
    | 2, _, hI =>
      obtain ⟨h0, fp1, hB1, k1, f1⟩ := hI
      have hc := begin3_any X R L g fp1 gS bS ga gd gl z B.2.1 B.1 life base gen bX bA W hG (h.turned hB1 k1 f1) (hX.keep k1 (noXb nX)) (hA.keepK k1 (noXb nA)) (fun e => nX (by simp [e])) (fun e => nA (by simp [e])) nXA (wright_of (sright_of hf hBs) hb0 hb1)
      rw [show (#[] : Array Value) ++ bcs bX bA 2 = #[.pointer (some ⟨bA, 0, none⟩), .pointer (some ⟨bX, 0, none⟩)] from by simp [bcs]]
      refine Calls.mono hc ?_
      rintro e w' ⟨rfl, L', hs', k2, hL'⟩
      refine ⟨0, rfl, fun _ => ⟨h0, L', fp1, hs', ?_, f1, .inr (Nat.le_trans k1.size hL')⟩, fun e => absurd rfl e⟩
      · refine (k1.more (fp' := X :: R :: L :: bS :: fp) (fun j hj => by simp only [List.mem_cons] at hj ⊢; rcases hj with e | e <;> simp [e])).trans (k2.more (fp' := X :: R :: L :: bS :: fp) (fun j hj => by simp only [List.mem_cons, List.not_mem_nil, or_false] at hj ⊢; exact .inl hj)) (Fresh.refl _ _)
theorem begin_any (X R L g : Nat) (fp : List Nat) (gS bS : Nat) (ga gd gl : Int) (z : Z) (s : St) (l : List (List UInt8)) (life : UInt64) (base : Int) (gen : UInt64) (w : World) (hG : Gb ga gd gl) (h : SAt ex w X R L g fp gS bS ga gd gl z s l)
    (hl : l.length ≤ 800000) (hs : s.sz ≤ 70000000) (hf : srightF s ga gd gl = 0) (hn : (z.pages.length : Int) = pagesOf ga gd gl) (hlong : Snap.longB z.pages = false) (hb0 : 0 ≤ base) (hb1 : base ≤ 1073741824) :
    Calls Tryz.prog 43 #[.pointer (some ⟨X, 0, none⟩), sv life base gen] w fun e w' => e = .returned (.int .i64 (begF ga gd gl life base gen z.pages l s).2.2) ∧
      STurn ex w X R L g fp gS bS ga gd gl (if (begF ga gd gl life base gen z.pages l s).2.2 = 0 then z.begun life base gen else z) (begF ga gd gl life base gen z.pages l s).2.1 (begF ga gd gl life base gen z.pages l s).1 w' := by
  have hlt := h.both.disk.lt
  have hls := h.both.sym.lt
  have hX := h.ltX
  obtain ⟨w3, hw3⟩ : ∃ w3, w3 = ((w.alloc (.cells #[.pointer (some ⟨X, 0, none⟩)] 35)).alloc (.cells #[.int .u64 (life.toNat : Int), .int .i64 base, .int .u64 (gen.toNat : Int)] 90)).alloc (.cells #[.func (.func 77) #[] #[.pointer (some ⟨w.heap.size, 0, none⟩), .pointer (some ⟨w.heap.size + 1, 0, none⟩)], .func (.func 79) #[] #[.pointer (some ⟨w.heap.size, 0, none⟩), .pointer (some ⟨w.heap.size + 1, 0, none⟩)], .func (.func 81) #[] #[.pointer (some ⟨w.heap.size + 1, 0, none⟩), .pointer (some ⟨w.heap.size, 0, none⟩)]] 122) := ⟨_, rfl⟩
  have b3 : Below w.heap.size w w3 := by rw [hw3]; exact b3alloc _ _ _ _
  have q0 : Box w3 w.heap.size (.pointer (some ⟨X, 0, none⟩)) := by rw [hw3]; exact ((Box.new w _ _).alloc _).alloc _
  have q1 : Blk w3 (w.heap.size + 1) (scell life base gen) := by rw [hw3]; simpa using (Blk.new (w.alloc (.cells #[.pointer (some ⟨X, 0, none⟩)] 35)) (scell life base gen) 90).alloc _
  have q2 : Blk w3 (w.heap.size + 1 + 1) [.func (.func 77) #[] (bcs w.heap.size (w.heap.size + 1) 0), .func (.func 79) #[] (bcs w.heap.size (w.heap.size + 1) 1), .func (.func 81) #[] (bcs w.heap.size (w.heap.size + 1) 2)] := by
    have e : ((w.alloc (.cells #[.pointer (some ⟨X, 0, none⟩)] 35)).alloc (.cells #[.int .u64 (life.toNat : Int), .int .i64 base, .int .u64 (gen.toNat : Int)] 90)).heap.size = w.heap.size + 1 + 1 := by simp
    rw [hw3, ← e]
    exact Blk.new _ _ _
  have nn : ∀ j, w.heap.size ≤ j → j ∉ X :: bS :: fp := fun j hj e => by
    rcases List.mem_cons.1 e with e | e
    · omega
    · rcases List.mem_cons.1 e with e | e
      · omega
      · have := hlt _ e; omega
  have HS := Lib.hid (begin_steps X R L g fp gS bS ga gd gl z s l life base gen w.heap.size (w.heap.size + 1) (w.heap.size + 1 + 1) w3 hG (h.on b3) q0 q1 q2 (nn _ (Nat.le_refl _)) (nn _ (by omega)) (by omega) (fun e => nn (w.heap.size + 1 + 1) (by omega) (List.mem_cons_of_mem _ e)) hl hs hf hn hlong hb0 hb1)
  obtain ⟨V, hV⟩ : ∃ V, V = snapF ga gd gl life z.pages l s := ⟨_, rfl⟩
  obtain ⟨B, hB⟩ : ∃ B, B = begF ga gd gl life base gen z.pages l s := ⟨_, rfl⟩
  rw [← hV, ← hB] at HS
  rw [← hB]
  obtain ⟨z', hz'⟩ : ∃ z', z' = if B.2.2 = 0 then z.begun life base gen else z := ⟨_, rfl⟩
  rw [← hz']
  have HZ := Lib.hid hz'
  have HH := Lib.hid h
  have HB3 := Lib.hid b3
  have HW := Lib.hid hw3
  clear hz' hV hB h q0 q1 q2 nn hl hs hf hn hlong hb0 hb1 hlt hls hX b3 hw3 hG
  go_enter Tryz.func43, Tryz.ntmps43
  go_wp2_with (go_at_call 38; rw [← HW.out]; refine HS.out.mono ?_; rintro e w1 ⟨f, rfl, h1, h2⟩)
  go_ret
  by_cases hf : f = 0
  · obtain ⟨g1, g2⟩ := h1 hf
    subst hf
    rw [HZ.out, if_pos g1, g1]
    exact ⟨rfl, g2.first HB3.out⟩
  · obtain ⟨g1, g2⟩ := h2 hf
    subst g1
    rw [HZ.out, if_neg hf]
    obtain ⟨fp1, hB1, k1, f1⟩ := g2
    exact ⟨rfl, STurn.first HB3.out ⟨L, fp1, (HH.out.on HB3.out).turned hB1 k1 f1, k1.more (fun j hj => by simp only [List.mem_cons] at hj ⊢; rcases hj with e | e <;> simp [e]), f1, .inl rfl⟩⟩
end Go.Proofs.YtchcmklelmlbgaaGreat.Sto

/- The store: Renew. No statement is proved here. -/
namespace Go.Proofs.YtchcmklelmlbgaaGreat.Sto
open Go.RowKit
open Go.Proofs.YtchcmklelmlbgaaGreat.Geom
open Go.Proofs.YtchcmklelmlbgaaGreat.Disk (St DAt Did)
open Go.Proofs.YtchcmklelmlbgaaGreat.Sup (Gb gv gcell gthree srightF splace sB sL wf sv scell)
open Go.Proofs.YtchcmklelmlbgaaGreat.Snap (snapF PagesOk)
open Go.Proofs.YtchcmklelmlbgaaGreat.Wal (LAt lcell wrightF)
set_option linter.unusedVariables false
variable {ex : List Nat}
set_option maxRecDepth 100000
theorem Z.told_zero (z : Z) : z.told 0 = z := by
  unfold Z.told
  rw [show decide ((0 : Int) = 12) = false by decide, Bool.or_false]
theorem Z.told_twice (z : Z) (f : Int) : (z.told f).told f = z.told f := by
  unfold Z.told
  simp only [Bool.or_assoc, Bool.or_self]
theorem Z.renew_told (gl : Int) (z : Z) (f : Int) : (if f = 0 then z.begun (z.life + 1) (baseN gl z) z.gen else z).told f = z.renew gl f := by
  unfold Z.renew
  by_cases h : f = 0
  · subst h; rw [if_pos rfl, if_pos rfl, Z.told_zero]
  · rw [if_neg h, if_neg h]
theorem life_wrap {life : UInt64} (h : life.toNat < 4611686018427387904) : IntKind.u64.wrap ((life.toNat : Int) + 1) = ((life + 1).toNat : Int) := by
  have h1 : (life + 1).toNat = life.toNat + 1 := by simp [UInt64.toNat_add]; omega
  rw [h1]
  simp [IntKind.wrap, IntKind.signed, IntKind.bits]
  omega
/-- the pages may be written -/
structure ZOk (ga gd gl : Int) (z : Z) : Prop where
  len : (z.pages.length : Int) = pagesOf ga gd gl
  short : Snap.longB z.pages = false
set_option maxHeartbeats 1000000 in
theorem renew_any (X R L g : Nat) (fp : List Nat) (gS bS : Nat) (ga gd gl : Int) (z : Z) (s : St) (l : List (List UInt8)) (w : World) (hG : Gb ga gd gl) (h : SAt ex w X R L g fp gS bS ga gd gl z s l)
    (hl : l.length ≤ 800000) (hs : s.sz ≤ 70000000) (hf : srightF s ga gd gl = 0) (hz : ZOk ga gd gl z) (hd : z.dead = false) (hlife : z.life.toNat < 4611686018427387904) (hb : 0 ≤ z.base ∧ z.base ≤ 1073741824) (hq : z.due = false → z.seq ≤ 100000) (hnx : z.due = true → 0 ≤ z.next ∧ z.next ≤ 1073741824) (hh : z.due = false → z.has = true) :
    Calls Tryz.prog 16 #[.pointer (some ⟨X, 0, none⟩)] w fun e w' => e = .returned (.int .i64 (renO ga gd gl z l s).2.2) ∧ STurn ex w X R L g fp gS bS ga gd gl (renF ga gd gl z l s).1 (renO ga gd gl z l s).2.1 (renO ga gd gl z l s).1 w' := by
  have hy := right_yes (Sup.srightF_yes hf).1
  have hbn : 0 ≤ baseN gl z ∧ baseN gl z ≤ 1073741824 := by
    unfold baseN
    split
    · rename_i h1; exact hnx h1
    · have := Int.emod_nonneg (z.base + (z.seq : Int)) (show gl ≠ 0 by omega)
      have := Int.emod_lt_of_pos (z.base + (z.seq : Int)) (show 0 < gl by omega)
      omega
  have HR := ready_any X R L g fp gS bS ga gd gl z s l w h
  rw [if_neg (by rw [hd]; simp)] at HR
  have hlw := life_wrap hlife
  have HBe := Lib.hid (fun W (bW : Below w.heap.size w W) => begin_any X R L g fp gS bS ga gd gl z s l (z.life + 1) (baseN gl z) z.gen W hG (h.on bW) hl hs hf hz.len hz.short hbn.1 hbn.2)
  obtain ⟨lv, c, h1, h2, h3⟩ := h.blk
  obtain ⟨z0, z1, z2, z3, z4, z5, z6, z7, z8, z9, z10, z11, z12⟩ := thirteen h1
  obtain ⟨B, hB⟩ : ∃ B, B = renO ga gd gl z l s := ⟨_, rfl⟩
  have hB2 : begF ga gd gl (z.life + 1) (baseN gl z) z.gen z.pages l s = B := hB.symm
  rw [hB2] at HBe
  have hF : (renF ga gd gl z l s).1 = z.renew gl B.2.2 := by rw [hB]; rfl
  rw [hF, ← hB]
  obtain ⟨zf, hzf⟩ : ∃ q, q = (if B.2.2 = 0 then z.begun (z.life + 1) (baseN gl z) z.gen else z) := ⟨_, rfl⟩
  rw [← hzf] at HBe
  have HZ := Lib.hid (show z.renew gl B.2.2 = zf.told B.2.2 by rw [hzf, Z.renew_told])
  have HT := Lib.hid (fun W L' fp' hS => told_any (ex := ex) X R L' g fp' gS bS ga gd gl zf B.2.1 B.1 B.2.2 W hS)
  obtain ⟨bn, hbn0⟩ : ∃ q, q = baseN gl z := ⟨_, rfl⟩
  obtain ⟨lf, hlf⟩ : ∃ q, q = z.life + 1 := ⟨_, rfl⟩
  rw [← hbn0, ← hlf] at HBe
  rw [← hlf] at hlw
  have hlX := h1.lt
  have hgt : decide ((4611686018427387904 : Int) ≤ (z.life.toNat : Int)) = false := decide_eq_false (by omega)
  obtain ⟨lz, hlz⟩ : ∃ q : Int, q = (z.life.toNat : Int) := ⟨_, rfl⟩
  rw [← hlz] at hgt hlw z5
  rw [HZ.out]
  clear hzf hB hB2 hF HZ hlf hlz
  cases hdu : z.due with
  | true =>
    rw [hdu] at z11
    have hbe : z.next = bn := by rw [hbn0]; unfold baseN; rw [if_pos hdu]
    rw [hbe] at z9
    clear h h1 h2 h3 hbe hbn0 hdu hl hs hf hz hd hlife hb hq hnx hbn hy hG hh
    go_enter Tryz.func16, Tryz.ntmps16
    go_upto_region 9 with (go_at_call 44; refine (HR).mono ?_; rintro e w' ⟨rfl, rfl⟩)
    refine region_three [0] [1, 2, 3, 4, 5, 6, 7, 8, 9, 10, 11, 12, 13, 14] 15 (by kernel_rfl) (by kernel_rfl) (fun c d v a w h => by cases d <;> exact h) ?_
    simp only [preAct, preOne, opsAt, List.foldl_cons, List.foldl_nil, List.getElem?_cons_zero, List.getElem?_cons_succ, List.getD_cons_zero, List.getD_cons_succ, List.drop_succ_cons, List.drop_zero]
    have inbNe := InB.some
    have inbW := @wrap_small
    have inbU := IntKind.wrap_u8'
    repeat (refine wpQuiet_step (fun K hK => ?_); go_simp; first | (refine hK _ ?_; clear hK K) | (apply Exists.intro; refine ⟨?_, hK _ ?_⟩; (· (intro w' hw'; first | (have hcw := hw'.cell; go_simp; exact rfl))); clear hK K))
    refine wpQuiet_nil ?_
    intro wq hq
    clear inbNe inbW inbU
    go_wp2_with (first
      | (go_at_call 43; refine (HBe.out _ hq.below).mono ?_; rintro e w1 ⟨rfl, L1, fp1, hS1, k1, f1⟩)
      | (go_at_call 47; refine (HT.out _ L1 fp1 hS1).mono ?_; rintro e w2 ⟨rfl, t2⟩))
    go_ret
    exact ⟨rfl, STurn.first hq.below (STurn.trans k1 f1 t2)⟩
  | false =>
    rw [hdu] at z11
    rw [h2 (hh hdu)] at z8
    have hbe : (z.base + (z.seq : Int)) % gl = bn := by rw [hbn0]; unfold baseN; rw [if_neg (by rw [hdu]; simp)]
    have HN := Wal.next_any L g gS ga gd gl z.life z.base z.seq w (h.log (hh hdu)).1 (hq hdu) hb.1 hb.2 (by omega) (by omega)
    rw [hbe] at HN
    have HNx := Lib.hid HN
    clear HN h h1 h2 h3 hbe hbn0 hdu hl hs hf hz hd hlife hb hq hnx hbn hy hG hh
    go_enter Tryz.func16, Tryz.ntmps16
    go_upto_region 9 with (first
      | (go_at_call 44; refine (HR).mono ?_; rintro e w' ⟨rfl, rfl⟩)
      | (go_at_call 49; refine HNx.out.mono ?_; rintro e w0 ⟨rfl, b0⟩; have y5 := (World.cell?_of_block (b0.block _ hlX)).trans z5; have y7 := (World.cell?_of_block (b0.block _ hlX)).trans z7; have hlX0 := Nat.lt_of_lt_of_le hlX b0.size))
    refine region_three [0] [1, 2, 3, 4, 5, 6, 7, 8, 9, 10, 11, 12, 13, 14] 15 (by kernel_rfl) (by kernel_rfl) (fun c d v a w h => by cases d <;> exact h) ?_
    simp only [preAct, preOne, opsAt, List.foldl_cons, List.foldl_nil, List.getElem?_cons_zero, List.getElem?_cons_succ, List.getD_cons_zero, List.getD_cons_succ, List.drop_succ_cons, List.drop_zero]
    have inbNe := InB.some
    have inbW := @wrap_small
    have inbU := IntKind.wrap_u8'
    repeat (refine wpQuiet_step (fun K hK => ?_); go_simp; first | (refine hK _ ?_; clear hK K) | (apply Exists.intro; refine ⟨?_, hK _ ?_⟩; (· (intro w' hw'; first | (have hcw := hw'.cell; go_simp; exact rfl))); clear hK K))
    refine wpQuiet_nil ?_
    intro wq hq
    clear inbNe inbW inbU
    go_wp2_with (first
      | (go_at_call 43; refine (HBe.out _ (bt b0 hq.below)).mono ?_; rintro e w1 ⟨rfl, L1, fp1, hS1, k1, f1⟩)
      | (go_at_call 47; refine (HT.out _ L1 fp1 hS1).mono ?_; rintro e w2 ⟨rfl, t2⟩))
    go_ret
    exact ⟨rfl, STurn.first (bt b0 hq.below) (STurn.trans k1 f1 t2)⟩
end Go.Proofs.YtchcmklelmlbgaaGreat.Sto

/- What the law on reading supers needs of the reference: Of, and the law's best. -/
namespace Go.Proofs.YtchcmklelmlbgaaGreat.Sup
open Go.RowKit
open Go.Proofs.YtchcmklelmlbgaaGreat.Geom
open Go.Proofs.YtchcmklelmlbgaaGreat.Disk (St DAt Did New8 Told8 new)
open Go.Proofs.YtchcmklelmlbgaaGreat.Sec (X SymAt text sumOf sumAfter ckS blankB rightF xv RetX X0 five5x symbolic_any bset5)
set_option linter.unusedVariables false
set_option maxRecDepth 100000
/-! the two places, one behind the other -/
def bytesAt (q : List (List UInt8) × St) (p : Int) (x : X) : List UInt8 := text p x ++ sumOf q.1 (text p x)
theorem bytesAt_len (q : List (List UInt8) × St) (p : Int) (x : X) : (bytesAt q p x).length = 512 := by unfold bytesAt; rw [List.length_append, Sec.text_len, Sec.sumOf_len]
def stp (q : List (List UInt8) × St) (p : Int) (x : X) : List (List UInt8) × St := if rightF p x = 0 then (sumAfter q.1 (text p x), (Disk.put q.2 p (bytesAt q p x)).1) else q
theorem stp_yes {q : List (List UInt8) × St} {p : Int} {x : X} (h : rightF p x = 0) : stp q p x = (sumAfter q.1 (text p x), (Disk.put q.2 p (bytesAt q p x)).1) := if_pos h
theorem stp_no {q : List (List UInt8) × St} {p : Int} {x : X} (h : rightF p x ≠ 0) : stp q p x = q := if_neg h
theorem UpN.put {s : St} {n : Nat} (h : UpN s n) {p : Int} (h0 : 0 ≤ p) (h1 : p < n) {b : List UInt8} (hb : b.length = 512) : UpN (Disk.put s p b).1 n ∧ (Disk.put s p b).1.all = s.all ++ [(p.toNat, b)] ∧ (Disk.put s p b).1.sz ≤ s.sz + 1 := by
  refine ⟨?_, ?_, Disk.sz_put _ _ _⟩ <;> unfold Disk.put <;> rw [if_neg (by rw [h.size]; omega), if_neg (by omega)]
  exact ⟨h.size, h.pend, h.down, h.fuse⟩
theorem sumAfter_len (l : List (List UInt8)) (T : List UInt8) : (sumAfter l T).length ≤ l.length + 1 := by unfold sumAfter; split <;> simp
structure One (n : Nat) (ga gd gl : Int) (q : List (List UInt8) × St) (a : X) : Prop where
  up : UpN q.2 n
  len : q.1.length ≤ 1
  sz : q.2.sz ≤ 1
  good : rightF 2 a = 0 → Good q.1 2 a (Disk.kept q.2.all 2)
  zero2 : rightF 2 a ≠ 0 → Disk.kept q.2.all 2 = Disk.zero512
  zero3 : Disk.kept q.2.all 3 = Disk.zero512
theorem one {n : Nat} (hn : 4 ≤ n) (ga gd gl : Int) (a : X) : One n ga gd gl (stp ([], new n) 2 a) a := by
  by_cases h : rightF 2 a = 0
  · rw [stp_yes h]
    obtain ⟨u, e, z⟩ := (up_new n).put (p := 2) (by omega) (by omega) (bytesAt_len ([], new n) 2 a)
    exact ⟨u, sumAfter_len [] (text 2 a), z, fun _ => by rw [e, show ((2 : Int).toNat) = 2 from rfl, kept_after]; exact Good.made [] h, fun h2 => absurd h h2, by rw [e, kept_beside _ _ (by decide)]; rfl⟩
  · rw [stp_no h]
    exact ⟨up_new n, by simp, Nat.zero_le _, fun h2 => absurd h2 h, fun _ => rfl, rfl⟩
end Go.Proofs.YtchcmklelmlbgaaGreat.Sup

/- The pages of a life, in plain Lean: what is read of any sectors in their places. -/
namespace Go.Proofs.YtchcmklelmlbgaaGreat.Snap
open Go.RowKit
open Go.Proofs.YtchcmklelmlbgaaGreat.Geom
open Go.Proofs.YtchcmklelmlbgaaGreat.Disk (St Wr read kept new zero512)
open Go.Proofs.YtchcmklelmlbgaaGreat.Sec (X text text_len sumAfter rightF X0)
open Go.Proofs.YtchcmklelmlbgaaGreat.Sup (UpN stp stp_yes stp_no bytesAt bytesAt_len)
open Go.Proofs.YtchcmklelmlbgaaGreat.Enc (rd rd_good rd_zero)
set_option linter.unusedVariables false
/-- was a sector put there? -/
def putB (ga gd gl : Int) (life : UInt64) (l : List X) (j : Nat) : Bool := if h : j < l.length then decide (rightF (areaAt ga gd gl life.toNat j) l[j] = 0) else false
/-- is it the page? -/
def isL (ga gd gl : Int) (life : UInt64) (l : List X) (j : Nat) : Bool := if h : j < l.length then decide (rightF (areaAt ga gd gl life.toNat j) l[j] = 0) && isX life j l[j] else false
structure QInv (ga gd gl : Int) (life : UInt64) (l : List X) (n N k : Nat) (q : List (List UInt8) × St) : Prop where
  up : UpN q.2 n
  len : q.1.length ≤ k
  sz : q.2.sz ≤ k
  good : ∀ j (h : j < l.length), j < k → rightF (areaAt ga gd gl life.toNat j) l[j] = 0 → Sup.Good q.1 (areaAt ga gd gl life.toNat j) l[j] (kept q.2.all (areaAt ga gd gl life.toNat j).toNat)
  zero : ∀ j, j < N → ¬ (j < k ∧ putB ga gd gl life l j = true) → kept q.2.all (areaAt ga gd gl life.toNat j).toNat = zero512
theorem area_bd {ga gd gl : Int} {n N : Nat} (hn : (n : Int) = Geom.sizeOf ga gd gl) (hN : (N : Int) = pagesOf ga gd gl) (life : UInt64) {k : Nat} (hk : k < N) : 0 ≤ areaAt ga gd gl life.toNat k ∧ areaAt ga gd gl life.toNat k < n := by
  have := area_ok (ga := ga) (gd := gd) (gl := gl) (life := life) (k := k) (by omega)
  omega
theorem QInv.isPg {ga gd gl : Int} {n N : Nat} (hn : (n : Int) = Geom.sizeOf ga gd gl) (hN : (N : Int) = pagesOf ga gd gl) {life : UInt64} {l : List X} {q : List (List UInt8) × St} (h : QInv ga gd gl life l n N N q) {j : Nat} (hj : j < N) : isPg q.1 q.2 ga gd gl life j = isL ga gd gl life l j := by
  have hp := area_bd hn hN life hj
  unfold Snap.isPg rdAt isL
  by_cases h1 : j < l.length
  · rw [dif_pos h1]
    by_cases h2 : rightF (areaAt ga gd gl life.toNat j) l[j] = 0
    · rw [rd_good h.up hp.1 hp.2 (h.good j h1 hj h2)]
      simp [h2]
    · rw [rd_zero h.up hp.1 hp.2 (h.zero j hj (fun hh => by have := hh.2; unfold putB at this; rw [dif_pos h1] at this; exact h2 (of_decide_eq_true this)))]
      simp [h2]
  · rw [dif_neg h1, rd_zero h.up hp.1 hp.2 (h.zero j hj (fun hh => by have := hh.2; unfold putB at this; rw [dif_neg h1] at this; cases this))]
    simp
/-- the numbers of the pages that are not there, up to the k-th -/
def wants (ga gd gl : Int) (life : UInt64) (l : List X) (k : Nat) : List Int := ((List.range k).filter (fun j => !isL ga gd gl life l j)).map (fun j : Nat => (j : Int))
theorem QInv.badL {ga gd gl : Int} {n N : Nat} (hn : (n : Int) = Geom.sizeOf ga gd gl) (hN : (N : Int) = pagesOf ga gd gl) {life : UInt64} {l : List X} {q : List (List UInt8) × St} (h : QInv ga gd gl life l n N N q) : Snap.badL q.1 q.2 ga gd gl life N = wants ga gd gl life l N := by
  unfold Snap.badL wants
  congr 1
  apply List.filter_congr
  intro j hj
  rw [h.isPg hn hN (List.mem_range.1 hj)]
theorem QInv.snapR {ga gd gl : Int} {n N : Nat} (hn : (n : Int) = Geom.sizeOf ga gd gl) (hN : (N : Int) = pagesOf ga gd gl) {life : UInt64} {l : List X} {q : List (List UInt8) × St} (h : QInv ga gd gl life l n N N q) :
    ((wants ga gd gl life l N).length = 0 ∧ ∃ r, Snap.snapR q.1 q.2 ga gd gl life N = some r ∧ r.length = N) ∨ (0 < (wants ga gd gl life l N).length ∧ Snap.snapR q.1 q.2 ga gd gl life N = none) := by
  rw [← h.badL hn hN]
  unfold Snap.snapR
  by_cases ha : allPg q.1 q.2 ga gd gl life N = true
  · left
    rw [if_pos ha]
    refine ⟨?_, _, rfl, bodies_len _ _ _ _ _ _ _⟩
    unfold Snap.badL
    unfold allPg at ha
    rw [List.all_eq_true] at ha
    rw [List.filter_eq_nil_iff.2 (fun k hk => by rw [ha k hk]; simp)]
    rfl
  · right
    rw [if_neg ha]
    refine ⟨?_, rfl⟩
    have ha' : allPg q.1 q.2 ga gd gl life N = false := by simpa using ha
    unfold allPg at ha'
    rw [List.all_eq_false] at ha'
    obtain ⟨k, hk, hp⟩ := ha'
    unfold Snap.badL
    rw [List.length_map]
    exact List.length_pos_of_mem (List.mem_filter.2 ⟨hk, by simpa using hp⟩)
end Go.Proofs.YtchcmklelmlbgaaGreat.Snap

/- For the law on what is read of any sectors: the reference's test, a row that grows beside a disk. -/
namespace Go.Proofs.YtchcmklelmlbgaaGreat
open Go.RowKit
set_option linter.unusedVariables false
theorem Here.row {w0 w w' : World} {g : Nat} {fp : List Nat} {s : Disk.St} {gS bS : Nat} {l : List (List UInt8)} {row : Option Nat} (h : Here w0 w g fp s gS bS l) (hg : w.grownBy w' row) (hr : ∀ r, row = some r → w0.heap.size ≤ r ∧ r ∉ gS :: bS :: fp) : Here w0 w' g fp s gS bS l := by
  have k : Keep row.toList w w' := Keep.of_grown hg (fun g e => by simp [e])
  have hn : ∀ r ∈ row.toList, w0.heap.size ≤ r ∧ r ∉ gS :: bS :: fp := fun r hr' => hr r (by simpa using hr')
  refine ⟨⟨h.both.disk.keep k (fun j hj e => (hn j e).2 (by simp [hj])), h.both.sym.keepK k (fun e => (hn _ e).2 (by simp)) (fun e => (hn _ e).2 (by simp)), h.both.nS, h.both.nB⟩, h.bel.grown hg h.bel.size (fun g e => (hr g e).1), h.own⟩
theorem Blk.row {w w' : World} {b : Nat} {xs : List Value} {row : Option Nat} (h : Blk w b xs) (hg : w.grownBy w' row) (hr : ∀ r, row = some r → r ≠ b) : Blk w' b xs := h.elim fun t hh => ⟨t, (hg.block b (lt_of_block hh) (fun e => hr b e.symm rfl)).trans hh⟩
end Go.Proofs.YtchcmklelmlbgaaGreat
namespace Go.Proofs.YtchcmklelmlbgaaGreat.Snap
open Go.RowKit
open Go.Proofs.YtchcmklelmlbgaaGreat.Sec (X five5x)
set_option linter.unusedVariables false
set_option maxRecDepth 100000
end Go.Proofs.YtchcmklelmlbgaaGreat.Snap

/- The log, in plain Lean: how many calls an append takes, and how much the sums and the disk grow. No statement is proved here. -/
namespace Go.Proofs.YtchcmklelmlbgaaGreat.Wal
open Go.RowKit
open Go.Proofs.YtchcmklelmlbgaaGreat.Geom
open Go.Proofs.YtchcmklelmlbgaaGreat.Disk (St Wr write flush burn)
open Go.Proofs.YtchcmklelmlbgaaGreat.Sec (X text rightF)
open Go.Proofs.YtchcmklelmlbgaaGreat.Sup (UpN)
open Go.Proofs.YtchcmklelmlbgaaGreat.Enc (Itm xB xB_len encs enf encs_nil encs_go encs_stop enf_lim)
set_option linter.unusedVariables false
theorem write_calls {s : St} {n : Nat} (h2 : s.size = n) (hd : s.down = false) {p : Int} (h0 : 0 ≤ p) (h1 : p < n) {b : List UInt8} (hb : b.length = 512) : (write s p b).1.calls = s.calls + 1 ∧ (write s p b).1.size = n := by
  subst h2
  have hw : write s p b = burn { s with pend := s.pend ++ [(p.toNat, b)] } := by
    unfold write; rw [if_neg (by simp [hd]), if_neg (by omega), if_neg (by simpa using hb)]
  rw [hw]
  exact ⟨Disk.burn_calls _, (Disk.burn_lists _).2.2⟩
theorem flush_calls {s : St} (hd : s.down = false) : (flush s).1.calls = s.calls + 1 := by
  unfold flush
  rw [if_neg (by simp [hd])]
  have := Disk.burn_calls s
  split <;> simpa using this
theorem encs_calls {n : Nat} : ∀ (is : List Itm) (l : List (List UInt8)) (s : St), s.size = n → s.down = false → (∀ i ∈ is, 0 ≤ i.1 ∧ i.1 < n) → (encs is l s).2.2 = 0 → (encs is l s).2.1.calls = s.calls + is.length ∧ (encs is l s).2.1.down = false
  | [], l, s, h2, hd, _, _ => ⟨rfl, hd⟩
  | i :: r, l, s, h2, hd, hi, hz => by
    obtain ⟨h0, h1⟩ := hi i (by simp)
    obtain ⟨w1, w2⟩ := write_calls h2 hd h0 h1 (xB_len l i.1 i.2)
    obtain ⟨_, _, _, w4⟩ := Enc.write_cases h2 hd h0 h1 (xB_len l i.1 i.2)
    by_cases h : (write s i.1 (xB l i.1 i.2)).2 = 0
    · rw [encs_go h] at hz ⊢
      have hdn : (write s i.1 (xB l i.1 i.2)).1.down = false := by
        rcases w4 with ⟨e, _⟩ | ⟨_, e, _⟩
        · rw [e] at h; cases h
        · exact e
      obtain ⟨e1, e2⟩ := encs_calls r _ _ w2 hdn (fun j hj => hi j (by simp [hj])) hz
      exact ⟨by rw [e1, w1, List.length_cons]; omega, e2⟩
    · rw [encs_stop h] at hz
      exact absurd hz h
theorem enf_calls {n : Nat} {is : List Itm} {l : List (List UInt8)} {s : St} (h2 : s.size = n) (hd : s.down = false) (hi : ∀ i ∈ is, 0 ≤ i.1 ∧ i.1 < n) (hz : (enf is l s).2.2 = 0) : (enf is l s).2.1.calls = s.calls + (is.length + 1) := by
  unfold enf at hz ⊢
  by_cases h : (encs is l s).2.2 = 0
  · rw [if_pos h] at hz ⊢
    obtain ⟨e1, e2⟩ := encs_calls is l s h2 hd hi h
    show (flush (encs is l s).2.1).1.calls = _
    rw [flush_calls e2, e1]; omega
  · rw [if_neg h] at hz; exact absurd hz h
theorem items_bd {ga gd gl base : Int} {n : Nat} (hr : right ga gd gl = true) (hb : 0 ≤ base) (hn : (n : Int) = Geom.sizeOf ga gd gl) (xs : List X) (q : Nat) : ∀ i ∈ items ga gd gl base q xs, 0 ≤ i.1 ∧ i.1 < n := by
  intro i hi
  obtain ⟨k, hk, rfl⟩ := List.mem_iff_getElem.1 hi
  rw [items_len] at hk
  rw [items_get ga gd gl base xs q k (by rw [items_len]; exact hk) hk]
  have := pl_bd hr hb hn (q + k)
  exact ⟨this.1, this.2.1⟩
/-- an append's calls, and what it adds -/
theorem LogIs.calls {ga gd gl base : Int} {n : Nat} {l : List (List UInt8)} {s : St} {xs : List X} {t : Tx} {life : UInt64} (h : LogIs ga gd gl base n l s xs) (hr : right ga gd gl = true) (hb : 0 ≤ base) (hn : (n : Int) = Geom.sizeOf ga gd gl) (hl : (xs.length : Int) + t.pages.length < gl) (hbd : badB ga gd gl t.pages = false) :
    (putF ga gd gl base life xs.length t.gen t.pages l s).2.1.calls = s.calls + (t.pages.length + 3) ∧ (putF ga gd gl base life xs.length t.gen t.pages l s).1.length ≤ l.length + (t.pages.length + 1) ∧ (putF ga gd gl base life xs.length t.gen t.pages l s).2.1.sz ≤ s.sz + 2 * (t.pages.length + 2) := by
  have hy64 := right_yes hr
  have hd := items_data ga gd gl base life xs.length t.gen t.pages 0
  rw [Nat.add_zero] at hd
  obtain ⟨r1, h1⟩ := h.more (ys := dSecs life xs.length t.gen 0 t.pages) hr hb hn (by rw [dSecs_len]; omega) (fun k hk => by
    rw [dSecs_len] at hk
    rw [dSecs_get _ _ _ _ _ _ _ hk, Nat.zero_add]
    have hp := pl_bd hr hb hn (xs.length + k)
    exact dX_right hp.1 hp.2.2 (by decide) (by omega) (badB_of hbd hk).2.2)
  have c1 := enf_calls (l := l) h.up.size h.up.down (items_bd hr hb hn (dSecs life xs.length t.gen 0 t.pages) xs.length) r1
  obtain ⟨r2, h2⟩ := h1.more (ys := [dX 5 life xs.length t.pages.length t.gen t.pages.length []]) hr hb hn (by simp only [List.length_append, dSecs_len, List.length_singleton]; omega) (fun k hk => by
    obtain rfl : k = 0 := by simp at hk; exact hk
    have hp := pl_bd hr hb hn ((xs ++ dSecs life xs.length t.gen 0 t.pages).length + 0)
    exact dX_right hp.1 hp.2.2 (by decide) (by omega) (by simp))
  have c2 := enf_calls h1.up.size h1.up.down (items_bd hr hb hn [dX 5 life xs.length t.pages.length t.gen t.pages.length []] (xs ++ dSecs life xs.length t.gen 0 t.pages).length) r2
  have l1 := enf_lim (items ga gd gl base xs.length (dSecs life xs.length t.gen 0 t.pages)) l s
  have l2 := enf_lim (items ga gd gl base (xs ++ dSecs life xs.length t.gen 0 t.pages).length [dX 5 life xs.length t.pages.length t.gen t.pages.length []]) (enf (items ga gd gl base xs.length (dSecs life xs.length t.gen 0 t.pages)) l s).1 (enf (items ga gd gl base xs.length (dSecs life xs.length t.gen 0 t.pages)) l s).2.1
  rw [items_len, dSecs_len] at c1 l1
  rw [items_len, List.length_singleton] at c2 l2
  rw [List.length_append, dSecs_len] at c2 l2
  rw [hd] at r1 c1 c2 l1 l2
  unfold putF
  rw [if_pos r1]
  have hit : items ga gd gl base (xs.length + t.pages.length) [dX 5 life xs.length t.pages.length t.gen t.pages.length []] = [(logAt ga gd gl (base + ((xs.length + t.pages.length : Nat) : Int)), dX 5 life xs.length t.pages.length t.gen t.pages.length [])] := rfl
  rw [hit] at c2 l2
  refine ⟨?_, ?_, ?_⟩
  · rw [c2, c1]; omega
  · omega
  · omega
end Go.Proofs.YtchcmklelmlbgaaGreat.Wal

/- The laws of the log: what a log beside a disk keeps. No statement is proved here. -/
namespace Go.Proofs.YtchcmklelmlbgaaGreat.Wal
open Go.RowKit
open Go.Proofs.YtchcmklelmlbgaaGreat.Geom
open Go.Proofs.YtchcmklelmlbgaaGreat.Sup (Gb gv gcell gthree UpN)
open Go.Proofs.YtchcmklelmlbgaaGreat.Disk (St DAt)
open Go.Proofs.YtchcmklelmlbgaaGreat.Sec (X)
set_option linter.unusedVariables false
theorem HereL.row {w0 w w' : World} {g : Nat} {fp : List Nat} {s : St} {gS bS : Nat} {l : List (List UInt8)} {L : Nat} {ga gd gl : Int} {life : UInt64} {base : Int} {seq : Nat} {row : Option Nat} (h : HereL w0 w g fp s gS bS l L ga gd gl life base seq) (hg : w.grownBy w' row) (hr : ∀ r, row = some r → w0.heap.size ≤ r ∧ r ∉ gS :: bS :: fp ∧ r ≠ L) : HereL w0 w' g fp s gS bS l L ga gd gl life base seq := by
  have h1 := h.here.row hg (fun r e => ⟨(hr r e).1, (hr r e).2.1⟩)
  exact ⟨h1.both, h1.bel, h.own, h.lat.grown hg (fun e => (hr L e.symm).2.2 rfl), h.nL⟩
theorem append_no (L g gS : Nat) (ga gd gl : Int) (life : UInt64) (base : Int) (seq : Nat) (Q : Nat → Prop) (A : Option Addr) (l : List Pg) (c : Nat) (gen : UInt64) (w : World) (hG : Gb ga gd gl) (hL : LAt w L g gS ga gd gl life base seq) (hr : Pgs w Q A l) (hcl : l.length ≤ 1000000) (hs : seq ≤ 100000) (hg : 0 ≤ gl) (hg1 : gl ≤ 100000) (hf : whyF ga gd gl seq l ≠ 0) :
    Calls Tryz.prog 45 #[.pointer (some ⟨L, 0, none⟩), .slice A l.length c, .int .u64 (gen.toNat : Int)] w fun e w' => e = .returned (.int .i64 (whyF ga gd gl seq l)) ∧ Below w.heap.size w w' := by
  unfold whyF at hf ⊢
  by_cases hb : badB ga gd gl l = true
  · rw [if_pos hb]; exact append_bad L g gS ga gd gl life base seq Q A l c gen w hG hL hr hcl hb
  · have hb' : badB ga gd gl l = false := by simpa using hb
    rw [if_neg hb] at hf ⊢
    by_cases h1 : fitsB ga gd gl l.length = false
    · rw [if_pos h1]; exact append_big L g gS ga gd gl life base seq Q A l c gen w hG hL hr hcl hb' h1
    · have h1' : fitsB ga gd gl l.length = true := by simpa using h1
      rw [if_neg h1] at hf ⊢
      by_cases h2 : gl - (seq : Int) ≤ (l.length : Int)
      · rw [if_pos h2]; exact append_full L g gS ga gd gl life base seq Q A l c gen w hG hL hr hcl hb' h1' hs hg hg1 h2
      · rw [if_neg h2] at hf; exact absurd rfl hf
theorem whyF_zero {ga gd gl : Int} {seq : Nat} {l : List Pg} (h : whyF ga gd gl seq l = 0) : badB ga gd gl l = false ∧ fitsB ga gd gl l.length = true ∧ (seq : Int) + l.length < gl := by
  unfold whyF at h
  split at h
  · cases h
  · rename_i hb
    split at h
    · cases h
    · rename_i hf
      split at h
      · cases h
      · exact ⟨by simpa using hb, by simpa using hf, by omega⟩
/-- what the laws know of a log between two appends -/
structure AInv (ga gd gl base : Int) (life : UInt64) (n : Nat) (l : List Tx) (k : Nat) (ts : List Tx) (sm : List (List UInt8)) (st : St) : Prop where
  log : LogIs ga gd gl base n sm st (allSecs life 0 ts)
  len : ((allSecs life 0 ts).length : Int) ≤ gl
  bad : ∀ t ∈ ts, badB ga gd gl t.pages = false
  of_ : ∀ t ∈ ts, t ∈ l
  num : ts.length ≤ k
  sums : sm.length ≤ 100 * k
  size : st.sz ≤ 1000 * k
theorem AInv.start (ga gd gl base : Int) (life : UInt64) (n : Nat) (l : List Tx) (hg : 0 ≤ gl) : AInv ga gd gl base life n l 0 [] [] (Disk.new n) :=
  ⟨LogIs.new ga gd gl base n, by simpa [allSecs] using hg, fun t h => (by cases h), fun t h => (by cases h), Nat.le_refl _, by simp, Nat.le_refl _⟩
theorem AInv.more {ga gd gl base : Int} {life : UInt64} {n : Nat} {l : List Tx} {k : Nat} {ts : List Tx} {sm : List (List UInt8)} {st : St} (h : AInv ga gd gl base life n l k ts sm st) : AInv ga gd gl base life n l (k + 1) ts sm st :=
  ⟨h.log, h.len, h.bad, h.of_, by have := h.num; omega, by have := h.sums; omega, by have := h.size; omega⟩
theorem AInv.append {ga gd gl base : Int} {life : UInt64} {n : Nat} {l : List Tx} {k : Nat} {ts : List Tx} {sm : List (List UInt8)} {st : St} {t : Tx} (h : AInv ga gd gl base life n l k ts sm st) (hr : right ga gd gl = true) (hb : 0 ≤ base) (hn : (n : Int) = Geom.sizeOf ga gd gl) (hw : whyF ga gd gl (allSecs life 0 ts).length t.pages = 0) (ht : t ∈ l) :
    (putF ga gd gl base life (allSecs life 0 ts).length t.gen t.pages sm st).2.2 = 0 ∧
      AInv ga gd gl base life n l (k + 1) (ts ++ [t]) (putF ga gd gl base life (allSecs life 0 ts).length t.gen t.pages sm st).1 (putF ga gd gl base life (allSecs life 0 ts).length t.gen t.pages sm st).2.1 ∧
      (allSecs life 0 (ts ++ [t])).length = (allSecs life 0 ts).length + (t.pages.length + 1) ∧
      (putF ga gd gl base life (allSecs life 0 ts).length t.gen t.pages sm st).2.1.calls = st.calls + (t.pages.length + 3) := by
  obtain ⟨w1, w2, w3⟩ := whyF_zero hw
  obtain ⟨r, hl⟩ := h.log.append (t := t) (life := life) hr hb hn w3 w1
  obtain ⟨c1, c2, c3⟩ := h.log.calls (t := t) (life := life) hr hb hn w3 w1
  have hy := right_yes hr
  have hs := allSecs_snoc life ts 0 t
  rw [Nat.zero_add] at hs
  have hlen : (allSecs life 0 (ts ++ [t])).length = (allSecs life 0 ts).length + (t.pages.length + 1) := by rw [hs, List.length_append, tSecs_len]
  refine ⟨r, ⟨by rw [hs]; exact hl, by rw [hlen]; omega, fun u hu => ?_, fun u hu => ?_, by have := h.num; simp; omega, by have := h.sums; omega, by have := h.size; omega⟩, hlen, c1⟩
  · rcases List.mem_append.1 hu with hu | hu
    · exact h.bad u hu
    · rw [List.mem_singleton] at hu; rw [hu]; exact w1
  · rcases List.mem_append.1 hu with hu | hu
    · exact h.of_ u hu
    · rw [List.mem_singleton] at hu; rw [hu]; exact ht
/-- what is read back at a place of the log -/
theorem AInv.dec {ga gd gl base : Int} {life : UInt64} {n : Nat} {l : List Tx} {k : Nat} {ts : List Tx} {sm : List (List UInt8)} {st : St} (h : AInv ga gd gl base life n l k ts sm st) (hr : right ga gd gl = true) (hb : 0 ≤ base) (hn : (n : Int) = Geom.sizeOf ga gd gl) (j : Nat) (hj : j < (allSecs life 0 ts).length) :
    (Disk.keptAt st (pl ga gd gl base j)).length = 512 ∧ Sec.decode (Sec.ckS sm (Disk.keptAt st (pl ga gd gl base j))) (pl ga gd gl base j) (Disk.keptAt st (pl ga gd gl base j)) = ((allSecs life 0 ts)[j], 0) := by
  have p := pl_bd hr hb hn j
  have hk : Disk.keptAt st (pl ga gd gl base j) = Disk.kept st.all (pl ga gd gl base j).toNat := by unfold Disk.keptAt; rw [if_neg (by rw [h.log.up.size]; omega)]
  have hg := h.log.good j hj
  rw [hk]
  exact ⟨hg.len, hg.dec⟩
theorem AInv.scan {ga gd gl base : Int} {life : UInt64} {n : Nat} {l : List Tx} {k : Nat} {ts : List Tx} {sm : List (List UInt8)} {st : St} (h : AInv ga gd gl base life n l k ts sm st) (hr : right ga gd gl = true) (hb : 0 ≤ base) (hn : (n : Int) = Geom.sizeOf ga gd gl) : scanTx sm st ga gd gl base life = ts :=
  h.log.scan hr hb hn h.len (fun t ht x hx => by
    obtain ⟨j, hj, rfl⟩ := List.mem_iff_getElem.1 hx
    have := badB_of (h.bad t ht) hj
    exact ⟨this.1, this.2.1⟩)
end Go.Proofs.YtchcmklelmlbgaaGreat.Wal

/- The store: what an append does to it, and Commit's closure. No statement is proved here. -/
namespace Go.Proofs.YtchcmklelmlbgaaGreat.Sto
open Go.RowKit
open Go.Proofs.YtchcmklelmlbgaaGreat.Geom
open Go.Proofs.YtchcmklelmlbgaaGreat.Disk (St DAt Did)
open Go.Proofs.YtchcmklelmlbgaaGreat.Sup (Gb gv gcell gthree srightF splace sB sL wf sv scell)
open Go.Proofs.YtchcmklelmlbgaaGreat.Snap (snapF PagesOk)
open Go.Proofs.YtchcmklelmlbgaaGreat.Wal (LAt lcell wrightF WTurn putF whyF whyF_zero badB fitsB)
set_option linter.unusedVariables false
variable {ex : List Nat}
set_option maxRecDepth 100000
def Z.seqUp (z : Z) (n : Nat) (f : Int) : Z := if f = 0 then { z with seq := z.seq + (n + 1) } else z
def Z.setGen (z : Z) (gen : UInt64) : Z := { z with gen := gen }
theorem Z.append_yes (z : Z) (pages : List Pg) (gen : UInt64) : ((z.seqUp pages.length 0).put pages).setGen gen = z.append pages gen 0 := rfl
theorem Z.append_no (z : Z) (pages : List Pg) (gen : UInt64) {f : Int} (hf : f ≠ 0) : (z.seqUp pages.length f).told f = z.append pages gen f := by
  unfold Z.seqUp Z.append
  rw [if_neg hf, if_neg hf]
theorem SAt.appended {w w' : World} {X R L g : Nat} {fp : List Nat} {gS bS : Nat} {ga gd gl : Int} {z : Z} {s s' : St} {l l' : List (List UInt8)} {n : Nat} {f : Int} (h : SAt ex w X R L g fp gS bS ga gd gl z s l) (hdu : z.has = true) (t : WTurn w g fp gS bS L ga gd gl z.life z.base s' l' (if f = 0 then z.seq + (n + 1) else z.seq) w') :
    STurn ex w X R L g fp gS bS ga gd gl (z.seqUp n f) s' l' w' := by
  obtain ⟨fp', hb, k, fr, hL⟩ := t
  obtain ⟨lv, c, h1, h2, h3⟩ := h.blk
  have hX := h.ltX
  obtain ⟨x1, x2, x3, x4⟩ := h.nX
  obtain ⟨r1, r2, r3, r4⟩ := h.nR
  obtain ⟨l1, l2, l3⟩ := h.nL
  have hLx := (h.log hdu).2
  have e : z.seqUp n f = { z with seq := if f = 0 then z.seq + (n + 1) else z.seq } := by
    unfold Z.seqUp
    split <;> rfl
  rw [e]
  refine ⟨L, fp', ⟨hb, ⟨lv, c, h1.keepK k (by simp only [List.mem_cons, not_or]; exact ⟨fun e => hLx e.symm, x2, x4⟩), h2, h3.move k (by simp only [List.mem_cons, not_or]; exact ⟨r1, r2, r4⟩) (fun j hj hlt => ⟨by simp only [List.mem_cons, not_or]; exact ⟨hj.2.2.1, hj.2.2.2.1, hj.2.2.2.2.2⟩, hj.fresh hlt fr⟩)⟩, fun _ => ⟨hL, hLx⟩, ⟨x1, x2, x3, fr.out hX.1 x4⟩, ⟨r1, r2, r3, fr.out hX.2 r4⟩, ⟨l1, l2, fr.out h.lt l3⟩, Nat.lt_of_lt_of_le h.lt k.size, fun j hj => Nat.lt_of_lt_of_le (h.exl j hj) k.size⟩,
    k.more (fun j hj => by simp only [List.mem_cons] at hj ⊢; rcases hj with e | e | e <;> simp [e]), fr, .inl rfl⟩
theorem SAt.gen {w : World} {X R L g : Nat} {fp : List Nat} {gS bS : Nat} {ga gd gl : Int} {z : Z} {s : St} {l : List (List UInt8)} (h : SAt ex w X R L g fp gS bS ga gd gl z s l) (gen : UInt64) : SAt ex (w.setCell ⟨X, 7, none⟩ (.int .u64 (gen.toNat : Int))) X R L g fp gS bS ga gd gl (z.setGen gen) s l ∧ Keep [X] w (w.setCell ⟨X, 7, none⟩ (.int .u64 (gen.toNat : Int))) := by
  obtain ⟨lv, c, h1, h2, h3⟩ := h.blk
  obtain ⟨x1, x2, x3, x4⟩ := h.nX
  obtain ⟨r1, r2, r3, r4⟩ := h.nR
  have hk : Keep [X] w (w.setCell ⟨X, 7, none⟩ (.int .u64 (gen.toNat : Int))) := (Keep.refl _ _).set (.inl (by simp)) _
  refine ⟨⟨⟨h.both.disk.keep hk (fun j hj e => x4 (by rw [List.mem_singleton] at e; exact e ▸ hj)), h.both.sym.keepK hk (by simp; exact fun e => x3 e.symm) (by simp; exact fun e => x2 e.symm), h.both.nS, h.both.nB⟩, ⟨lv, c, (h1.set (k := 7) _ : Blk _ X (xc g gS ga gd gl (z.setGen gen) lv (.slice (some ⟨R, 0, none⟩) z.pages.length c))), h2, h3.move hk (by simp; exact fun e => x1 e.symm) (fun j hj hlt => ⟨by simp; exact hj.1, hj⟩)⟩,
    fun hd => ⟨Blk.other (h.log hd).1 _ (h.log hd).2, (h.log hd).2⟩, h.nX, h.nR, h.nL, Nat.lt_of_lt_of_le h.lt hk.size, fun j hj => Nat.lt_of_lt_of_le (h.exl j hj) hk.size⟩, hk⟩
theorem app_any (X R L g : Nat) (fp : List Nat) (gS bS : Nat) (ga gd gl : Int) (z : Z) (s : St) (l : List (List UInt8)) (Q : Nat → Prop) (A : Option Addr) (pages : List Pg) (c : Nat) (gen : UInt64) (w : World) (hG : Gb ga gd gl) (h : SAt ex w X R L g fp gS bS ga gd gl z s l) (hdu : z.has = true)
    (hr : Pgs w Q A pages) (hQ : ∀ j, Q j → j < w.heap.size → Off ex X R L bS gS fp j) (hw : whyF ga gd gl z.seq pages = 0) (hl : l.length ≤ 900000) (hs : s.sz ≤ 80000000) (hb : 0 ≤ z.base ∧ z.base ≤ 1073741824) :
    Calls Tryz.prog 45 #[.pointer (some ⟨L, 0, none⟩), .slice A pages.length c, .int .u64 (gen.toNat : Int)] w fun e w' => e = .returned (.int .i64 (appO ga gd gl z pages gen l s).2.2) ∧
      STurn ex w X R L g fp gS bS ga gd gl (z.seqUp pages.length (appO ga gd gl z pages gen l s).2.2) (appO ga gd gl z pages gen l s).2.1 (appO ga gd gl z pages gen l s).1 w' := by
  obtain ⟨w1, w2, w3⟩ := whyF_zero hw
  obtain ⟨l1, l2, l3⟩ := h.nL
  refine (Wal.append_any g fp s gS bS l L ga gd gl z.life z.base z.seq Q A pages c gen w hG h.both (h.log hdu).1 (by simp only [List.mem_cons, not_or]; exact ⟨l1, l2, l3⟩) hl hs hb.1 hb.2 hr (fun j hj hlt => by have := hQ j hj hlt; simp only [List.mem_cons, not_or]; exact ⟨this.2.2.1, this.2.2.2.1, this.2.2.2.2.2⟩) w1 w2 w3).mono ?_
  rintro e w' ⟨rfl, t⟩
  exact ⟨rfl, h.appended hdu t⟩
theorem app_no (X R L g : Nat) (fp : List Nat) (gS bS : Nat) (ga gd gl : Int) (z : Z) (s : St) (l : List (List UInt8)) (Q : Nat → Prop) (A : Option Addr) (pages : List Pg) (c : Nat) (gen : UInt64) (w : World) (hG : Gb ga gd gl) (h : SAt ex w X R L g fp gS bS ga gd gl z s l) (hdu : z.has = true)
    (hr : Pgs w Q A pages) (hcl : pages.length ≤ 1000000) (hq : z.seq ≤ 100000) (hg : 0 ≤ gl) (hg1 : gl ≤ 100000) (hw : whyF ga gd gl z.seq pages ≠ 0) :
    Calls Tryz.prog 45 #[.pointer (some ⟨L, 0, none⟩), .slice A pages.length c, .int .u64 (gen.toNat : Int)] w fun e w' => e = .returned (.int .i64 (whyF ga gd gl z.seq pages)) ∧ Below w.heap.size w w' :=
  Wal.append_no L g gS ga gd gl z.life z.base z.seq Q A pages c gen w hG (h.log hdu).1 hr hcl hq hg hg1 hw
set_option maxHeartbeats 1000000 in
theorem commit1_any (X R L g : Nat) (fp : List Nat) (gS bS : Nat) (ga gd gl : Int) (z : Z) (s : St) (l : List (List UInt8)) (Q : Nat → Prop) (A : Option Addr) (pages : List Pg) (c : Nat) (gen : UInt64) (bX bL bG : Nat) (w : World) (hG : Gb ga gd gl) (h : SAt ex w X R L g fp gS bS ga gd gl z s l) (hdu : z.has = true)
    (hX : Box w bX (.pointer (some ⟨X, 0, none⟩))) (hL : Box w bL (.slice A pages.length c)) (hE : Box w bG (.int .u64 (gen.toNat : Int)))
    (hr : Pgs w Q A pages) (hQ : ∀ j, Q j → j < w.heap.size → Off ex X R L bS gS fp j) (hw : whyF ga gd gl z.seq pages = 0) (hl : l.length ≤ 900000) (hs : s.sz ≤ 80000000) (hb : 0 ≤ z.base ∧ z.base ≤ 1073741824) :
    Calls Tryz.prog 46 #[.pointer (some ⟨bX, 0, none⟩), .pointer (some ⟨bL, 0, none⟩), .pointer (some ⟨bG, 0, none⟩)] w fun e w' => e = .returned (.int .i64 (appO ga gd gl z pages gen l s).2.2) ∧
      STurn ex w X R L g fp gS bS ga gd gl (z.seqUp pages.length (appO ga gd gl z pages gen l s).2.2) (appO ga gd gl z pages gen l s).2.1 (appO ga gd gl z pages gen l s).1 w' := by
  obtain ⟨lv, c', h1, h2, h3⟩ := h.blk
  obtain ⟨z0, z1, z2, z3, z4, z5, z6, z7, z8, z9, z10, z11, z12⟩ := thirteen h1
  rw [h2 hdu] at z8
  have q0 := hX.cell
  have q1 := hL.cell
  have q2 := hE.cell
  have e0 := hX.lt
  have e1 := hL.lt
  have e2 := hE.lt
  have hlX := h1.lt
  have HA := Lib.hid (fun W (bW : Below w.heap.size w W) => app_any X R L g fp gS bS ga gd gl z s l (fun j => Q j ∧ j < w.heap.size) A pages c gen W hG (h.on bW) hdu ((hr.imp (fun j hj hq => ⟨hq, hj⟩)).on bW) (fun j hj _ => hQ j hj.1 hj.2) hw hl hs hb)
  obtain ⟨V, hV⟩ : ∃ V, V = appO ga gd gl z pages gen l s := ⟨_, rfl⟩
  rw [← hV] at HA ⊢
  obtain ⟨zf, hzf⟩ : ∃ q, q = z.seqUp pages.length V.2.2 := ⟨_, rfl⟩
  rw [← hzf] at HA ⊢
  clear hzf hV h h1 h2 h3 hX hL hE hr hQ hw hl hs hb hG hdu
  go_enter Tryz.func46, Tryz.ntmps46
  go_wp2_with fail
  refine region_inb_tail 6 (by kernel_rfl) (by kernel_rfl) ?_
  simp only [List.take_succ_cons, List.take_zero, List.drop_succ_cons, List.drop_zero]
  have inbNe := InB.some
  have inbW := @wrap_small
  have inbU := IntKind.wrap_u8'
  repeat (refine wpQuiet_step (fun K hK => ?_); go_simp; first | (refine hK _ ?_; clear hK K) | (apply Exists.intro; refine ⟨?_, hK _ ?_⟩; (· (intro w' hw'; first | (have hcw := hw'.cell; go_simp; exact rfl))); clear hK K))
  refine wpQuiet_nil ?_
  intro wq hq
  clear inbNe inbW inbU
  go_wp2_with (go_at_call 45; refine (HA.out _ hq.below).mono ?_; rintro e w1 ⟨rfl, t1⟩)
  go_ret
  exact ⟨rfl, STurn.first hq.below t1⟩
end Go.Proofs.YtchcmklelmlbgaaGreat.Sto

/- The store: Commit. No statement is proved here. -/
namespace Go.Proofs.YtchcmklelmlbgaaGreat.Sto
open Go.RowKit
open Go.Proofs.YtchcmklelmlbgaaGreat.Geom
open Go.Proofs.YtchcmklelmlbgaaGreat.Disk (St DAt Did)
open Go.Proofs.YtchcmklelmlbgaaGreat.Sup (Gb gv gcell gthree srightF splace sB sL wf sv scell)
open Go.Proofs.YtchcmklelmlbgaaGreat.Snap (snapF PagesOk)
open Go.Proofs.YtchcmklelmlbgaaGreat.Wal (LAt lcell wrightF WTurn putF whyF whyF_zero badB fitsB)
set_option linter.unusedVariables false
variable {ex : List Nat}
set_option maxRecDepth 100000
theorem STurn.keepOf {w w' : World} {X R L g : Nat} {fp : List Nat} {gS bS : Nat} {ga gd gl : Int} {z : Z} {s : St} {l : List (List UInt8)} (h : STurn ex w X R L g fp gS bS ga gd gl z s l w') : Keep (X :: R :: L :: bS :: fp) w w' := by obtain ⟨_, _, _, k, _⟩ := h; exact k
/-- where the two steps stand: a renewal, an append -/
def CIn (ex : List Nat) (w3 : World) (X R L g : Nat) (fp : List Nat) (gS bS : Nat) (ga gd gl : Int) (z1 z2 : Z) (V B : Out) : Nat → World → Prop
  | 0, W => W = w3
  | 1, W => V.2.2 = 0 ∧ STurn ex w3 X R L g fp gS bS ga gd gl z1 V.2.1 V.1 W
  | _, W => V.2.2 = 0 ∧ B.2.2 = 0 ∧ STurn ex w3 X R L g fp gS bS ga gd gl z2 B.2.1 B.1 W
def COut (ex : List Nat) (w3 : World) (X R L g : Nat) (fp : List Nat) (gS bS : Nat) (ga gd gl : Int) (z1 z2 : Z) (V B : Out) (f : Int) (W : World) : Prop :=
  (f = V.2.2 ∧ STurn ex w3 X R L g fp gS bS ga gd gl z1 V.2.1 V.1 W) ∨ (V.2.2 = 0 ∧ f = B.2.2 ∧ STurn ex w3 X R L g fp gS bS ga gd gl z2 B.2.1 B.1 W)
def cks : Nat → FuncId
  | 0 => 16
  | _ => 46
def crs (X : Nat) : Nat → Array Value
  | 0 => #[.pointer (some ⟨X, 0, none⟩)]
  | _ => #[]
def ccs (bX bL bG : Nat) : Nat → Array Value
  | 0 => #[]
  | _ => #[.pointer (some ⟨bX, 0, none⟩), .pointer (some ⟨bL, 0, none⟩), .pointer (some ⟨bG, 0, none⟩)]
theorem offKeep {X R L bS gS : Nat} {fp : List Nat} {j : Nat} (h : Off ex X R L bS gS fp j) : j ∉ X :: R :: L :: bS :: fp := by
  simp only [List.mem_cons, not_or]; exact ⟨h.1, h.2.1, h.2.2.1, h.2.2.2.1, h.2.2.2.2.2⟩
theorem offFresh {w : World} {X R L L' bS gS : Nat} {fp fp' : List Nat} {j : Nat} (h : Off ex X R L bS gS fp j) (hj : j < w.heap.size) (f : Fresh w (L :: fp) (L' :: fp')) : Off ex X R L' bS gS fp' j := by
  have h1 : j ∉ L' :: fp' := f.out hj (by simp only [List.mem_cons, not_or]; exact ⟨h.2.2.1, h.2.2.2.2.2⟩)
  simp only [List.mem_cons, not_or] at h1
  exact ⟨h.1, h.2.1, h1.1, h.2.2.2.1, h.2.2.2.2.1, h1.2⟩
theorem commit_steps (X R L g : Nat) (fp : List Nat) (gS bS : Nat) (ga gd gl : Int) (z : Z) (s : St) (l : List (List UInt8)) (Q : Nat → Prop) (A : Option Addr) (pages : List Pg) (c : Nat) (gen : UInt64) (bX bL bG bF : Nat) (w : World) (hG : Gb ga gd gl) (h : SAt ex w X R L g fp gS bS ga gd gl z s l)
    (hX : Box w bX (.pointer (some ⟨X, 0, none⟩))) (hL : Box w bL (.slice A pages.length c)) (hE : Box w bG (.int .u64 (gen.toNat : Int)))
    (hF : Blk w bF [.func (.func 16) (crs X 0) #[], .func (.func 46) #[] (ccs bX bL bG 1)])
    (nX : bX ∉ X :: R :: L :: bS :: fp) (nL : bL ∉ X :: R :: L :: bS :: fp) (nG : bG ∉ X :: R :: L :: bS :: fp) (nF : bF ∉ X :: R :: L :: bS :: fp)
    (hr : Pgs w Q A pages) (hQ : ∀ j, Q j → j < w.heap.size → Off ex X R L bS gS fp j) (hw : whyF ga gd gl z.seq pages = 5)
    (hl : l.length ≤ 800000) (hs : s.sz ≤ 70000000) (hf : srightF s ga gd gl = 0) (hz : ZOk ga gd gl z) (hd : z.dead = false) (hdu : z.due = false) (hh : z.has = true) (hlife : z.life.toNat < 4611686018427387904) (hb : 0 ≤ z.base ∧ z.base ≤ 1073741824) (hq : z.seq ≤ 100000) :
    Calls Tryz.prog 38 #[.slice (some ⟨bF, 0, none⟩) 2 2] w fun e w' => ∃ f : Int, e = .returned (.int .i64 f) ∧
      (f = 0 → CIn ex w X R L g fp gS bS ga gd gl (renF ga gd gl z l s).1 ((renF ga gd gl z l s).1.seqUp pages.length (appO ga gd gl (renF ga gd gl z l s).1 pages gen (renO ga gd gl z l s).1 (renO ga gd gl z l s).2.1).2.2) (renO ga gd gl z l s) (appO ga gd gl (renF ga gd gl z l s).1 pages gen (renO ga gd gl z l s).1 (renO ga gd gl z l s).2.1) 2 w') ∧
      (f ≠ 0 → COut ex w X R L g fp gS bS ga gd gl (renF ga gd gl z l s).1 ((renF ga gd gl z l s).1.seqUp pages.length (appO ga gd gl (renF ga gd gl z l s).1 pages gen (renO ga gd gl z l s).1 (renO ga gd gl z l s).2.1).2.2) (renO ga gd gl z l s) (appO ga gd gl (renF ga gd gl z l s).1 pages gen (renO ga gd gl z l s).1 (renO ga gd gl z l s).2.1) f w') := by
  have hpb := pagesOf_bd ga gd gl
  have hy := right_yes (Sup.srightF_yes hf).1
  have hbn : 0 ≤ baseN gl z ∧ baseN gl z ≤ 1073741824 := by
    unfold baseN
    rw [if_neg (by rw [hdu]; simp)]
    have := Int.emod_nonneg (z.base + (z.seq : Int)) (show gl ≠ 0 by omega)
    have := Int.emod_lt_of_pos (z.base + (z.seq : Int)) (show 0 < gl by omega)
    omega
  have hzl := hz.len
  have lim : (renO ga gd gl z l s).1.length ≤ l.length + (z.pages.length + 1) ∧ (renO ga gd gl z l s).2.1.sz ≤ s.sz + 2 * (z.pages.length + 2) := begF_lim _ _ _ _ _ _ _ _ _
  have h1 : (renO ga gd gl z l s).2.2 = 0 → (renF ga gd gl z l s).1.has = true ∧ (renF ga gd gl z l s).1.seq = 0 ∧ (renF ga gd gl z l s).1.base = baseN gl z := fun e => by
    unfold renF Z.renew
    simp only
    rw [if_pos e]
    exact ⟨rfl, rfl, rfl⟩
  have hw0 := why_first hw
  have hR := fun (W : World) (hW : W = w) => by
    subst hW
    exact renew_any X R L g fp gS bS ga gd gl z s l W hG h hl hs hf hz hd hlife hb (fun _ => hq) (fun e => by rw [hdu] at e; cases e) (fun _ => hh)
  obtain ⟨V, hV⟩ : ∃ V, V = renO ga gd gl z l s := ⟨_, rfl⟩
  obtain ⟨z1, hz1⟩ : ∃ q, q = (renF ga gd gl z l s).1 := ⟨_, rfl⟩
  rw [← hV] at lim h1 hR ⊢
  rw [← hz1] at h1 hR ⊢
  refine steps_any 2 2 bF 0 cks (crs X) (ccs bX bL bG) (CIn ex w X R L g fp gS bS ga gd gl z1 _ V _) (COut ex w X R L g fp gS bS ga gd gl z1 _ V _) w (by omega) rfl ?_ ?_ ?_
  · intro i hi W hI
    have hk : Keep (X :: R :: L :: bS :: fp) w W := by
      match i, hi, hI with
      | 0, _, hI => rw [show W = w from hI]; exact Keep.refl _ _
      | 1, _, hI => exact hI.2.keepOf
    have hF' := hF.keepK hk nF
    match i, hi with
    | 0, _ => exact hF'.cell (k := 0) (by simp)
    | 1, _ => exact hF'.cell (k := 1) (by simp)
  · intro i hi x W
    match i, hi with
    | 0, _ => simp [go_sem, cks]
    | 1, _ => simp [go_sem, cks]
  · intro i hi W hI
    match i, hi, hI with
    | 0, _, hI =>
      rw [show crs X 0 ++ ccs bX bL bG 0 = #[.pointer (some ⟨X, 0, none⟩)] from by simp [crs, ccs]]
      have hw' : W = w := hI
      rw [hw']
      refine Calls.mono (hR w rfl) ?_
      rintro e w' ⟨rfl, t⟩
      exact ⟨_, rfl, fun e => ⟨e, t⟩, fun e => .inl ⟨rfl, t⟩⟩
    | 1, _, hI =>
      obtain ⟨h0, L1, fp1, hS1, k1, f1⟩ := hI
      obtain ⟨g1, g2, g3⟩ := h1 h0
      have hc := commit1_any X R L1 g fp1 gS bS ga gd gl z1 V.2.1 V.1 (fun j => Q j ∧ j < w.heap.size) A pages c gen bX bL bG W hG hS1 g1 (hX.keep k1 nX) (hL.keep k1 nL) (hE.keep k1 nG)
        ((hr.imp (fun j hj hq => ⟨hq, hj⟩)).keep k1 (fun j hj _ => offKeep (hQ j hj.1 hj.2))) (fun j hj _ => offFresh (hQ j hj.1 hj.2) hj.2 f1.all) (by rw [g2]; exact hw0) (by omega) (by omega) (by rw [g3]; exact hbn)
      rw [show crs X 1 ++ ccs bX bL bG 1 = #[.pointer (some ⟨bX, 0, none⟩), .pointer (some ⟨bL, 0, none⟩), .pointer (some ⟨bG, 0, none⟩)] from by simp [crs, ccs]]
      refine Calls.mono hc ?_
      rintro e w' ⟨rfl, t⟩
      have t2 := STurn.trans k1 f1 t
      exact ⟨_, rfl, fun e => ⟨h0, e, t2⟩, fun e => .inr ⟨h0, rfl, t2⟩⟩
end Go.Proofs.YtchcmklelmlbgaaGreat.Sto

/- The store: Commit. No statement is proved here. -/
namespace Go.Proofs.YtchcmklelmlbgaaGreat.Sto
open Go.RowKit
open Go.Proofs.YtchcmklelmlbgaaGreat.Geom
open Go.Proofs.YtchcmklelmlbgaaGreat.Disk (St DAt Did)
open Go.Proofs.YtchcmklelmlbgaaGreat.Sup (Gb gv gcell gthree srightF splace sB sL wf sv scell)
open Go.Proofs.YtchcmklelmlbgaaGreat.Snap (snapF PagesOk)
open Go.Proofs.YtchcmklelmlbgaaGreat.Wal (LAt lcell wrightF WTurn putF whyF whyF_zero badB fitsB)
set_option linter.unusedVariables false
variable {ex : List Nat}
set_option maxRecDepth 100000

theorem write_five (s : St) (p : Int) (b : List UInt8) : (Disk.write s p b).2 ≠ 5 := by
  unfold Disk.write Disk.burn
  split
  · simp
  · split
    · simp
    · split
      · simp
      · split
        · simp
        · split <;> simp
theorem flush_five (s : St) : (Disk.flush s).2 ≠ 5 := by
  unfold Disk.flush Disk.burn
  split
  · simp
  · split
    · simp
    · split
      · simp
      · split <;> simp
theorem encs_five : ∀ (is : List Enc.Itm) (l : List (List UInt8)) (s : St), (Enc.encs is l s).2.2 ≠ 5
  | [], l, s => by rw [Enc.encs_nil]; simp
  | i :: r, l, s => by
    by_cases h : (Disk.write s i.1 (Enc.xB l i.1 i.2)).2 = 0
    · rw [Enc.encs_go h]; exact encs_five r _ _
    · rw [Enc.encs_stop h]; exact write_five _ _ _
theorem enf_five (is : List Enc.Itm) (l : List (List UInt8)) (s : St) : (Enc.enf is l s).2.2 ≠ 5 := by
  unfold Enc.enf
  split
  · exact flush_five _
  · exact encs_five is l s
theorem appO_five (ga gd gl : Int) (z : Z) (pages : List Pg) (gen : UInt64) (l : List (List UInt8)) (s : St) : (appO ga gd gl z pages gen l s).2.2 ≠ 5 := by
  unfold appO putF
  split
  · exact enf_five _ _ _
  · exact enf_five _ _ _
theorem Z.told_other (z : Z) {f : Int} (h : f ≠ 12) : z.told f = z := by
  unfold Z.told
  rw [decide_eq_false h, Bool.or_false]
theorem commit_due (X R L g : Nat) (fp : List Nat) (gS bS : Nat) (ga gd gl : Int) (z : Z) (s : St) (l : List (List UInt8)) (A : Option Addr) (n c : Nat) (gen : UInt64) (w : World) (h : SAt ex w X R L g fp gS bS ga gd gl z s l) (hd : z.dead = false) (hdu : z.due = true) : Calls Tryz.prog 15 #[.pointer (some ⟨X, 0, none⟩), .slice A n c, .int .u64 (gen.toNat : Int)] w fun e w' => e = .returned (.int .i64 14) ∧ Below w.heap.size w w' := by
  have b3 := b3alloc w (.cells #[.pointer (some ⟨X, 0, none⟩)] 35) (.cells #[.slice A n c] 38) (.cells #[.int .u64 (gen.toNat : Int)] 39)
  have HR := Lib.hid (fun W (bW : Below w.heap.size w W) => ready_any X R L g fp gS bS ga gd gl z s l W (h.on bW))
  rw [if_neg (by rw [hd]; simp)] at HR
  obtain ⟨lv, c', h1, h2, h3⟩ := h.blk
  obtain ⟨z0, z1, z2, z3, z4, z5, z6, z7, z8, z9, z10, z11, z12⟩ := thirteen (h1.on b3)
  rw [hdu] at z11
  have hlX := h1.lt
  clear h hd h1 h2 h3 z0 z1 z2 z3 z4 z5 z6 z7 z8 z9 z10 z12
  go_enter Tryz.func15, Tryz.ntmps15
  go_wp2_with (go_at_call 44; refine (HR.out _ b3).mono ?_; rintro e w' ⟨rfl, rfl⟩)
  go_ret
  exact ⟨rfl, b3⟩
set_option maxHeartbeats 2000000 in
theorem commit_any (X R L g : Nat) (fp : List Nat) (gS bS : Nat) (ga gd gl : Int) (z : Z) (s : St) (l : List (List UInt8)) (Q : Nat → Prop) (A : Option Addr) (pages : List Pg) (c : Nat) (gen : UInt64) (w : World) (hG : Gb ga gd gl) (h : SAt ex w X R L g fp gS bS ga gd gl z s l)
    (hr : Pgs w Q A pages) (hQ : ∀ j, Q j → j < w.heap.size → Off ex X R L bS gS fp j) (hcl : pages.length ≤ 1000)
    (hl : l.length ≤ 800000) (hs : s.sz ≤ 70000000) (hf : srightF s ga gd gl = 0) (hz : ZOk ga gd gl z) (hd : z.dead = false) (hdu : z.due = false) (hh : z.has = true) (hlife : z.life.toNat < 4611686018427387904) (hb : 0 ≤ z.base ∧ z.base ≤ 1073741824) (hq : z.seq ≤ 100000) :
    Calls Tryz.prog 15 #[.pointer (some ⟨X, 0, none⟩), .slice A pages.length c, .int .u64 (gen.toNat : Int)] w fun e w' => e = .returned (.int .i64 (comF ga gd gl z pages gen l s).2.2.2) ∧
      STurn ex w X R L g fp gS bS ga gd gl (comF ga gd gl z pages gen l s).1 (comF ga gd gl z pages gen l s).2.2.1 (comF ga gd gl z pages gen l s).2.1 w' := by
  have hy := right_yes (Sup.srightF_yes hf).1
  have hpb := pagesOf_bd ga gd gl
  have hzl := hz.len
  obtain ⟨w1, hw1⟩ : ∃ w1, w1 = ((w.alloc (.cells #[.pointer (some ⟨X, 0, none⟩)] 35)).alloc (.cells #[.slice A pages.length c] 38)).alloc (.cells #[.int .u64 (gen.toNat : Int)] 39) := ⟨_, rfl⟩
  have b3 : Below w.heap.size w w1 := by rw [hw1]; exact b3alloc _ _ _ _
  have q0 : Box w1 w.heap.size (.pointer (some ⟨X, 0, none⟩)) := by rw [hw1]; exact ((Box.new w _ _).alloc _).alloc _
  have q1 : Box w1 (w.heap.size + 1) (.slice A pages.length c) := by rw [hw1]; simpa using (Box.new (w.alloc (.cells #[.pointer (some ⟨X, 0, none⟩)] 35)) 38 (.slice A pages.length c)).alloc _
  have q2 : Box w1 (w.heap.size + 1 + 1) (.int .u64 (gen.toNat : Int)) := by rw [hw1]; simpa using Box.new ((w.alloc (.cells #[.pointer (some ⟨X, 0, none⟩)] 35)).alloc (.cells #[.slice A pages.length c] 38)) 39 (.int .u64 (gen.toNat : Int))
  have hlt := h.both.disk.lt
  have hls := h.both.sym.lt
  have hXR := h.ltX
  have hLl := h.lt
  have nn : ∀ j, w.heap.size ≤ j → j ∉ X :: R :: L :: bS :: fp := fun j hj e => by
    simp only [List.mem_cons] at e
    rcases e with e | e | e | e | e
    · omega
    · omega
    · omega
    · omega
    · have := hlt _ e; omega
  have HR := Lib.hid (fun W (bW : Below w.heap.size w W) => ready_any X R L g fp gS bS ga gd gl z s l W (h.on bW))
  rw [if_neg (by rw [hd]; simp)] at HR
  obtain ⟨lv, c', h1, h2, h3⟩ := h.blk
  obtain ⟨z0, z1, z2, z3, z4, z5, z6, z7, z8, z9, z10, z11, z12⟩ := thirteen (h1.on b3)
  rw [hdu] at z11
  rw [h2 hh] at z8
  have hlX : X < w1.heap.size := Nat.lt_of_lt_of_le h1.lt b3.size
  have y0 := q0.cell
  have y1 := q1.cell
  have y2 := q2.cell
  have l0 := q0.lt
  have l1 := q1.lt
  have l2 := q2.lt
  have HK := Lib.hid (fun W (k : Keep (X :: R :: L :: bS :: fp) w1 W) => show W.cell? ⟨w.heap.size, 0, none⟩ = some (.pointer (some ⟨X, 0, none⟩)) ∧ W.cell? ⟨w.heap.size + 1, 0, none⟩ = some (.slice A pages.length c) ∧ W.cell? ⟨w.heap.size + 1 + 1, 0, none⟩ = some (.int .u64 (gen.toNat : Int)) from
    ⟨(q0.keep k (nn _ (by omega))).cell, (q1.keep k (nn _ (by omega))).cell, (q2.keep k (nn _ (by omega))).cell⟩)
  have HPg := Lib.hid (fun W (k : Keep (X :: R :: L :: bS :: fp) w1 W) => show Pgs W (fun j => Q j ∧ j < w.heap.size) A pages from (((hr.imp (fun j hj hq => (⟨hq, hj⟩ : Q j ∧ j < w.heap.size))).on b3).keep k (fun j hj _ => offKeep (hQ j hj.1 hj.2))))
  have HT := Lib.hid (fun W L' fp' zz s' l' f hS => told_any (ex := ex) X R L' g fp' gS bS ga gd gl zz s' l' f W hS)
  have HW := Lib.hid hw1
  have HB := Lib.hid b3
  have HH := Lib.hid h
  have HQ := Lib.hid hQ
  have q0' := Lib.hid q0
  have q1' := Lib.hid q1
  have q2' := Lib.hid q2
  have nn' := Lib.hid nn
  have hb0 := Lib.hid hb
  have HHdu := Lib.hid hdu
  clear z0 z1 z2 z3 z4 z5 z6 z7 z9 z10 z12 hw1 h1 h2 h3 q0 q1 q2 nn hlt hls hXR hLl
  by_cases hw0 : whyF ga gd gl z.seq pages = 0
  · have hcom : comF ga gd gl z pages gen l s = appF ga gd gl z pages gen l s := if_pos hw0
    have HA := Lib.hid (fun W (bW : Below w1.heap.size w1 W) => app_any X R L g fp gS bS ga gd gl z s l (fun j => Q j ∧ j < w.heap.size) A pages c gen W hG (h.on (bt b3 bW)) hh (HPg.out W (Keep.of_below bW _)) (fun j hj _ => hQ j hj.1 hj.2) hw0 (by omega) (by omega) hb)
    have hv5 := appO_five ga gd gl z pages gen l s
    obtain ⟨V, hV⟩ : ∃ V, V = appO ga gd gl z pages gen l s := ⟨_, rfl⟩
    have hcom2 : comF ga gd gl z pages gen l s = (z.append pages gen V.2.2, V) := by rw [hcom, hV]; rfl
    rw [← hV] at HA hv5
    rw [hcom2]
    have t5 := beq_no hv5
    by_cases hv : V.2.2 = 0
    · have t0 := bne_no hv
      obtain ⟨za, hza⟩ : ∃ q, q = z.seqUp pages.length V.2.2 := ⟨_, rfl⟩
      obtain ⟨zb, hzb⟩ : ∃ q, q = z.append pages gen V.2.2 := ⟨_, rfl⟩
      have HZ := Lib.hid (show (za.put pages).setGen gen = zb by rw [hza, hzb, hv]; exact Z.append_yes z pages gen)
      have hzal : za.pages = z.pages := by rw [hza]; unfold Z.seqUp; split <;> rfl
      have hbd := (whyF_zero hw0).1
      have HP := Lib.hid (fun W L' fp' (hS : SAt ex W X R L' g fp' gS bS ga gd gl za V.2.1 V.1) (k : Keep (X :: R :: L :: bS :: fp) w1 W) => put_any X R L' g fp' gS bS ga gd gl za V.2.1 V.1 (fun j => Q j ∧ j < w.heap.size) A pages c W hS (HPg.out W k) (fun j hj _ => (hQ j hj.1 hj.2).2.1) (by omega) (fun k hk => by rw [hzal]; have := Wal.badB_of hbd hk; exact ⟨this.1, by omega, by omega⟩) (by rw [hzal]; omega))
      rw [← hza] at HA
      have Hv := Lib.hid hv
      simp only
      rw [← hzb]
      clear hzal hza hzb hbd hcom hcom2 hV hw0 hdu hQ hr h b3 hz hf hl hs hcl hzl hpb hy hd hlife hb hq hv hv5
      go_enter Tryz.func15, Tryz.ntmps15
      go_upto_region 1 with (fail)
      rw [← HW.out]
      go_upto_region 6 with (go_at_call 44; refine (HR.out _ HB.out).mono ?_; rintro e w' ⟨rfl, rfl⟩)
      refine region_inb_tail 6 (by kernel_rfl) (by kernel_rfl) ?_
      simp only [List.take_succ_cons, List.take_zero, List.drop_succ_cons, List.drop_zero]
      have inbNe := InB.some
      have inbW := @wrap_small
      have inbU := IntKind.wrap_u8'
      repeat (refine wpQuiet_step (fun K hK => ?_); go_simp; first | (refine hK _ ?_; clear hK K) | (apply Exists.intro; refine ⟨?_, hK _ ?_⟩; (· (intro w' hw'; first | (have hcw := hw'.cell; go_simp; exact rfl))); clear hK K))
      refine wpQuiet_nil ?_
      intro wq hq
      clear inbNe inbW inbU
      go_wp2_with (first
        | (go_at_call 45; refine (HA.out _ hq.below).mono ?_; rintro e w2 ⟨rfl, L1, fp1, hS1, k1, f1⟩; have K1 := Lib.hid ((Keep.of_below hq.below (X :: R :: L :: bS :: fp)).trans k1 (Fresh.refl _ _)); obtain ⟨v0, v1, v2⟩ := HK.out w2 K1.out; have k1' := Lib.hid k1; clear k1)
        | (go_at_call 48; refine (HP.out _ L1 fp1 hS1 K1.out).mono ?_; rintro e w3 ⟨rfl, hS3, k3⟩; have K3 := Lib.hid (K1.out.trans (k3.more (fp' := X :: R :: L :: bS :: fp) (fun j hj => by simp only [List.mem_cons, List.not_mem_nil, or_false] at hj ⊢; exact .inr (.inl hj))) (Fresh.refl _ _)); obtain ⟨u0, u1, u2⟩ := HK.out w3 K3.out; obtain ⟨lv3, c3, j1, _, _⟩ := hS3.blk; have x7 := j1.cell (k := 7) (by simp); have fx7 := j1.free 7; have G3 := Lib.hid (hS3.gen gen); have k3' := Lib.hid k3; clear j1 hS3 k3))
      go_ret
      obtain ⟨g1, g2⟩ := G3.out
      rw [HZ.out] at g1
      rw [Hv.out]
      refine ⟨rfl, STurn.first (bt HB.out hq.below) (STurn.trans k1'.out f1 ⟨L1, fp1, g1, ?_, FreshL.refl _ _ _⟩)⟩
      exact (k3'.out.more (fp' := X :: R :: L1 :: bS :: fp1) (fun j hj => by simp only [List.mem_cons, List.not_mem_nil, or_false] at hj ⊢; exact .inr (.inl hj))).trans (g2.more (fp' := X :: R :: L1 :: bS :: fp1) (fun j hj => by simp only [List.mem_cons, List.not_mem_nil, or_false] at hj ⊢; exact .inl hj)) (Fresh.refl _ _)
    · have t0 := bne_yes hv
      obtain ⟨za, hza⟩ : ∃ q, q = z.seqUp pages.length V.2.2 := ⟨_, rfl⟩
      obtain ⟨zb, hzb⟩ : ∃ q, q = z.append pages gen V.2.2 := ⟨_, rfl⟩
      have HZ := Lib.hid (show za.told V.2.2 = zb by rw [hza, hzb]; exact Z.append_no z pages gen hv)
      rw [← hza] at HA
      simp only
      rw [← hzb]
      clear hza hzb hcom hcom2 hV hw0 hdu hQ hr h b3 hz hf hl hs hcl hzl hpb hy hd hlife hb hq hv hv5
      go_enter Tryz.func15, Tryz.ntmps15
      go_upto_region 1 with (fail)
      rw [← HW.out]
      go_upto_region 6 with (go_at_call 44; refine (HR.out _ HB.out).mono ?_; rintro e w' ⟨rfl, rfl⟩)
      refine region_inb_tail 6 (by kernel_rfl) (by kernel_rfl) ?_
      simp only [List.take_succ_cons, List.take_zero, List.drop_succ_cons, List.drop_zero]
      have inbNe := InB.some
      have inbW := @wrap_small
      have inbU := IntKind.wrap_u8'
      repeat (refine wpQuiet_step (fun K hK => ?_); go_simp; first | (refine hK _ ?_; clear hK K) | (apply Exists.intro; refine ⟨?_, hK _ ?_⟩; (· (intro w' hw'; first | (have hcw := hw'.cell; go_simp; exact rfl))); clear hK K))
      refine wpQuiet_nil ?_
      intro wq hq
      clear inbNe inbW inbU
      go_wp2_with (first
        | (go_at_call 45; refine (HA.out _ hq.below).mono ?_; rintro e w2 ⟨rfl, L1, fp1, hS1, k1, f1⟩; have K1 := Lib.hid ((Keep.of_below hq.below (X :: R :: L :: bS :: fp)).trans k1 (Fresh.refl _ _)); obtain ⟨v0, v1, v2⟩ := HK.out w2 K1.out; have k1' := Lib.hid k1; clear k1)
        | (go_at_call 47; refine (HT.out _ _ _ _ _ _ _ hS1).mono ?_; rintro e w3 ⟨rfl, t3⟩))
      go_ret
      rw [HZ.out] at t3
      exact ⟨rfl, STurn.first (bt HB.out hq.below) (STurn.trans k1'.out f1 t3)⟩
  · by_cases hw5 : whyF ga gd gl z.seq pages = 5
    · have hqA := hq
      have HA := Lib.hid (fun W (bW : Below w1.heap.size w1 W) => app_no X R L g fp gS bS ga gd gl z s l (fun j => Q j ∧ j < w.heap.size) A pages c gen W hG (h.on (bt b3 bW)) hh (HPg.out W (Keep.of_below bW _)) (by omega) hq (by omega) (by omega) hw0)
      rw [hw5] at HA
      have hbd := (why_full hw5).1
      have HS := Lib.hid (fun W bF (bW : Below w1.heap.size w1 W) (hF : Blk W bF [.func (.func 16) (crs X 0) #[], .func (.func 46) #[] (ccs w.heap.size (w.heap.size + 1) (w.heap.size + 1 + 1) 1)]) (hb : w.heap.size ≤ bF) =>
        commit_steps X R L g fp gS bS ga gd gl z s l (fun j => Q j ∧ j < w.heap.size) A pages c gen w.heap.size (w.heap.size + 1) (w.heap.size + 1 + 1) bF W hG (h.on (bt b3 bW)) (q0'.out.on' bW) (q1'.out.on' bW) (q2'.out.on' bW) hF (nn'.out _ (Nat.le_refl _)) (nn'.out _ (by omega)) (nn'.out _ (by omega)) (nn'.out _ hb) (HPg.out W (Keep.of_below bW _)) (fun j hj _ => hQ j hj.1 hj.2) hw5 hl hs hf hz hd hdu hh hlife hb0.out hqA)
      have hcom : comF ga gd gl z pages gen l s = if (renO ga gd gl z l s).2.2 = 0 then appF ga gd gl (renF ga gd gl z l s).1 pages gen (renO ga gd gl z l s).1 (renO ga gd gl z l s).2.1 else renF ga gd gl z l s := by
        unfold comF
        rw [if_neg hw0, if_pos hw5]
      have hz1 : (renO ga gd gl z l s).2.2 ≠ 0 → (renF ga gd gl z l s).1 = z.told (renO ga gd gl z l s).2.2 := fun e => by
        unfold renF Z.renew
        simp only
        rw [if_neg e]
      have hz1p : (renF ga gd gl z l s).1.pages = z.pages := by
        unfold renF Z.renew
        simp only
        split <;> rfl
      have hrF : renF ga gd gl z l s = ((renF ga gd gl z l s).1, renO ga gd gl z l s) := rfl
      rw [hrF] at hcom
      obtain ⟨V, hV⟩ : ∃ V, V = renO ga gd gl z l s := ⟨_, rfl⟩
      obtain ⟨y, hy1⟩ : ∃ q, q = (renF ga gd gl z l s).1 := ⟨_, rfl⟩
      rw [← hV, ← hy1] at hcom
      rw [← hV, ← hy1] at HS
      rw [← hV, ← hy1] at hz1
      rw [← hy1] at hz1p
      obtain ⟨U, hU⟩ : ∃ U, U = appO ga gd gl y pages gen V.1 V.2.1 := ⟨_, rfl⟩
      have hcom3 : comF ga gd gl z pages gen l s = if V.2.2 = 0 then (y.append pages gen U.2.2, U) else (y, V) := by rw [hcom]; unfold appF; rw [← hU]
      rw [← hU] at HS
      obtain ⟨O, hO⟩ : ∃ O : Out, O = if V.2.2 = 0 then U else V := ⟨_, rfl⟩
      obtain ⟨zz, hzz⟩ : ∃ q, q = if V.2.2 = 0 then y.seqUp pages.length U.2.2 else y := ⟨_, rfl⟩
      have HS2 := Lib.hid (fun W bF bW hF hb => Calls.mono (HS.out W bF bW hF hb) (fun e w' (h : ∃ f : Int, _) => show e = .returned (.int .i64 O.2.2) ∧ STurn ex W X R L g fp gS bS ga gd gl zz O.2.1 O.1 w' from by
        obtain ⟨f, rfl, r1, r2⟩ := h
        by_cases hf0 : f = 0
        · obtain ⟨c1, c2, c3⟩ := r1 hf0
          rw [hO, hzz, if_pos c1, if_pos c1]
          exact ⟨by rw [hf0, c2], c3⟩
        · rcases r2 hf0 with ⟨c1, c2⟩ | ⟨c1, c2, c3⟩
          · have : ¬ V.2.2 = 0 := fun e => hf0 (c1.trans e)
            rw [hO, hzz, if_neg this, if_neg this]
            exact ⟨by rw [c1], c2⟩
          · rw [hO, hzz, if_pos c1, if_pos c1]
            exact ⟨by rw [c2], c3⟩))
      have hc2 : (comF ga gd gl z pages gen l s).2 = O := by rw [hcom3, hO]; split <;> rfl
      obtain ⟨zc, hzc⟩ : ∃ q, q = (comF ga gd gl z pages gen l s).1 := ⟨_, rfl⟩
      rw [hc2, ← hzc]
      have hzy : O.2.2 = 0 → (zz.put pages).setGen gen = zc := fun e => by
        have hv : V.2.2 = 0 := Classical.byContradiction fun hn => by rw [hO, if_neg hn] at e; exact hn e
        rw [hO, if_pos hv] at e
        rw [hzc, hcom3, if_pos hv, hzz, if_pos hv, e]
        exact Z.append_yes y pages gen
      have hzn : O.2.2 ≠ 0 → zz.told O.2.2 = zc := fun e => by
        rw [hzc, hcom3, hzz]
        by_cases hv : V.2.2 = 0
        · rw [if_pos hv, if_pos hv]
          rw [hO, if_pos hv] at e ⊢
          exact Z.append_no y pages gen e
        · rw [if_neg hv, if_neg hv, hO, if_neg hv]
          show y.told V.2.2 = y
          rw [hz1 hv, Z.told_twice]
      have hzp : zz.pages = z.pages := by
        rw [hzz, ← hz1p]
        split
        · unfold Z.seqUp; split <;> rfl
        · rfl
      have b5 := beq_yes (show (5 : Int) = 5 from rfl)
      by_cases hv : O.2.2 = 0
      · have t0 := bne_no hv
        have HZ := Lib.hid (hzy hv)
        have HP := Lib.hid (fun W L' fp' (hS : SAt ex W X R L' g fp' gS bS ga gd gl zz O.2.1 O.1) (k : Keep (X :: R :: L :: bS :: fp) w1 W) => put_any X R L' g fp' gS bS ga gd gl zz O.2.1 O.1 (fun j => Q j ∧ j < w.heap.size) A pages c W hS (HPg.out W k) (fun j hj _ => (hQ j hj.1 hj.2).2.1) (by omega) (fun k hk => by rw [hzp]; have := Wal.badB_of hbd hk; exact ⟨this.1, by omega, by omega⟩) (by rw [hzp]; omega))
        have Hv := Lib.hid hv
        clear hv hzp hzn hzy hc2 hzc hcom hcom3 hzz hO hU hV hy1 hrF hz1 hz1p HS hbd hqA hw5 hw0 hdu hQ hr h b3 hz hf hl hs hcl hzl hpb hy hd hlife hb hq
        go_enter Tryz.func15, Tryz.ntmps15
        go_upto_region 1 with (fail)
        rw [← HW.out]
        go_upto_region 6 with (go_at_call 44; refine (HR.out _ HB.out).mono ?_; rintro e w' ⟨rfl, rfl⟩)
        refine region_inb_tail 6 (by kernel_rfl) (by kernel_rfl) ?_
        simp only [List.take_succ_cons, List.take_zero, List.drop_succ_cons, List.drop_zero]
        have inbNe := InB.some
        have inbW := @wrap_small
        have inbU := IntKind.wrap_u8'
        repeat (refine wpQuiet_step (fun K hK => ?_); go_simp; first | (refine hK _ ?_; clear hK K) | (apply Exists.intro; refine ⟨?_, hK _ ?_⟩; (· (intro w' hw'; first | (have hcw := hw'.cell; go_simp; exact rfl))); clear hK K))
        refine wpQuiet_nil ?_
        intro wq hq
        clear inbNe inbW inbU
        go_wp2_with (first
          | (go_at_call 45; refine (HA.out _ hq.below).mono ?_; rintro e w2 ⟨rfl, b2⟩; have bw2 := bt hq.below b2; obtain ⟨v0, v1, v2⟩ := HK.out w2 (Keep.of_below bw2 _))
          | (go_at_call 38; refine (HS2.out _ w2.heap.size (bt bw2 (b1alloc _ _)) (Blk.new w2 _ _) (Nat.le_trans HB.out.size bw2.size)).mono ?_; rintro e w2' ⟨rfl, L1, fp1, hS1, k1, f1⟩; have K1 := Lib.hid ((Keep.of_below (bt bw2 (b1alloc _ _)) (X :: R :: L :: bS :: fp)).trans k1 (Fresh.refl _ _)); obtain ⟨v0', v1', v2'⟩ := HK.out w2' K1.out; have k1' := Lib.hid k1; clear k1 v0 v1 v2)
          | (go_at_call 48; refine (HP.out _ L1 fp1 hS1 K1.out).mono ?_; rintro e w3 ⟨rfl, hS3, k3⟩; have K3 := Lib.hid (K1.out.trans (k3.more (fp' := X :: R :: L :: bS :: fp) (fun j hj => by simp only [List.mem_cons, List.not_mem_nil, or_false] at hj ⊢; exact .inr (.inl hj))) (Fresh.refl _ _)); obtain ⟨u0, u1, u2⟩ := HK.out w3 K3.out; obtain ⟨lv3, c3, j1, _, _⟩ := hS3.blk; have x7 := j1.cell (k := 7) (by simp); have fx7 := j1.free 7; have G3 := Lib.hid (hS3.gen gen); have k3' := Lib.hid k3; clear j1 hS3 k3))
        go_ret
        obtain ⟨g1, g2⟩ := G3.out
        rw [HZ.out] at g1
        rw [Hv.out]
        refine ⟨rfl, STurn.first (bt HB.out (bt bw2 (b1alloc _ _))) (STurn.trans k1'.out f1 ⟨L1, fp1, g1, ?_, FreshL.refl _ _ _⟩)⟩
        exact (k3'.out.more (fp' := X :: R :: L1 :: bS :: fp1) (fun j hj => by simp only [List.mem_cons, List.not_mem_nil, or_false] at hj ⊢; exact .inr (.inl hj))).trans (g2.more (fp' := X :: R :: L1 :: bS :: fp1) (fun j hj => by simp only [List.mem_cons, List.not_mem_nil, or_false] at hj ⊢; exact .inl hj)) (Fresh.refl _ _)
      · have t0 := bne_yes hv
        have HZ := Lib.hid (hzn hv)
        clear hv hzp hzn hzy hc2 hzc hcom hcom3 hzz hO hU hV hy1 hrF hz1 hz1p HS hbd hqA hw5 hw0 hdu hQ hr h b3 hz hf hl hs hcl hzl hpb hy hd hlife hb hq
        go_enter Tryz.func15, Tryz.ntmps15
        go_upto_region 1 with (fail)
        rw [← HW.out]
        go_upto_region 6 with (go_at_call 44; refine (HR.out _ HB.out).mono ?_; rintro e w' ⟨rfl, rfl⟩)
        refine region_inb_tail 6 (by kernel_rfl) (by kernel_rfl) ?_
        simp only [List.take_succ_cons, List.take_zero, List.drop_succ_cons, List.drop_zero]
        have inbNe := InB.some
        have inbW := @wrap_small
        have inbU := IntKind.wrap_u8'
        repeat (refine wpQuiet_step (fun K hK => ?_); go_simp; first | (refine hK _ ?_; clear hK K) | (apply Exists.intro; refine ⟨?_, hK _ ?_⟩; (· (intro w' hw'; first | (have hcw := hw'.cell; go_simp; exact rfl))); clear hK K))
        refine wpQuiet_nil ?_
        intro wq hq
        clear inbNe inbW inbU
        go_wp2_with (first
          | (go_at_call 45; refine (HA.out _ hq.below).mono ?_; rintro e w2 ⟨rfl, b2⟩; have bw2 := bt hq.below b2; obtain ⟨v0, v1, v2⟩ := HK.out w2 (Keep.of_below bw2 _))
          | (go_at_call 38; refine (HS2.out _ w2.heap.size (bt bw2 (b1alloc _ _)) (Blk.new w2 _ _) (Nat.le_trans HB.out.size bw2.size)).mono ?_; rintro e w2' ⟨rfl, L1, fp1, hS1, k1, f1⟩; have K1 := Lib.hid ((Keep.of_below (bt bw2 (b1alloc _ _)) (X :: R :: L :: bS :: fp)).trans k1 (Fresh.refl _ _)); obtain ⟨v0', v1', v2'⟩ := HK.out w2' K1.out; have k1' := Lib.hid k1; clear k1 v0 v1 v2)
          | (go_at_call 47; refine (HT.out _ _ _ _ _ _ _ hS1).mono ?_; rintro e w3 ⟨rfl, t3⟩))
        go_ret
        rw [HZ.out] at t3
        exact ⟨rfl, STurn.first (bt HB.out (bt bw2 (b1alloc _ _))) (STurn.trans k1'.out f1 t3)⟩
    · have hcom : comF ga gd gl z pages gen l s = (z, l, s, whyF ga gd gl z.seq pages) := by
        unfold comF
        rw [if_neg hw0, if_neg hw5]
      have HA := Lib.hid (fun W (bW : Below w1.heap.size w1 W) => app_no X R L g fp gS bS ga gd gl z s l (fun j => Q j ∧ j < w.heap.size) A pages c gen W hG (h.on (bt b3 bW)) hh (HPg.out W (Keep.of_below bW _)) (by omega) hq (by omega) (by omega) hw0)
      have h12 : whyF ga gd gl z.seq pages ≠ 12 := by
        rcases why_cases ga gd gl z.seq pages with e | e | e | e <;> rw [e] <;> decide
      have HS1 := Lib.hid (fun W (bW : Below w1.heap.size w1 W) => h.on (bt b3 bW))
      rw [hcom]
      simp only
      obtain ⟨F, hF⟩ : ∃ q, q = whyF ga gd gl z.seq pages := ⟨_, rfl⟩
      rw [← hF] at HA h12 hw0 hw5 ⊢
      have t5 := beq_no hw5
      have t0 := bne_yes hw0
      have HZ := Lib.hid (Z.told_other z h12)
      clear hF h12 hcom hw5 hw0 hdu hQ hr h b3 hz hf hl hs hcl hzl hpb hy hd hlife hb hq
      go_enter Tryz.func15, Tryz.ntmps15
      go_upto_region 1 with (fail)
      rw [← HW.out]
      go_upto_region 6 with (go_at_call 44; refine (HR.out _ HB.out).mono ?_; rintro e w' ⟨rfl, rfl⟩)
      refine region_inb_tail 6 (by kernel_rfl) (by kernel_rfl) ?_
      simp only [List.take_succ_cons, List.take_zero, List.drop_succ_cons, List.drop_zero]
      have inbNe := InB.some
      have inbW := @wrap_small
      have inbU := IntKind.wrap_u8'
      repeat (refine wpQuiet_step (fun K hK => ?_); go_simp; first | (refine hK _ ?_; clear hK K) | (apply Exists.intro; refine ⟨?_, hK _ ?_⟩; (· (intro w' hw'; first | (have hcw := hw'.cell; go_simp; exact rfl))); clear hK K))
      refine wpQuiet_nil ?_
      intro wq hq
      clear inbNe inbW inbU
      go_wp2_with (first
        | (go_at_call 45; refine (HA.out _ hq.below).mono ?_; rintro e w2 ⟨rfl, b2⟩; have bw2 := bt hq.below b2; obtain ⟨v0, v1, v2⟩ := HK.out w2 (Keep.of_below bw2 _))
        | (go_at_call 47; refine (HT.out _ _ _ _ _ _ _ (HS1.out _ bw2)).mono ?_; rintro e w3 ⟨rfl, t3⟩))
      go_ret
      rw [HZ.out] at t3
      exact ⟨rfl, STurn.first (bt HB.out bw2) t3⟩
end Go.Proofs.YtchcmklelmlbgaaGreat.Sto
