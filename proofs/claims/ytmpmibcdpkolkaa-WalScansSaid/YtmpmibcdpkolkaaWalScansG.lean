/- Texts of this claim, joined: WalPut2, WalTx, Rows20, WalRef, OpenSec, OpenSecs, WalRf, WalRf2, SupL1, SupL2, WalScP, Snap7, SnapPlain, Snap8. -/
import Derived.Test.YtmpmibcdpkolkaaWalScansF
import Derived.Test.YtmpmibcdpkolkaaWalScansD
import Derived.Test.YtmpmibcdpkolkaaWalScansB
import Derived.Lib.MinMax
import Derived.Deep.RegionLaw
import Derived.Test.YtmpmibcdpkolkaaWalScansE
/- The log, in plain Lean: what the disk has behind what was appended. No statement is proved here. -/
namespace Go.Proofs.Ytmpmibcdpkolkaa.Wal
open Go.RowKit
open Go.Proofs.Ytmpmibcdpkolkaa.Geom
open Go.Proofs.Ytmpmibcdpkolkaa.Disk (St Wr write flush read kept new zero512)
open Go.Proofs.Ytmpmibcdpkolkaa.Sec (X X0 text rightF)
open Go.Proofs.Ytmpmibcdpkolkaa.Sup (UpN Gb)
open Go.Proofs.Ytmpmibcdpkolkaa.Enc (Itm Enf enf enf_of More kept_of rd rd_good rd_zero)
set_option linter.unusedVariables false
structure EnfUp (n : Nat) (is : List Itm) (l : List (List UInt8)) (s : St) (q : List (List UInt8) × St × Int) : Prop where
  res : q.2.2 = 0
  up : UpN q.2.1 n
  good : ∀ k (h : k < is.length), Sup.Good q.1 is[k].1 is[k].2 (kept q.2.1.all is[k].1.toNat)
  beside : ∀ p : Nat, (∀ i ∈ is, i.1.toNat ≠ p) → kept q.2.1.all p = kept s.all p
  more : More l q.1
theorem enf_up {n : Nat} {is : List Itm} {l : List (List UInt8)} {s : St} (hu : UpN s n) (hi : ∀ i ∈ is, rightF i.1 i.2 = 0 ∧ 0 ≤ i.1 ∧ i.1 < n) (hd : ∀ a b (ha : a < is.length) (hb : b < is.length), is[a].1 = is[b].1 → a = b) : EnfUp n is l s (enf is l s) := by
  obtain ⟨m, e⟩ := enf_of is l s hu.size hu.down hi
  rcases e.res with ⟨_, _, _, _, h⟩ | ⟨h1, h2, h3, h4, h5, h6⟩
  · exact absurd hu.fuse h
  · rw [hu.pend, List.nil_append] at h3
    have hat : ∀ k (h : k < m.length), ∃ h' : k < is.length, m[k].1 = is[k].1.toNat ∧ Sup.Good (enf is l s).1 is[k].1 is[k].2 m[k].2 := fun k h => ⟨by omega, e.at_ k h (by omega)⟩
    refine ⟨h1, ⟨e.size, h4, h2, h6 hu.fuse⟩, fun k h => ?_, fun p hp => ?_, e.more⟩
    · obtain ⟨_, g1, g2⟩ := hat k (by omega)
      rw [h3, ← g1, kept_of s.all m k (by omega) (fun a b ha hb hab => ?_)]
      · exact g2
      · obtain ⟨ha', ea, _⟩ := hat a ha
        obtain ⟨hb', eb, _⟩ := hat b hb
        rw [ea, eb] at hab
        have p1 := (hi _ (List.getElem_mem ha')).2.1
        have p2 := (hi _ (List.getElem_mem hb')).2.1
        exact hd a b ha' hb' (by omega)
    · rw [h3]
      refine Disk.kept_append s.all m p (fun w hw he => ?_)
      obtain ⟨k, hk, rfl⟩ := List.mem_iff_getElem.1 hw
      obtain ⟨hk', g1, _⟩ := hat k hk
      exact hp _ (List.getElem_mem hk') (g1.symm.trans he)
/-- the k-th place of a log -/
abbrev pl (ga gd gl base : Int) (k : Nat) : Int := logAt ga gd gl (base + (k : Int))
theorem pl_eq {ga gd gl base : Int} (hr : right ga gd gl = true) (hb : 0 ≤ base) (k : Nat) : pl ga gd gl base k = 4 + (base + (k : Int)) % gl := by
  unfold pl logAt; rw [if_pos ⟨hr, by omega⟩]
theorem pl_inj {ga gd gl base : Int} (hr : right ga gd gl = true) (hb : 0 ≤ base) {j k : Nat} (hj : (j : Int) < gl) (hk : (k : Int) < gl) (h : pl ga gd gl base j = pl ga gd gl base k) : j = k := by
  rw [pl_eq hr hb, pl_eq hr hb] at h
  have hy := right_yes hr
  have h1 : (base + (j : Int)) % gl = (base + (k : Int)) % gl := by omega
  have h2 := Int.emod_emod_of_dvd
  have h3 : ((j : Int) - k) % gl = 0 := by
    rw [show (j : Int) - k = (base + j) - (base + k) by omega, Int.sub_emod, h1]; simp
  have h4 := Int.emod_add_mul_ediv ((j : Int) - k) gl
  have hb1 : ((j : Int) - k) < gl := by omega
  have hb2 : -gl < ((j : Int) - k) := by omega
  rw [h3] at h4
  rcases Int.lt_trichotomy (((j : Int) - k) / gl) 0 with hq | hq | hq
  · have : gl * (((j : Int) - k) / gl) ≤ gl * (-1) := Int.mul_le_mul_of_nonneg_left (by omega) (by omega)
    omega
  · rw [hq] at h4; omega
  · have : gl * 1 ≤ gl * (((j : Int) - k) / gl) := Int.mul_le_mul_of_nonneg_left (by omega) (by omega)
    omega
/-- the items of sectors from the k-th place on -/
def items (ga gd gl base : Int) : Nat → List X → List Itm
  | _, [] => []
  | q, x :: r => (pl ga gd gl base q, x) :: items ga gd gl base (q + 1) r
theorem items_len (ga gd gl base : Int) : ∀ (l : List X) (q : Nat), (items ga gd gl base q l).length = l.length
  | [], q => rfl
  | x :: r, q => by simp [items, items_len ga gd gl base r (q + 1)]
theorem items_get (ga gd gl base : Int) : ∀ (l : List X) (q k : Nat) (h : k < (items ga gd gl base q l).length) (h' : k < l.length), (items ga gd gl base q l)[k] = (pl ga gd gl base (q + k), l[k])
  | [], q, k, h, h' => absurd h' (by simp)
  | x :: r, q, 0, h, h' => rfl
  | x :: r, q, k + 1, h, h' => by
    have := items_get ga gd gl base r (q + 1) k (by rw [items_len]; simpa using h') (by simpa using h')
    rw [show q + (k + 1) = q + 1 + k by omega]
    exact this
theorem items_data (ga gd gl base : Int) (life : UInt64) (q : Nat) (gen : UInt64) : ∀ (l : List Pg) (i : Nat), items ga gd gl base (q + i) (dSecs life q gen i l) = dItems ga gd gl base life q gen i l
  | [], i => rfl
  | x :: r, i => by rw [dSecs, items, dItems, ← items_data ga gd gl base life q gen r (i + 1)]; rfl
/-- the disk has these sectors in the log's places, and nothing behind them -/
structure LogIs (ga gd gl base : Int) (n : Nat) (l : List (List UInt8)) (s : St) (xs : List X) : Prop where
  up : UpN s n
  good : ∀ k (h : k < xs.length), Sup.Good l (pl ga gd gl base k) xs[k] (kept s.all (pl ga gd gl base k).toNat)
  zero : ∀ k : Nat, xs.length ≤ k → (k : Int) < gl → kept s.all (pl ga gd gl base k).toNat = zero512
theorem LogIs.new (ga gd gl base : Int) (n : Nat) : LogIs ga gd gl base n [] (new n) [] := ⟨Sup.up_new n, fun k h => absurd h (by simp), fun k _ _ => rfl⟩
theorem pl_bd {ga gd gl base : Int} {n : Nat} (hr : right ga gd gl = true) (hb : 0 ≤ base) (hn : (n : Int) = Geom.sizeOf ga gd gl) (k : Nat) : 0 ≤ pl ga gd gl base k ∧ pl ga gd gl base k < n ∧ pl ga gd gl base k ≤ 1023 := by
  have h1 := log_bd (i := base + (k : Int)) hr (by omega)
  have h2 := log_size hr
  exact ⟨h1.1, by show logAt _ _ _ _ < _; omega, h1.2.1⟩
/-- more of them are written and flushed -/
theorem LogIs.more {ga gd gl base : Int} {n : Nat} {l : List (List UInt8)} {s : St} {xs ys : List X} (h : LogIs ga gd gl base n l s xs) (hr : right ga gd gl = true) (hb : 0 ≤ base) (hn : (n : Int) = Geom.sizeOf ga gd gl) (hl : ((xs.length + ys.length : Nat) : Int) ≤ gl)
    (hy : ∀ k (hk : k < ys.length), rightF (pl ga gd gl base (xs.length + k)) ys[k] = 0) : (enf (items ga gd gl base xs.length ys) l s).2.2 = 0 ∧ LogIs ga gd gl base n (enf (items ga gd gl base xs.length ys) l s).1 (enf (items ga gd gl base xs.length ys) l s).2.1 (xs ++ ys) := by
  have hg := fun (k : Nat) (hk : k < ys.length) => items_get ga gd gl base ys xs.length k (by rw [items_len]; exact hk) hk
  have e := enf_up (l := l) (is := items ga gd gl base xs.length ys) h.up (fun i hi => by
    obtain ⟨k, hk, rfl⟩ := List.mem_iff_getElem.1 hi
    rw [items_len] at hk
    rw [hg k hk]
    have := pl_bd hr hb hn (xs.length + k)
    exact ⟨hy k hk, this.1, this.2.1⟩) (fun a b ha hb' hab => by
    rw [items_len] at ha hb'
    rw [hg a ha, hg b hb'] at hab
    have := pl_inj hr hb (j := xs.length + a) (k := xs.length + b) (by omega) (by omega) hab
    omega)
  have hbs : ∀ k : Nat, (k < xs.length ∨ xs.length + ys.length ≤ k) → (k : Int) < gl → kept (enf (items ga gd gl base xs.length ys) l s).2.1.all (pl ga gd gl base k).toNat = kept s.all (pl ga gd gl base k).toNat := fun k hk hkg => e.beside _ (fun i hi he => by
    obtain ⟨j, hj, rfl⟩ := List.mem_iff_getElem.1 hi
    rw [items_len] at hj
    rw [hg j hj] at he
    have p1 := pl_bd hr hb hn (xs.length + j)
    have p2 := pl_bd hr hb hn k
    have := pl_inj hr hb (j := xs.length + j) (k := k) (by omega) hkg (by simp only at he; omega)
    omega)
  refine ⟨e.res, e.up, fun k hk => ?_, fun k hk hkg => ?_⟩
  · rw [List.length_append] at hk
    by_cases h1 : k < xs.length
    · rw [List.getElem_append_left h1, hbs k (.inl h1) (by omega)]
      exact e.more _ _ _ (h.good k h1)
    · rw [List.getElem_append_right (by omega)]
      have h2 := e.good (k - xs.length) (by rw [items_len]; omega)
      rw [hg _ (by omega), show xs.length + (k - xs.length) = k by omega] at h2
      exact h2
  · rw [List.length_append] at hk
    rw [hbs k (.inr hk) hkg]
    exact h.zero k (by omega) hkg
/-- a transaction is appended -/
theorem LogIs.append {ga gd gl base : Int} {n : Nat} {l : List (List UInt8)} {s : St} {xs : List X} {t : Tx} {life : UInt64} (h : LogIs ga gd gl base n l s xs) (hr : right ga gd gl = true) (hb : 0 ≤ base) (hn : (n : Int) = Geom.sizeOf ga gd gl) (hl : (xs.length : Int) + t.pages.length < gl) (hbd : badB ga gd gl t.pages = false) :
    (putF ga gd gl base life xs.length t.gen t.pages l s).2.2 = 0 ∧ LogIs ga gd gl base n (putF ga gd gl base life xs.length t.gen t.pages l s).1 (putF ga gd gl base life xs.length t.gen t.pages l s).2.1 (xs ++ tSecs life xs.length t) := by
  have hy64 := right_yes hr
  have hd := items_data ga gd gl base life xs.length t.gen t.pages 0
  rw [Nat.add_zero] at hd
  obtain ⟨r1, h1⟩ := h.more (ys := dSecs life xs.length t.gen 0 t.pages) hr hb hn (by rw [dSecs_len]; omega) (fun k hk => by
    rw [dSecs_len] at hk
    rw [dSecs_get _ _ _ _ _ _ _ hk, Nat.zero_add]
    have hp := pl_bd hr hb hn (xs.length + k)
    exact dX_right hp.1 hp.2.2 (by decide) (by omega) (badB_of hbd hk).2.2)
  rw [hd] at r1 h1
  obtain ⟨r2, h2⟩ := h1.more (ys := [dX 5 life xs.length t.pages.length t.gen t.pages.length []]) hr hb hn (by simp only [List.length_append, dSecs_len, List.length_singleton]; omega) (fun k hk => by
    obtain rfl : k = 0 := by simp at hk; exact hk
    have hp := pl_bd hr hb hn ((xs ++ dSecs life xs.length t.gen 0 t.pages).length + 0)
    exact dX_right hp.1 hp.2.2 (by decide) (by omega) (by simp))
  rw [List.length_append, dSecs_len] at r2 h2
  unfold putF
  rw [if_pos r1]
  refine ⟨r2, ?_⟩
  have := h2
  rw [List.append_assoc] at this
  exact this
/-- the scan of such a disk -/
theorem LogIs.scan {ga gd gl base : Int} {n : Nat} {l : List (List UInt8)} {s : St} {life : UInt64} {ts : List Tx} (h : LogIs ga gd gl base n l s (allSecs life 0 ts)) (hr : right ga gd gl = true) (hb : 0 ≤ base) (hn : (n : Int) = Geom.sizeOf ga gd gl) (hl : ((allSecs life 0 ts).length : Int) ≤ gl) (hx : ∀ t ∈ ts, ∀ x ∈ t.pages, 0 ≤ x.n ∧ x.n < pagesOf ga gd gl) : scanTx l s ga gd gl base life = ts := by
  have hy := right_yes hr
  have hp := pagesOf_bd ga gd gl
  have hrd : ∀ k (hk : k < (allSecs life 0 ts).length), rdL l s ga gd gl base k = ((allSecs life 0 ts)[k], 0) := fun k hk => by
    have p := pl_bd hr hb hn k
    exact rd_good h.up p.1 p.2.1 (h.good k hk)
  unfold scanTx
  refine scan_all (life := life) (by omega) (by omega) (by omega) hx (fun k hk => ?_) ?_
  · have e := hrd k hk
    have a := allSecs_at life ts 0 k hk
    refine ⟨by rw [e], ?_⟩
    unfold goodL
    rw [e]
    simp only [a.1, a.2]
    simp
  · by_cases hN : (allSecs life 0 ts).length = gl.toNat
    · exact .inl hN
    · right
      have p := pl_bd hr hb hn (allSecs life 0 ts).length
      have e : rdL l s ga gd gl base (allSecs life 0 ts).length = (X0, 7) := rd_zero h.up p.1 p.2.1 (h.zero _ (Nat.le_refl _) (by omega))
      unfold goodL
      rw [e]
      simp
end Go.Proofs.Ytmpmibcdpkolkaa.Wal

/- Transactions ([]Txn) in memory: how they read, in blocks of a kind. No statement is proved here. -/
namespace Go.Proofs.Ytmpmibcdpkolkaa.Wal
open Go.RowKit
set_option linter.unusedVariables false
instance : DecidableEq Pg := fun a b => decidable_of_iff (a.n = b.n ∧ a.body = b.body) ⟨fun h => by cases a; cases b; simp_all, fun h => by rw [h]; exact ⟨rfl, rfl⟩⟩
instance : DecidableEq Tx := fun a b => decidable_of_iff (a.pages = b.pages ∧ a.gen = b.gen) ⟨fun h => by cases a; cases b; simp_all, fun h => by rw [h]; exact ⟨rfl, rfl⟩⟩
/-- a transaction in two cells -/
structure TxAt (w : World) (Q : Nat → Prop) (b o : Nat) (x : Tx) (Ai : Option Addr) (ci : Nat) : Prop where
  c0 : w.cell? ⟨b, o, none⟩ = some (.slice Ai x.pages.length ci)
  c1 : w.cell? ⟨b, o + 1, none⟩ = some (.int .u64 (x.gen.toNat : Int))
  pgs : Pgs w Q Ai x.pages
  cap : x.pages.length ≤ ci
  max : ci ≤ maxLen
def Txs (w : World) (Q : Nat → Prop) (A : Option Addr) (l : List Tx) : Prop :=
  l ≠ [] → ∃ b off, A = some ⟨b, off, none⟩ ∧ b < w.heap.size ∧ Q b ∧ ∀ i (h : i < l.length), ∃ Ai ci, TxAt w Q b (off + i * 2) l[i] Ai ci
theorem Txs.nil (w : World) (Q : Nat → Prop) (A : Option Addr) : Txs w Q A [] := fun h => absurd rfl h
theorem Txs.get {w : World} {Q : Nat → Prop} {A : Option Addr} {l : List Tx} (h : Txs w Q A l) {i : Nat} (hi : i < l.length) :
    ∃ b off Ai ci, A = some ⟨b, off, none⟩ ∧ b < w.heap.size ∧ TxAt w Q b (off + i * 2) l[i] Ai ci := by
  obtain ⟨b, off, rfl, hb, _, hc⟩ := h (by intro e; rw [e] at hi; exact absurd hi (by simp))
  obtain ⟨Ai, ci, h1⟩ := hc i hi
  exact ⟨b, off, Ai, ci, rfl, hb, h1⟩
theorem TxAt.keep {w w' : World} {Q : Nat → Prop} {b o : Nat} {x : Tx} {Ai : Option Addr} {ci : Nat} {fp : List Nat} (h : TxAt w Q b o x Ai ci) (k : Keep fp w w') (hf : ∀ j, Q j → j < w.heap.size → j ∉ fp) (hb : b < w.heap.size) (hq : Q b) : TxAt w' Q b o x Ai ci :=
  ⟨(World.cell?_of_block (k.block hb (hf b hq hb))).trans h.c0, (World.cell?_of_block (k.block hb (hf b hq hb))).trans h.c1, h.pgs.keep k hf, h.cap, h.max⟩
theorem Txs.keep {w w' : World} {Q : Nat → Prop} {A : Option Addr} {l : List Tx} {fp : List Nat} (h : Txs w Q A l) (k : Keep fp w w') (hf : ∀ j, Q j → j < w.heap.size → j ∉ fp) : Txs w' Q A l := fun hne => by
  obtain ⟨b, off, rfl, hb, hq, hc⟩ := h hne
  refine ⟨b, off, rfl, Nat.lt_of_lt_of_le hb k.size, hq, fun i hi => ?_⟩
  obtain ⟨Ai, ci, h1⟩ := hc i hi
  exact ⟨Ai, ci, h1.keep k hf hb hq⟩
theorem Txs.on {w w' : World} {Q : Nat → Prop} {A : Option Addr} {l : List Tx} (h : Txs w Q A l) (b : Below w.heap.size w w') : Txs w' Q A l := h.keep (Keep.of_below b []) (fun j _ _ => by simp)
theorem Txs.imp {w : World} {Q Q' : Nat → Prop} {A : Option Addr} {l : List Tx} (h : Txs w Q A l) (hq : ∀ j, j < w.heap.size → Q j → Q' j) : Txs w Q' A l := fun hne => by
  obtain ⟨b, off, rfl, hb, h1, hc⟩ := h hne
  refine ⟨b, off, rfl, hb, hq b hb h1, fun i hi => ?_⟩
  obtain ⟨Ai, ci, h⟩ := hc i hi
  exact ⟨Ai, ci, h.c0, h.c1, h.pgs.imp hq, h.cap, h.max⟩
theorem flat2 {α : Type} {f : α → List Value} (hf : ∀ x, (f x).length = 2) : ∀ (l : List α) (i : Nat) (h : i < l.length) (k : Nat), k < 2 → (l.flatMap f)[i * 2 + k]? = (f l[i])[k]?
  | [], i, h, _, _ => by cases h
  | x :: l, 0, _, k, hk => by rw [List.flatMap_cons, List.getElem?_append_left (by rw [hf]; omega)]; simp
  | x :: l, i + 1, h, k, hk => by
    rw [List.flatMap_cons, List.getElem?_append_right (by rw [hf]; omega), hf, show (i + 1) * 2 + k - 2 = i * 2 + k by omega]
    simpa using flat2 hf l i (by simpa using h) k hk
theorem own_cell2 {w : World} {base n c g : Nat} {e : TypeId} {α : Type} {f : α → List Value} (hf : ∀ x, (f x).length = 2) {l : List α} (h : w.ownsRow base e 2 (.slice (some ⟨g, 0, none⟩) n c) n (l.flatMap f)) (i : Nat) (hi : i < l.length) (k : Nat) (hk : k < 2) : w.cell? ⟨g, i * 2 + k, none⟩ = (f l[i])[k]? := by
  have hl := h.1
  have h2 : (l.flatMap f).length = l.length * 2 := by
    clear h hl hi
    induction l with
    | nil => rfl
    | cons x l ih => rw [List.flatMap_cons, List.length_append, hf, ih, List.length_cons]; omega
  have := World.ownsRow.cellAt (j := i * 2 + k) h (by omega)
  rw [this]
  exact flat2 hf l i hi k hk
theorem PrOk.rdQ {w : World} {base : Nat} {p : Pr} (h : PrOk w base p) : RdQ w (fun j => base ≤ j) p.A (p.body.map e8) := fun hne => by
  obtain ⟨g, off, cs, e, hg, hh, hc⟩ := h.rd (fun e => hne (by rw [e]; rfl))
  refine ⟨g, off, e, lt_of_block hh, hg, fun i hi => ?_⟩
  rw [cell_of_row _ _ _ _ _ _ hh, hc i (by simpa using hi)]
  simp
theorem TrOk.pgs {w : World} {base : Nat} {now : Option Nat} {t : Tr} (h : TrOk w base now t) : Pgs w (fun j => base ≤ j) t.A (t.ps.map Pr.pg) := fun hne => by
  have hp : 0 < t.ps.length := by
    rcases Nat.eq_zero_or_pos t.ps.length with e | e
    · exact absurd (by rw [List.eq_nil_of_length_eq_zero e]; rfl) hne
    · exact e
  obtain ⟨g, c, e, hg⟩ := own_some h.row (by omega)
  unfold Tr.sl at e
  injection e with e1 e2 e3
  have hr := h.row
  unfold Tr.sl at hr
  rw [e1] at hr
  obtain ⟨cs, hcs⟩ := Disk.own_blk hr
  refine ⟨g, 0, e1, lt_of_block hcs, by omega, fun i hi => ?_⟩
  have hi' : i < t.ps.length := by simpa using hi
  have hk := h.pages _ (List.getElem_mem hi')
  have c0 := own_cell2 (f := Pr.cells) (fun _ => rfl) hr i hi' 0 (by omega)
  have c1 := own_cell2 (f := Pr.cells) (fun _ => rfl) hr i hi' 1 (by omega)
  refine ⟨t.ps[i].A, t.ps[i].c, ?_⟩
  rw [Nat.zero_add, List.getElem_map]
  exact ⟨by simpa [Pr.cells, Pr.pg] using c0, by simpa [Pr.cells, Pr.pg] using c1, hk.rdQ, hk.cap, hk.max, by have := hk.lo; show _ ≤ t.ps[i].n; omega, by have := hk.hi; show t.ps[i].n ≤ _; omega⟩
theorem OwnTx.txs {w : World} {base : Nat} {v : Value} {l : List Tx} (h : OwnTx w base v l) : ∃ A c, v = .slice A l.length c ∧ Txs w (fun j => base ≤ j) A l ∧ l.length ≤ c ∧ c ≤ maxLen := by
  obtain ⟨trs, hr, rfl, hok, _⟩ := h
  obtain ⟨A, c, rfl⟩ := own_form hr
  have hcp := Disk.own_caps hr
  refine ⟨A, c, by simp, fun hne => ?_, by simpa using hcp.1, hcp.2⟩
  have hp : 0 < trs.length := by
    rcases Nat.eq_zero_or_pos trs.length with e | e
    · exact absurd (by rw [List.eq_nil_of_length_eq_zero e]; rfl) hne
    · exact e
  obtain ⟨g, c', e, hg⟩ := own_some hr (by omega)
  injection e with e1 e2 e3
  subst e1
  obtain ⟨cs, hcs⟩ := Disk.own_blk hr
  refine ⟨g, 0, rfl, lt_of_block hcs, by omega, fun i hi => ?_⟩
  have hi' : i < trs.length := by simpa using hi
  have hk := hok _ (List.getElem_mem hi')
  have c0 := own_cell2 (f := Tr.cells) (fun _ => rfl) hr i hi' 0 (by omega)
  have c1 := own_cell2 (f := Tr.cells) (fun _ => rfl) hr i hi' 1 (by omega)
  have hc2 := Disk.own_caps hk.row
  refine ⟨trs[i].A, trs[i].c, ?_⟩
  rw [Nat.zero_add, List.getElem_map]
  exact ⟨by simpa [Tr.cells, Tr.sl, Tr.tx] using c0, by simpa [Tr.cells, Tr.tx] using c1, hk.pgs, by simpa [Tr.tx] using hc2.1, hc2.2⟩
end Go.Proofs.Ytmpmibcdpkolkaa.Wal

/- The document's comparisons: rows of bytes, rows of numbers. -/
namespace Go.Proofs.Ytmpmibcdpkolkaa.R20
open Go.RowKit
set_option linter.unusedVariables false
set_option maxRecDepth 100000
theorem take_snoc_eq {α : Type} {a b : List α} {k : Nat} (ha : k < a.length) (hb : k < b.length) : a.take (k + 1) = b.take (k + 1) ↔ (a.take k = b.take k ∧ a[k] = b[k]) := by
  rw [List.take_succ_eq_append_getElem ha, List.take_succ_eq_append_getElem hb]
  constructor
  · intro h
    have h1 := List.append_inj_left h (by simp; omega)
    have h2 := List.append_inj_right h (by simp; omega)
    exact ⟨h1, by simpa using h2⟩
  · rintro ⟨h1, h2⟩
    rw [h1, h2]
def Diffs (d : Bool) (e : Ending) : Prop := ∃ C k c, e = .returned (.slice C k c) ∧ (((k : Nat) : Int) == 0) = d
theorem infoI : (Try.prog.info? 3).map (fun i => (i.zero, i.size, i.bytes)) = some (some (.int .i64 0), 1, 8) := by kernel_rfl
set_option maxHeartbeats 1000000 in
theorem diff_any (A B : Option Addr) (a b : List (List UInt8)) (n m ca cb : Nat) (w : World) (ha : Rws w w.heap.size A a) (hb : Rws w w.heap.size B b) (hn : n = a.length) (hm : m = n) (hl : a.length = b.length) (hl1 : n ≤ 1000) (hla : ∀ x ∈ a, x.length ≤ 1000000) (hlb : ∀ x ∈ b, x.length ≤ 1000000) :
    Calls Try.prog 93 #[.slice A n ca, .slice B m cb] w fun e w' => Diffs (decide (a = b)) e ∧ Below w.heap.size w w' := by
  subst hm
  obtain ⟨i0, hi0, hz0, hz1, hz2⟩ := info_parts infoI
  have Hn := Lib.hid hn
  have HL := Lib.hid hl
  clear hn hl
  go_enter Try.func93, Try.ntmps93
  go_wp2_with fail
  go_loopw [5, 6] (fun o i wr => ∃ k : Nat, k ≤ m ∧ i = .int .i64 (k : Int) ∧ Below w.heap.size w wr ∧ ∃ j xs, wr.ownsRow w.heap.size 3 1 o j xs ∧ j ≤ k ∧ Hid ((j = 0) ↔ a.take k = b.take k)) (fun _ i _ => m - (intOf i).toNat)
  case atStart => exact ⟨0, by omega, rfl, Below.refl _ _, 0, [], own_nil _ _ _ _, Nat.le_refl _, Lib.hid (by simp)⟩
  case round =>
    obtain ⟨k, hk, rfl, bel, j, xs, hown, hjk, hj⟩ := hrel
    have hmx : max (m : Int) (m : Int) = (m : Int) := by omega
    have hwk : wrap64 ((k : Int) + 1) = (k : Int) + 1 := by unfold wrap64; omega
    by_cases hlt : k < m
    · have hka : k < a.length := by have := Hn.out; omega
      have hkb : k < b.length := by have := Hn.out; have := HL.out; omega
      have hkm : (k : Int) < (m : Int) := by omega
      have hge : ¬ (m : Int) ≤ (k : Int) := by omega
      obtain ⟨b1, o1, A1, c1, rfl, hb1, hc1, hr1, _, _⟩ := (ha.below bel).get hka
      obtain ⟨b2, o2, A2, c2, rfl, hb2, hc2, hr2, _, _⟩ := (hb.below bel).get hkb
      have hS := fun W (bW : Below wr.heap.size wr W) => R1.same_any A1 A2 a[k] b[k] _ _ c1 c2 W rfl rfl ((hr1.below (bW.mono bel.size)).more (by have := bel.size; have := bW.size; omega)) ((hr2.below (bW.mono bel.size)).more (by have := bel.size; have := bW.size; omega)) (by have := hla _ (List.getElem_mem hka); omega) (by have := hlb _ (List.getElem_mem hkb); omega)
      have hst := take_snoc_eq hka hkb
      have hsame : R1.sameB a[k] b[k] = decide (a[k] = b[k]) := rfl
      obtain ⟨x, hx⟩ : ∃ x, x = a[k] := ⟨_, rfl⟩
      obtain ⟨y, hy⟩ : ∃ y, y = b[k] := ⟨_, rfl⟩
      rw [← hx, ← hy] at hS hst hsame
      rw [← hx] at hc1
      rw [← hy] at hc2
      have hb1' : b1 < wr.heap.size := by have := bel.size; omega
      have hb2' : b2 < wr.heap.size := by have := bel.size; omega
      by_cases he : x = y
      · rw [hsame, decide_eq_true he] at hS
        have HS := Lib.hid hS
        have Hst := Lib.hid hst
        have He := Lib.hid he
        clear hS hst hsame hx hy he hr1 hr2 ha hb
        go_wp2_with fail
        refine region_inb (by kernel_rfl) (by kernel_rfl) ?_
        have inbNe := InB.some
        have inbW := @wrap_small
        have inbU := IntKind.wrap_u8'
        repeat (refine wpQuiet_step (fun K hK => ?_); go_simp; first | (refine hK _ ?_; clear hK K) | (apply Exists.intro; refine ⟨?_, hK _ ?_⟩; (· (intro w' hw'; first | (go_at_call 16; refine (HS.out _ hw'.below).mono ?_; rintro e w1 ⟨rfl, b1⟩; exact ⟨rfl, hw'.on b1⟩) | (have hcw := hw'.cell; go_simp; exact rfl))); clear hK K))
        refine wpQuiet_nil ?_
        intro wq hq
        clear inbNe inbW inbU
        go_wp2
        case roundEnd => exact ⟨⟨k + 1, by omega, rfl, bt bel hq.below, j, xs, own_on hown hq.below, by omega, Lib.hid (by rw [hj.out, Hst.out]; exact ⟨fun h => ⟨h, He.out⟩, fun h => h.1⟩)⟩, by simp only [intOf]; omega⟩
      · rw [hsame, decide_eq_false he] at hS
        have HS := Lib.hid hS
        have Hst := Lib.hid hst
        have He := Lib.hid he
        clear hS hst hsame hx hy he hr1 hr2 ha hb
        obtain ⟨A5, c5, rfl⟩ := own_form hown
        go_wp2_with fail
        refine region_inb (by kernel_rfl) (by kernel_rfl) ?_
        have inbNe := InB.some
        have inbW := @wrap_small
        have inbU := IntKind.wrap_u8'
        repeat (refine wpQuiet_step (fun K hK => ?_); go_simp; first | (refine hK _ ?_; clear hK K) | (apply Exists.intro; refine ⟨?_, hK _ ?_⟩; (· (intro w' hw'; first | (go_at_call 16; refine (HS.out _ hw'.below).mono ?_; rintro e w1 ⟨rfl, b1⟩; exact ⟨rfl, hw'.on b1⟩) | (have hcw := hw'.cell; go_simp; exact rfl))); clear hK K))
        refine wpQuiet_nil ?_
        intro wq hq
        clear inbNe inbW inbU
        have own2 := own_on hown hq.below
        have hsz2 := hq.below.size
        go_wp2_with (refine wpList_append_rd _ rfl _ _ _ rfl w.heap.size 3 i0 _ 1 8 Try.underlying63 hi0 hz0 hz1 hz2 rfl (by omega) _ j xs rfl (own2.alloc _) (wq.heap.size + 1) (some ⟨wq.heap.size, 0, none⟩) 1 1 [.int .i64 (k : Int)] rfl rfl (Rd.lit wq _ _ _ _ rfl (by omega)) (one_int _ _) (by simp only [maxLen]; omega) (by omega) (le_alloc (Nat.le_trans bel.size hsz2) _) ?_; intro v2 w2 hown2 hg2 hat2)
        have bel2 : Below w.heap.size w w2 := by
          refine ((bt bel hq.below).alloc (Nat.le_trans bel.size hsz2) _).grown hg2 (le_alloc (Nat.le_trans bel.size hsz2) _) (fun g hg => ?_)
          exact own_block hown hg
        case roundEnd => exact ⟨⟨k + 1, by omega, rfl, bel2, j + 1, _, hown2, by omega, Lib.hid ⟨fun h => absurd h (by omega), fun h => absurd (Hst.out.1 h).2 He.out⟩⟩, by simp only [intOf]; omega⟩
    · have hkm : k = m := by omega
      have hkn : ¬ (k : Int) < (m : Int) := by omega
      obtain ⟨A5, c5, rfl⟩ := own_form hown
      have Hk := Lib.hid hkm
      clear hkm
      go_wp2
      go_ret
      refine ⟨⟨A5, j, c5, rfl, ?_⟩, bel⟩
      have h1 := hj.out
      have h2 := Hk.out
      have h3 := Hn.out
      have h4 := HL.out
      rw [List.take_of_length_le (by omega), List.take_of_length_le (by omega)] at h1
      by_cases hj0 : j = 0
      · rw [beq_yes (by omega), decide_eq_true (h1.1 hj0)]
      · rw [beq_no (by omega), decide_eq_false (fun e => hj0 (h1.2 e))]
theorem rows_any (A B : Option Addr) (a b : List (List UInt8)) (n m ca cb : Nat) (w : World) (ha : Rws w w.heap.size A a) (hb : Rws w w.heap.size B b) (hn : n = a.length) (hm : m = b.length) (hl1 : n ≤ 1000) (hla : ∀ x ∈ a, x.length ≤ 1000000) (hlb : ∀ x ∈ b, x.length ≤ 1000000) :
    Calls Try.prog 39 #[.slice A n ca, .slice B m cb] w fun e w' => e = .returned (.bool (decide (a = b))) ∧ Below w.heap.size w w' := by
  by_cases hl : n = m
  · have HD := Lib.hid (diff_any A B a b n m ca cb w ha hb hn hl.symm (by omega) hl1 hla hlb)
    obtain ⟨d, hd⟩ : ∃ d, d = decide (a = b) := ⟨_, rfl⟩
    rw [← hd] at HD ⊢
    have t0 := bne_no (show (n : Int) = (m : Int) by omega)
    clear ha hb hn hm hd hl hla hlb
    go_enter Try.func39, Try.ntmps39
    go_wp2_with (go_at_call 93; refine HD.out.mono ?_; rintro e w1 ⟨⟨C, k, c, rfl, hk⟩, b1⟩)
    go_ret
    exact ⟨by first | rfl | exact ret_bool hk, b1⟩
  · have hne : decide (a = b) = false := decide_eq_false (fun e => hl (by rw [hn, hm, e]))
    rw [hne]
    have t0 := bne_yes (show (n : Int) ≠ (m : Int) by omega)
    clear ha hb hn hm hl hla hlb hne
    go_enter Try.func39, Try.ntmps39
    go_wp2
    go_ret
    exact ⟨rfl, Below.refl _ _⟩
set_option maxHeartbeats 1000000 in
/-- the same numbers -/
theorem ints_same (A B : Option Addr) (l : List Int) (n m ca cb : Nat) (w : World) (ha : Rd w w.heap.size A (l.map (Value.int .i64))) (hb : Rd w w.heap.size B (l.map (Value.int .i64))) (hn : n = l.length) (hm : m = n) (hl : n ≤ 1000000) :
    Calls Try.prog 48 #[.slice A n ca, .slice B m cb] w fun e w' => e = .returned (.bool true) ∧ Below w.heap.size w w' := by
  subst hm
  have Hn := Lib.hid hn
  clear hn
  go_enter Try.func48, Try.ntmps48
  go_wp2_with fail
  go_loopw [5] (fun i wr => ∃ k : Nat, k ≤ m ∧ i = .int .i64 (k : Int) ∧ Below w.heap.size w wr) (fun i _ => m - (intOf i).toNat)
  case atStart => exact ⟨0, by omega, rfl, Below.refl _ _⟩
  case round =>
    obtain ⟨k, hk, rfl, bel⟩ := hrel
    have hwk : wrap64 ((k : Int) + 1) = (k : Int) + 1 := by unfold wrap64; omega
    by_cases hlt : k < m
    · have hkl : k < l.length := by have := Hn.out; omega
      have hkm : (k : Int) < (m : Int) := by omega
      obtain ⟨b1, o1, rfl, hb1, hc1⟩ := (ha.below bel).get (k := k) (by rw [List.length_map]; exact hkl)
      obtain ⟨b2, o2, rfl, hb2, hc2⟩ := (hb.below bel).get (k := k) (by rw [List.length_map]; exact hkl)
      rw [List.getElem_map] at hc1 hc2
      obtain ⟨x, hx⟩ : ∃ x, x = l[k] := ⟨_, rfl⟩
      rw [← hx] at hc1 hc2
      have hb1' : b1 < wr.heap.size := by have := bel.size; omega
      have hb2' : b2 < wr.heap.size := by have := bel.size; omega
      have t1 := bne_no (show x = x from rfl)
      clear hx ha hb
      go_wp2_with fail
      refine region_inb (by kernel_rfl) (by kernel_rfl) ?_
      have inbNe := InB.some
      have inbW := @wrap_small
      have inbU := IntKind.wrap_u8'
      repeat (refine wpQuiet_step (fun K hK => ?_); go_simp; first | (refine hK _ ?_; clear hK K) | (apply Exists.intro; refine ⟨?_, hK _ ?_⟩; (· (intro w' hw'; first | fail | (have hcw := hw'.cell; go_simp; exact rfl))); clear hK K))
      refine wpQuiet_nil ?_
      intro wq hq
      clear inbNe inbW inbU
      go_wp2
      case roundEnd => exact ⟨⟨k + 1, by omega, rfl, bt bel hq.below⟩, by simp only [intOf]; omega⟩
    · have hkn : ¬ (k : Int) < (m : Int) := by omega
      go_wp2
      go_ret
      exact ⟨rfl, bel⟩
end Go.Proofs.Ytmpmibcdpkolkaa.R20

/- The log: the document's comparisons. No statement is proved here. -/
namespace Go.Proofs.Ytmpmibcdpkolkaa.Wal
open Go.RowKit
set_option linter.unusedVariables false
set_option maxRecDepth 100000
attribute [local irreducible] wpQuiet
theorem take_all_eq {α : Type} {a b : List α} (hl : a.length = b.length) (h : a.take a.length = b.take a.length) : a = b := by
  rw [List.take_length, hl, List.take_length] at h; exact h
set_option maxHeartbeats 1000000 in
theorem alike_any (Q Q' : Nat → Prop) (A B : Option Addr) (a b : List Pg) (n m ca cb : Nat) (w : World) (ha : Pgs w Q A a) (hb : Pgs w Q' B b) (hn : n = a.length) (hm : m = b.length) (hl1 : n ≤ 1000000) (hla : ∀ x ∈ a, x.body.length ≤ 1000000) (hlb : ∀ x ∈ b, x.body.length ≤ 1000000) :
    Calls Try.prog 103 #[.slice A n ca, .slice B m cb] w fun e w' => e = .returned (.bool (decide (a = b))) ∧ Below w.heap.size w w' := by
  by_cases hl : a.length = b.length
  rotate_left
  · have hne : decide (a = b) = false := decide_eq_false (fun e => hl (by rw [e]))
    rw [hne]
    subst hn hm
    have t0 := bne_yes (show (a.length : Int) ≠ (b.length : Int) by omega)
    clear hl hne
    go_enter Try.func103, Try.ntmps103
    go_wp2
    go_ret
    exact ⟨rfl, Below.refl _ _⟩
  have hmn : m = n := by omega
  subst hmn
  have Hn := Lib.hid hn
  have HL := Lib.hid hl
  obtain ⟨D, hD⟩ : ∃ D, D = decide (a = b) := ⟨_, rfl⟩
  rw [← hD]
  have HD := Lib.hid hD
  clear hn hl hm hD
  go_enter Try.func103, Try.ntmps103
  go_wp2_with fail
  go_loopw [5] (fun i wr => ∃ k : Nat, k ≤ m ∧ i = .int .i64 (k : Int) ∧ Below w.heap.size w wr ∧ Hid (a.take k = b.take k)) (fun i _ => m - (intOf i).toNat)
  case atStart => exact ⟨0, by omega, rfl, Below.refl _ _, Lib.hid (by simp)⟩
  case round =>
    obtain ⟨k, hk, rfl, bel, hj⟩ := hrel
    by_cases hlt : k < m
    · have hka : k < a.length := by have := Hn.out; omega
      have hkb : k < b.length := by have := Hn.out; have := HL.out; omega
      have hkm : (k : Int) < (m : Int) := by omega
      have hge : ¬ (m : Int) ≤ (k : Int) := by omega
      obtain ⟨b1, o1, A1, c1, rfl, hb1, hc1⟩ := (ha.on bel).get hka
      obtain ⟨b2, o2, A2, c2, rfl, hb2, hc2⟩ := (hb.on bel).get hkb
      have p0 := hc1.c0
      have p1 := hc1.c1
      have q0 := hc2.c0
      have q1 := hc2.c1
      have hS := fun W (bW : Below wr.heap.size wr W) => R1.same_any A1 A2 a[k].body b[k].body _ _ c1 c2 W rfl rfl ((hc1.rd.rd.below bW).more bW.size) ((hc2.rd.rd.below bW).more bW.size) (by have := hla _ (List.getElem_mem hka); omega) (by have := hlb _ (List.getElem_mem hkb); omega)
      have hst := R20.take_snoc_eq hka hkb
      obtain ⟨⟨xn, xb⟩, hx⟩ : ∃ x, x = a[k] := ⟨_, rfl⟩
      obtain ⟨⟨yn, yb⟩, hy⟩ : ∃ y, y = b[k] := ⟨_, rfl⟩
      rw [← hx, ← hy] at hS hst
      rw [← hx] at p0 p1
      rw [← hy] at q0 q1
      have hsame : R1.sameB xb yb = decide (xb = yb) := rfl
      simp only at hS p0 p1 q0 q1
      rw [hsame] at hS
      by_cases hen : xn = yn
      rotate_left
      · have t0 := bne_yes hen
        have Hst := Lib.hid hst
        have He := Lib.hid hen
        clear hS hst hsame hx hy hc1 hc2 ha hb hen
        go_wp2_with fail
        refine region_inb (by kernel_rfl) (by kernel_rfl) ?_
        have inbNe := InB.some
        have inbW := @wrap_small
        have inbU := IntKind.wrap_u8'
        repeat (refine wpQuiet_step (fun K hK => ?_); go_simp; first | (refine hK _ ?_; clear hK K) | (apply Exists.intro; refine ⟨?_, hK _ ?_⟩; (· (intro w' hw'; first | fail | (have hcw := hw'.cell; go_simp; exact rfl))); clear hK K))
        refine wpQuiet_nil ?_
        intro wq hq
        clear inbNe inbW inbU
        go_wp2
        go_ret
        have hF : D = false := by
          rw [HD.out]
          refine decide_eq_false fun e => ?_
          have h2 : a.take (k + 1) = b.take (k + 1) := by rw [e]
          have h3 := (Hst.out.1 h2).2
          injection h3 with h3 _
          exact He.out h3
        exact ⟨ret_bool hF.symm, bt bel hq.below⟩
      have t0 := bne_no hen
      by_cases heb : xb = yb
      · rw [decide_eq_true heb] at hS
        have HS := Lib.hid hS
        have Hgo := Lib.hid (show a.take (k + 1) = b.take (k + 1) from hst.2 ⟨hj.out, by rw [hen, heb]⟩)
        clear hS hst hsame hx hy hc1 hc2 ha hb hen heb
        go_wp2_with fail
        refine region_inb (by kernel_rfl) (by kernel_rfl) ?_
        have inbNe := InB.some
        have inbW := @wrap_small
        have inbU := IntKind.wrap_u8'
        repeat (refine wpQuiet_step (fun K hK => ?_); go_simp; first | (refine hK _ ?_; clear hK K) | (apply Exists.intro; refine ⟨?_, hK _ ?_⟩; (· (intro w' hw'; first | (go_at_call 16; refine (HS.out _ hw'.below).mono ?_; rintro e w1 ⟨rfl, b1⟩; exact ⟨rfl, hw'.on b1⟩) | (have hcw := hw'.cell; go_simp; exact rfl))); clear hK K))
        refine wpQuiet_nil ?_
        intro wq hq
        clear inbNe inbW inbU
        go_wp2
        case roundEnd => exact ⟨⟨k + 1, by omega, by go_num, bt bel hq.below, Lib.hid Hgo.out⟩, by simp only [intOf]; omega⟩
      · rw [decide_eq_false heb] at hS
        have HS := Lib.hid hS
        have Hst := Lib.hid hst
        have He := Lib.hid heb
        clear hS hst hsame hx hy hc1 hc2 ha hb hen heb
        go_wp2_with fail
        refine region_inb (by kernel_rfl) (by kernel_rfl) ?_
        have inbNe := InB.some
        have inbW := @wrap_small
        have inbU := IntKind.wrap_u8'
        repeat (refine wpQuiet_step (fun K hK => ?_); go_simp; first | (refine hK _ ?_; clear hK K) | (apply Exists.intro; refine ⟨?_, hK _ ?_⟩; (· (intro w' hw'; first | (go_at_call 16; refine (HS.out _ hw'.below).mono ?_; rintro e w1 ⟨rfl, b1⟩; exact ⟨rfl, hw'.on b1⟩) | (have hcw := hw'.cell; go_simp; exact rfl))); clear hK K))
        refine wpQuiet_nil ?_
        intro wq hq
        clear inbNe inbW inbU
        go_wp2
        go_ret
        have hF : D = false := by
          rw [HD.out]
          refine decide_eq_false fun e => ?_
          have h2 : a.take (k + 1) = b.take (k + 1) := by rw [e]
          have h3 := (Hst.out.1 h2).2
          injection h3 with _ h3
          exact He.out h3
        exact ⟨ret_bool hF.symm, bt bel hq.below⟩
    · have hkm : k = m := by omega
      have hkn : ¬ (k : Int) < (m : Int) := by omega
      have Hk := Lib.hid hkm
      clear hkm
      go_wp2
      go_ret
      have hF : D = true := by
        rw [HD.out]
        refine decide_eq_true ?_
        have h1 := hj.out
        rw [Hk.out, Hn.out] at h1
        exact take_all_eq HL.out h1
      exact ⟨ret_bool hF.symm, bel⟩
set_option maxHeartbeats 1000000 in
theorem txsame_any (Q Q' : Nat → Prop) (A B : Option Addr) (a b : List Tx) (n m ca cb : Nat) (w : World) (ha : Txs w Q A a) (hb : Txs w Q' B b) (hn : n = a.length) (hm : m = b.length) (hl1 : n ≤ 1000000) (hla : ∀ x ∈ a, x.pages.length ≤ 1000000 ∧ ∀ y ∈ x.pages, y.body.length ≤ 1000000) (hlb : ∀ x ∈ b, ∀ y ∈ x.pages, y.body.length ≤ 1000000) :
    Calls Try.prog 51 #[.slice A n ca, .slice B m cb] w fun e w' => e = .returned (.bool (decide (a = b))) ∧ Below w.heap.size w w' := by
  by_cases hl : a.length = b.length
  rotate_left
  · have hne : decide (a = b) = false := decide_eq_false (fun e => hl (by rw [e]))
    rw [hne]
    subst hn hm
    have t0 := bne_yes (show (a.length : Int) ≠ (b.length : Int) by omega)
    clear hl hne
    go_enter Try.func51, Try.ntmps51
    go_wp2
    go_ret
    exact ⟨rfl, Below.refl _ _⟩
  have hmn : m = n := by omega
  subst hmn
  have Hn := Lib.hid hn
  have HL := Lib.hid hl
  obtain ⟨D, hD⟩ : ∃ D, D = decide (a = b) := ⟨_, rfl⟩
  rw [← hD]
  have HD := Lib.hid hD
  clear hn hl hm hD
  go_enter Try.func51, Try.ntmps51
  go_wp2_with fail
  go_loopw [5] (fun i wr => ∃ k : Nat, k ≤ m ∧ i = .int .i64 (k : Int) ∧ Below w.heap.size w wr ∧ Hid (a.take k = b.take k)) (fun i _ => m - (intOf i).toNat)
  case atStart => exact ⟨0, by omega, rfl, Below.refl _ _, Lib.hid (by simp)⟩
  case round =>
    obtain ⟨k, hk, rfl, bel, hj⟩ := hrel
    by_cases hlt : k < m
    · have hka : k < a.length := by have := Hn.out; omega
      have hkb : k < b.length := by have := Hn.out; have := HL.out; omega
      have hkm : (k : Int) < (m : Int) := by omega
      have hge : ¬ (m : Int) ≤ (k : Int) := by omega
      obtain ⟨b1, o1, A1, c1, rfl, hb1, hc1⟩ := (ha.on bel).get hka
      obtain ⟨b2, o2, A2, c2, rfl, hb2, hc2⟩ := (hb.on bel).get hkb
      have p0 := hc1.c0
      have p1 := hc1.c1
      have q0 := hc2.c0
      have q1 := hc2.c1
      have hS := fun W (bW : Below wr.heap.size wr W) => alike_any Q Q' A1 A2 a[k].pages b[k].pages _ _ c1 c2 W (hc1.pgs.on bW) (hc2.pgs.on bW) rfl rfl (hla _ (List.getElem_mem hka)).1 (hla _ (List.getElem_mem hka)).2 (hlb _ (List.getElem_mem hkb))
      have hst := R20.take_snoc_eq hka hkb
      obtain ⟨⟨xb, xn⟩, hx⟩ : ∃ x, x = a[k] := ⟨_, rfl⟩
      obtain ⟨⟨yb, yn⟩, hy⟩ : ∃ y, y = b[k] := ⟨_, rfl⟩
      rw [← hx, ← hy] at hS hst
      rw [← hx] at p0 p1
      rw [← hy] at q0 q1
      simp only at hS p0 p1 q0 q1
      by_cases hen : xn = yn
      rotate_left
      · have t0 := bne_yes (show (xn.toNat : Int) ≠ (yn.toNat : Int) from fun e => hen (UInt64.toNat_inj.1 (by omega)))
        have Hst := Lib.hid hst
        have He := Lib.hid hen
        clear hS hst hx hy hc1 hc2 ha hb hen
        go_wp2_with fail
        refine region_inb (by kernel_rfl) (by kernel_rfl) ?_
        have inbNe := InB.some
        have inbW := @wrap_small
        have inbU := IntKind.wrap_u8'
        repeat (refine wpQuiet_step (fun K hK => ?_); go_simp; first | (refine hK _ ?_; clear hK K) | (apply Exists.intro; refine ⟨?_, hK _ ?_⟩; (· (intro w' hw'; first | fail | (have hcw := hw'.cell; go_simp; exact rfl))); clear hK K))
        refine wpQuiet_nil ?_
        intro wq hq
        clear inbNe inbW inbU
        go_wp2
        go_ret
        have hF : D = false := by
          rw [HD.out]
          refine decide_eq_false fun e => ?_
          have h2 : a.take (k + 1) = b.take (k + 1) := by rw [e]
          have h3 := (Hst.out.1 h2).2
          injection h3 with _ h3
          exact He.out h3
        exact ⟨ret_bool hF.symm, bt bel hq.below⟩
      have t0 := bne_no (show (xn.toNat : Int) = (yn.toNat : Int) by rw [hen])
      by_cases heb : xb = yb
      · rw [decide_eq_true heb] at hS
        have HS := Lib.hid hS
        have Hgo := Lib.hid (show a.take (k + 1) = b.take (k + 1) from hst.2 ⟨hj.out, by rw [hen, heb]⟩)
        clear hS hst hx hy hc1 hc2 ha hb hen heb
        go_wp2_with fail
        refine region_inb (by kernel_rfl) (by kernel_rfl) ?_
        have inbNe := InB.some
        have inbW := @wrap_small
        have inbU := IntKind.wrap_u8'
        repeat (refine wpQuiet_step (fun K hK => ?_); go_simp; first | (refine hK _ ?_; clear hK K) | (apply Exists.intro; refine ⟨?_, hK _ ?_⟩; (· (intro w' hw'; first | (go_at_call 103; refine (HS.out _ hw'.below).mono ?_; rintro e w1 ⟨rfl, b1⟩; exact ⟨rfl, hw'.on b1⟩) | (have hcw := hw'.cell; go_simp; exact rfl))); clear hK K))
        refine wpQuiet_nil ?_
        intro wq hq
        clear inbNe inbW inbU
        go_wp2
        case roundEnd => exact ⟨⟨k + 1, by omega, by go_num, bt bel hq.below, Lib.hid Hgo.out⟩, by simp only [intOf]; omega⟩
      · rw [decide_eq_false heb] at hS
        have HS := Lib.hid hS
        have Hst := Lib.hid hst
        have He := Lib.hid heb
        clear hS hst hx hy hc1 hc2 ha hb hen heb
        go_wp2_with fail
        refine region_inb (by kernel_rfl) (by kernel_rfl) ?_
        have inbNe := InB.some
        have inbW := @wrap_small
        have inbU := IntKind.wrap_u8'
        repeat (refine wpQuiet_step (fun K hK => ?_); go_simp; first | (refine hK _ ?_; clear hK K) | (apply Exists.intro; refine ⟨?_, hK _ ?_⟩; (· (intro w' hw'; first | (go_at_call 103; refine (HS.out _ hw'.below).mono ?_; rintro e w1 ⟨rfl, b1⟩; exact ⟨rfl, hw'.on b1⟩) | (have hcw := hw'.cell; go_simp; exact rfl))); clear hK K))
        refine wpQuiet_nil ?_
        intro wq hq
        clear inbNe inbW inbU
        go_wp2
        go_ret
        have hF : D = false := by
          rw [HD.out]
          refine decide_eq_false fun e => ?_
          have h2 : a.take (k + 1) = b.take (k + 1) := by rw [e]
          have h3 := (Hst.out.1 h2).2
          injection h3 with h3 _
          exact He.out h3
        exact ⟨ret_bool hF.symm, bt bel hq.below⟩
    · have hkm : k = m := by omega
      have hkn : ¬ (k : Int) < (m : Int) := by omega
      have Hk := Lib.hid hkm
      clear hkm
      go_wp2
      go_ret
      have hF : D = true := by
        rw [HD.out]
        refine decide_eq_true ?_
        have h1 := hj.out
        rw [Hk.out, Hn.out] at h1
        exact take_all_eq HL.out h1
      exact ⟨ret_bool hF.symm, bel⟩
end Go.Proofs.Ytmpmibcdpkolkaa.Wal

/- How a sector (a struct of five fields, one of them a slice of bytes) comes in as an argument. -/
namespace Go.Proofs.Ytmpmibcdpkolkaa
open Go.ChangeShapes Go.WideShapes Go.ChangeAt Go.RowKit Go.Joins Go.Deep
set_option maxRecDepth 100000
set_option linter.unusedVariables false
theorem array5 {α : Type} {cs : Array α} (h : cs.size = 5) : ∃ c0 c1 c2 c3 c4, cs = #[c0, c1, c2, c3, c4] := by
  obtain ⟨l⟩ := cs
  match l, h with
  | [c0, c1, c2, c3, c4], _ => exact ⟨c0, c1, c2, c3, c4, rfl⟩
theorem open_agg5 {H : Type} {enc : TypeId × Value → H} {P : Program} {w : World} {base : Nat} {spare : Nat → Bool} {held : Bool} {r : Reach} {b0 : Nat} {t : TypeId} {f0 f1 f2 f3 f4 : Field} {v : Value} {d : DataW H} {p : List MemPlace}
    (hs : P.underlying t = some (.struct #[f0, f1, f2, f3, f4])) (hone : oneCellFields P #[f0, f1, f2, f3, f4] = true) (hC : P.cellsOf t = 5)
    (hv : Value.okWide P w r b0 t v) (h : DataW.Trod enc P w base spare held t v d p) :
    ∃ (v0 v1 v2 v3 v4 : Value) (y0 y1 y2 y3 y4 : DataW H × List MemPlace) (n : Nat), v = .agg #[v0, v1, v2, v3, v4] ∧
      DataW.trod enc P w base spare held n f0.type [v0] = some y0 ∧ DataW.trod enc P w base spare held n f1.type [v1] = some y1 ∧ DataW.trod enc P w base spare held n f2.type [v2] = some y2 ∧ DataW.trod enc P w base spare held n f3.type [v3] = some y3 ∧ DataW.trod enc P w base spare held n f4.type [v4] = some y4 := by
  obtain ⟨cs, rfl, hsz⟩ := okWide_struct hs hv
  obtain ⟨c0, c1, c2, c3, c4, rfl⟩ := array5 (hsz.trans hC)
  obtain ⟨fuel, hf⟩ := h
  obtain ⟨ys, n, _, hx, hl, hlen, hf⟩ := DataW.trod_struct hs hf
  obtain ⟨o0, k0⟩ := hone_of hone 0 f0 rfl
  obtain ⟨o1, k1⟩ := hone_of hone 1 f1 rfl
  obtain ⟨o2, k2⟩ := hone_of hone 2 f2 rfl
  obtain ⟨o3, k3⟩ := hone_of hone 3 f3 rfl
  obtain ⟨o4, k4⟩ := hone_of hone 4 f4 rfl
  match ys, hlen with
  | [y0, y1, y2, y3, y4], _ =>
    have e0 := hf 0 f0 rfl
    have e1 := hf 1 f1 rfl
    have e2 := hf 2 f2 rfl
    have e3 := hf 3 f3 rfl
    have e4 := hf 4 f4 rfl
    exact ⟨c0, c1, c2, c3, c4, y0, y1, y2, y3, y4, n, rfl, by simpa [Value.cells, o0, k0] using e0, by simpa [Value.cells, o1, k1] using e1, by simpa [Value.cells, o2, k2] using e2, by simpa [Value.cells, o3, k3] using e3, by simpa [Value.cells, o4, k4] using e4⟩
theorem sector_of {H : Type} {enc : TypeId × Value → H} {w : World} {r : Reach} {b0 : Nat} {v : Value} {d : DataW H} {p : List MemPlace} (hv : Value.okWide Try.prog w r b0 49 v) (h : DataW.Trod enc Try.prog w 0 (fun _ => true) true 49 v d p) :
    ∃ (x : Sec.X) (A : Option Addr) (c : Nat), v = .agg #[.int .i64 x.kind, .int .u64 (x.life.toNat : Int), .int .i64 x.seq, .int .u64 (x.gen.toNat : Int), .slice A x.body.length c] ∧ Rd w w.heap.size A (x.body.map e8) ∧ x.body.length ≤ c ∧ c ≤ maxLen := by
  obtain ⟨v0, v1, v2, v3, v4, y0, y1, y2, y3, y4, n, rfl, t0, t1, t2, t3, t4⟩ := open_agg5 Try.underlying49 (by kernel_rfl) (by kernel_rfl) hv h
  obtain ⟨k, e0, _, wk⟩ := DataW.trod_int Try.underlying3 t0
  obtain ⟨u1, e1, _, w1⟩ := DataW.trod_int Try.underlying24 t1
  obtain ⟨s, e2, _, ws⟩ := DataW.trod_int Try.underlying3 t2
  obtain ⟨u3, e3, _, w3⟩ := DataW.trod_int Try.underlying24 t3
  obtain ⟨A4, l4, c4, e4, r4, q4, m4⟩ := bytes_of1 Try.underlying37 Try.underlying5 (by kernel_rfl) t4
  simp only [List.cons.injEq, and_true] at e0 e1 e2 e3
  subst e0 e1 e2 e3 e4
  obtain ⟨u1', rfl⟩ := wf64 w1
  obtain ⟨u3', rfl⟩ := wf64 w3
  exact ⟨⟨k, u1', s, u3', l4⟩, A4, c4, rfl, r4, q4, m4⟩
end Go.Proofs.Ytmpmibcdpkolkaa

/- Rows of sectors ([]Sector): how they read, and how they come in as an argument. -/
namespace Go.Proofs.Ytmpmibcdpkolkaa
open Go.RowKit
set_option linter.unusedVariables false
/-- a sector in five cells -/
structure SecAt (w : World) (B b o : Nat) (x : Sec.X) (Ai : Option Addr) (ci : Nat) : Prop where
  c0 : w.cell? ⟨b, o, none⟩ = some (.int .i64 x.kind)
  c1 : w.cell? ⟨b, o + 1, none⟩ = some (.int .u64 (x.life.toNat : Int))
  c2 : w.cell? ⟨b, o + 2, none⟩ = some (.int .i64 x.seq)
  c3 : w.cell? ⟨b, o + 3, none⟩ = some (.int .u64 (x.gen.toNat : Int))
  c4 : w.cell? ⟨b, o + 4, none⟩ = some (.slice Ai x.body.length ci)
  rd : Rd w B Ai (x.body.map e8)
  cap : x.body.length ≤ ci
  max : ci ≤ maxLen
/-- a slice of sectors -/
def Secs (w : World) (B : Nat) (A : Option Addr) (l : List Sec.X) : Prop :=
  l ≠ [] → ∃ b off, A = some ⟨b, off, none⟩ ∧ b < B ∧ ∀ i (h : i < l.length), ∃ Ai ci, SecAt w B b (off + i * 5) l[i] Ai ci
theorem Secs.get {w : World} {B : Nat} {A : Option Addr} {l : List Sec.X} (h : Secs w B A l) {i : Nat} (hi : i < l.length) :
    ∃ b off Ai ci, A = some ⟨b, off, none⟩ ∧ b < B ∧ SecAt w B b (off + i * 5) l[i] Ai ci := by
  obtain ⟨b, off, rfl, hb, hc⟩ := h (by intro e; rw [e] at hi; exact absurd hi (by simp))
  obtain ⟨Ai, ci, h1⟩ := hc i hi
  exact ⟨b, off, Ai, ci, rfl, hb, h1⟩
theorem SecAt.below {w w' : World} {B b o : Nat} {x : Sec.X} {Ai : Option Addr} {ci : Nat} (h : SecAt w B b o x Ai ci) (hb : Below B w w') (hlt : b < B) : SecAt w' B b o x Ai ci :=
  ⟨(hb.cell (p := ⟨b, _, none⟩) hlt).trans h.c0, (hb.cell (p := ⟨b, _, none⟩) hlt).trans h.c1, (hb.cell (p := ⟨b, _, none⟩) hlt).trans h.c2, (hb.cell (p := ⟨b, _, none⟩) hlt).trans h.c3, (hb.cell (p := ⟨b, _, none⟩) hlt).trans h.c4, h.rd.below hb, h.cap, h.max⟩
theorem Secs.below {w w' : World} {B : Nat} {A : Option Addr} {l : List Sec.X} (h : Secs w B A l) (hb : Below B w w') : Secs w' B A l := by
  intro hne
  obtain ⟨b, off, rfl, hlt, hc⟩ := h hne
  refine ⟨b, off, rfl, hlt, fun i hi => ?_⟩
  obtain ⟨Ai, ci, h1⟩ := hc i hi
  exact ⟨Ai, ci, h1.below hb hlt⟩
open Go.ChangeShapes Go.WideShapes Go.ChangeAt Go.Joins Go.Deep
set_option maxRecDepth 100000
theorem sectors_of {A : Option Addr} {len cap : Nat} {H : Type} {enc : TypeId × Value → H} {w : World} {held : Bool} {fuel : Nat} {x : DataW H × List MemPlace}
    (h : DataW.trod enc Try.prog w 0 (fun _ => true) held fuel 71 (Value.slice A len cap).cells.toList = some x) :
    ∃ l : List Sec.X, l.length = len ∧ Secs w w.heap.size A l ∧ len ≤ cap ∧ cap ≤ maxLen := by
  rcases open_slice_fields Try.underlying71 Try.underlying49 (by kernel_rfl) (by kernel_rfl) h with hcs | ⟨a, l', c', m, hcs, _, hl, hm, hmm, hi⟩
  · simp [Value.cells] at hcs
    obtain ⟨rfl, rfl, rfl⟩ := hcs
    exact ⟨[], rfl, fun h => absurd rfl h, by omega, by unfold maxLen; omega⟩
  · simp [Value.cells] at hcs
    obtain ⟨rfl, rfl, rfl⟩ := hcs
    simp only [if_true] at hmm
    subst hmm
    have key : ∀ i, i < len → ∃ f : Sec.X, ∃ b off, a = ⟨b, off, none⟩ ∧ b < w.heap.size ∧ ∃ Ai ci, SecAt w w.heap.size b (off + i * 5) f Ai ci := by
      intro i hil
      obtain ⟨ys, n, hf⟩ := hi i (by omega)
      obtain ⟨v0, y0, c0, _, t0⟩ := hf 0 _ rfl
      obtain ⟨v1, y1, c1, _, t1⟩ := hf 1 _ rfl
      obtain ⟨v2, y2, c2, _, t2⟩ := hf 2 _ rfl
      obtain ⟨v3, y3, c3, _, t3⟩ := hf 3 _ rfl
      obtain ⟨v4, y4, c4, _, t4⟩ := hf 4 _ rfl
      obtain ⟨k, e0, _, wk⟩ := DataW.trod_int Try.underlying3 t0
      obtain ⟨u1, e1, _, w1⟩ := DataW.trod_int Try.underlying24 t1
      obtain ⟨s, e2, _, ws⟩ := DataW.trod_int Try.underlying3 t2
      obtain ⟨u3, e3, _, w3⟩ := DataW.trod_int Try.underlying24 t3
      obtain ⟨A4, l4, c4', e4, r4, q4, m4⟩ := bytes_of1 Try.underlying37 Try.underlying5 (by kernel_rfl) t4
      simp only [List.cons.injEq, and_true] at e0 e1 e2 e3
      subst e0 e1 e2 e3 e4
      obtain ⟨u1', rfl⟩ := wf64 w1
      obtain ⟨u3', rfl⟩ := wf64 w3
      obtain ⟨b, off, spot⟩ := a
      have hspot : spot = none := by
        obtain ⟨_, _, hf0⟩ := hi 0 (by omega)
        obtain ⟨_, _, c00, _, _⟩ := hf0 0 _ rfl
        exact World.cell?_spot c00
      subst hspot
      rw [Addr.add_lit] at c0 c1 c2 c3 c4
      have hb : b < w.heap.size := by
        rcases Nat.lt_or_ge b w.heap.size with h | h
        · exact h
        · simp [World.cell?, Array.getElem?_eq_none h] at c0
      exact ⟨⟨k, u1', s, u3', l4⟩, b, off, rfl, hb, A4, c4', c0, c1, c2, c3, c4, r4, q4, m4⟩
    obtain ⟨l, hll, hp⟩ := choose_list key
    refine ⟨l, hll, fun hne => ?_, hl, hm⟩
    have hpos : 0 < l.length := by cases l; exact absurd rfl hne; simp
    obtain ⟨b, off, rfl, hb, _⟩ := hp 0 hpos
    refine ⟨b, off, rfl, hb, fun i hi => ?_⟩
    obtain ⟨b', off', e, _, h2⟩ := hp i hi
    injection e with e1 e2 _
    subst e1 e2
    exact h2
end Go.Proofs.Ytmpmibcdpkolkaa

/- The log: what the document scans, and the laws' turning of transactions. No statement is proved here. -/
namespace Go.Proofs.Ytmpmibcdpkolkaa.Wal
open Go.RowKit
open Go.Proofs.Ytmpmibcdpkolkaa.Sec (X X0)
set_option linter.unusedVariables false
set_option maxRecDepth 100000
attribute [local irreducible] wpQuiet
/-- a page whose bytes lie below -/
structure PfOk (w : World) (n : Nat) (p : Pr) : Prop where
  rd : RdQ w (fun j => j < n) p.A (p.body.map e8)
  cap : p.body.length ≤ p.c
  max : p.c ≤ maxLen
  lo : 0 ≤ p.n
  hi : p.n ≤ 1000000
theorem PfOk.keep {w w' : World} {n : Nat} {p : Pr} (h : PfOk w n p) (hk : ∀ j, j < n → j < w.heap.size → w'.heap[j]? = w.heap[j]?) (hs : w.heap.size ≤ w'.heap.size) : PfOk w' n p :=
  ⟨fun hne => by obtain ⟨b, off, e, hb, hq, hc⟩ := h.rd hne; exact ⟨b, off, e, by omega, hq, fun i hi => (World.cell?_of_block (hk b hq hb)).trans (hc i hi)⟩, h.cap, h.max, h.lo, h.hi⟩
structure TfOk (w : World) (n0 n : Nat) (now : Option Nat) (t : Tr) : Prop where
  row : w.ownsRow n0 157 2 t.sl t.ps.length (t.ps.flatMap Pr.cells)
  ne : ∀ g, t.sl.ownBlock = some g → now ≠ some g
  pages : ∀ p ∈ t.ps, PfOk w n p
theorem TfOk.keep {w w' : World} {n0 n : Nat} {now now' : Option Nat} {t : Tr} (h : TfOk w n0 n now t) (hu : ∀ j, j < n → j < w.heap.size → w'.heap[j]? = w.heap[j]?) (hs : w.heap.size ≤ w'.heap.size)
    (hp : ∀ (j : Nat) (cs : Array Value), now ≠ some j → n0 ≤ j → w.heap[j]? = some (Obj.cells cs 157 (0, 0)) → w'.heap[j]? = w.heap[j]?) (hn : ∀ g, t.sl.ownBlock = some g → now' ≠ some g) : TfOk w' n0 n now' t :=
  ⟨own_keep h.row (fun j cs e hb hh => hp j cs (h.ne j e) hb hh), hn, fun p hpm => (h.pages p hpm).keep hu hs⟩
/-- what the document has read so far -/
structure RfAt (w : World) (n0 T : Nat) (r : Rg) (allv nowv : Value) (trs : List Tr) (prs : List Pr) : Prop where
  blk : Blk w T [nowv, .int .u64 (r.gen.toNat : Int)]
  all : w.ownsRow n0 104 2 allv trs.length (trs.flatMap Tr.cells)
  now : w.ownsRow n0 157 2 nowv prs.length (prs.flatMap Pr.cells)
  okA : ∀ t ∈ trs, TfOk w n0 T nowv.ownBlock t
  okN : ∀ p ∈ prs, PfOk w T p
  eA : r.all = trs.map Tr.tx
  eN : r.now = prs.map Pr.pg
  lT : T < n0
  lN : n0 ≤ w.heap.size
theorem RfAt.move {w w' : World} {n0 T : Nat} {r : Rg} {allv nowv : Value} {trs : List Tr} {prs : List Pr} (h : RfAt w n0 T r allv nowv trs prs) (hk : ∀ j, j ≠ T → j < w.heap.size → w'.heap[j]? = w.heap[j]?) (hs : w.heap.size ≤ w'.heap.size) (r' : Rg)
    (hb : Blk w' T [nowv, .int .u64 (r'.gen.toNat : Int)]) (h1 : r'.all = r.all) (h2 : r'.now = r.now) : RfAt w' n0 T r' allv nowv trs prs := by
  have hlT := h.lT
  exact ⟨hb, own_keep h.all (fun j cs _ hj hh => hk j (by omega) (lt_of_block hh)), own_keep h.now (fun j cs _ hj hh => hk j (by omega) (lt_of_block hh)),
    fun t ht => (h.okA t ht).keep (fun j hj hl => hk j (by omega) hl) hs (fun j cs _ hj hh => hk j (by omega) (lt_of_block hh)) (h.okA t ht).ne,
    fun p hp => (h.okN p hp).keep (fun j hj hl => hk j (by omega) hl) hs, h1.trans h.eA, h2.trans h.eN, h.lT, Nat.le_trans h.lN hs⟩
theorem RfAt.on {w w' : World} {n0 T : Nat} {r : Rg} {allv nowv : Value} {trs : List Tr} {prs : List Pr} (h : RfAt w n0 T r allv nowv trs prs) (b : Below w.heap.size w w') : RfAt w' n0 T r allv nowv trs prs :=
  h.move (fun j _ hj => b.block j hj) b.size r (h.blk.on b) rfl rfl
theorem RfAt.data {w w1 w2 : World} {n0 T : Nat} {r : Rg} {allv nowv v' : Value} {trs : List Tr} {prs : List Pr} (h : RfAt w n0 T r allv nowv trs prs) (p : Pr) (hp : PfOk w T p) (b1 : Below w.heap.size w w1) (hg : w1.grownBy w2 nowv.ownBlock)
    (own : w2.ownsRow n0 157 2 v' (prs.length + 1) (prs.flatMap Pr.cells ++ p.cells)) (hat : v'.ownBlock = nowv.ownBlock ∨ v'.ownBlock = some w1.heap.size) :
    RfAt (w2.setCell ⟨T, 0, none⟩ v') n0 T { r with now := r.now ++ [p.pg] } allv v' trs (prs ++ [p]) ∧ Below T w (w2.setCell ⟨T, 0, none⟩ v') := by
  have hsz := b1.size
  have hsg := hg.size
  have hob : ∀ j, nowv.ownBlock = some j → n0 ≤ j ∧ j < w.heap.size := fun j e => h.now.lt j e
  have hT : T < w.heap.size := h.blk.lt
  have hk2 : ∀ j, j < w.heap.size → some j ≠ nowv.ownBlock → w2.heap[j]? = w.heap[j]? := fun j hj hn => (hg.block j (by omega) hn).trans (b1.block j hj)
  have hk : ∀ j, j < w.heap.size → j ≠ T → some j ≠ nowv.ownBlock → (w2.setCell ⟨T, 0, none⟩ v').heap[j]? = w.heap[j]? := fun j hj hn hr => (Below.heap_setCell w2 ⟨T, 0, none⟩ v' j (fun e => hn e)).trans (hk2 j hj hr)
  have hsT : ∀ j, j ≠ T → (w2.setCell ⟨T, 0, none⟩ v').heap[j]? = w2.heap[j]? := fun j hn => Below.heap_setCell w2 ⟨T, 0, none⟩ v' j (fun e => hn e)
  have hlT := h.lT
  have hss : (w2.setCell ⟨T, 0, none⟩ v').heap.size = w2.heap.size := by simp [World.setCell]
  have hku : ∀ j, j < T → j < w.heap.size → (w2.setCell ⟨T, 0, none⟩ v').heap[j]? = w.heap[j]? := fun j hj hl => hk j hl (by omega) (fun e => by have := (hob j e.symm).1; omega)
  have hkp : ∀ (j : Nat) (cs : Array Value), nowv.ownBlock ≠ some j → n0 ≤ j → w.heap[j]? = some (Obj.cells cs 157 (0, 0)) → (w2.setCell ⟨T, 0, none⟩ v').heap[j]? = w.heap[j]? := fun j cs hn hj hh => hk j (lt_of_block hh) (by omega) (fun e => hn e.symm)
  have hb2 : Blk w2 T [nowv, .int .u64 (r.gen.toNat : Int)] := h.blk.elim fun t ht => ⟨t, (hk2 T hT (fun e => by have := (hob T e.symm).1; omega)).trans ht⟩
  have hle : w.heap.size ≤ (w2.setCell ⟨T, 0, none⟩ v').heap.size := by rw [hss]; omega
  refine ⟨⟨hb2.set (k := 0) v', own_keep h.all (fun j cs e hj hh => hk j (lt_of_block hh) (by omega) (own_bt h.now hh (by decide))), ?_, fun t ht => (h.okA t ht).keep hku hle hkp (fun g e => ?_), fun q hq => ?_, h.eA, ?_, h.lT, by have := h.lN; omega⟩, ?_⟩
  · have e1 : (prs ++ [p]).flatMap Pr.cells = prs.flatMap Pr.cells ++ p.cells := by simp
    rw [e1, List.length_append, List.length_singleton]
    exact own_keep own (fun j cs _ hj _ => hsT j (by omega))
  · rcases hat with hat | hat
    · rw [hat]; exact (h.okA t ht).ne g e
    · rw [hat]; intro e2; injection e2 with e2
      have := ((h.okA t ht).row.lt g e).2
      omega
  · rcases List.mem_append.1 hq with hq | hq
    · exact (h.okN q hq).keep hku hle
    · rw [List.mem_singleton] at hq; rw [hq]; exact hp.keep hku hle
  · show r.now ++ [p.pg] = (prs ++ [p]).map Pr.pg
    rw [h.eN]; simp
  · exact ⟨hg.os.trans b1.os, hg.tape.trans b1.tape, hg.output.trans b1.output, hle, fun j hj => hku j hj (by omega)⟩
theorem RfAt.commit {w w1 w2 : World} {n0 T : Nat} {r : Rg} {allv v' : Value} {An : Option Addr} {cn : Nat} {trs : List Tr} {prs : List Pr} (h : RfAt w n0 T r allv (.slice An prs.length cn) trs prs) (b1 : Below w.heap.size w w1) (hg : w1.grownBy w2 allv.ownBlock)
    (own : w2.ownsRow n0 104 2 v' (trs.length + 1) (trs.flatMap Tr.cells ++ [.slice An prs.length cn, .int .u64 (r.gen.toNat : Int)])) (frm : Nat) :
    RfAt ((w2.setCell ⟨T, 0, none⟩ (.slice none 0 0)).setCell ⟨T, 1, none⟩ (.int .u64 0)) n0 T ⟨r.all ++ [⟨r.now, r.gen⟩], [], 0, frm⟩ v' (.slice none 0 0) (trs ++ [⟨An, cn, prs, r.gen⟩]) [] ∧ Below T w ((w2.setCell ⟨T, 0, none⟩ (.slice none 0 0)).setCell ⟨T, 1, none⟩ (.int .u64 0)) := by
  have hsz := b1.size
  have hsg := hg.size
  have hlT := h.lT
  have hT : T < w.heap.size := h.blk.lt
  have hob : ∀ j, allv.ownBlock = some j → n0 ≤ j ∧ j < w.heap.size := fun j e => h.all.lt j e
  obtain ⟨w3, hw3⟩ : ∃ w3, w3 = (w2.setCell ⟨T, 0, none⟩ (.slice none 0 0)).setCell ⟨T, 1, none⟩ (.int .u64 0) := ⟨_, rfl⟩
  rw [← hw3]
  have h3 : ∀ j, j ≠ T → w3.heap[j]? = w2.heap[j]? := fun j hj => by rw [hw3]; exact (Below.heap_setCell _ ⟨T, 1, none⟩ _ j (fun e => hj e)).trans (Below.heap_setCell _ ⟨T, 0, none⟩ _ j (fun e => hj e))
  have hss : w3.heap.size = w2.heap.size := by rw [hw3]; simp [World.setCell]
  have hb2 : Blk w2 T [.slice An prs.length cn, .int .u64 (r.gen.toNat : Int)] := h.blk.elim fun t ht => ⟨t, ((hg.block T (by omega) (fun e => by have := (hob T e.symm).1; omega)).trans (b1.block T hT)).trans ht⟩
  have hB : Blk w3 T [.slice none 0 0, .int .u64 0] := by rw [hw3]; exact (hb2.set (k := 0) (.slice none 0 0)).set (k := 1) (.int .u64 0)
  have hk : ∀ j, j < w.heap.size → j ≠ T → some j ≠ allv.ownBlock → w3.heap[j]? = w.heap[j]? := fun j hj hn hr => (h3 j hn).trans ((hg.block j (by omega) hr).trans (b1.block j hj))
  have hku : ∀ j, j < T → j < w.heap.size → w3.heap[j]? = w.heap[j]? := fun j hj hl => hk j hl (by omega) (fun e => by have := (hob j e.symm).1; omega)
  have hkp : ∀ (j : Nat) (cs : Array Value), n0 ≤ j → w.heap[j]? = some (Obj.cells cs 157 (0, 0)) → w3.heap[j]? = w.heap[j]? := fun j cs hj hh => hk j (lt_of_block hh) (by omega) (own_bt h.all hh (by decide))
  have hle : w.heap.size ≤ w3.heap.size := by omega
  refine ⟨⟨hB, ?_, own_nil _ _ _ _, fun t ht => ?_, fun q hq => (by cases hq), ?_, rfl, h.lT, by have := h.lN; omega⟩, ⟨?_, ?_, ?_, hle, fun j hj => hku j hj (by omega)⟩⟩
  · have e1 : (trs ++ [(⟨An, cn, prs, r.gen⟩ : Tr)]).flatMap Tr.cells = trs.flatMap Tr.cells ++ [.slice An prs.length cn, .int .u64 (r.gen.toNat : Int)] := by simp [Tr.cells, Tr.sl]
    rw [e1, List.length_append, List.length_singleton]
    exact own_keep own (fun j cs _ hj _ => h3 j (by omega))
  · rcases List.mem_append.1 ht with ht | ht
    · exact (h.okA t ht).keep hku hle (fun j cs _ hj hh => hkp j cs hj hh) (fun g _ e => by simp [Value.ownBlock] at e)
    · rw [List.mem_singleton] at ht
      subst ht
      exact ⟨own_keep h.now (fun j cs _ hj hh => hkp j cs hj hh), fun g _ e => (by simp [Value.ownBlock] at e), fun q hq => (h.okN q hq).keep hku hle⟩
  · show r.all ++ [⟨r.now, r.gen⟩] = (trs ++ [_]).map Tr.tx
    rw [h.eA, h.eN]; simp [Tr.tx]
  · rw [hw3]; exact hg.os.trans b1.os
  · rw [hw3]; exact hg.tape.trans b1.tape
  · rw [hw3]; exact hg.output.trans b1.output
theorem TfOk.pgs {w : World} {n0 n : Nat} {now : Option Nat} {t : Tr} (h : TfOk w n0 n now t) : Pgs w (fun _ => True) t.A (t.ps.map Pr.pg) := fun hne => by
  have hp : 0 < t.ps.length := by
    rcases Nat.eq_zero_or_pos t.ps.length with e | e
    · exact absurd (by rw [List.eq_nil_of_length_eq_zero e]; rfl) hne
    · exact e
  obtain ⟨g, c, e, hg⟩ := own_some h.row (by omega)
  unfold Tr.sl at e
  injection e with e1 e2 e3
  have hr := h.row
  unfold Tr.sl at hr
  rw [e1] at hr
  obtain ⟨cs, hcs⟩ := Disk.own_blk hr
  refine ⟨g, 0, e1, lt_of_block hcs, trivial, fun i hi => ?_⟩
  have hi' : i < t.ps.length := by simpa using hi
  have hk := h.pages _ (List.getElem_mem hi')
  have c0 := own_cell2 (f := Pr.cells) (fun _ => rfl) hr i hi' 0 (by omega)
  have c1 := own_cell2 (f := Pr.cells) (fun _ => rfl) hr i hi' 1 (by omega)
  refine ⟨t.ps[i].A, t.ps[i].c, ?_⟩
  rw [Nat.zero_add, List.getElem_map]
  exact ⟨by simpa [Pr.cells, Pr.pg] using c0, by simpa [Pr.cells, Pr.pg] using c1, hk.rd.imp (fun _ _ _ => trivial), hk.cap, hk.max, by have := hk.lo; show _ ≤ t.ps[i].n; omega, by have := hk.hi; show t.ps[i].n ≤ _; omega⟩
theorem RfAt.txs {w : World} {n0 T : Nat} {r : Rg} {A : Option Addr} {n c : Nat} {nowv : Value} {trs : List Tr} {prs : List Pr} (h : RfAt w n0 T r (.slice A n c) nowv trs prs) : n = r.all.length ∧ Txs w (fun _ => True) A r.all ∧ r.all.length ≤ c ∧ c ≤ maxLen := by
  have hl : r.all.length = trs.length := by rw [h.eA]; simp
  have hr := h.all
  obtain rfl : n = trs.length := by
    obtain ⟨A', c', e⟩ := own_form hr
    injection e with _ e _
  have hcp := Disk.own_caps hr
  refine ⟨hl.symm, fun hne => ?_, by omega, hcp.2⟩
  have hp : 0 < trs.length := by
    rcases Nat.eq_zero_or_pos trs.length with e | e
    · exact absurd (List.eq_nil_of_length_eq_zero (by omega)) hne
    · exact e
  obtain ⟨g, c', e, hg⟩ := own_some hr (by omega)
  injection e with e1 e2 e3
  subst e1
  obtain ⟨cs, hcs⟩ := Disk.own_blk hr
  refine ⟨g, 0, rfl, lt_of_block hcs, trivial, fun i hi => ?_⟩
  have hi' : i < trs.length := by omega
  have hk := h.okA _ (List.getElem_mem hi')
  have c0 := own_cell2 (f := Tr.cells) (fun _ => rfl) hr i hi' 0 (by omega)
  have c1 := own_cell2 (f := Tr.cells) (fun _ => rfl) hr i hi' 1 (by omega)
  have hc2 := Disk.own_caps hk.row
  have he : r.all[i] = trs[i].tx := by
    have : r.all[i]? = (trs.map Tr.tx)[i]? := by rw [h.eA]
    rw [List.getElem?_map, List.getElem?_eq_getElem hi, List.getElem?_eq_getElem hi'] at this
    simpa using this
  refine ⟨trs[i].A, trs[i].c, ?_⟩
  rw [Nat.zero_add, he]
  exact ⟨by simpa [Tr.cells, Tr.sl, Tr.tx] using c0, by simpa [Tr.cells, Tr.tx] using c1, hk.pgs, by simpa [Tr.tx] using hc2.1, hc2.2⟩
theorem number_any (A : Option Addr) (l : List UInt8) (n cap : Nat) (B : Nat) (w : World) (hn : n = l.length) (hr : Rd w B A (l.map e8)) (h1 : 1 ≤ l.length) (h4 : l.length ≤ 4) :
    Calls Try.prog 104 #[.slice A n cap] w fun e w' => e = .returned (.int .i64 (Num.getN l : Int)) ∧ w = w' := by
  have HG := Lib.hid (Num.rget_any A l n cap B w hn hr h1 (by omega))
  have hb := Num.getN_lt l l.length (Nat.le_refl _)
  rw [List.take_length] at hb
  have hb4 : Num.getN l < 4294967296 := Nat.lt_of_lt_of_le hb (by rw [show (4294967296 : Nat) = 256 ^ 4 from rfl]; exact Nat.pow_le_pow_right (by omega) h4)
  have hw : IntKind.i64.wrap (Num.getN l : Int) = (Num.getN l : Int) := wrap_small (by omega) (by omega)
  obtain ⟨m, hm⟩ : ∃ m, m = Num.getN l := ⟨_, rfl⟩
  rw [← hm] at HG hw ⊢
  clear hb hb4 hm hr hn h1 h4
  go_enter Try.func104, Try.ntmps104
  go_wp2_with (go_at_call 134; refine HG.out.mono ?_; rintro e w1 ⟨rfl, rfl⟩)
  go_ret
  exact ⟨rfl, rfl⟩
end Go.Proofs.Ytmpmibcdpkolkaa.Wal

/- The log: what the document scans. No statement is proved here. -/
namespace Go.Proofs.Ytmpmibcdpkolkaa.Wal
open Go.RowKit
open Go.Proofs.Ytmpmibcdpkolkaa.Sec (X X0)
set_option linter.unusedVariables false
set_option maxRecDepth 100000
attribute [local irreducible] wpQuiet
def goodR (life : UInt64) (l : List X) (k : Nat) : Bool := decide ((l.getD k X0).life = life) && decide ((l.getD k X0).seq = (k : Int))
/-- what the document scans -/
def rscanF (np : Int) (life : UInt64) (l : List X) : List Tx := (scanH np (fun k => l.getD k X0) (goodR life l) l.length 0 r00).all
/-- transactions come back -/
def RetTx (w : World) (R : List Tx) (e : Ending) (w' : World) : Prop := (∃ A c, e = .returned (.slice A R.length c) ∧ Txs w' (fun _ => True) A R ∧ R.length ≤ c ∧ c ≤ maxLen) ∧ Below w.heap.size w w'
theorem five5q {w : World} {g : Nat} {v0 v1 v2 v3 v4 : Value} (h : Blk w g [v0, v1, v2, v3, v4]) : w.cell? ⟨g, 0, none⟩ = some v0 ∧ w.cell? ⟨g, 1, none⟩ = some v1 ∧ w.cell? ⟨g, 2, none⟩ = some v2 ∧ w.cell? ⟨g, 3, none⟩ = some v3 ∧ w.cell? ⟨g, 4, none⟩ = some v4 :=
  ⟨h.cell (k := 0) (by simp), h.cell (k := 1) (by simp), h.cell (k := 2) (by simp), h.cell (k := 3) (by simp), h.cell (k := 4) (by simp)⟩
theorem two2q {w : World} {g : Nat} {v0 v1 : Value} (h : Blk w g [v0, v1]) : w.cell? ⟨g, 0, none⟩ = some v0 ∧ w.cell? ⟨g, 1, none⟩ = some v1 := ⟨h.cell (k := 0) (by simp), h.cell (k := 1) (by simp)⟩
theorem infoRT : (Try.prog.info? 104).map (fun i => (i.zero, i.size, i.bytes)) = some (some (.agg #[.slice none 0 0, .int .u64 0]), 2, 32) := by kernel_rfl
theorem infoPg2 : (Try.prog.info? 157).map (fun i => (i.zero, i.size, i.bytes)) = some (some (.agg #[.int .i64 0, .slice none 0 0]), 2, 32) := by kernel_rfl
theorem bt' {n : Nat} {a b c : World} (h : Below n a b) (k : Below n b c) : Below n a c := h.trans k
theorem alloc_drew2 (w : World) (o : Obj) : Below w.heap.size w (w.alloc o).drew := ⟨(b1alloc w o).os, (b1alloc w o).tape, (b1alloc w o).output, (b1alloc w o).size, (b1alloc w o).block⟩
theorem rf_fin {w W : World} {n0 T : Nat} {r : Rg} {A : Option Addr} {n c : Nat} {nowv : Value} {trs : List Tr} {prs : List Pr} {R : List Tx} (h : RfAt W n0 T r (.slice A n c) nowv trs prs) (hR : R = r.all) (b : Below w.heap.size w W) : RetTx w R (.returned (.slice A n c)) W := by
  obtain ⟨e1, e2, e3, e4⟩ := h.txs
  subst hR e1
  exact ⟨⟨A, c, rfl, e2, e3, e4⟩, b⟩
theorem PfOk.tail {w : World} {T b o len ci : Nat} {m : Int} {l : List UInt8} (hr : Rd w T (some ⟨b, o, none⟩) (l.map e8)) (hT : T ≤ w.heap.size) (hn : len = l.length) (hc : len ≤ ci) (hm : ci ≤ maxLen) (h6 : 6 ≤ l.length) (h0 : 0 ≤ m) (h1 : m ≤ 1000000) : PfOk w T ⟨m, if ci = 6 then some ⟨b, o, none⟩ else some ⟨b, o + 6, none⟩, ci - 6, l.drop 6⟩ := by
  subst hn
  refine ⟨?_, by simp; omega, by simp only; omega, h0, h1⟩
  by_cases h : ci = 6
  · have : l.drop 6 = [] := List.drop_eq_nil_of_le (by omega)
    intro hne
    exact absurd (by simp [this]) hne
  · rw [if_neg h]
    have h2 := hr.drop 6
    rw [← List.map_drop] at h2
    exact h2.q hT
set_option maxHeartbeats 4000000 in
theorem rscan_any (A : Option Addr) (l : List X) (c : Nat) (life : UInt64) (np : Int) (w : World) (hr : Secs w w.heap.size A l) (hl : l.length ≤ 1000) (hbl : ∀ x ∈ l, x.body.length ≤ 1000000) (hn0 : 0 ≤ np) (hn1 : np ≤ 100) :
    Calls Try.prog 53 #[.slice A l.length c, .int .u64 (life.toNat : Int), .int .i64 np] w fun e w' => RetTx w (rscanF np life l) e w' := by
  obtain ⟨rd, hrd⟩ : ∃ rd : Nat → X, rd = fun k => l.getD k X0 := ⟨_, rfl⟩
  obtain ⟨good, hgd⟩ : ∃ good, good = goodR life l := ⟨_, rfl⟩
  obtain ⟨N, hN⟩ : ∃ N, N = l.length := ⟨_, rfl⟩
  obtain ⟨R, hR⟩ : ∃ R, R = rscanF np life l := ⟨_, rfl⟩
  rw [← hR]
  have hRR : R = (scanH np rd good N 0 r00).all := by rw [hR, hrd, hgd, hN]; rfl
  have hrdk : ∀ k (h : k < l.length), rd k = l[k] := fun k h => by rw [hrd]; simp [List.getD, h]
  have hgk : ∀ k, good k = (decide ((rd k).life = life) && decide ((rd k).seq = (k : Int))) := fun k => by rw [hgd, hrd]; rfl
  rw [← hN]
  have HRR := Lib.hid hRR
  have Hrk := Lib.hid hrdk
  have Hgk := Lib.hid hgk
  have HN := Lib.hid hN
  have hl' : N ≤ 1000 := by omega
  have HR0 := Lib.hid hr
  have Hbl := Lib.hid hbl
  have hB0 := Blk.new w [.slice none 0 0, .int .u64 0] 104
  have b0 := b1alloc w (.cells ([.slice none 0 0, .int .u64 0] : List Value).toArray 104)
  have h0 : RfAt (w.alloc (.cells #[.slice none 0 0, .int .u64 0] 104)) (w.heap.size + 1) w.heap.size r00 (.slice none 0 0) (.slice none 0 0) [] [] :=
    ⟨hB0, own_nil _ _ _ _, own_nil _ _ _ _, fun t ht => (by cases ht), fun t ht => (by cases ht), rfl, rfl, by omega, by simp⟩
  clear hrd hgd hN hR hRR hrdk hgk hl hr hbl hB0
  go_enter Try.func53, Try.ntmps53
  go_wp2_with fail
  go_loopw [7, 9, 10, 11, 12] (fun o f i v11 v12 wr => ∃ k : Nat, k ≤ N ∧ i = .int .i64 (k : Int) ∧ Below w.heap.size w wr ∧ ∃ r nowv trs prs, f = .int .i64 (r.frm : Int) ∧ RfAt wr (w.heap.size + 1) w.heap.size r o nowv trs prs ∧ trs.length + prs.length ≤ k ∧ r.frm ≤ k ∧ Hid (R = (scanH np rd good (N - k) k r).all)) (fun _ _ i _ _ _ => N - (intOf i).toNat)
  case atStart => exact ⟨0, by omega, rfl, b0, r00, _, [], [], rfl, h0, by simp, Nat.le_refl _, Lib.hid HRR.out⟩
  case round =>
    obtain ⟨k, hk, rfl, bel, r, nowv, trs, prs, rfl, hA, hlen, hfrm, hRk⟩ := hrel
    clear h0 b0
    obtain ⟨Ao, co, rfl⟩ := own_form hA.all
    obtain ⟨An, cn, rfl⟩ := own_form hA.now
    by_cases hlt : k < N
    rotate_left
    · have hkN : k = N := by omega
      have hfin := Lib.hid (show R = r.all by rw [hRk.out, hkN, Nat.sub_self]; rfl)
      have HA := Lib.hid hA
      have hkn : ¬ (k : Int) < (N : Int) := by omega
      clear hkN hA
      go_wp2
      go_ret
      exact rf_fin HA.out hfin.out bel
    have hkm : (k : Int) < (N : Int) := by omega
    have hge : ¬ (N : Int) ≤ (k : Int) := by omega
    have hll : k < l.length := by have := HN.out; omega
    obtain ⟨m1, hm1⟩ : ∃ m1, N - k = m1 + 1 := ⟨N - k - 1, by omega⟩
    have hst : R = (if good k = true then (if (takeF np r k (rd k)).2 = true then scanH np rd good m1 (k + 1) (takeF np r k (rd k)).1 else (takeF np r k (rd k)).1) else r).all := by rw [hRk.out, hm1]; rfl
    have hm2 : N - (k + 1) = m1 := by omega
    obtain ⟨b, off, Ai, ci, rfl, hb, hS⟩ := (HR0.out.below bel).get hll
    have hbx : (rd k).body.length ≤ 1000000 := by rw [Hrk.out k hll]; exact Hbl.out _ (List.getElem_mem hll)
    rw [← Hrk.out k hll] at hS
    have hgk := Hgk.out k
    obtain ⟨x, hx⟩ : ∃ x, x = rd k := ⟨_, rfl⟩
    rw [← hx] at hS hst hbx hgk
    obtain ⟨c0, c1, c2, c3, c4, hrd, hcap, hmax⟩ := hS
    have hbl2 : b < wr.heap.size := by have := bel.size; omega
    have hW := b1alloc wr (.cells #[.int .i64 x.kind, .int .u64 (x.life.toNat : Int), .int .i64 x.seq, .int .u64 (x.gen.toNat : Int), .slice Ai x.body.length ci] 49)
    have hX : Blk (wr.alloc (.cells #[.int .i64 x.kind, .int .u64 (x.life.toNat : Int), .int .i64 x.seq, .int .u64 (x.gen.toNat : Int), .slice Ai x.body.length ci] 49)) wr.heap.size [.int .i64 x.kind, .int .u64 (x.life.toNat : Int), .int .i64 x.seq, .int .u64 (x.gen.toNat : Int), .slice Ai x.body.length ci] := Blk.new wr _ _
    obtain ⟨x0, x1, x2, x3, x4⟩ := five5q hX
    have hA1 := hA.on hW
    obtain ⟨y0, y1⟩ := two2q hA1.blk
    have f0 := hA1.blk.free 0
    have f1 := hA1.blk.free 1
    have hTl := hA1.blk.lt
    have hXl := hX.lt
    have bel1 := bt bel hW
    have HA := Lib.hid hA
    have Hst := Lib.hid hst
    have HX := Lib.hid hX
    have Hm2 := Lib.hid hm2
    have hnl : r.now.length = prs.length := by rw [hA.eN]; simp
    have hnow : r.now ≠ [] ↔ 0 < prs.length := by rw [hA.eN]; simp [List.length_pos_iff]
    have Hb1 := Lib.hid (show trs.length + 1 ≤ maxLen ∧ prs.length + 1 ≤ maxLen ∧ (trs.length + 1) * 32 ≤ 140737488355328 ∧ (prs.length + 1) * 32 ≤ 140737488355328 from ⟨by simp only [maxLen]; omega, by simp only [maxLen]; omega, by omega, by omega⟩)
    clear hA hX hst hm1 hm2 hx hA1
    -- the life
    by_cases e1 : x.life = life
    rotate_left
    · have hfin := Lib.hid (show R = r.all by rw [Hst.out, if_neg (by rw [hgk, decide_eq_false e1]; simp)])
      have t1 := bne_yes (show (x.life.toNat : Int) ≠ (life.toNat : Int) from fun e => e1 (UInt64.toNat_inj.1 (by omega)))
      clear e1 hgk
      go_wp2
      go_ret
      exact rf_fin (HA.out.on hW) hfin.out bel1
    have t1 := bne_no (show (x.life.toNat : Int) = (life.toNat : Int) by rw [e1])
    by_cases e2 : x.seq = (k : Int)
    rotate_left
    · have hfin := Lib.hid (show R = r.all by rw [Hst.out, if_neg (by rw [hgk, decide_eq_false e2]; simp)])
      have t2 := bne_yes e2
      clear e1 e2 hgk
      go_wp2
      go_ret
      exact rf_fin (HA.out.on hW) hfin.out bel1
    have t2 := bne_no e2
    have hst2 : R = (if (takeF np r k x).2 = true then scanH np rd good m1 (k + 1) (takeF np r k x).1 else (takeF np r k x).1).all := by rw [Hst.out, if_pos (by rw [hgk, decide_eq_true e1, decide_eq_true e2]; rfl)]
    have HS2 := Lib.hid hst2
    clear e1 e2 hgk hst2 Hst
    by_cases e3 : x.body.length < 6
    · have hte : takeF np r k x = (r, false) := by unfold takeF; rw [if_pos (.inl e3)]
      have hfin := Lib.hid (show R = r.all by rw [HS2.out, hte]; rfl)
      have t3 : (x.body.length : Int) < 6 := by omega
      clear e3 hte
      go_wp2
      go_ret
      exact rf_fin (HA.out.on hW) hfin.out bel1
    have t3 : ¬ (x.body.length : Int) < 6 := by omega
    obtain ⟨bb, oo, rfl, hbb, _⟩ := hrd (by intro e; rw [List.map_eq_nil_iff] at e; rw [e] at e3; simp at e3)
    have hrd1 : ∀ W, Below wr.heap.size wr W → Rd W w.heap.size (some ⟨bb, oo, none⟩) (x.body.map e8) := fun W bW => hrd.below (bW.mono bel.size)
    have hG1 := fun W (bW : Below wr.heap.size wr W) => number_any (some ⟨bb, oo, none⟩) (x.body.take 4) 4 ci w.heap.size W (by rw [List.length_take]; omega) (by rw [List.map_take]; exact (hrd1 W bW).take 4) (by rw [List.length_take]; omega) (by rw [List.length_take]; omega)
    have hG2 := fun W (bW : Below wr.heap.size wr W) => number_any (some ⟨bb, oo + 4, none⟩) ((x.body.drop 4).take 2) 2 (ci - 4) w.heap.size W (by rw [List.length_take, List.length_drop]; omega) (by rw [List.map_take, List.map_drop]; exact ((hrd1 W bW).drop 4).take 2) (by rw [List.length_take, List.length_drop]; omega) (by rw [List.length_take, List.length_drop]; omega)
    have hF : ∀ l, Num.getN (l.take 4) = fstN l := fun _ => rfl
    have hSn : ∀ l, Num.getN ((l.drop 4).take 2) = sndN l := fun _ => rfl
    rw [hF] at hG1
    rw [hSn] at hG2
    have hs16 : sndN x.body < 65536 := by have := Num.getN_lt ((x.body.drop 4).take 2) _ (Nat.le_refl _); rw [List.take_length] at this; exact Nat.lt_of_lt_of_le this (by rw [show (65536 : Nat) = 256 ^ 2 from rfl]; exact Nat.pow_le_pow_right (by omega) (by rw [List.length_take]; omega))
    have hT : takeF np r k x = if r.now ≠ [] ∧ x.gen ≠ r.gen then (r, false) else if fstN x.body ≠ r.frm then (r, false)
        else if x.kind = 4 ∧ (sndN x.body : Int) < np then ({ r with gen := x.gen, now := r.now ++ [⟨(sndN x.body : Int), x.body.drop 6⟩] }, true)
        else if x.kind = 5 ∧ sndN x.body = r.now.length ∧ x.body.length = 6 then (⟨r.all ++ [⟨r.now, x.gen⟩], [], 0, k + 1⟩, true)
        else ({ r with gen := x.gen }, false) := by
      unfold takeF
      by_cases h : r.now ≠ [] ∧ x.gen ≠ r.gen
      · rw [if_pos (.inr h), if_pos h]
      · rw [if_neg (fun e => e.elim e3 h), if_neg h]
    rw [hnl] at hT
    have hPf := fun (m : Nat) (hm : m ≤ 65536) W (bW : Below wr.heap.size wr W) => PfOk.tail (m := (m : Int)) (hrd1 W bW) (by have := bel.size; have := bW.size; omega) rfl hcap hmax (by omega) (by omega) (by omega)
    obtain ⟨f, hf⟩ : ∃ f, f = fstN x.body := ⟨_, rfl⟩
    obtain ⟨m, hm⟩ : ∃ m, m = sndN x.body := ⟨_, rfl⟩
    rw [← hf] at hT hG1
    rw [← hm] at hT hG2 hs16
    have HT := Lib.hid hT
    have HG1 := Lib.hid hG1
    have HG2 := Lib.hid hG2
    have HPf := Lib.hid (hPf m (by omega))
    have Hnow := Lib.hid hnow
    have h6i : (6 : Int) ≤ (x.body.length : Int) := by omega
    have h6c : 6 ≤ ci := by omega
    have c4n : ¬ ci = 4 := by omega
    have c4i : ¬ (ci : Int) = 4 := by omega
    clear hF hSn hG1 hG2 hf hm hT hrd hrd1 hPf hnow hnl e3 hcap hmax
    by_cases e5 : f = r.frm
    rotate_left
    · have hte : takeF np r k x = (r, false) := by rw [HT.out]; split <;> (first | rfl | rw [if_pos e5])
      have hfin := Lib.hid (show R = r.all by rw [HS2.out, hte]; rfl)
      have t5 := bne_yes (show (f : Int) ≠ (r.frm : Int) by omega)
      clear e5 hte
      go_wp2_with (first
          | (go_at_call 104; (with_reducible show Calls _ _ #[.slice (some ⟨bb, oo, none⟩) 4 _] _ _); refine (HG1.out _ hW).mono ?_; rintro e w1 ⟨rfl, rfl⟩)
          | (go_at_call 104; (with_reducible show Calls _ _ #[.slice (some ⟨bb, oo + 4, none⟩) 2 _] _ _); refine (HG2.out _ hW).mono ?_; rintro e w1 ⟨rfl, rfl⟩))
      go_ret
      exact rf_fin (HA.out.on hW) hfin.out bel1
    have t5 := bne_no (show (f : Int) = (r.frm : Int) by omega)
    have HE5 := Lib.hid e5
    clear e5
    by_cases e6 : 0 < prs.length
    · have t6 := decide_eq_true e6
      by_cases e7 : x.gen = r.gen
      rotate_left
      · have hte : takeF np r k x = (r, false) := by rw [HT.out, if_pos ⟨Hnow.out.2 e6, e7⟩]
        have hfin := Lib.hid (show R = r.all by rw [HS2.out, hte]; rfl)
        have t7 := bne_yes (show (x.gen.toNat : Int) ≠ (r.gen.toNat : Int) from fun e => e7 (UInt64.toNat_inj.1 (by omega)))
        clear e6 e7 hte
        go_wp2_with (first
          | (go_at_call 104; (with_reducible show Calls _ _ #[.slice (some ⟨bb, oo, none⟩) 4 _] _ _); refine (HG1.out _ hW).mono ?_; rintro e w1 ⟨rfl, rfl⟩)
          | (go_at_call 104; (with_reducible show Calls _ _ #[.slice (some ⟨bb, oo + 4, none⟩) 2 _] _ _); refine (HG2.out _ hW).mono ?_; rintro e w1 ⟨rfl, rfl⟩))
        go_ret
        exact rf_fin (HA.out.on hW) hfin.out bel1
      have t7 := bne_no (show (x.gen.toNat : Int) = (r.gen.toNat : Int) by rw [e7])
      have HNN := Lib.hid (show ¬ (r.now ≠ [] ∧ x.gen ≠ r.gen) from fun h => h.2 e7)
      clear e6 e7
      have HT2 := Lib.hid (show takeF np r k x = if x.kind = 4 ∧ (m : Int) < np then ({ r with gen := x.gen, now := r.now ++ [⟨(m : Int), x.body.drop 6⟩] }, true)
          else if x.kind = 5 ∧ m = prs.length ∧ x.body.length = 6 then (⟨r.all ++ [⟨r.now, x.gen⟩], [], 0, k + 1⟩, true)
          else ({ r with gen := x.gen }, false) by rw [HT.out, if_neg HNN.out, if_neg (fun h => h HE5.out)])
      by_cases k4 : x.kind = 4
      · have s4 := beq_yes k4
        have k5 : ¬ x.kind = 5 := by omega
        by_cases hmn : (m : Int) < np
        · have hte : takeF np r k x = ({ r with gen := x.gen, now := r.now ++ [⟨(m : Int), x.body.drop 6⟩] }, true) := by rw [HT2.out, if_pos ⟨k4, hmn⟩]
          have hnx := Lib.hid (show R = (scanH np rd good m1 (k + 1) { r with gen := x.gen, now := r.now ++ [⟨(m : Int), x.body.drop 6⟩] }).all by rw [HS2.out, hte]; rfl)
          have smn := decide_eq_true hmn
          clear k4 k5 hte
          go_upto_region 13 with (first
          | (go_at_call 104; (with_reducible show Calls _ _ #[.slice (some ⟨bb, oo, none⟩) 4 _] _ _); refine (HG1.out _ hW).mono ?_; rintro e w1 ⟨rfl, rfl⟩)
          | (go_at_call 104; (with_reducible show Calls _ _ #[.slice (some ⟨bb, oo + 4, none⟩) 2 _] _ _); refine (HG2.out _ hW).mono ?_; rintro e w1 ⟨rfl, rfl⟩))
          obtain ⟨wg, hwg⟩ : ∃ q, q = (wr.alloc (.cells #[.int .i64 x.kind, .int .u64 (x.life.toNat : Int), .int .i64 x.seq, .int .u64 (x.gen.toNat : Int), .slice (some ⟨bb, oo, none⟩) x.body.length ci] 49)).setCell ⟨w.heap.size, 1, none⟩ (.int .u64 (x.gen.toNat : Int)) := ⟨_, rfl⟩
          have hAg : RfAt wg (w.heap.size + 1) w.heap.size { r with gen := x.gen } (.slice Ao trs.length co) (.slice An prs.length cn) trs prs := by
            rw [hwg]
            exact (HA.out.on hW).move (fun j hj _ => Below.heap_setCell _ ⟨w.heap.size, 1, none⟩ _ j (fun e => hj (by simpa using e))) (by simp [World.setCell]) { r with gen := x.gen } ((HA.out.on hW).blk.set (k := 1) _) rfl rfl
          have belg : Below w.heap.size w wg := by rw [hwg]; exact bset bel1 (Nat.le_refl _) _
          have hXg := HX.out.other (.int .u64 (x.gen.toNat : Int)) (k := 1) (b := w.heap.size) (fun e => by have := HA.out.blk.lt; omega)
          have hPg := Lib.hid (HPf.out (wr.alloc (.cells #[.int .i64 x.kind, .int .u64 (x.life.toNat : Int), .int .i64 x.seq, .int .u64 (x.gen.toNat : Int), .slice (some ⟨bb, oo, none⟩) x.body.length ci] 49)) hW |>.keep (w' := wg) (fun j hj _ => by rw [hwg]; exact Below.heap_setCell _ ⟨w.heap.size, 1, none⟩ _ j (fun e => by simp at e; omega)) (by rw [hwg]; simp [World.setCell]))
          rw [← hwg] at hXg ⊢
          obtain ⟨p0, p1, p2, p3, p4⟩ := five5q hXg
          obtain ⟨q0, q1⟩ := two2q hAg.blk
          have lXg := hXg.lt
          have lTg := hAg.blk.lt
          have HAg := Lib.hid hAg
          have Hbg := Lib.hid belg
          obtain ⟨i0, hi0, hz0, hz1, hz2⟩ := info_parts infoPg2
          have hnb : some w.heap.size ≠ (Value.slice An prs.length cn).ownBlock := fun e => by have := (hAg.now.lt _ e.symm).1; omega
          obtain ⟨tb, htb⟩ := hAg.blk
          clear x0 x1 x2 x3 x4 y0 y1 f0 f1 hAg belg hXg hwg
          go_region_law ((refine Disk.step_append_rd _ (by rfl) _ _ _ (by rfl) (w.heap.size + 1) 157 i0 _ 2 32 Try.underlying102 hi0 hz0 hz1 hz2 rfl (by omega) (.slice An prs.length cn) prs.length (prs.flatMap Pr.cells) (by rfl) ?_ _ 1 1 [.int .i64 (m : Int), .slice (if ci = 6 then some ⟨bb, oo, none⟩ else some ⟨bb, oo + 6, none⟩) (x.body.length - 6) (ci - 6)] (by rfl) (by rfl) ?_ (by simp [Value.oneCell']) Hb1.out.2.1 Hb1.out.2.2.2 (Nat.le_trans HAg.out.lN (b1alloc wg _).size) ?_); (· exact HAg.out.now.alloc _); (· exact Rd.lit _ _ _ _ _ rfl (by simp)); intro v3 w3 own3 hg3 hat3; have e3 := (hg3.block w.heap.size (Nat.lt_of_lt_of_le lTg (b1alloc wg _).size) hnb).trans ((Below.heap_alloc _ _ w.heap.size lTg).trans htb); obtain ⟨d0, d1⟩ := two2q ⟨_, e3⟩; have d8 := Blk.free (⟨_, e3⟩ : Blk w3 w.heap.size _) 0; obtain ⟨A3, c3, rfl⟩ := own_form own3)
          all_goals
            have fin := Lib.hid (HAg.out.data _ hPg.out (alloc_drew2 wg _) hg3 (by simpa [Pr.cells] using own3) hat3)
            have hfb := Lib.hid (show Below w.heap.size w (w3.setCell ⟨w.heap.size, 0, none⟩ (.slice A3 (prs.length + 1) c3)) from bt' Hbg.out fin.out.2)
            clear own3 hat3 hg3
            go_wp2
            all_goals (refine ⟨⟨k + 1, by omega, by go_num, hfb.out, { r with gen := x.gen, now := r.now ++ [⟨(m : Int), x.body.drop 6⟩] }, _, trs, prs ++ [_], rfl, fin.out.1, by rw [List.length_append, List.length_singleton]; omega, Nat.le_succ_of_le hfrm, Lib.hid (by rw [Hm2.out]; exact hnx.out)⟩, by simp only [intOf]; omega⟩)
        · have hte : takeF np r k x = ({ r with gen := x.gen }, false) := by rw [HT2.out, if_neg (fun h => hmn h.2), if_neg (fun h => k5 h.1)]
          have hfin := Lib.hid (show R = r.all by rw [HS2.out, hte]; rfl)
          have s5 := beq_no k5
          have smn := decide_eq_false hmn
          clear k4 k5 hte
          go_wp2_with (first
          | (go_at_call 104; (with_reducible show Calls _ _ #[.slice (some ⟨bb, oo, none⟩) 4 _] _ _); refine (HG1.out _ hW).mono ?_; rintro e w1 ⟨rfl, rfl⟩)
          | (go_at_call 104; (with_reducible show Calls _ _ #[.slice (some ⟨bb, oo + 4, none⟩) 2 _] _ _); refine (HG2.out _ hW).mono ?_; rintro e w1 ⟨rfl, rfl⟩))
          go_ret
          exact rf_fin (HA.out.on hW) hfin.out bel1
      · have s4 := beq_no k4
        by_cases k5 : x.kind = 5
        rotate_left
        · have hte : takeF np r k x = ({ r with gen := x.gen }, false) := by rw [HT2.out, if_neg (fun h => k4 h.1), if_neg (fun h => k5 h.1)]
          have hfin := Lib.hid (show R = r.all by rw [HS2.out, hte]; rfl)
          have s5 := beq_no k5
          clear k4 k5 hte
          go_wp2_with (first
          | (go_at_call 104; (with_reducible show Calls _ _ #[.slice (some ⟨bb, oo, none⟩) 4 _] _ _); refine (HG1.out _ hW).mono ?_; rintro e w1 ⟨rfl, rfl⟩)
          | (go_at_call 104; (with_reducible show Calls _ _ #[.slice (some ⟨bb, oo + 4, none⟩) 2 _] _ _); refine (HG2.out _ hW).mono ?_; rintro e w1 ⟨rfl, rfl⟩))
          go_ret
          exact rf_fin (HA.out.on hW) hfin.out bel1
        have s5 := beq_yes k5
        by_cases em : m = prs.length
        rotate_left
        · have hte : takeF np r k x = ({ r with gen := x.gen }, false) := by rw [HT2.out, if_neg (fun h => k4 h.1), if_neg (fun h => em h.2.1)]
          have hfin := Lib.hid (show R = r.all by rw [HS2.out, hte]; rfl)
          have s6 := beq_no (show (m : Int) ≠ (prs.length : Int) by omega)
          clear k4 k5 em hte
          go_wp2_with (first
          | (go_at_call 104; (with_reducible show Calls _ _ #[.slice (some ⟨bb, oo, none⟩) 4 _] _ _); refine (HG1.out _ hW).mono ?_; rintro e w1 ⟨rfl, rfl⟩)
          | (go_at_call 104; (with_reducible show Calls _ _ #[.slice (some ⟨bb, oo + 4, none⟩) 2 _] _ _); refine (HG2.out _ hW).mono ?_; rintro e w1 ⟨rfl, rfl⟩))
          go_ret
          exact rf_fin (HA.out.on hW) hfin.out bel1
        have s6 := beq_yes (show (m : Int) = (prs.length : Int) by omega)
        by_cases el : x.body.length = 6
        rotate_left
        · have hte : takeF np r k x = ({ r with gen := x.gen }, false) := by rw [HT2.out, if_neg (fun h => k4 h.1), if_neg (fun h => el h.2.2)]
          have hfin := Lib.hid (show R = r.all by rw [HS2.out, hte]; rfl)
          have s7 := beq_no (show (x.body.length : Int) ≠ 6 by omega)
          clear k4 k5 em el hte
          go_wp2_with (first
          | (go_at_call 104; (with_reducible show Calls _ _ #[.slice (some ⟨bb, oo, none⟩) 4 _] _ _); refine (HG1.out _ hW).mono ?_; rintro e w1 ⟨rfl, rfl⟩)
          | (go_at_call 104; (with_reducible show Calls _ _ #[.slice (some ⟨bb, oo + 4, none⟩) 2 _] _ _); refine (HG2.out _ hW).mono ?_; rintro e w1 ⟨rfl, rfl⟩))
          go_ret
          exact rf_fin (HA.out.on hW) hfin.out bel1
        have s7 := beq_yes (show (x.body.length : Int) = 6 by omega)
        have hte : takeF np r k x = (⟨r.all ++ [⟨r.now, x.gen⟩], [], 0, k + 1⟩, true) := by rw [HT2.out, if_neg (fun h => k4 h.1), if_pos ⟨k5, em, el⟩]
        have hnx := Lib.hid (show R = (scanH np rd good m1 (k + 1) ⟨r.all ++ [⟨r.now, x.gen⟩], [], 0, k + 1⟩).all by rw [HS2.out, hte]; rfl)
        have Hlx := Lib.hid (show prs.length ≤ 65535 by omega)
        clear k4 k5 em el hte
        go_upto_region 16 with (first
          | (go_at_call 104; (with_reducible show Calls _ _ #[.slice (some ⟨bb, oo, none⟩) 4 _] _ _); refine (HG1.out _ hW).mono ?_; rintro e w1 ⟨rfl, rfl⟩)
          | (go_at_call 104; (with_reducible show Calls _ _ #[.slice (some ⟨bb, oo + 4, none⟩) 2 _] _ _); refine (HG2.out _ hW).mono ?_; rintro e w1 ⟨rfl, rfl⟩))
        obtain ⟨wg, hwg⟩ : ∃ q, q = (wr.alloc (.cells #[.int .i64 x.kind, .int .u64 (x.life.toNat : Int), .int .i64 x.seq, .int .u64 (x.gen.toNat : Int), .slice (some ⟨bb, oo, none⟩) x.body.length ci] 49)).setCell ⟨w.heap.size, 1, none⟩ (.int .u64 (x.gen.toNat : Int)) := ⟨_, rfl⟩
        have hAg : RfAt wg (w.heap.size + 1) w.heap.size { r with gen := x.gen } (.slice Ao trs.length co) (.slice An prs.length cn) trs prs := by
          rw [hwg]
          exact (HA.out.on hW).move (fun j hj _ => Below.heap_setCell _ ⟨w.heap.size, 1, none⟩ _ j (fun e => hj (by simpa using e))) (by simp [World.setCell]) { r with gen := x.gen } ((HA.out.on hW).blk.set (k := 1) _) rfl rfl
        have belg : Below w.heap.size w wg := by rw [hwg]; exact bset bel1 (Nat.le_refl _) _
        rw [← hwg]
        obtain ⟨q0, q1⟩ := two2q hAg.blk
        have lTg := hAg.blk.lt
        have HAg := Lib.hid hAg
        have Hbg := Lib.hid belg
        obtain ⟨i0, hi0, hz0, hz1, hz2⟩ := info_parts infoRT
        have hnb : some w.heap.size ≠ (Value.slice Ao trs.length co).ownBlock := fun e => by have := (hAg.all.lt _ e.symm).1; omega
        obtain ⟨tb, htb⟩ := hAg.blk
        clear x0 x1 x2 x3 x4 y0 y1 f0 f1 hAg belg hwg
        go_wp2_with (at_builtin; refine wpList_append_rd _ rfl _ _ _ rfl (w.heap.size + 1) 104 i0 _ 2 32 Try.underlying92 hi0 hz0 hz1 hz2 rfl (by omega) _ trs.length (trs.flatMap Tr.cells) rfl (HAg.out.all.alloc _) (wg.heap.size + 1) (some ⟨wg.heap.size, 0, none⟩) 1 1 [.slice An prs.length cn, .int .u64 (x.gen.toNat : Int)] rfl rfl (Rd.lit wg _ _ _ _ rfl (Nat.lt_succ_self _)) (by simp [Value.oneCell']) Hb1.out.1 Hb1.out.2.2.1 (Nat.le_trans HAg.out.lN (b1alloc wg _).size) ?_; intro v3 w3 own3 hg3 hat3; have e3 := (hg3.block w.heap.size (Nat.lt_of_lt_of_le lTg (b1alloc wg _).size) hnb).trans ((Below.heap_alloc _ _ w.heap.size lTg).trans htb); obtain ⟨d0, d1⟩ := two2q ⟨_, e3⟩; have d8 := Blk.free (⟨_, e3⟩ : Blk w3 w.heap.size _); have d80 := d8 0; have d81 := d8 1)
        have fin := Lib.hid (HAg.out.commit (b1alloc wg _) hg3 own3 (k + 1))
        have hfb := Lib.hid (bt' Hbg.out fin.out.2)
        refine ⟨⟨k + 1, by omega, by go_num, hfb.out, _, _, _, [], by go_num, fin.out.1, by simp; omega, by simp only; omega, Lib.hid (by rw [Hm2.out]; exact hnx.out)⟩, by simp only [intOf]; omega⟩
    · have t6 := decide_eq_false e6
      have HNN := Lib.hid (show ¬ (r.now ≠ [] ∧ x.gen ≠ r.gen) from fun h => e6 (Hnow.out.1 h.1))
      clear e6
      have HT2 := Lib.hid (show takeF np r k x = if x.kind = 4 ∧ (m : Int) < np then ({ r with gen := x.gen, now := r.now ++ [⟨(m : Int), x.body.drop 6⟩] }, true)
          else if x.kind = 5 ∧ m = prs.length ∧ x.body.length = 6 then (⟨r.all ++ [⟨r.now, x.gen⟩], [], 0, k + 1⟩, true)
          else ({ r with gen := x.gen }, false) by rw [HT.out, if_neg HNN.out, if_neg (fun h => h HE5.out)])
      by_cases k4 : x.kind = 4
      · have s4 := beq_yes k4
        have k5 : ¬ x.kind = 5 := by omega
        by_cases hmn : (m : Int) < np
        · have hte : takeF np r k x = ({ r with gen := x.gen, now := r.now ++ [⟨(m : Int), x.body.drop 6⟩] }, true) := by rw [HT2.out, if_pos ⟨k4, hmn⟩]
          have hnx := Lib.hid (show R = (scanH np rd good m1 (k + 1) { r with gen := x.gen, now := r.now ++ [⟨(m : Int), x.body.drop 6⟩] }).all by rw [HS2.out, hte]; rfl)
          have smn := decide_eq_true hmn
          clear k4 k5 hte
          go_upto_region 13 with (first
          | (go_at_call 104; (with_reducible show Calls _ _ #[.slice (some ⟨bb, oo, none⟩) 4 _] _ _); refine (HG1.out _ hW).mono ?_; rintro e w1 ⟨rfl, rfl⟩)
          | (go_at_call 104; (with_reducible show Calls _ _ #[.slice (some ⟨bb, oo + 4, none⟩) 2 _] _ _); refine (HG2.out _ hW).mono ?_; rintro e w1 ⟨rfl, rfl⟩))
          obtain ⟨wg, hwg⟩ : ∃ q, q = (wr.alloc (.cells #[.int .i64 x.kind, .int .u64 (x.life.toNat : Int), .int .i64 x.seq, .int .u64 (x.gen.toNat : Int), .slice (some ⟨bb, oo, none⟩) x.body.length ci] 49)).setCell ⟨w.heap.size, 1, none⟩ (.int .u64 (x.gen.toNat : Int)) := ⟨_, rfl⟩
          have hAg : RfAt wg (w.heap.size + 1) w.heap.size { r with gen := x.gen } (.slice Ao trs.length co) (.slice An prs.length cn) trs prs := by
            rw [hwg]
            exact (HA.out.on hW).move (fun j hj _ => Below.heap_setCell _ ⟨w.heap.size, 1, none⟩ _ j (fun e => hj (by simpa using e))) (by simp [World.setCell]) { r with gen := x.gen } ((HA.out.on hW).blk.set (k := 1) _) rfl rfl
          have belg : Below w.heap.size w wg := by rw [hwg]; exact bset bel1 (Nat.le_refl _) _
          have hXg := HX.out.other (.int .u64 (x.gen.toNat : Int)) (k := 1) (b := w.heap.size) (fun e => by have := HA.out.blk.lt; omega)
          have hPg := Lib.hid (HPf.out (wr.alloc (.cells #[.int .i64 x.kind, .int .u64 (x.life.toNat : Int), .int .i64 x.seq, .int .u64 (x.gen.toNat : Int), .slice (some ⟨bb, oo, none⟩) x.body.length ci] 49)) hW |>.keep (w' := wg) (fun j hj _ => by rw [hwg]; exact Below.heap_setCell _ ⟨w.heap.size, 1, none⟩ _ j (fun e => by simp at e; omega)) (by rw [hwg]; simp [World.setCell]))
          rw [← hwg] at hXg ⊢
          obtain ⟨p0, p1, p2, p3, p4⟩ := five5q hXg
          obtain ⟨q0, q1⟩ := two2q hAg.blk
          have lXg := hXg.lt
          have lTg := hAg.blk.lt
          have HAg := Lib.hid hAg
          have Hbg := Lib.hid belg
          obtain ⟨i0, hi0, hz0, hz1, hz2⟩ := info_parts infoPg2
          have hnb : some w.heap.size ≠ (Value.slice An prs.length cn).ownBlock := fun e => by have := (hAg.now.lt _ e.symm).1; omega
          obtain ⟨tb, htb⟩ := hAg.blk
          clear x0 x1 x2 x3 x4 y0 y1 f0 f1 hAg belg hXg hwg
          go_region_law ((refine Disk.step_append_rd _ (by rfl) _ _ _ (by rfl) (w.heap.size + 1) 157 i0 _ 2 32 Try.underlying102 hi0 hz0 hz1 hz2 rfl (by omega) (.slice An prs.length cn) prs.length (prs.flatMap Pr.cells) (by rfl) ?_ _ 1 1 [.int .i64 (m : Int), .slice (if ci = 6 then some ⟨bb, oo, none⟩ else some ⟨bb, oo + 6, none⟩) (x.body.length - 6) (ci - 6)] (by rfl) (by rfl) ?_ (by simp [Value.oneCell']) Hb1.out.2.1 Hb1.out.2.2.2 (Nat.le_trans HAg.out.lN (b1alloc wg _).size) ?_); (· exact HAg.out.now.alloc _); (· exact Rd.lit _ _ _ _ _ rfl (by simp)); intro v3 w3 own3 hg3 hat3; have e3 := (hg3.block w.heap.size (Nat.lt_of_lt_of_le lTg (b1alloc wg _).size) hnb).trans ((Below.heap_alloc _ _ w.heap.size lTg).trans htb); obtain ⟨d0, d1⟩ := two2q ⟨_, e3⟩; have d8 := Blk.free (⟨_, e3⟩ : Blk w3 w.heap.size _) 0; obtain ⟨A3, c3, rfl⟩ := own_form own3)
          all_goals
            have fin := Lib.hid (HAg.out.data _ hPg.out (alloc_drew2 wg _) hg3 (by simpa [Pr.cells] using own3) hat3)
            have hfb := Lib.hid (show Below w.heap.size w (w3.setCell ⟨w.heap.size, 0, none⟩ (.slice A3 (prs.length + 1) c3)) from bt' Hbg.out fin.out.2)
            clear own3 hat3 hg3
            go_wp2
            all_goals (refine ⟨⟨k + 1, by omega, by go_num, hfb.out, { r with gen := x.gen, now := r.now ++ [⟨(m : Int), x.body.drop 6⟩] }, _, trs, prs ++ [_], rfl, fin.out.1, by rw [List.length_append, List.length_singleton]; omega, Nat.le_succ_of_le hfrm, Lib.hid (by rw [Hm2.out]; exact hnx.out)⟩, by simp only [intOf]; omega⟩)
        · have hte : takeF np r k x = ({ r with gen := x.gen }, false) := by rw [HT2.out, if_neg (fun h => hmn h.2), if_neg (fun h => k5 h.1)]
          have hfin := Lib.hid (show R = r.all by rw [HS2.out, hte]; rfl)
          have s5 := beq_no k5
          have smn := decide_eq_false hmn
          clear k4 k5 hte
          go_wp2_with (first
          | (go_at_call 104; (with_reducible show Calls _ _ #[.slice (some ⟨bb, oo, none⟩) 4 _] _ _); refine (HG1.out _ hW).mono ?_; rintro e w1 ⟨rfl, rfl⟩)
          | (go_at_call 104; (with_reducible show Calls _ _ #[.slice (some ⟨bb, oo + 4, none⟩) 2 _] _ _); refine (HG2.out _ hW).mono ?_; rintro e w1 ⟨rfl, rfl⟩))
          go_ret
          exact rf_fin (HA.out.on hW) hfin.out bel1
      · have s4 := beq_no k4
        by_cases k5 : x.kind = 5
        rotate_left
        · have hte : takeF np r k x = ({ r with gen := x.gen }, false) := by rw [HT2.out, if_neg (fun h => k4 h.1), if_neg (fun h => k5 h.1)]
          have hfin := Lib.hid (show R = r.all by rw [HS2.out, hte]; rfl)
          have s5 := beq_no k5
          clear k4 k5 hte
          go_wp2_with (first
          | (go_at_call 104; (with_reducible show Calls _ _ #[.slice (some ⟨bb, oo, none⟩) 4 _] _ _); refine (HG1.out _ hW).mono ?_; rintro e w1 ⟨rfl, rfl⟩)
          | (go_at_call 104; (with_reducible show Calls _ _ #[.slice (some ⟨bb, oo + 4, none⟩) 2 _] _ _); refine (HG2.out _ hW).mono ?_; rintro e w1 ⟨rfl, rfl⟩))
          go_ret
          exact rf_fin (HA.out.on hW) hfin.out bel1
        have s5 := beq_yes k5
        by_cases em : m = prs.length
        rotate_left
        · have hte : takeF np r k x = ({ r with gen := x.gen }, false) := by rw [HT2.out, if_neg (fun h => k4 h.1), if_neg (fun h => em h.2.1)]
          have hfin := Lib.hid (show R = r.all by rw [HS2.out, hte]; rfl)
          have s6 := beq_no (show (m : Int) ≠ (prs.length : Int) by omega)
          clear k4 k5 em hte
          go_wp2_with (first
          | (go_at_call 104; (with_reducible show Calls _ _ #[.slice (some ⟨bb, oo, none⟩) 4 _] _ _); refine (HG1.out _ hW).mono ?_; rintro e w1 ⟨rfl, rfl⟩)
          | (go_at_call 104; (with_reducible show Calls _ _ #[.slice (some ⟨bb, oo + 4, none⟩) 2 _] _ _); refine (HG2.out _ hW).mono ?_; rintro e w1 ⟨rfl, rfl⟩))
          go_ret
          exact rf_fin (HA.out.on hW) hfin.out bel1
        have s6 := beq_yes (show (m : Int) = (prs.length : Int) by omega)
        by_cases el : x.body.length = 6
        rotate_left
        · have hte : takeF np r k x = ({ r with gen := x.gen }, false) := by rw [HT2.out, if_neg (fun h => k4 h.1), if_neg (fun h => el h.2.2)]
          have hfin := Lib.hid (show R = r.all by rw [HS2.out, hte]; rfl)
          have s7 := beq_no (show (x.body.length : Int) ≠ 6 by omega)
          clear k4 k5 em el hte
          go_wp2_with (first
          | (go_at_call 104; (with_reducible show Calls _ _ #[.slice (some ⟨bb, oo, none⟩) 4 _] _ _); refine (HG1.out _ hW).mono ?_; rintro e w1 ⟨rfl, rfl⟩)
          | (go_at_call 104; (with_reducible show Calls _ _ #[.slice (some ⟨bb, oo + 4, none⟩) 2 _] _ _); refine (HG2.out _ hW).mono ?_; rintro e w1 ⟨rfl, rfl⟩))
          go_ret
          exact rf_fin (HA.out.on hW) hfin.out bel1
        have s7 := beq_yes (show (x.body.length : Int) = 6 by omega)
        have hte : takeF np r k x = (⟨r.all ++ [⟨r.now, x.gen⟩], [], 0, k + 1⟩, true) := by rw [HT2.out, if_neg (fun h => k4 h.1), if_pos ⟨k5, em, el⟩]
        have hnx := Lib.hid (show R = (scanH np rd good m1 (k + 1) ⟨r.all ++ [⟨r.now, x.gen⟩], [], 0, k + 1⟩).all by rw [HS2.out, hte]; rfl)
        have Hlx := Lib.hid (show prs.length ≤ 65535 by omega)
        clear k4 k5 em el hte
        go_upto_region 16 with (first
          | (go_at_call 104; (with_reducible show Calls _ _ #[.slice (some ⟨bb, oo, none⟩) 4 _] _ _); refine (HG1.out _ hW).mono ?_; rintro e w1 ⟨rfl, rfl⟩)
          | (go_at_call 104; (with_reducible show Calls _ _ #[.slice (some ⟨bb, oo + 4, none⟩) 2 _] _ _); refine (HG2.out _ hW).mono ?_; rintro e w1 ⟨rfl, rfl⟩))
        obtain ⟨wg, hwg⟩ : ∃ q, q = (wr.alloc (.cells #[.int .i64 x.kind, .int .u64 (x.life.toNat : Int), .int .i64 x.seq, .int .u64 (x.gen.toNat : Int), .slice (some ⟨bb, oo, none⟩) x.body.length ci] 49)).setCell ⟨w.heap.size, 1, none⟩ (.int .u64 (x.gen.toNat : Int)) := ⟨_, rfl⟩
        have hAg : RfAt wg (w.heap.size + 1) w.heap.size { r with gen := x.gen } (.slice Ao trs.length co) (.slice An prs.length cn) trs prs := by
          rw [hwg]
          exact (HA.out.on hW).move (fun j hj _ => Below.heap_setCell _ ⟨w.heap.size, 1, none⟩ _ j (fun e => hj (by simpa using e))) (by simp [World.setCell]) { r with gen := x.gen } ((HA.out.on hW).blk.set (k := 1) _) rfl rfl
        have belg : Below w.heap.size w wg := by rw [hwg]; exact bset bel1 (Nat.le_refl _) _
        rw [← hwg]
        obtain ⟨q0, q1⟩ := two2q hAg.blk
        have lTg := hAg.blk.lt
        have HAg := Lib.hid hAg
        have Hbg := Lib.hid belg
        obtain ⟨i0, hi0, hz0, hz1, hz2⟩ := info_parts infoRT
        have hnb : some w.heap.size ≠ (Value.slice Ao trs.length co).ownBlock := fun e => by have := (hAg.all.lt _ e.symm).1; omega
        obtain ⟨tb, htb⟩ := hAg.blk
        clear x0 x1 x2 x3 x4 y0 y1 f0 f1 hAg belg hwg
        go_wp2_with (at_builtin; refine wpList_append_rd _ rfl _ _ _ rfl (w.heap.size + 1) 104 i0 _ 2 32 Try.underlying92 hi0 hz0 hz1 hz2 rfl (by omega) _ trs.length (trs.flatMap Tr.cells) rfl (HAg.out.all.alloc _) (wg.heap.size + 1) (some ⟨wg.heap.size, 0, none⟩) 1 1 [.slice An prs.length cn, .int .u64 (x.gen.toNat : Int)] rfl rfl (Rd.lit wg _ _ _ _ rfl (Nat.lt_succ_self _)) (by simp [Value.oneCell']) Hb1.out.1 Hb1.out.2.2.1 (Nat.le_trans HAg.out.lN (b1alloc wg _).size) ?_; intro v3 w3 own3 hg3 hat3; have e3 := (hg3.block w.heap.size (Nat.lt_of_lt_of_le lTg (b1alloc wg _).size) hnb).trans ((Below.heap_alloc _ _ w.heap.size lTg).trans htb); obtain ⟨d0, d1⟩ := two2q ⟨_, e3⟩; have d8 := Blk.free (⟨_, e3⟩ : Blk w3 w.heap.size _); have d80 := d8 0; have d81 := d8 1)
        have fin := Lib.hid (HAg.out.commit (b1alloc wg _) hg3 own3 (k + 1))
        have hfb := Lib.hid (bt' Hbg.out fin.out.2)
        refine ⟨⟨k + 1, by omega, by go_num, hfb.out, _, _, _, [], by go_num, fin.out.1, by simp; omega, by simp only; omega, Lib.hid (by rw [Hm2.out]; exact hnx.out)⟩, by simp only [intOf]; omega⟩
end Go.Proofs.Ytmpmibcdpkolkaa.Wal

/- What the laws on supers share: the reference's Mark, Place and Sector, the example. -/
namespace Go.Proofs.Ytmpmibcdpkolkaa
theorem RdN.lit1 (w : World) (fp : List Nat) (hf : ∀ j ∈ fp, j < w.heap.size) (v : Value) (t : TypeId) : RdN (w.alloc (.cells #[v] t)) fp (some ⟨w.heap.size, 0, none⟩) [v] := fun _ =>
  ⟨w.heap.size, 0, rfl, by simp, fun e => by have := hf _ e; omega, fun i hi => by rw [World.cell?_alloc_new, Nat.zero_add]; simp at hi; subst hi; rfl⟩
end Go.Proofs.Ytmpmibcdpkolkaa
namespace Go.Proofs.Ytmpmibcdpkolkaa.Sup
open Go.RowKit
open Go.Proofs.Ytmpmibcdpkolkaa.Geom
open Go.Proofs.Ytmpmibcdpkolkaa.Disk (St DAt Did New8 Told8 new)
open Go.Proofs.Ytmpmibcdpkolkaa.Sec (X SymAt text sumOf sumAfter ckS blankB rightF xv RetX X0 five5x symbolic_any bset5)
set_option linter.unusedVariables false
set_option maxRecDepth 100000
theorem newN_any (n : Nat) (z : Int) (hz : z = (n : Int)) (h1 : 1 ≤ n) (h2 : n ≤ 1024) (w : World) : Calls Try.prog 12 #[.int .i64 z] w fun e w' => ∃ g fp, e = .returned (.tuple #[.pointer (some ⟨g, 0, none⟩), .int .i64 0]) ∧ DAt w' g fp (new n) ∧ (∀ j ∈ fp, w.heap.size ≤ j) ∧ Below w.heap.size w w' := by
  subst hz
  refine (Disk.new_any n w (by omega) (by omega)).mono ?_
  rintro e w' ⟨h, b⟩
  rw [if_neg (by omega)] at h
  obtain ⟨g, fp, he, hd, hf⟩ := h
  exact ⟨g, fp, he, by simpa using hd, hf, b⟩
theorem rmark_any (ga gd gl : Int) (w : World) (hG : Gb ga gd gl) : Calls Try.prog 18 #[gv ga gd gl] w (RetB 5 w (mk ga gd gl)) := by
  obtain ⟨z0, z1, z2⟩ := gthree (Blk.new w (gcell ga gd gl) 23)
  have b0 := b1alloc w (.cells (gcell ga gd gl).toArray 23)
  have HR := Lib.hid (fun W => Geom.rright_any ga gd gl W hG.a0 hG.a1 hG.d0 hG.d1 hG.g0 hG.g1)
  unfold mk
  cases hq : right ga gd gl with
  | false =>
    rw [hq] at HR
    rw [if_neg (by simp)]
    go_enter Try.func18, Try.ntmps18
    go_wp2_with (go_at_call 19; refine (HR.out _).mono ?_; rintro e w' ⟨rfl, b1⟩)
    go_ret
    exact RetB.mk (own_nil _ _ _ _) rfl (bt b0 b1)
  | true =>
    rw [hq] at HR
    rw [if_pos rfl]
    have hy := Geom.right_yes hq
    obtain ⟨x, hx⟩ : ∃ x, x = UInt8.ofNat ga.toNat := ⟨_, rfl⟩
    obtain ⟨y, hY⟩ : ∃ x, x = UInt8.ofNat gd.toNat := ⟨_, rfl⟩
    obtain ⟨z, hz⟩ : ∃ x, x = UInt8.ofNat gl.toNat := ⟨_, rfl⟩
    have w1 : IntKind.u8.wrap ga = (x.toNat : Int) := by rw [hx, IntKind.wrap_u8', UInt8.toNat_ofNat']; omega
    have w2 : IntKind.u8.wrap gd = (y.toNat : Int) := by rw [hY, IntKind.wrap_u8', UInt8.toNat_ofNat']; omega
    have w3 : IntKind.u8.wrap gl = (z.toNat : Int) := by rw [hz, IntKind.wrap_u8', UInt8.toNat_ofNat']; omega
    rw [← hx, ← hY, ← hz]
    clear hx hY hz
    have F := Lib.hid (Blk.new w (gcell ga gd gl) 23)
    go_enter Try.func18, Try.ntmps18
    go_wp2_with (go_at_call 19; refine (HR.out _).mono ?_; rintro e w4 ⟨rfl, b1⟩; obtain ⟨y0, y1, y2⟩ := gthree (F.out.on b1))
    go_ret
    have hl := own_lit w4 5 #[e8 x, e8 y, e8 z] w.heap.size 3 (bt b0 b1).size rfl (by unfold maxLen; omega)
    exact RetB.mk hl rfl (bt (bt b0 b1) (b1alloc _ _))
theorem rplace_any (n : UInt64) (m : Int) (hm : m = (n.toNat : Int)) (w : World) : Calls Try.prog 21 #[.int .u64 m] w fun e w' => e = .returned (.int .i64 (splace n)) ∧ w = w' := by
  subst hm
  have hl := n.toNat_lt
  have h1 : (n.toNat : Int) % 2 = (n.toNat : Int).tmod 2 := by rw [Int.tmod_eq_emod_of_nonneg (by omega)]
  have hw : IntKind.i64.wrap ((n.toNat : Int) % 2) = (n.toNat : Int) % 2 := wrap_small (by omega) (by omega)
  have hw2 : IntKind.i64.wrap (2 + (n.toNat : Int) % 2) = 2 + (n.toNat : Int) % 2 := wrap_small (by omega) (by omega)
  go_enter Try.func21, Try.ntmps21
  go_wp2
  go_ret
  exact ⟨rfl, rfl⟩
theorem set5 {W : World} {g b : Nat} {xs : List Value} (h : Blk W g xs) (n : g ≠ b) (v0 v1 v2 v3 v4 : Value) : Blk (((((W.setCell ⟨b, 0, none⟩ v0).setCell ⟨b, 1, none⟩ v1).setCell ⟨b, 2, none⟩ v2).setCell ⟨b, 3, none⟩ v3).setCell ⟨b, 4, none⟩ v4) g xs :=
  Blk.other (Blk.other (Blk.other (Blk.other (Blk.other h v0 n) v1 n) v2 n) v3 n) v4 n
set_option maxHeartbeats 2000000 in
theorem rsector_any (ga gd gl : Int) (life : UInt64) (base : Int) (gen : UInt64) (w : World) (hG : Gb ga gd gl) : Calls Try.prog 25 #[gv ga gd gl, sv life base gen] w fun e w' => ∃ A c, e = .returned (.agg #[.int .i64 2, .int .u64 (life.toNat : Int), .int .i64 base, .int .u64 (gen.toNat : Int), .slice A (mk ga gd gl).length c]) ∧ Rd w' w'.heap.size A ((mk ga gd gl).map e8) ∧ Below w.heap.size w w' := by
  have FG : Blk (((w.alloc (.cells (gcell ga gd gl).toArray 23)).alloc (.cells (scell life base gen).toArray 26)).alloc (.cells #[.int .i64 0, .int .u64 0, .int .i64 0, .int .u64 0, .slice none 0 0] 49)) w.heap.size (gcell ga gd gl) := ((Blk.new w (gcell ga gd gl) 23).alloc (.cells (scell life base gen).toArray 26)).alloc _
  have FX : Blk (((w.alloc (.cells (gcell ga gd gl).toArray 23)).alloc (.cells (scell life base gen).toArray 26)).alloc (.cells #[.int .i64 0, .int .u64 0, .int .i64 0, .int .u64 0, .slice none 0 0] 49)) (w.heap.size + 1) (scell life base gen) := by simpa using (Blk.new (w.alloc (.cells (gcell ga gd gl).toArray 23)) (scell life base gen) 26).alloc (.cells #[.int .i64 0, .int .u64 0, .int .i64 0, .int .u64 0, .slice none 0 0] 49)
  have FR : Blk (((w.alloc (.cells (gcell ga gd gl).toArray 23)).alloc (.cells (scell life base gen).toArray 26)).alloc (.cells #[.int .i64 0, .int .u64 0, .int .i64 0, .int .u64 0, .slice none 0 0] 49)) (w.heap.size + 1 + 1) [.int .i64 0, .int .u64 0, .int .i64 0, .int .u64 0, .slice none 0 0] := by simpa using Blk.new ((w.alloc (.cells (gcell ga gd gl).toArray 23)).alloc (.cells (scell life base gen).toArray 26)) [.int .i64 0, .int .u64 0, .int .i64 0, .int .u64 0, .slice none 0 0] 49
  have b0 := b3alloc w (.cells (gcell ga gd gl).toArray 23) (.cells (scell life base gen).toArray 26) (.cells #[.int .i64 0, .int .u64 0, .int .i64 0, .int .u64 0, .slice none 0 0] 49)
  have HM := Lib.hid (fun W => rmark_any ga gd gl W hG)
  obtain ⟨M, hM⟩ : ∃ M, M = mk ga gd gl := ⟨_, rfl⟩
  rw [← hM] at HM ⊢
  clear hM
  go_enter Try.func25, Try.ntmps25
  go_wp2
  have hp1 : w.heap.size + 2 = w.heap.size + 1 + 1 := by omega
  obtain ⟨w0, hw0⟩ : ∃ q, q = (((w.alloc (.cells (gcell ga gd gl).toArray 23)).alloc (.cells (scell life base gen).toArray 26)).alloc (.cells #[.int .i64 0, .int .u64 0, .int .i64 0, .int .u64 0, .slice none 0 0] 49)) := ⟨_, rfl⟩
  rw [← hw0] at FG FX FR b0
  rw [show (((w.alloc (.cells #[.int .i64 ga, .int .i64 gd, .int .i64 gl] 23)).alloc (.cells #[.int .u64 (life.toNat : Int), .int .i64 base, .int .u64 (gen.toNat : Int)] 26)).alloc (.cells #[.int .i64 0, .int .u64 0, .int .i64 0, .int .u64 0, .slice none 0 0] 49)) = w0 from hw0.symm]
  clear hw0
  obtain ⟨z0, z1, z2⟩ := gthree FG
  obtain ⟨y0, y1, y2⟩ := gthree FX
  have fr := FR.free
  have c0 : Below w0.heap.size w0 w0.drew := (Below.refl _ _).drew
  go_region_held3 (fun w' => (w'.cell? ⟨w.heap.size, 0, none⟩ = some (.int .i64 ga) ∧ w'.cell? ⟨w.heap.size, 1, none⟩ = some (.int .i64 gd) ∧ w'.cell? ⟨w.heap.size, 2, none⟩ = some (.int .i64 gl)) ∧ (w'.cell? ⟨w.heap.size + 1, 0, none⟩ = some (.int .u64 (life.toNat : Int)) ∧ w'.cell? ⟨w.heap.size + 1, 1, none⟩ = some (.int .i64 base) ∧ w'.cell? ⟨w.heap.size + 1, 2, none⟩ = some (.int .u64 (gen.toNat : Int)))) (first | exact ⟨gthree (FG.on c0), gthree (FX.on c0)⟩ | exact ⟨gthree (FG.on c1), gthree (FX.on c1)⟩ | exact ⟨gthree (set5 (FG.on c1) (by omega) _ _ _ _ _), gthree (set5 (FX.on c1) (by omega) _ _ _ _ _)⟩) ((go_at_call 18; refine (HM.out _).mono ?_; rintro e w1 ⟨A1, d1, rfl, own1, b1'⟩; have c1 := bt c0 b1'; obtain ⟨r0, r1, r2, r3, r4⟩ := five5x (FR.on c1); have fr1 := (FR.on c1).free))
  have k5 := Sec.keep5 w1 (w.heap.size + 1 + 1) (.int .i64 2) (.int .u64 (life.toNat : Int)) (.int .i64 base) (.int .u64 (gen.toNat : Int)) (.slice A1 M.length d1)
  have hlt := FR.lt
  have own2 := own_keep own1 k5 (fun g' hg' e => by have := own_block own1 hg'; rw [List.mem_singleton] at e; have h0 : w0.drew.heap.size = w0.heap.size := rfl; omega)
  have bq := bset5 (bt b0 c1) (show w.heap.size ≤ w.heap.size + 1 + 1 by omega) (v0 := .int .i64 2) (v1 := .int .u64 (life.toNat : Int)) (v2 := .int .i64 base) (v3 := .int .u64 (gen.toNat : Int)) (v4 := .slice A1 M.length d1)
  go_wp2
  exact bodyPost_ret (v := .agg #[.int .i64 2, .int .u64 (life.toNat : Int), .int .i64 base, .int .u64 (gen.toNat : Int), .slice A1 M.length d1]) (by simp [results, Try.results25, go_sem, *]) rfl ⟨_, _, rfl, Rd.own own2, bq⟩
theorem gb213 : Gb 2 1 3 := ⟨by decide, by decide, by decide, by decide, by decide, by decide⟩
theorem size213 : Geom.sizeOf 2 1 3 = 13 := by decide
theorem right213 : Geom.right 2 1 3 = true := by decide
set_option maxHeartbeats 4000000 in
theorem alive_any (w : World) : Calls Try.prog 20 #[] w fun e w' => e = .returned (.bool true) ∧ Below w.heap.size w w' := by
  obtain ⟨c1, c2, c3, c4⟩ := (up_new 13).clr (by omega)
  have r0 : srightF (new 13) 2 1 3 = 0 := srightF_new (n := 13) right213 rfl (by rw [size213]; rfl)
  have rC : srightF (clr (new 13)).1 2 1 3 = 0 := srightF_new (n := 13) right213 c2.size (by rw [size213]; rfl)
  have hz0 : (new 13).sz = 0 := rfl
  have a2 : atR [] (clr (new 13)).1 2 1 3 2 = none := c2.at_zero (by omega) (by omega) (by rw [c3]; rfl)
  have a3 : atR [] (clr (new 13)).1 2 1 3 3 = none := c2.at_zero (by omega) (by omega) (by rw [c3]; rfl)
  have hC := fun g fp W h => clear_any g fp (new 13) 2 1 3 W gb213 h (by decide) r0
  obtain ⟨C, hCe⟩ : ∃ C, C = clr (new 13) := ⟨_, rfl⟩
  rw [← hCe] at c1 c2 c3 c4 rC a2 a3 hC
  have hR1 := fun g fp gS bS W h => readSup_any g fp C.1 gS bS [] 2 1 3 W gb213 h (by simp) (by omega) rC c2.down
  rw [a2, a3] at hR1
  have hW := fun g fp gS bS W h => write_any g fp C.1 gS bS [] 2 1 3 3 1 2 W gb213 h (by simp) (by omega) rC (by omega) (by omega)
  obtain ⟨v1, v2, v3⟩ := c2.wf (p := splace 3) (by decide) (by decide) (sB_len [] 2 1 3 3 1 2)
  have y1 := wf_sz C.1 (splace 3) (sB [] 2 1 3 3 1 2)
  have y2 := sL_len [] 2 1 3 3 1 2
  have hg := sB_good [] (ga := 2) (gd := 1) (gl := 3) (life := 3) (base := 1) (gen := 2) (by omega) (by omega)
  obtain ⟨V, hV⟩ : ∃ V, V = wf C.1 (splace 3) (sB [] 2 1 3 3 1 2) := ⟨_, rfl⟩
  rw [← hV] at v1 v2 v3 y1 hW
  have hs3 : splace 3 = 3 := by decide
  have rV : srightF V.1 2 1 3 = 0 := srightF_new (n := 13) right213 v2.size (by rw [size213]; rfl)
  obtain ⟨L, hL⟩ : ∃ L, L = sL [] 2 1 3 3 1 2 := ⟨_, rfl⟩
  rw [← hL] at hW y2 hg
  have w3 : atR L V.1 2 1 3 3 = some ⟨3, 1, 2⟩ := by
    have := v2.at_own (l := L) (ga := 2) (gd := 1) (gl := 3) (life := 3) (base := 1) (gen := 2) (by decide) (by rw [v3, kept_after]; exact hg)
    rw [hs3] at this; exact this
  have w2 : atR L V.1 2 1 3 2 = none := v2.at_zero (by omega) (by omega) (by rw [v3, kept_beside _ _ (by decide), c3]; rfl)
  have hR2 := fun g fp gS bS W h => readSup_any g fp V.1 gS bS L 2 1 3 W gb213 h (by simp at y2; omega) (by omega) rV v2.down
  rw [w2, w3] at hR2
  rw [v1] at hW
  have hR1' : ∀ g fp gS bS W, Both W g fp C.1 gS bS [] → Calls Try.prog 24 #[.pointer (some ⟨g, 0, none⟩), .pointer (some ⟨gS, 0, none⟩), gv 2 1 3] W fun e w' => e = .returned (.tuple #[.agg #[.int .u64 0, .int .i64 0, .int .u64 0], .int .i64 11]) ∧ Below W.heap.size W w' := hR1
  have hR2' : ∀ g fp gS bS W, Both W g fp V.1 gS bS L → Calls Try.prog 24 #[.pointer (some ⟨g, 0, none⟩), .pointer (some ⟨gS, 0, none⟩), gv 2 1 3] W fun e w' => e = .returned (.tuple #[.agg #[.int .u64 3, .int .i64 1, .int .u64 2], .int .i64 0]) ∧ Below W.heap.size W w' := hR2
  have hW' : ∀ g fp gS bS W, Both W g fp C.1 gS bS [] → Calls Try.prog 15 #[.pointer (some ⟨g, 0, none⟩), .pointer (some ⟨gS, 0, none⟩), gv 2 1 3, .agg #[.int .u64 3, .int .i64 1, .int .u64 2]] W fun e w' => e = .returned (.int .i64 0) ∧ Turn W g fp gS bS V.1 L w' := hW
  have HC := Lib.hid hC
  have HR1 := Lib.hid hR1'
  have HR2 := Lib.hid hR2'
  have HW := Lib.hid hW'
  have C1 := Lib.hid c1
  have tR : True := trivial
  clear hC hR1 hR2 hW hR1' hR2' hW' hCe hV hL c1 c2 c3 c4 v1 v2 v3 y1 y2 hg w2 w3 a2 a3 rV rC r0 hz0 hs3
  have F := Lib.hid (Blk.new w (gcell 2 1 3) 23)
  have hltF := F.out.lt
  have b0 := b1alloc w (.cells (gcell 2 1 3).toArray 23)
  go_enter Try.func20, Try.ntmps20
  go_wp2_with (first
    | (go_at_call 12; refine (newN_any 13 13 rfl (by omega) (by omega) _).mono ?_; rintro e w1 ⟨g, fp, rfl, hD, hfp, b1⟩)
    | (go_at_call 14; refine (symbolic_any _).mono ?_; rintro e w2 ⟨gS, bS, rfl, hS, hgS, hbS, b2⟩; have H2 := Here.start hD hfp b1 hS hgS hbS b2; obtain ⟨m0, m1, m2⟩ := gthree (F.out.below H2.bel hltF))
    | (go_at_call 27; refine (HC.out _ _ _ H2.both.disk).mono ?_; rintro e w3 d3; obtain ⟨rfl, fp3, H3, _, _⟩ := H2.did d3; rw [C1.out];clear m0 m1 m2; obtain ⟨n0, n1, n2⟩ := gthree (F.out.below H3.bel hltF))
    | (go_at_call 24; have _t := tR; refine (HR1.out _ _ _ _ _ H3.both).mono ?_; rintro e w4 ⟨rfl, b4⟩; have H4 := H3.on (bt b4 (b1alloc w4 (.cells #[.int .u64 0, .int .i64 0, .int .u64 0] 35)));clear n0 n1 n2; obtain ⟨o0, o1, o2⟩ := gthree (F.out.below H4.bel hltF); clear tR)
    | (go_at_call 15; refine (HW.out _ _ _ _ _ H4.both).mono ?_; rintro e w5 ⟨rfl, T5⟩; obtain ⟨fp5, H5, _, _⟩ := H4.turn T5;clear o0 o1 o2; obtain ⟨p0, p1, p2⟩ := gthree (F.out.below H5.bel hltF))
    | (go_at_call 24; refine (HR2.out _ _ _ _ _ H5.both).mono ?_; rintro e w6 ⟨rfl, b6⟩; have H6 := H5.on (bt b6 (b1alloc w6 (.cells #[.int .u64 3, .int .i64 1, .int .u64 2] 35)))))
  go_ret
  exact ⟨rfl, bt b0 H6.bel⟩
end Go.Proofs.Ytmpmibcdpkolkaa.Sup

/- What the law on reading supers needs of the reference: Of, and the law's best. -/
namespace Go.Proofs.Ytmpmibcdpkolkaa.Sup
open Go.RowKit
open Go.Proofs.Ytmpmibcdpkolkaa.Geom
open Go.Proofs.Ytmpmibcdpkolkaa.Disk (St DAt Did New8 Told8 new)
open Go.Proofs.Ytmpmibcdpkolkaa.Sec (X SymAt text sumOf sumAfter ckS blankB rightF xv RetX X0 five5x symbolic_any bset5)
set_option linter.unusedVariables false
set_option maxRecDepth 100000
def ofR (ga gd gl p : Int) (x : X) : Option SV := if isSup ga gd gl p (x, 0) = true then some ⟨x.life, x.seq, x.gen⟩ else none
def ofV : Option SV → Value
  | some x => .tuple #[x.v, .bool true]
  | none => .tuple #[SV.zero.v, .bool false]
set_option maxHeartbeats 2000000 in
theorem rof_any (ga gd gl p : Int) (x : X) (A : Option Addr) (c : Nat) (w : World) (hG : Gb ga gd gl) (hr : Rd w w.heap.size A (x.body.map e8)) (hl : x.body.length ≤ 1000000) :
    Calls Try.prog 44 #[gv ga gd gl, .int .i64 p, .agg #[.int .i64 x.kind, .int .u64 (x.life.toNat : Int), .int .i64 x.seq, .int .u64 (x.gen.toNat : Int), .slice A x.body.length c]] w fun e w' => e = .returned (ofV (ofR ga gd gl p x)) ∧ Below w.heap.size w w' := by
  have FG : Blk (((w.alloc (.cells (gcell ga gd gl).toArray 23)).alloc (.cells ([.int .i64 x.kind, .int .u64 (x.life.toNat : Int), .int .i64 x.seq, .int .u64 (x.gen.toNat : Int), .slice A x.body.length c] : List Value).toArray 49)).alloc (.cells #[.int .u64 0, .int .i64 0, .int .u64 0] 26)) w.heap.size (gcell ga gd gl) := ((Blk.new w (gcell ga gd gl) 23).alloc _).alloc _
  have FX : Blk (((w.alloc (.cells (gcell ga gd gl).toArray 23)).alloc (.cells ([.int .i64 x.kind, .int .u64 (x.life.toNat : Int), .int .i64 x.seq, .int .u64 (x.gen.toNat : Int), .slice A x.body.length c] : List Value).toArray 49)).alloc (.cells #[.int .u64 0, .int .i64 0, .int .u64 0] 26)) (w.heap.size + 1) [.int .i64 x.kind, .int .u64 (x.life.toNat : Int), .int .i64 x.seq, .int .u64 (x.gen.toNat : Int), .slice A x.body.length c] := by simpa using (Blk.new (w.alloc (.cells (gcell ga gd gl).toArray 23)) [.int .i64 x.kind, .int .u64 (x.life.toNat : Int), .int .i64 x.seq, .int .u64 (x.gen.toNat : Int), .slice A x.body.length c] 49).alloc (.cells #[.int .u64 0, .int .i64 0, .int .u64 0] 26)
  have FR : Blk (((w.alloc (.cells (gcell ga gd gl).toArray 23)).alloc (.cells ([.int .i64 x.kind, .int .u64 (x.life.toNat : Int), .int .i64 x.seq, .int .u64 (x.gen.toNat : Int), .slice A x.body.length c] : List Value).toArray 49)).alloc (.cells #[.int .u64 0, .int .i64 0, .int .u64 0] 26)) (w.heap.size + 1 + 1) [.int .u64 0, .int .i64 0, .int .u64 0] := by simpa using Blk.new ((w.alloc (.cells (gcell ga gd gl).toArray 23)).alloc (.cells ([.int .i64 x.kind, .int .u64 (x.life.toNat : Int), .int .i64 x.seq, .int .u64 (x.gen.toNat : Int), .slice A x.body.length c] : List Value).toArray 49)) [.int .u64 0, .int .i64 0, .int .u64 0] 26
  have b0 := b3alloc w (.cells (gcell ga gd gl).toArray 23) (.cells ([.int .i64 x.kind, .int .u64 (x.life.toNat : Int), .int .i64 x.seq, .int .u64 (x.gen.toNat : Int), .slice A x.body.length c] : List Value).toArray 49) (.cells #[.int .u64 0, .int .i64 0, .int .u64 0] 26)
  obtain ⟨w0, hw0⟩ : ∃ q, q = (((w.alloc (.cells (gcell ga gd gl).toArray 23)).alloc (.cells ([.int .i64 x.kind, .int .u64 (x.life.toNat : Int), .int .i64 x.seq, .int .u64 (x.gen.toNat : Int), .slice A x.body.length c] : List Value).toArray 49)).alloc (.cells #[.int .u64 0, .int .i64 0, .int .u64 0] 26)) := ⟨_, rfl⟩
  rw [← hw0] at FG FX FR b0
  have HM := Lib.hid (fun W => rmark_any ga gd gl W hG)
  have HP := Lib.hid (fun W => rplace_any x.life _ (by rfl) W)
  have HW0 := Lib.hid (show (((w.alloc (.cells #[.int .i64 ga, .int .i64 gd, .int .i64 gl] 23)).alloc (.cells #[.int .i64 x.kind, .int .u64 (x.life.toNat : Int), .int .i64 x.seq, .int .u64 (x.gen.toNat : Int), .slice A x.body.length c] 49)).alloc (.cells #[.int .u64 0, .int .i64 0, .int .u64 0] 26)) = w0 from hw0.symm)
  have hlX := FX.lt
  have hlG := FG.lt
  have hlR := FR.lt
  unfold ofR
  clear hw0
  by_cases e1 : x.kind = 2
  rotate_left
  · rw [if_neg (by simp [isSup, e1])]
    have t1 := bne_yes e1
    clear e1
    go_enter Try.func44, Try.ntmps44
    go_wp2
    rw [HW0.out]
    obtain ⟨z0, z1, z2⟩ := gthree FG
    obtain ⟨x0, x1, x2, x3, x4⟩ := five5x FX
    refine region_inb (by kernel_rfl) (by kernel_rfl) ?_
    have inbNe := InB.some
    have inbW := @wrap_small
    have inbU := IntKind.wrap_u8'
    repeat (refine wpQuiet_step (fun K hK => ?_); go_simp; first | (refine hK _ ?_; clear hK K) | (apply Exists.intro; refine ⟨?_, hK _ ?_⟩; (· (intro w' hw'; first | fail | (have hcw := hw'.cell; go_simp; exact rfl))); clear hK K))
    refine wpQuiet_nil ?_
    intro wq hq
    clear inbNe inbW inbU
    clear z0 z1 z2 x0 x1 x2 x3 x4
    obtain ⟨u0, u1, u2⟩ := gthree (FR.on hq.below)
    obtain ⟨x0, x1, x2, x3, x4⟩ := five5x (FX.on hq.below)
    have fx := (FR.on hq.below).free
    go_wp2
    refine bodyPost_ret (v := ofV none) (by simp [results, Try.results44, go_sem, ofV, SV.v, SV.zero, sv, *]) rfl ⟨rfl, ?_⟩
    exact bset (bset (bset (bt b0 hq.below) (by omega) _) (by omega) _) (by omega) _
  have t1 := bne_no e1
  by_cases e2 : splace x.life = p
  rotate_left
  · rw [if_neg (by simp [isSup, e2])]
    have t2 := bne_yes e2
    clear e1 e2
    go_enter Try.func44, Try.ntmps44
    go_wp2
    rw [HW0.out]
    obtain ⟨z0, z1, z2⟩ := gthree FG
    obtain ⟨x0, x1, x2, x3, x4⟩ := five5x FX
    refine region_inb (by kernel_rfl) (by kernel_rfl) ?_
    have inbNe := InB.some
    have inbW := @wrap_small
    have inbU := IntKind.wrap_u8'
    repeat (refine wpQuiet_step (fun K hK => ?_); go_simp; first | (refine hK _ ?_; clear hK K) | (apply Exists.intro; refine ⟨?_, hK _ ?_⟩; (· (intro w' hw'; first | (go_at_call 21; refine (HP.out _).mono ?_; rintro e q1 ⟨rfl, rfl⟩; exact ⟨rfl, hw'⟩) | (have hcw := hw'.cell; go_simp; exact rfl))); clear hK K))
    refine wpQuiet_nil ?_
    intro wq hq
    clear inbNe inbW inbU
    clear z0 z1 z2 x0 x1 x2 x3 x4
    obtain ⟨u0, u1, u2⟩ := gthree (FR.on hq.below)
    obtain ⟨x0, x1, x2, x3, x4⟩ := five5x (FX.on hq.below)
    have fx := (FR.on hq.below).free
    go_wp2
    refine bodyPost_ret (v := ofV none) (by simp [results, Try.results44, go_sem, ofV, SV.v, SV.zero, sv, *]) rfl ⟨rfl, ?_⟩
    exact bset (bset (bset (bt b0 hq.below) (by omega) _) (by omega) _) (by omega) _
  have t2 := bne_no e2
  have hSa := fun A B c d' W h3 h4 => R1.same_any A B x.body (mk ga gd gl) x.body.length (mk ga gd gl).length c d' W rfl rfl h3 h4 (by omega) (by have := mk_len ga gd gl; omega)
  cases e3 : R1.sameB x.body (mk ga gd gl) with
  | false =>
    rw [if_neg (by simp [isSup, e3])]
    rw [e3] at hSa
    have HSa := Lib.hid hSa
    obtain ⟨M, hM⟩ : ∃ M, M = mk ga gd gl := ⟨_, rfl⟩
    rw [← hM] at HSa HM
    clear hSa e1 e2 e3 hM
    go_enter Try.func44, Try.ntmps44
    go_wp2
    rw [HW0.out]
    obtain ⟨z0, z1, z2⟩ := gthree FG
    obtain ⟨x0, x1, x2, x3, x4⟩ := five5x FX
    have cz : Below w0.heap.size w0 w0.drew := (Below.refl _ _).drew
    go_region_held3 (fun w' => (w'.cell? ⟨w.heap.size + 1, 0, none⟩ = some (.int .i64 x.kind) ∧ w'.cell? ⟨w.heap.size + 1, 1, none⟩ = some (.int .u64 (x.life.toNat : Int)) ∧ w'.cell? ⟨w.heap.size + 1, 2, none⟩ = some (.int .i64 x.seq) ∧ w'.cell? ⟨w.heap.size + 1, 3, none⟩ = some (.int .u64 (x.gen.toNat : Int)) ∧ w'.cell? ⟨w.heap.size + 1, 4, none⟩ = some (.slice A x.body.length c)) ∧ (w'.cell? ⟨w.heap.size, 0, none⟩ = some (.int .i64 ga) ∧ w'.cell? ⟨w.heap.size, 1, none⟩ = some (.int .i64 gd) ∧ w'.cell? ⟨w.heap.size, 2, none⟩ = some (.int .i64 gl))) (first | exact ⟨five5x (FX.on cz), gthree (FG.on cz)⟩ | exact ⟨five5x (FX.on cm), gthree (FG.on cm)⟩ | exact ⟨five5x (FX.on cs), gthree (FG.on cs)⟩) (first
      | (go_at_call 21; refine (HP.out _).mono ?_; rintro e q6 ⟨rfl, rfl⟩)
      | (go_at_call 18; refine (HM.out _).mono ?_; rintro e q7 ⟨A7, c7, rfl, own7, t7⟩; have cm := bt cz t7)
      | (go_at_call 16; refine (HSa.out A A7 c c7 _ (hr.on (bt b0 cm)) (Rd.own own7)).mono ?_; rintro e q8 ⟨rfl, t8⟩; have cs := bt cm t8))
    clear z0 z1 z2 x0 x1 x2 x3 x4
    obtain ⟨u0, u1, u2⟩ := gthree (FR.on cs)
    obtain ⟨x0, x1, x2, x3, x4⟩ := five5x (FX.on cs)
    have fx := (FR.on cs).free
    go_wp2
    refine bodyPost_ret (v := ofV none) (by simp [results, Try.results44, go_sem, ofV, SV.v, SV.zero, sv, *]) rfl ⟨rfl, ?_⟩
    exact bset (bset (bset (bt b0 cs) (by omega) _) (by omega) _) (by omega) _
  | true =>
    rw [if_pos (by simp [isSup, e1, e2, e3])]
    rw [e3] at hSa
    have HSa := Lib.hid hSa
    obtain ⟨M, hM⟩ : ∃ M, M = mk ga gd gl := ⟨_, rfl⟩
    rw [← hM] at HSa HM
    clear hSa e1 e2 e3 hM
    go_enter Try.func44, Try.ntmps44
    go_wp2
    rw [HW0.out]
    obtain ⟨z0, z1, z2⟩ := gthree FG
    obtain ⟨x0, x1, x2, x3, x4⟩ := five5x FX
    have cz : Below w0.heap.size w0 w0.drew := (Below.refl _ _).drew
    go_region_held3 (fun w' => (w'.cell? ⟨w.heap.size + 1, 0, none⟩ = some (.int .i64 x.kind) ∧ w'.cell? ⟨w.heap.size + 1, 1, none⟩ = some (.int .u64 (x.life.toNat : Int)) ∧ w'.cell? ⟨w.heap.size + 1, 2, none⟩ = some (.int .i64 x.seq) ∧ w'.cell? ⟨w.heap.size + 1, 3, none⟩ = some (.int .u64 (x.gen.toNat : Int)) ∧ w'.cell? ⟨w.heap.size + 1, 4, none⟩ = some (.slice A x.body.length c)) ∧ (w'.cell? ⟨w.heap.size, 0, none⟩ = some (.int .i64 ga) ∧ w'.cell? ⟨w.heap.size, 1, none⟩ = some (.int .i64 gd) ∧ w'.cell? ⟨w.heap.size, 2, none⟩ = some (.int .i64 gl))) (first | exact ⟨five5x (FX.on cz), gthree (FG.on cz)⟩ | exact ⟨five5x (FX.on cm), gthree (FG.on cm)⟩ | exact ⟨five5x (FX.on cs), gthree (FG.on cs)⟩) (first
      | (go_at_call 21; refine (HP.out _).mono ?_; rintro e q6 ⟨rfl, rfl⟩)
      | (go_at_call 18; refine (HM.out _).mono ?_; rintro e q7 ⟨A7, c7, rfl, own7, t7⟩; have cm := bt cz t7)
      | (go_at_call 16; refine (HSa.out A A7 c c7 _ (hr.on (bt b0 cm)) (Rd.own own7)).mono ?_; rintro e q8 ⟨rfl, t8⟩; have cs := bt cm t8))
    clear z0 z1 z2 x0 x1 x2 x3 x4
    obtain ⟨u0, u1, u2⟩ := gthree (FR.on cs)
    obtain ⟨x0, x1, x2, x3, x4⟩ := five5x (FX.on cs)
    have fx := (FR.on cs).free
    go_wp2
    refine bodyPost_ret (v := ofV (some ⟨x.life, x.seq, x.gen⟩)) (by simp [results, Try.results44, go_sem, ofV, SV.v, sv, *]) rfl ⟨rfl, ?_⟩
    exact bset (bset (bset (bt b0 cs) (by omega) _) (by omega) _) (by omega) _
theorem lbest_any (o p : Option SV) (w : World) (hne : ∀ x y, o = some x → p = some y → x.life ≠ y.life) :
    Calls Try.prog 46 #[sv (oV o).life (oV o).base (oV o).gen, sv (oV p).life (oV p).base (oV p).gen, .bool o.isSome, .bool p.isSome] w fun e w' => e = .returned (rdV (best (best none o) p)) ∧ Below w.heap.size w w' := by
  have b0 := fun (a b : SV) => b3alloc w (.cells (scell a.life a.base a.gen).toArray 26) (.cells (scell b.life b.base b.gen).toArray 26) (.cells #[.int .u64 0, .int .i64 0, .int .u64 0] 26)
  cases o with
  | none =>
    cases p with
    | none =>
      have bb := b0 (oV none) (oV none)
      rw [show (Option.isSome (none : Option SV)) = false from rfl]
      go_enter Try.func46, Try.ntmps46
      go_wp2
      refine bodyPost_ret (v := rdV none) (by simp [results, Try.results46, go_sem, rdV, SV.v, SV.zero, sv]) rfl ⟨rfl, ?_⟩
      exact b3alloc _ _ _ _
    | some y =>
      have bb := b0 (oV none) y
      rw [show (Option.isSome (none : Option SV)) = false from rfl, show (Option.isSome (some y)) = true from rfl, show oV (some y) = y from rfl]
      go_enter Try.func46, Try.ntmps46
      go_wp2
      refine bodyPost_ret (v := rdV (some y)) (by simp [results, Try.results46, go_sem, rdV, SV.v, sv]) rfl ⟨rfl, ?_⟩
      exact b3alloc _ _ _ _
  | some x =>
    cases p with
    | none =>
      have bb := b0 x (oV none)
      rw [show (Option.isSome (none : Option SV)) = false from rfl, show (Option.isSome (some x)) = true from rfl, show oV (some x) = x from rfl]
      go_enter Try.func46, Try.ntmps46
      go_wp2
      refine bodyPost_ret (v := rdV (some x)) (by simp [results, Try.results46, go_sem, rdV, SV.v, sv]) rfl ⟨rfl, ?_⟩
      exact b3alloc _ _ _ _
    | some y =>
      have hn := hne x y rfl rfl
      have bb := b0 x y
      rw [show (Option.isSome (some y)) = true from rfl, show (Option.isSome (some x)) = true from rfl, show oV (some x) = x from rfl, show oV (some y) = y from rfl]
      by_cases hlt : y.life.toNat < x.life.toNat
      · have hb := Lib.hid (show best (best none (some x)) (some y) = some x by
          have h2 : ¬ x.life < y.life := fun e => by rw [UInt64.lt_iff_toNat_lt] at e; omega
          simp [best, after1, h2])
        have hi : (y.life.toNat : Int) < (x.life.toNat : Int) := by omega
        clear hn hne
        go_enter Try.func46, Try.ntmps46
        go_wp2
        refine bodyPost_ret (v := rdV (some x)) (by simp [results, Try.results46, go_sem, rdV, SV.v, sv]) rfl ⟨by rw [hb.out], ?_⟩
        exact b3alloc _ _ _ _
      · have hb := Lib.hid (show best (best none (some x)) (some y) = some y by
          have h3 : x.life.toNat ≠ y.life.toNat := fun e => hn (UInt64.toNat_inj.1 e)
          have h2 : x.life < y.life := by rw [UInt64.lt_iff_toNat_lt]; omega
          simp [best, after1, h2])
        have hi : ¬ (y.life.toNat : Int) < (x.life.toNat : Int) := by omega
        clear hn hne
        go_enter Try.func46, Try.ntmps46
        go_wp2
        refine bodyPost_ret (v := rdV (some y)) (by simp [results, Try.results46, go_sem, rdV, SV.v, sv]) rfl ⟨by rw [hb.out], ?_⟩
        exact b3alloc _ _ _ _
/-! the two places, one behind the other -/
def bytesAt (q : List (List UInt8) × St) (p : Int) (x : X) : List UInt8 := text p x ++ sumOf q.1 (text p x)
theorem bytesAt_len (q : List (List UInt8) × St) (p : Int) (x : X) : (bytesAt q p x).length = 512 := by unfold bytesAt; rw [List.length_append, Sec.text_len, Sec.sumOf_len]
def stp (q : List (List UInt8) × St) (p : Int) (x : X) : List (List UInt8) × St := if rightF p x = 0 then (sumAfter q.1 (text p x), (Disk.put q.2 p (bytesAt q p x)).1) else q
theorem stp_yes {q : List (List UInt8) × St} {p : Int} {x : X} (h : rightF p x = 0) : stp q p x = (sumAfter q.1 (text p x), (Disk.put q.2 p (bytesAt q p x)).1) := if_pos h
theorem stp_no {q : List (List UInt8) × St} {p : Int} {x : X} (h : rightF p x ≠ 0) : stp q p x = q := if_neg h
theorem UpN.put {s : St} {n : Nat} (h : UpN s n) {p : Int} (h0 : 0 ≤ p) (h1 : p < n) {b : List UInt8} (hb : b.length = 512) : UpN (Disk.put s p b).1 n ∧ (Disk.put s p b).1.all = s.all ++ [(p.toNat, b)] ∧ (Disk.put s p b).1.sz ≤ s.sz + 1 := by
  refine ⟨?_, ?_, Disk.sz_put _ _ _⟩ <;> unfold Disk.put <;> rw [if_neg (by rw [h.size]; omega), if_neg (by omega)]
  exact ⟨h.size, h.pend, h.down, h.fuse⟩
/-- what is at a place that a sector was put at, or was not -/
def ofAt (ga gd gl p : Int) (x : X) : Option SV := if rightF p x = 0 then ofR ga gd gl p x else none
theorem UpN.at_good {s : St} {n : Nat} (h : UpN s n) {l : List (List UInt8)} {ga gd gl p : Int} (h0 : 0 ≤ p) (h1 : p < n) {x : X} (hg : Good l p x (Disk.kept s.all p.toNat)) : atR l s ga gd gl p = ofR ga gd gl p x := by
  unfold atR Sup.dec
  rw [h.read h0 h1]
  simp only []
  rw [hg.dec]; rfl
theorem sumAfter_len (l : List (List UInt8)) (T : List UInt8) : (sumAfter l T).length ≤ l.length + 1 := by unfold sumAfter; split <;> simp
structure One (n : Nat) (ga gd gl : Int) (q : List (List UInt8) × St) (a : X) : Prop where
  up : UpN q.2 n
  len : q.1.length ≤ 1
  sz : q.2.sz ≤ 1
  good : rightF 2 a = 0 → Good q.1 2 a (Disk.kept q.2.all 2)
  zero2 : rightF 2 a ≠ 0 → Disk.kept q.2.all 2 = Disk.zero512
  zero3 : Disk.kept q.2.all 3 = Disk.zero512
theorem one {n : Nat} (hn : 4 ≤ n) (ga gd gl : Int) (a : X) : One n ga gd gl (stp ([], new n) 2 a) a := by
  by_cases h : rightF 2 a = 0
  · rw [stp_yes h]
    obtain ⟨u, e, z⟩ := (up_new n).put (p := 2) (by omega) (by omega) (bytesAt_len ([], new n) 2 a)
    exact ⟨u, sumAfter_len [] (text 2 a), z, fun _ => by rw [e, show ((2 : Int).toNat) = 2 from rfl, kept_after]; exact Good.made [] h, fun h2 => absurd h h2, by rw [e, kept_beside _ _ (by decide)]; rfl⟩
  · rw [stp_no h]
    exact ⟨up_new n, by simp, Nat.zero_le _, fun h2 => absurd h2 h, fun _ => rfl, rfl⟩
theorem One.at2 {n : Nat} (hn : 4 ≤ n) {ga gd gl : Int} {q : List (List UInt8) × St} {a : X} (h : One n ga gd gl q a) : atR q.1 q.2 ga gd gl 2 = ofAt ga gd gl 2 a := by
  unfold ofAt
  by_cases h1 : rightF 2 a = 0
  · rw [if_pos h1]; exact h.up.at_good (by omega) (by omega) (h.good h1)
  · rw [if_neg h1]; exact h.up.at_zero (by omega) (by omega) (h.zero2 h1)
structure Two (n : Nat) (ga gd gl : Int) (q : List (List UInt8) × St) (a b : X) : Prop where
  up : UpN q.2 n
  len : q.1.length ≤ 2
  sz : q.2.sz ≤ 2
  at2 : atR q.1 q.2 ga gd gl 2 = ofAt ga gd gl 2 a
  at3 : atR q.1 q.2 ga gd gl 3 = ofAt ga gd gl 3 b
theorem two {n : Nat} (hn : 4 ≤ n) (ga gd gl : Int) (a b : X) : Two n ga gd gl (stp (stp ([], new n) 2 a) 3 b) a b := by
  have h1 := one hn ga gd gl a
  obtain ⟨q, hq⟩ : ∃ q, q = stp ([], new n) 2 a := ⟨_, rfl⟩
  rw [← hq] at h1 ⊢
  by_cases h : rightF 3 b = 0
  · rw [stp_yes h]
    obtain ⟨u, e, z⟩ := h1.up.put (p := 3) (by omega) (by omega) (bytesAt_len q 3 b)
    have hl := sumAfter_len q.1 (text 3 b)
    have l1 := h1.len
    have s1 := h1.sz
    refine ⟨u, by simp only []; omega, by simp only []; omega, ?_, ?_⟩
    · unfold ofAt
      by_cases h2 : rightF 2 a = 0
      · rw [if_pos h2]; exact u.at_good (by omega) (by omega) (by rw [e, kept_beside _ _ (by decide)]; exact (h1.good h2).more _)
      · rw [if_neg h2]; exact u.at_zero (by omega) (by omega) (by rw [e, kept_beside _ _ (by decide)]; exact h1.zero2 h2)
    · unfold ofAt
      rw [if_pos h]; exact u.at_good (by omega) (by omega) (by rw [e, show ((3 : Int).toNat) = 3 from rfl, kept_after]; exact Good.made q.1 h)
  · rw [stp_no h]
    refine ⟨h1.up, by have := h1.len; omega, by have := h1.sz; omega, h1.at2 hn, ?_⟩
    unfold ofAt
    rw [if_neg h]; exact h1.up.at_zero (by omega) (by omega) h1.zero3
theorem ofAt_place {ga gd gl p : Int} {x : X} {y : SV} (h : ofAt ga gd gl p x = some y) : splace y.life = p := by
  unfold ofAt ofR at h
  split at h
  · split at h
    · rename_i h1 h2
      injection h with h
      subst h
      simp [isSup] at h2
      exact h2.1.2
    · cases h
  · cases h
theorem ofAt_ne {ga gd gl : Int} {a b : X} {x y : SV} (h : ofAt ga gd gl 2 a = some x) (h' : ofAt ga gd gl 3 b = some y) : x.life ≠ y.life := fun e => by
  have h1 := ofAt_place h
  have h2 := ofAt_place h'
  rw [e] at h1; omega
end Go.Proofs.Ytmpmibcdpkolkaa.Sup

/- The log, in plain Lean: what is scanned of any sectors in its places. No statement is proved here. -/
namespace Go.Proofs.Ytmpmibcdpkolkaa.Wal
open Go.RowKit
open Go.Proofs.Ytmpmibcdpkolkaa.Geom
open Go.Proofs.Ytmpmibcdpkolkaa.Disk (St Wr read kept new zero512)
open Go.Proofs.Ytmpmibcdpkolkaa.Sec (X X0 text rightF)
open Go.Proofs.Ytmpmibcdpkolkaa.Sup (UpN stp stp_yes stp_no bytesAt bytesAt_len)
open Go.Proofs.Ytmpmibcdpkolkaa.Enc (rd rd_good rd_zero)
set_option linter.unusedVariables false
/-- the sectors put, up to the k-th place -/
def qw (ga gd gl base : Int) (l : List X) (n : Nat) : Nat → List (List UInt8) × St
  | 0 => ([], new n)
  | k + 1 => stp (qw ga gd gl base l n k) (pl ga gd gl base k) (l.getD k X0)
/-- was it put? -/
def okP (ga gd gl base : Int) (l : List X) (j : Nat) : Bool := decide (rightF (pl ga gd gl base j) (l.getD j X0) = 0)
/-- how many are there in a row -/
def rowN (ga gd gl base : Int) (l : List X) : Nat → Nat
  | 0 => 0
  | k + 1 => if rowN ga gd gl base l k = k ∧ okP ga gd gl base l k = true then k + 1 else rowN ga gd gl base l k
theorem rowN_le (ga gd gl base : Int) (l : List X) : ∀ k, rowN ga gd gl base l k ≤ k
  | 0 => Nat.le_refl _
  | k + 1 => by have := rowN_le ga gd gl base l k; unfold rowN; split <;> omega
theorem rowN_ok (ga gd gl base : Int) (l : List X) : ∀ k j, j < rowN ga gd gl base l k → okP ga gd gl base l j = true
  | 0, j, h => absurd h (Nat.not_lt_zero j)
  | k + 1, j, h => by
    unfold rowN at h
    split at h
    · rename_i hh
      rcases Nat.lt_succ_iff_lt_or_eq.1 h with e | e
      · exact rowN_ok ga gd gl base l k j (by rw [hh.1]; exact e)
      · rw [e]; exact hh.2
    · exact rowN_ok ga gd gl base l k j h
theorem rowN_end (ga gd gl base : Int) (l : List X) : ∀ k, rowN ga gd gl base l k = k ∨ okP ga gd gl base l (rowN ga gd gl base l k) = false
  | 0 => .inl rfl
  | k + 1 => by
    have ih := rowN_end ga gd gl base l k
    unfold rowN
    split
    · exact .inl rfl
    · rename_i h
      right
      rcases ih with e | e
      · rw [e]
        cases ho : okP ga gd gl base l k with
        | false => rfl
        | true => exact absurd ⟨e, ho⟩ h
      · exact e
structure WInv (ga gd gl base : Int) (l : List X) (n k : Nat) (q : List (List UInt8) × St) : Prop where
  up : UpN q.2 n
  len : q.1.length ≤ k
  sz : q.2.sz ≤ k
  good : ∀ j, j < k → okP ga gd gl base l j = true → Sup.Good q.1 (pl ga gd gl base j) (l.getD j X0) (kept q.2.all (pl ga gd gl base j).toNat)
  zero : ∀ j : Nat, (j : Int) < gl → ¬ (j < k ∧ okP ga gd gl base l j = true) → kept q.2.all (pl ga gd gl base j).toNat = zero512
theorem qw_inv {ga gd gl base : Int} {n : Nat} (hr : right ga gd gl = true) (hb : 0 ≤ base) (hn : (n : Int) = Geom.sizeOf ga gd gl) (l : List X) : ∀ k : Nat, (k : Int) ≤ gl → WInv ga gd gl base l n k (qw ga gd gl base l n k)
  | 0, _ => ⟨Sup.up_new n, by simp [qw], Nat.zero_le _, fun j hj => by omega, fun j _ _ => rfl⟩
  | k + 1, hk => by
    have ih := qw_inv hr hb hn l k (by omega)
    rw [qw]
    obtain ⟨q, hq⟩ : ∃ q, q = qw ga gd gl base l n k := ⟨_, rfl⟩
    rw [← hq] at ih ⊢
    have hp := pl_bd hr hb hn k
    obtain ⟨x, hx⟩ : ∃ x, x = l.getD k X0 := ⟨_, rfl⟩
    have hok : okP ga gd gl base l k = decide (rightF (pl ga gd gl base k) x = 0) := by rw [hx]; rfl
    rw [← hx]
    by_cases hrt : rightF (pl ga gd gl base k) x = 0
    · rw [stp_yes hrt]
      obtain ⟨u, e, z⟩ := Sup.UpN.put ih.up hp.1 hp.2.1 (bytesAt_len q (pl ga gd gl base k) x)
      have hl := Sup.sumAfter_len q.1 (text (pl ga gd gl base k) x)
      have hne : ∀ j : Nat, (j : Int) < gl → j ≠ k → (pl ga gd gl base k).toNat ≠ (pl ga gd gl base j).toNat := fun j hj hjk he => by
        have hpj := pl_bd hr hb hn j
        exact hjk (pl_inj hr hb (j := j) (k := k) hj (by omega) (by omega))
      refine ⟨u, by have := ih.len; simp only []; omega, by have := ih.sz; simp only []; omega, fun j hjk ho => ?_, fun j hj hnj => ?_⟩
      · by_cases hjk' : j = k
        · subst hjk'
          rw [← hx, e, Sup.kept_after]
          exact Sup.Good.made q.1 hrt
        · rw [e, Sup.kept_beside _ _ (hne j (by omega) hjk')]
          exact (ih.good j (by omega) ho).more _
      · have hjk' : j ≠ k := fun e => hnj ⟨by omega, by subst e; rw [hok]; exact decide_eq_true hrt⟩
        rw [e, Sup.kept_beside _ _ (hne j hj hjk')]
        exact ih.zero j hj (fun hh => hnj ⟨by omega, hh.2⟩)
    · rw [stp_no hrt]
      refine ⟨ih.up, by have := ih.len; omega, by have := ih.sz; omega, fun j hjk ho => ?_, fun j hj hnj => ih.zero j hj (fun hh => hnj ⟨by omega, hh.2⟩)⟩
      by_cases hjk' : j = k
      · subst hjk'; rw [hok, decide_eq_false hrt] at ho; cases ho
      · exact ih.good j (by omega) ho
theorem scanH_ext {np : Int} {rd rd' : Nat → X} {good good' : Nat → Bool} : ∀ (N' N i : Nat) (r : Rg), N' ≤ N → (∀ j, i ≤ j → j < i + N' → rd j = rd' j ∧ good j = good' j) → (N' = N ∨ good (i + N') = false) → scanH np rd good N i r = scanH np rd' good' N' i r
  | 0, N, i, r, _, _, he => by
    rcases he with rfl | he
    · rfl
    · rw [Nat.add_zero] at he
      cases N with
      | zero => rfl
      | succ m => show (if _ then _ else _) = _; rw [if_neg (by rw [he]; simp)]; rfl
  | N' + 1, 0, i, r, h, _, _ => by omega
  | N' + 1, N + 1, i, r, h, hj, he => by
    obtain ⟨h1, h2⟩ := hj i (Nat.le_refl _) (by omega)
    show (if _ then _ else _) = (if _ then _ else _)
    rw [h1, h2]
    have ih := fun r' => scanH_ext (np := np) (rd := rd) (rd' := rd') (good := good) (good' := good') N' N (i + 1) r' (by omega) (fun j a b => hj j (by omega) (by omega)) (he.imp (by omega) (fun e => by rw [show i + 1 + N' = i + (N' + 1) by omega]; exact e))
    split
    · split
      · exact ih _
      · rfl
    · rfl
/-- the document's scan of those in a row is the scan of the disk -/
theorem WInv.scan {ga gd gl base : Int} {n M : Nat} {l : List X} {q : List (List UInt8) × St} (h : WInv ga gd gl base l n M q) (hr : right ga gd gl = true) (hb : 0 ≤ base) (hn : (n : Int) = Geom.sizeOf ga gd gl) (life : UInt64) (hM : M ≤ l.length) (hMg : (M : Int) ≤ gl) (he : M = l.length ∨ (M : Int) = gl) :
    scanTx q.1 q.2 ga gd gl base life = rscanF (pagesOf ga gd gl) life (l.take (rowN ga gd gl base l M)) := by
  obtain ⟨t, ht⟩ : ∃ t, t = rowN ga gd gl base l M := ⟨_, rfl⟩
  have hle := rowN_le ga gd gl base l M
  have hok := rowN_ok ga gd gl base l M
  have hend := rowN_end ga gd gl base l M
  rw [← ht] at hle hok hend ⊢
  have hlt : (l.take t).length = t := by rw [List.length_take]; omega
  have hgd : ∀ j, j < t → (l.take t).getD j X0 = l.getD j X0 := fun j hj => by simp [List.getD, List.getElem?_take_of_lt hj]
  unfold scanTx rscanF
  rw [hlt]
  congr 1
  refine scanH_ext t gl.toNat 0 r00 (by omega) (fun j _ hj => ?_) ?_
  · rw [Nat.zero_add] at hj
    have p := pl_bd hr hb hn j
    have e : rdL q.1 q.2 ga gd gl base j = (l.getD j X0, 0) := rd_good h.up p.1 p.2.1 (h.good j (by omega) (hok j hj))
    rw [e, hgd j hj]
    refine ⟨rfl, ?_⟩
    unfold goodL goodR
    rw [e, hgd j hj]
    simp
  · rw [Nat.zero_add]
    by_cases hg : t = gl.toNat
    · exact .inl hg
    · right
      have p := pl_bd hr hb hn t
      have hz : rdL q.1 q.2 ga gd gl base t = (X0, 7) := rd_zero h.up p.1 p.2.1 (h.zero t (by omega) (fun hh => by
        rcases hend with e | e
        · omega
        · rw [hh.2] at e; cases e))
      unfold goodL
      rw [hz]
      simp
end Go.Proofs.Ytmpmibcdpkolkaa.Wal

/- The pages of a life: snap.Bad, and what they come to. -/
namespace Go.Proofs.Ytmpmibcdpkolkaa.Snap
open Go.RowKit Go.Shelf
open Go.Proofs.Ytmpmibcdpkolkaa.Geom
open Go.Proofs.Ytmpmibcdpkolkaa.Ch (SeqOk range_ok)
open Go.Proofs.Ytmpmibcdpkolkaa.Sup (Gb gv gcell srightF gthree)
open Go.Proofs.Ytmpmibcdpkolkaa.Disk (St DAt Did New8 Told8 read_any)
open Go.Proofs.Ytmpmibcdpkolkaa.Sec (X SymAt text sumOf sumAfter ckS blankB rightF encode_sym decode_sym right_0 right_2 xv RetX X0 five5x)
attribute [local go_sem] Oper.semAt_some
set_option linter.unusedVariables false
set_option maxRecDepth 100000
theorem infoI : (Try.prog.info? 3).map (fun i => (i.zero, i.size, i.bytes)) = some (some (.int .i64 0), 1, 8) := by kernel_rfl
/-- the numbers of those that are not there -/
def bads (l : List It) : List Int := (l.filter (fun x => !x.is)).map (fun x => (x.k : Int))
def badL (l : List (List UInt8)) (s : St) (ga gd gl : Int) (life : UInt64) (N : Nat) : List Int := ((List.range N).filter (fun k => !isPg l s ga gd gl life k)).map (fun k : Nat => (k : Int))
theorem bads_yes {pre : List It} {x : It} (h : x.is = true) : bads (pre ++ [x]) = bads pre := by simp [bads, h]
theorem bads_no {pre : List It} {x : It} (h : x.is = false) : bads (pre ++ [x]) = bads pre ++ [(x.k : Int)] := by simp [bads, h]
theorem bads_want {l : List (List UInt8)} {s : St} {ga gd gl : Int} {life : UInt64} {N : Nat} {xs : List It} (h : xs.map It.f = (List.range N).map (want l s ga gd gl life)) : bads xs = badL l s ga gd gl life N := by
  have e1 : bads xs = ((xs.map It.f).filter (fun t => !t.2.1)).map (fun t => (t.1 : Int)) := by
    unfold bads
    rw [List.filter_map, List.map_map]
    rfl
  rw [e1, h, List.filter_map, List.map_map]
  rfl
def RetBad (w : World) (l : List Int) (e : Ending) (w' : World) : Prop := ∃ A c, e = .returned (.tuple #[.slice A l.length c, .int .i64 0]) ∧ w'.ownsRow w.heap.size 3 1 (.slice A l.length c) l.length (l.map (Value.int .i64))
/-- between two rounds of Bad -/
def BInv (w w4 : World) (pre : List It) (X : World) : Prop := ((∃ v, Boxed X (w.heap.size + 1) 63 v ∧ X.ownsRow w4.heap.size 3 1 v (bads pre).length ((bads pre).map (Value.int .i64)) ∧ True) ∧ Boxed X (w.heap.size + 1 + 1) 28 (.int .i64 0) ∧ KpK (w.heap.size + 1) w4.heap.size w4 X ∧ Below w.heap.size w X) ∧ True
theorem BInv.own {w w4 : World} (h1 : w.heap.size + 1 + 1 < w4.heap.size) : OwnFrom w4.heap.size (BInv w w4) := by
  intro pre X X' row hI hg hr
  refine ⟨⟨holdsRow_own w4.heap.size (w.heap.size + 1) 63 3 1 (fun pre : List It => (bads pre).length) (fun pre => (bads pre).map (Value.int .i64)) (fun _ _ => True) pre X X' row hI.1.1 hg (fun g e => (hr g e).2), ?_, kpK_grown hI.1.2.2.1 hg (fun r e => (hr r e).1) (Nat.le_refl _), hI.1.2.2.2.grown hg (by have := hI.1.2.2.2.size; omega) (fun r e => by have := (hr r e).1; omega)⟩, trivial⟩
  exact hI.1.2.1.kept hg (fun e => by have := (hr _ e.symm).1; omega)
set_option maxHeartbeats 2000000 in
theorem bad_any (g : Nat) (fp : List Nat) (s : St) (gS bS : Nat) (l : List (List UInt8)) (ga gd gl : Int) (life : UInt64) (w : World) (hG : Gb ga gd gl) (h : Both w g fp s gS bS l) (hl : l.length ≤ 1000000) (hs : s.sz ≤ 90000000) (hf : srightF s ga gd gl = 0) (hd : s.down = false) (N : Nat) (hN : (N : Int) = pagesOf ga gd gl) :
    Calls Try.prog 38 #[.pointer (some ⟨g, 0, none⟩), .pointer (some ⟨gS, 0, none⟩), gv ga gd gl, .int .u64 (life.toNat : Int)] w fun e w' => RetBad w (badL l s ga gd gl life N) e w' ∧ Below w.heap.size w w' := by
  have FG := Blk.new w (gcell ga gd gl) 23
  obtain ⟨z0, z1, z2⟩ := gthree FG
  have HR := Lib.hid (fun W (bW : Below w.heap.size w W) => right_any g fp s gS ga gd gl life W hG (h.disk.on bW))
  rw [hf] at HR
  have hsz : (s.size : Int) = Geom.sizeOf ga gd gl := by
    unfold srightF at hf
    split at hf
    · rename_i h; exact h.2
    · cases hf
  refine (callsIn_wide (n := 8)).1 ?_
  refine callsIn_of_wp_marks Try.func38 rfl trivial ?_ rfl
  simp only [Try.ntmps38, List.size_toArray, List.length_cons, List.length_nil, Nat.reduceAdd, Nat.reduceSub, Array.replicate_succ, Array.replicate_zero, List.push_toArray, List.append_toArray, List.nil_append, List.cons_append]
  gi_wp2_with fail
  refine wpIn_wide.2 (wp_scope_straight ((wpIn_wide (n := 8)).1 ?_))
  gi_wp2_with fail
  have hb3 : ∃ w0, w0 = (((w.alloc (.cells (gcell ga gd gl).toArray 23)).alloc (.cells #[.slice none 0 0] 63)).alloc (.cells #[.int .i64 0] 28)).alloc (.cells (acell (.pointer (some ⟨g, 0, none⟩)) (.pointer (some ⟨gS, 0, none⟩)) ga gd gl life).toArray 138) := ⟨_, rfl⟩
  obtain ⟨w0, hw0⟩ := hb3
  have bx8 : Boxed w0 (w.heap.size + 1) 63 (.slice none 0 0) := by
    have := Boxed.new (w.alloc (.cells (gcell ga gd gl).toArray 23)) 63 (.slice none 0 0)
    simp at this
    rw [hw0]
    exact (Below.heap_alloc _ _ _ (by simp)).trans ((Below.heap_alloc _ _ _ (by simp)).trans this)
  have bx9 : Boxed w0 (w.heap.size + 1 + 1) 28 (.int .i64 0) := by
    have := Boxed.new ((w.alloc (.cells (gcell ga gd gl).toArray 23)).alloc (.cells #[.slice none 0 0] 63)) 28 (.int .i64 0)
    simp at this
    rw [hw0]
    exact (Below.heap_alloc _ _ _ (by simp)).trans this
  have ba : Blk w0 (w.heap.size + 1 + 1 + 1) (acell (.pointer (some ⟨g, 0, none⟩)) (.pointer (some ⟨gS, 0, none⟩)) ga gd gl life) := by
    rw [hw0]
    have := Blk.new (((w.alloc (.cells (gcell ga gd gl).toArray 23)).alloc (.cells #[.slice none 0 0] 63)).alloc (.cells #[.int .i64 0] 28)) (acell (.pointer (some ⟨g, 0, none⟩)) (.pointer (some ⟨gS, 0, none⟩)) ga gd gl life) 138
    simpa using this
  have b0 : Below w.heap.size w w0 := by rw [hw0]; exact bt (b3alloc _ _ _ _) (b1alloc _ _)
  rw [show (((w.alloc (.cells #[.int .i64 ga, .int .i64 gd, .int .i64 gl] 23)).alloc (.cells #[.slice none 0 0] 63)).alloc (.cells #[.int .i64 0] 28)).alloc (.cells #[.pointer (some ⟨g, 0, none⟩), .pointer (some ⟨gS, 0, none⟩), .int .i64 ga, .int .i64 gd, .int .i64 gl, .int .u64 (life.toNat : Int)] 138) = w0 from hw0.symm]
  clear hw0 z0 z1 z2 FG
  refine ⟨trivial, (callsIn_wide.2 (HR.out _ b0)).mono ?_⟩
  rintro e1 w1 ⟨rfl, b1⟩
  have b01 := bt b0 b1
  have hba1 := (ba.on b1).lt
  obtain ⟨z0, z1, z2, z3, z4, z5⟩ := six6 (ba.on b1)
  gi_wp2_with fail
  refine wpIn_label ?_
  gi_wp2_with fail
  refine ⟨trivial, (callsIn_wide.2 (pages_any g gS (w.heap.size + 1 + 1) ga gd gl life w1)).mono ?_⟩
  rintro e4 w4 ⟨rfl, hP4, b4⟩
  have b04 := bt b01 b4
  have bb4 := bt b1 b4
  have bx84 : Boxed w4 (w.heap.size + 1) 63 (.slice none 0 0) := (bb4.block _ bx8.lt).trans bx8
  have bx94 : Boxed w4 (w.heap.size + 1 + 1) 28 (.int .i64 0) := (bb4.block _ bx9.lt).trans bx9
  clear z0 z1 z2 z3 z4 z5 bx8 bx9 ba bb4 b0 b1 b01
  gi_wp2_with fail
  obtain ⟨i0, hi0, hz0, hz1, hz2⟩ := info_parts infoI
  have hs1 : w.heap.size + 3 < w1.heap.size := by have := hba1; omega
  have hs4 : w1.heap.size + 2 < w4.heap.size := hP4.there.lt
  have hB4 := h.on b04
  have hne : ∀ j ∈ bS :: gS :: fp, j ≠ w.heap.size + 1 := by
    intro j hj
    rcases List.mem_cons.1 hj with e | e
    · have := h.sym.lt.2; omega
    rcases List.mem_cons.1 e with e | e
    · have := h.sym.lt.1; omega
    · have := h.disk.lt _ e; omega
  have hN85 : N ≤ 85 := by have := pagesOf_bd ga gd gl; omega
  have hI : OwnFrom w4.heap.size (BInv w w4) := BInv.own (by omega)
  refine range_ok (n := 8) (by omega) (gf := 128) (lb := #[.pointer (some ⟨w1.heap.size, 0, none⟩), .pointer (some ⟨w1.heap.size + 1, 0, none⟩), .pointer (some ⟨w1.heap.size + 2, 0, none⟩)]) rfl (enters_of Try.func128 (by kernel_rfl) rfl)
    (pages2_ok 7 (by omega) (w.heap.size + 1) w1.heap.size (w1.heap.size + 1) (w1.heap.size + 2) (w.heap.size + 1 + 1) g fp s gS bS l ga gd gl life N hG hN hl hs hd hsz w4 hP4 hB4 hne (by omega) (by omega))
    (fun h k => h.trans k) (fun W l o o' hl h _ _ => KpK.turn W l o' hl) (Below.refl _ _) (fun _ => rfl)
    (BInv w w4)
    (fun c (pre' : List It) X => False)
    hI
    (fun c pre X X' row hI hg hr => hI)
    ⟨⟨⟨_, bx84, own_nil _ _ _ _, trivial⟩, bx94, KpK.refl _ _ _, b04⟩, trivial⟩
    (fun pre x a' X => ∃ pb, a' = { tmps := #[.pointer (some ⟨g, 0, none⟩), .pointer (some ⟨gS, 0, none⟩), gv ga gd gl, .int .u64 (life.toNat : Int), undef, undef, .pointer (some ⟨w.heap.size, 0, none⟩), undef, .pointer (some ⟨w.heap.size + 1, 0, none⟩), .pointer (some ⟨w.heap.size + 1 + 1, 0, none⟩), .pointer (some ⟨w.heap.size + 1 + 1 + 1, 0, none⟩), .int .i64 0, .int .i64 (x.k : Int), .pointer (some ⟨pb, 0, none⟩), .pointer (some ⟨g, 0, none⟩), .pointer (some ⟨gS, 0, none⟩), (gv ga gd gl), .int .u64 (life.toNat : Int), (av (.pointer (some ⟨g, 0, none⟩)) (.pointer (some ⟨gS, 0, none⟩)) ga gd gl life), (av (.pointer (some ⟨g, 0, none⟩)) (.pointer (some ⟨gS, 0, none⟩)) ga gd gl life), .int .i64 0, .int .i64 0, .bool false, undef, (av (.pointer (some ⟨g, 0, none⟩)) (.pointer (some ⟨gS, 0, none⟩)) ga gd gl life), .func (.func 128) #[] #[.pointer (some ⟨w1.heap.size, 0, none⟩), .pointer (some ⟨w1.heap.size + 1, 0, none⟩), .pointer (some ⟨w1.heap.size + 2, 0, none⟩)], .int .i64 (x.k : Int), .agg #[.slice x.A x.body.length x.c, .bool x.is], undef, undef, undef, undef, undef, undef, undef, undef, undef, undef], defers := [] } ∧ Blk X pb [.slice x.A x.body.length x.c, .bool x.is] ∧ w4.heap.size ≤ pb ∧ It.Ok w4.heap.size X x ∧ BInv w w4 pre X)
    ?_ ?assign ?body ?done ?stop
  · rintro pre x a' X lp o o' hl ho hc ⟨pb, rfl, hpb, hpl, hok, hIx⟩
    have hg := grownBy_putObj' X lp o'
    refine ⟨pb, rfl, ?_, hpl, hok.grown hg (fun r e => by cases e; exact ⟨o, ho, hc⟩), hI pre X _ (some lp) hIx hg (fun r e => by cases e; exact ⟨hl, o, ho, hc⟩)⟩
    obtain ⟨t, ht⟩ := hpb
    refine ⟨t, (hg.block pb (lt_of_block ht) (fun e => ?_)).trans ht⟩
    injection e with e
    subst e
    rw [ht] at ho; cases ho; cases hc
  case assign =>
    intro lp pre x X hIx hok hlen
    unfold It.enc
    simp [List.zip_toArray, List.setIfInBounds_toArray]
    gi_wp2
    refine ⟨KeepsOthers.alloc _ _, KpK.of_below (b1alloc _ _) hIx.1.2.2.1.size, X.heap.size, rfl, Blk.new X _ _, hIx.1.2.2.1.size, hok.on (b1alloc _ _), hI.alloc _ hIx⟩
  case body =>
    rintro lp pre x a' X ⟨pb, rfl, hpb, hpl, hok, hI'⟩ hlen
    obtain ⟨⟨⟨v, hv, hrow, _⟩, hv9, hkp, hB⟩, _⟩ := hI'
    have pc0 := hpb.cell (k := 0) (by simp)
    have pc1 := hpb.cell (k := 1) (by simp)
    simp only [List.getElem_cons_zero, List.getElem_cons_succ] at pc0 pc1
    have hvc := hv.cell
    have hvf := hv.frozen
    have hlx : w.heap.size + 1 < X.heap.size := hv.lt
    have hszX : w4.heap.size ≤ X.heap.size := hkp.size
    have hbl : (bads pre).length ≤ N := by unfold bads; rw [List.length_map]; exact Nat.le_trans (List.length_filter_le _ _) (by omega)
    obtain ⟨xk, xA, xc, xb, xi⟩ := x
    cases xi with
    | true =>
      gi_wp2
      exact ⟨KeepsOthers.refl _, KpK.refl _ _ _, ⟨⟨v, hv, by rw [bads_yes rfl]; exact hrow, trivial⟩, hv9, hkp, hB⟩, trivial⟩
    | false =>
      have bX1 := b1alloc X (.cells #[.int .i64 (xk : Int)] 3)
      gi_wp2_with (refine Ch.wpListIn_append_rd _ rfl _ _ _ rfl w4.heap.size 3 i0 _ 1 8 Try.underlying63 hi0 hz0 hz1 hz2 rfl (by omega) v (bads pre).length _ rfl (hrow.alloc _) _ _ 1 1 [.int .i64 (xk : Int)] rfl rfl (Rd.lit X _ _ _ (X.heap.size + 1) rfl (by omega)) (by intro u hu; simp at hu; subst hu; rfl) (by simp only [maxLen]; omega) (by omega) (by simp; omega) ?_; intro v1 w3 hown3 hg3 hat3; obtain ⟨g3, c3, rfl⟩ := ownsRow_succ hown3; have hbx := Lib.hid (box_app hv (by decide) hrow hszX (by omega) bX1 hown3 hg3); have hc3 := hbx.out.1.cell; have hf3 := hbx.out.1.frozen)
      obtain ⟨_, h1, h2, h3, h4, h5, h6⟩ := hbx.out
      refine ⟨h3, h4, ⟨⟨_, h1, ?_, trivial⟩, (h6 28 (by decide) (by decide) _ _ hv9).trans hv9, hkp.trans h4, hB.trans (h5 _ (by omega))⟩, trivial⟩
      rw [bads_no rfl, List.length_append, List.map_append]
      exact h2
  case done =>
    rintro D xs X hD hxs ⟨⟨⟨v, hv, hrow, _⟩, hv9, hkp, hB⟩, _⟩ hKD
    have hres := bads_want hxs
    have Hres := Lib.hid hres
    have hln : (bads xs).length ≤ N := by unfold bads; rw [List.length_map]; refine Nat.le_trans (List.length_filter_le _ _) ?_; have := congrArg List.length hxs; simp at this; omega
    clear hxs hres
    obtain ⟨A2, c2, rfl⟩ := own_form hrow
    have hvc := hv.cell
    have hvf := hv.frozen
    have hvl := hv.lt
    have hvc9 := hv9.cell
    have hvf9 := hv9.frozen
    have hvl9 := hv9.lt
    have hv8 := (hv.set (.slice A2 (bads xs).length c2)).kept (grownBy_setCell' _ (w.heap.size + 1 + 1) (.int .i64 0)) (fun e => by injection e with e; omega)
    have hv99 := (hv9.kept (grownBy_setCell' X (w.heap.size + 1) (.slice A2 (bads xs).length c2)) (fun e => by injection e with e; omega)).set (.int .i64 0)
    have hrow8 := (hrow.kept (grownBy_setCell' X (w.heap.size + 1) (.slice A2 (bads xs).length c2)) (.inr (hv.not_row (by decide) hrow).symm)).kept (grownBy_setCell' _ (w.heap.size + 1 + 1) (.int .i64 0)) (.inr (fun e => by have := own_block hrow e; omega))
    have hDl : D < X.heap.size := (Array.getElem?_eq_some_iff.1 hKD).1
    gi_wp2_with fail
    try rw [Exit.noGoto_ret]
    have hD2 : ((X.setCell ⟨w.heap.size + 1, 0, none⟩ (.slice A2 (bads xs).length c2)).setCell ⟨w.heap.size + 1 + 1, 0, none⟩ (.int .i64 0)).heap[D]? = some (.deferred (some [])) :=
      ((grownBy_setCell' _ (w.heap.size + 1 + 1) (.int .i64 0)).block D (by simp [World.setCell]; omega) (fun e => by injection e with e; omega)).trans (((grownBy_setCell' X (w.heap.size + 1) (.slice A2 (bads xs).length c2)).block D hDl (fun e => by injection e with e; omega)).trans hKD)
    obtain ⟨Z, hZ⟩ : ∃ Z, Z = (X.setCell ⟨w.heap.size + 1, 0, none⟩ (.slice A2 (bads xs).length c2)).setCell ⟨w.heap.size + 1 + 1, 0, none⟩ (.int .i64 0) := ⟨_, rfl⟩
    have hBZ : Below w.heap.size w Z := by rw [hZ]; exact bset (bset hB (by omega) _) (by omega) _
    rw [← hZ] at hD2 hv8 hv99 hrow8 ⊢
    have g0 := grownBy_putObj' Z D (.deferred none)
    have v8 := (hv8.kept g0 (fun e => by injection e with e; omega)).cell
    have v9 := (hv99.kept g0 (fun e => by injection e with e; omega)).cell
    clear hZ
    refine ⟨by simp, .inl ⟨_, _, rfl, run_takeDeferred hD2, ?_⟩⟩
    refine ⟨.tuple #[.slice A2 (bads xs).length c2, .int .i64 0], (by simp [results, Try.results38, go_sem, v8, v9]), ?_⟩
    rw [← Hres.out]
    exact ⟨⟨A2, c2, rfl, own_base (ownsRow_putObj hrow8 _ hD2 rfl) b04.size⟩, hBZ.trans (belowK_b (w := w) (Nat.le_refl _) _ D _ _ (by have := b04.size; omega) hD2 rfl rfl)⟩
  case stop => exact fun D c pre' X hD hk hf => hf.elim
end Go.Proofs.Ytmpmibcdpkolkaa.Snap

/- The pages of a life, in plain Lean: what stands behind a write, and a power that goes. -/
namespace Go.Proofs.Ytmpmibcdpkolkaa.Snap
open Go.RowKit
open Go.Proofs.Ytmpmibcdpkolkaa.Geom
open Go.Proofs.Ytmpmibcdpkolkaa.Disk (St Wr write flush read kept burn restart fates fate keptAt new zero512 arm)
open Go.Proofs.Ytmpmibcdpkolkaa.Sec (X text text_len sumOf sumOf_len sumAfter ckS rightF X0 place_of)
open Go.Proofs.Ytmpmibcdpkolkaa.Sup (UpN text_inj)
open Go.Proofs.Ytmpmibcdpkolkaa.Enc (Itm Enf enf enf_of More kept_of rd rd_good rd_sound restart_up)
set_option linter.unusedVariables false
theorem pItems_get (ga gd gl : Int) (life : UInt64) : ∀ (bs : List (List UInt8)) (n k : Nat) (h : k < (pItems ga gd gl life n bs).length) (h' : k < bs.length), (pItems ga gd gl life n bs)[k] = (areaAt ga gd gl life.toNat ((n + k : Nat) : Int), px life (n + k) bs[k])
  | [], n, k, h, h' => absurd h' (by simp)
  | b :: r, n, 0, h, h' => rfl
  | b :: r, n, k + 1, h, h' => by
    have := pItems_get ga gd gl life r (n + 1) k (by rw [pItems_len]; simpa using h') (by simpa using h')
    rw [show n + (k + 1) = n + 1 + k by omega]
    exact this
/-- pages that may be -/
structure PagesOk (ga gd gl : Int) (n : Nat) (pages : List (List UInt8)) : Prop where
  size : (n : Int) = Geom.sizeOf ga gd gl
  len : (pages.length : Int) = pagesOf ga gd gl
  short : ∀ j (hj : j < pages.length), pages[j].length ≤ 479
theorem PagesOk.small {ga gd gl : Int} {n : Nat} {pages : List (List UInt8)} (h : PagesOk ga gd gl n pages) : pages.length ≤ 85 ∧ n ≤ 238 := by
  have := pagesOf_bd ga gd gl
  have := size_bd ga gd gl
  have := h.size
  have := h.len
  omega
theorem PagesOk.place {ga gd gl : Int} {n : Nat} {pages : List (List UInt8)} (h : PagesOk ga gd gl n pages) (life : UInt64) {k : Nat} (hk : k < pages.length) : 0 ≤ areaAt ga gd gl life.toNat k ∧ areaAt ga gd gl life.toNat k < n ∧ areaAt ga gd gl life.toNat k ≤ 1023 := by
  have := area_ok (ga := ga) (gd := gd) (gl := gl) (life := life) (k := k) (by have := h.len; omega)
  rw [h.size]; exact this
theorem area_eq {ga gd gl : Int} {m k : Nat} (h : (k : Int) < pagesOf ga gd gl) : areaAt ga gd gl m k = 4 + gl + (m : Int) % 2 * pagesOf ga gd gl + k := by unfold areaAt; rw [if_pos ⟨by omega, h⟩]
theorem area_inj {ga gd gl : Int} {m k j : Nat} (hk : (k : Int) < pagesOf ga gd gl) (hj : (j : Int) < pagesOf ga gd gl) (h : areaAt ga gd gl m k = areaAt ga gd gl m j) : k = j := by
  rw [area_eq hk, area_eq hj] at h; omega
theorem area_apart {ga gd gl : Int} {m m' k j : Nat} (hm : m % 2 ≠ m' % 2) (hk : (k : Int) < pagesOf ga gd gl) (hj : (j : Int) < pagesOf ga gd gl) : areaAt ga gd gl m k ≠ areaAt ga gd gl m' j := by
  rw [area_eq hk, area_eq hj]
  rcases (show ((m : Int) % 2 = 0 ∧ (m' : Int) % 2 = 1) ∨ ((m : Int) % 2 = 1 ∧ (m' : Int) % 2 = 0) by omega) with ⟨h1, h2⟩ | ⟨h1, h2⟩ <;> rw [h1, h2] <;> omega
theorem PagesOk.items {ga gd gl : Int} {n : Nat} {pages : List (List UInt8)} (h : PagesOk ga gd gl n pages) (life : UInt64) : ∀ i ∈ pItems ga gd gl life 0 pages, ∃ k, ∃ hk : k < pages.length, i = (areaAt ga gd gl life.toNat k, px life k pages[k]) := by
  intro i hi
  obtain ⟨k, hk, rfl⟩ := List.mem_iff_getElem.1 hi
  rw [pItems_len] at hk
  exact ⟨k, hk, by rw [pItems_get _ _ _ _ _ _ _ _ hk]; simp⟩
theorem PagesOk.pright {ga gd gl : Int} {n : Nat} {pages : List (List UInt8)} (h : PagesOk ga gd gl n pages) (life : UInt64) {k : Nat} (hk : k < pages.length) : rightF (areaAt ga gd gl life.toNat k) (px life k pages[k]) = 0 :=
  px_right (h.place life hk).1 (h.place life hk).2.2 (by have := h.small.1; omega) (h.short k hk)
theorem PagesOk.okI {ga gd gl : Int} {n : Nat} {pages : List (List UInt8)} (h : PagesOk ga gd gl n pages) (life : UInt64) : ∀ i ∈ pItems ga gd gl life 0 pages, rightF i.1 i.2 = 0 ∧ 0 ≤ i.1 ∧ i.1 < n := by
  intro i hi
  obtain ⟨k, hk, rfl⟩ := h.items life i hi
  exact ⟨h.pright life hk, (h.place life hk).1, (h.place life hk).2.1⟩
theorem PagesOk.run {ga gd gl : Int} {n : Nat} {pages : List (List UInt8)} (h : PagesOk ga gd gl n pages) (life : UInt64) (l : List (List UInt8)) {s : St} (h2 : s.size = n) (hd : s.down = false) : ∃ m, Enf n (pItems ga gd gl life 0 pages) l s (snapF ga gd gl life pages l s) m :=
  enf_of _ l s h2 hd (h.okI life)
/-- the writes are at the life's places -/
theorem PagesOk.at_ {ga gd gl : Int} {n : Nat} {pages : List (List UInt8)} (h : PagesOk ga gd gl n pages) {life : UInt64} {l : List (List UInt8)} {s : St} {q : List (List UInt8) × St × Int} {m : List Wr} (e : Enf n (pItems ga gd gl life 0 pages) l s q m) :
    m.length ≤ pages.length ∧ ∀ k (hk : k < m.length) (hk' : k < pages.length), m[k].1 = (areaAt ga gd gl life.toNat k).toNat ∧ Sup.Good q.1 (areaAt ga gd gl life.toNat k) (px life k pages[k]) m[k].2 := by
  have hl := e.len
  rw [pItems_len] at hl
  refine ⟨hl, fun k hk hk' => ?_⟩
  have := e.at_ k hk (by rw [pItems_len]; exact hk')
  rw [pItems_get _ _ _ _ _ _ _ _ hk'] at this
  simpa using this
theorem PagesOk.good {ga gd gl : Int} {n : Nat} {pages : List (List UInt8)} (h : PagesOk ga gd gl n pages) {life : UInt64} {l : List (List UInt8)} {s : St} {q : List (List UInt8) × St × Int} {m : List Wr} (e : Enf n (pItems ga gd gl life 0 pages) l s q m) (hm : m.length = (pItems ga gd gl life 0 pages).length) (all : List Wr) {k : Nat} (hk : k < pages.length) :
    Sup.Good q.1 (areaAt ga gd gl life.toNat k) (px life k pages[k]) (kept (all ++ m) (areaAt ga gd gl life.toNat k).toNat) := by
  rw [pItems_len] at hm
  obtain ⟨_, hat⟩ := h.at_ e
  obtain ⟨h1, h2⟩ := hat k (by omega) hk
  rw [← h1, kept_of all m k (by omega) (fun a b ha hb hab => ?_)]
  · exact h2
  · rw [(hat a ha (by omega)).1, (hat b hb (by omega)).1] at hab
    have p1 := h.place life (k := a) (by omega)
    have p2 := h.place life (k := b) (by omega)
    have hl := h.len
    exact area_inj (m := life.toNat) (k := a) (j := b) (by omega) (by omega) (show areaAt ga gd gl life.toNat a = areaAt ga gd gl life.toNat b by omega)
/-- elsewhere there is what was there -/
theorem PagesOk.beside {ga gd gl : Int} {n : Nat} {pages : List (List UInt8)} (h : PagesOk ga gd gl n pages) {life : UInt64} {l : List (List UInt8)} {s : St} {q : List (List UInt8) × St × Int} {m : List Wr} (e : Enf n (pItems ga gd gl life 0 pages) l s q m) {p : Nat} (hp : ∀ k, k < pages.length → p ≠ (areaAt ga gd gl life.toNat k).toNat) : ∀ w ∈ m, w.1 ≠ p := by
  intro w hw he
  obtain ⟨hl, hat⟩ := h.at_ e
  obtain ⟨k, hk, rfl⟩ := List.mem_iff_getElem.1 hw
  rw [(hat k hk (by omega)).1] at he
  exact hp k (by omega) he.symm
theorem isX_own (life : UInt64) (k : Nat) (b : List UInt8) : isX life k (px life k b) = true := by simp [isX, px]
/-- all pages are there -/
theorem snapR_some {l : List (List UInt8)} {s : St} {ga gd gl : Int} {life : UInt64} {pages : List (List UInt8)} (h : ∀ k (hk : k < pages.length), rdAt l s ga gd gl life k = (px life k pages[k], 0)) :
    snapR l s ga gd gl life pages.length = some pages ∧ badL l s ga gd gl life pages.length = [] := by
  have hp : ∀ k, k < pages.length → isPg l s ga gd gl life k = true := fun k hk => by
    unfold isPg
    rw [h k hk]
    simp [isX_own]
  constructor
  · unfold snapR
    rw [if_pos (by unfold allPg; rw [List.all_eq_true]; intro k hk; exact hp k (List.mem_range.1 hk))]
    congr 1
    unfold bodies
    apply List.ext_getElem
    · simp
    · intro i h1 h2
      simp only [List.getElem_map, List.getElem_range]
      rw [h i h2]; rfl
  · unfold badL
    rw [List.filter_eq_nil_iff.2 (fun k hk => by rw [hp k (List.mem_range.1 hk)]; simp)]
    rfl
/-- each page that is there is the one -/
theorem snapR_or {l : List (List UInt8)} {s : St} {ga gd gl : Int} {life : UInt64} {pages : List (List UInt8)} (h : ∀ k (hk : k < pages.length), isPg l s ga gd gl life k = true → (rdAt l s ga gd gl life k).1.body = pages[k]) :
    snapR l s ga gd gl life pages.length = none ∨ snapR l s ga gd gl life pages.length = some pages := by
  unfold snapR
  split
  · rename_i ha
    right
    congr 1
    unfold allPg at ha
    rw [List.all_eq_true] at ha
    unfold bodies
    apply List.ext_getElem
    · simp
    · intro i h1 h2
      simp only [List.getElem_map, List.getElem_range]
      exact h i h2 (ha i (List.mem_range.2 h2))
  · exact .inl rfl
theorem rdAt_good {s : St} {n : Nat} (hu : UpN s n) {l : List (List UInt8)} {ga gd gl : Int} {life : UInt64} {pages : List (List UInt8)} (h : PagesOk ga gd gl n pages) {k : Nat} (hk : k < pages.length) (hg : Sup.Good l (areaAt ga gd gl life.toNat k) (px life k pages[k]) (kept s.all (areaAt ga gd gl life.toNat k).toNat)) : rdAt l s ga gd gl life k = (px life k pages[k], 0) :=
  rd_good hu (h.place life hk).1 (h.place life hk).2.1 hg
/-- a write while the power is there -/
theorem PagesOk.up {ga gd gl : Int} {n : Nat} {pages : List (List UInt8)} (h : PagesOk ga gd gl n pages) (life : UInt64) (l : List (List UInt8)) {s : St} (hu : UpN s n) :
    (snapF ga gd gl life pages l s).2.2 = 0 ∧ UpN (snapF ga gd gl life pages l s).2.1 n ∧ More l (snapF ga gd gl life pages l s).1 ∧
      (∀ k (hk : k < pages.length), Sup.Good (snapF ga gd gl life pages l s).1 (areaAt ga gd gl life.toNat k) (px life k pages[k]) (kept (snapF ga gd gl life pages l s).2.1.all (areaAt ga gd gl life.toNat k).toNat)) ∧
      (∀ p, (∀ k, k < pages.length → p ≠ (areaAt ga gd gl life.toNat k).toNat) → kept (snapF ga gd gl life pages l s).2.1.all p = kept s.all p) ∧
      ∀ T ∈ (snapF ga gd gl life pages l s).1, T ∈ l ∨ ∃ k, ∃ hk : k < pages.length, T = text (areaAt ga gd gl life.toNat k) (px life k pages[k]) := by
  obtain ⟨m, e⟩ := h.run life l hu.size hu.down
  obtain ⟨q, hq⟩ : ∃ q, q = snapF ga gd gl life pages l s := ⟨_, rfl⟩
  rw [← hq] at e ⊢
  rcases e.res with ⟨_, _, _, _, h5⟩ | ⟨h1, h2, h3, h4, h5, h6⟩
  · exact absurd hu.fuse h5
  · rw [hu.pend, List.nil_append] at h3
    refine ⟨h1, ⟨e.size, h4, h2, h6 hu.fuse⟩, e.more, fun k hk => by rw [h3]; exact h.good e h5 s.all hk, fun p hp => by rw [h3]; exact Disk.kept_append _ _ _ (h.beside e hp), fun T hT => (e.text T hT).imp id ?_⟩
    rintro ⟨i, hi, rfl⟩
    obtain ⟨k, hk, rfl⟩ := h.items life i hi
    exact ⟨k, hk, rfl⟩
theorem next_odd {life : UInt64} (h : life.toNat ≠ 18446744073709551615) : life.toNat % 2 ≠ (life + 1).toNat % 2 := by
  have h1 : (life + 1).toNat = (life.toNat + 1) % 18446744073709551616 := by simp [UInt64.toNat_add]
  have h2 : life.toNat < 18446744073709551616 := life.toNat_lt
  have h3 := Nat.mod_eq_of_lt (show life.toNat + 1 < 18446744073709551616 by omega)
  rw [h1, h3]; omega
/-- a write while the power may go; behind it the power comes back -/
theorem crash {ga gd gl : Int} {n : Nat} {a b : List (List UInt8)} (ha : PagesOk ga gd gl n a) (hb : PagesOk ga gd gl n b) {life : UInt64} (hlife : life.toNat ≠ 18446744073709551615) (fuse : Int) (keep : List Int) (t c : Int)
    {V1 V2 : List (List UInt8) × St × Int} {sA s3 : St} (e1 : V1 = snapF ga gd gl life a [] (new n)) (eA : sA = arm V1.2.1 fuse) (e2 : V2 = snapF ga gd gl (life + 1) b V1.1 sA) (e3 : s3 = restart V2.2.1 keep t c) :
    V1.2.2 = 0 ∧ UpN V1.2.1 n ∧ sA.size = n ∧ UpN s3 n ∧ snapR V2.1 s3 ga gd gl life a.length = some a ∧
      (snapR V2.1 s3 ga gd gl (life + 1) b.length = some b ∨ (V2.2.2 ≠ 0 ∧ snapR V2.1 s3 ga gd gl (life + 1) b.length = none)) := by
  obtain ⟨u1, u2, u3, u4, u5, u6⟩ := ha.up life [] (Sup.up_new n)
  rw [← e1] at u1 u2 u3 u4 u5 u6
  have hsA : sA.size = n := by rw [eA]; exact u2.size
  have hdA : sA.down = false := by rw [eA]; exact u2.down
  have hpA : sA.pend = [] := by rw [eA]; exact u2.pend
  have haA : sA.all = V1.2.1.all := by rw [eA]; rfl
  obtain ⟨m, e⟩ := hb.run (life + 1) V1.1 hsA hdA
  rw [← e2] at e
  have hodd := next_odd hlife
  have hla := ha.len
  have hlb := hb.len
  have hside : ∀ k, k < a.length → ∀ j, j < b.length → (areaAt ga gd gl life.toNat k).toNat ≠ (areaAt ga gd gl (life + 1).toNat j).toNat := fun k hk j hj h => by
    have p1 := ha.place life hk
    have p2 := hb.place (life + 1) hj
    exact area_apart hodd (by omega) (by omega) (show areaAt ga gd gl life.toNat k = areaAt ga gd gl (life + 1).toNat j by omega)
  have hmp : ∀ k, k < a.length → ∀ w ∈ m, w.1 ≠ (areaAt ga gd gl life.toNat k).toNat := fun k hk => hb.beside e (fun j hj => hside k hk j hj)
  obtain ⟨r1, r2, m', r3, r4⟩ := restart_up e.size keep t c
  rw [← e3] at r1 r2 r3
  have htext : ∀ T ∈ V2.1, (∃ k, ∃ hk : k < a.length, T = text (areaAt ga gd gl life.toNat k) (px life k a[k])) ∨ ∃ k, ∃ hk : k < b.length, T = text (areaAt ga gd gl (life + 1).toNat k) (px (life + 1) k b[k]) := fun T hT => by
    rcases e.text T hT with h | ⟨i, hi, rfl⟩
    · rcases u6 T h with h | h
      · cases h
      · exact .inl h
    · obtain ⟨k, hk, rfl⟩ := hb.items (life + 1) i hi
      exact .inr ⟨k, hk, rfl⟩
  have hfirst : (∀ k, k < a.length → kept s3.all (areaAt ga gd gl life.toNat k).toNat = kept V1.2.1.all (areaAt ga gd gl life.toNat k).toNat) → snapR V2.1 s3 ga gd gl life a.length = some a := fun hk0 =>
    (snapR_some (fun k hk => rdAt_good r1 ha hk (by rw [hk0 k hk]; exact e.more _ _ _ (u4 k hk)))).1
  have hsecond : snapR V2.1 s3 ga gd gl (life + 1) b.length = none ∨ snapR V2.1 s3 ga gd gl (life + 1) b.length = some b := by
    refine snapR_or fun k hk hp => ?_
    unfold isPg at hp
    rw [Bool.and_eq_true] at hp
    obtain ⟨g1, g2⟩ := rd_sound (l := V2.1) (s := s3) (p := areaAt ga gd gl (life + 1).toNat k) (of_decide_eq_true hp.1)
    obtain ⟨x, hx⟩ : ∃ x, x = (rdAt V2.1 s3 ga gd gl (life + 1) k).1 := ⟨_, rfl⟩
    have hx' : (rd V2.1 s3 (areaAt ga gd gl (life + 1).toNat k)).1 = x := hx.symm
    rw [hx'] at g1 g2
    rw [← hx]
    rcases htext _ g2 with ⟨j, hj, h⟩ | ⟨j, hj, h⟩
    · have e1 := text_inj g1 (ha.pright life hj) h
      rw [e1] at g1 h
      have := place_of (ha.pright life hj) g1 h
      exact absurd (by rw [this]) (hside j hj k hk)
    · have e1 := text_inj g1 (hb.pright (life + 1) hj) h
      rw [e1] at g1 h
      have := place_of (hb.pright (life + 1) hj) g1 h
      have hjk : k = j := area_inj (m := (life + 1).toNat) (by omega) (by omega) this
      subst hjk
      rw [e1]; rfl
  refine ⟨u1, u2, hsA, r1, ?_⟩
  rcases e.res with ⟨f1, f2, f3, f4, f5⟩ | ⟨f1, f2, f3, f4, f5, f6⟩
  · refine ⟨hfirst fun k hk => ?_, ?_⟩
    · rw [r3, f3, haA]
      refine Disk.kept_append _ _ _ fun w hw he => ?_
      obtain ⟨v, hv, hwv⟩ := r4 w hw
      rw [f4, hpA, List.nil_append] at hv
      exact hmp k hk v hv (by rw [← hwv]; exact he)
    · rcases hsecond with h | h
      · exact .inr ⟨by rw [f1]; decide, h⟩
      · exact .inl h
  · have hall := r2 f4
    rw [f3, hpA, List.nil_append, haA] at hall
    refine ⟨hfirst fun k hk => by rw [hall]; exact Disk.kept_append _ _ _ (hmp k hk), .inl ?_⟩
    exact (snapR_some (fun k hk => rdAt_good r1 hb hk (by rw [hall]; exact hb.good e f5 _ hk))).1
end Go.Proofs.Ytmpmibcdpkolkaa.Snap

/- The pages of a life: Bad of no disk; rows of bytes compared: Diff and Rows. -/
namespace Go.Proofs.Ytmpmibcdpkolkaa.Snap
open Go.RowKit
open Go.Proofs.Ytmpmibcdpkolkaa.Geom
open Go.Proofs.Ytmpmibcdpkolkaa.Sup (Gb gv gcell srightF gthree)
set_option linter.unusedVariables false
set_option maxRecDepth 100000
theorem badD_nil (gS : Nat) (ga gd gl : Int) (life : UInt64) (w : World) : Calls Try.prog 38 #[.pointer none, .pointer (some ⟨gS, 0, none⟩), gv ga gd gl, .int .u64 (life.toNat : Int)] w fun e w' => e = .returned (.tuple #[.slice none 0 0, .int .i64 1]) ∧ Below w.heap.size w w' := by
  have FG := Blk.new w (gcell ga gd gl) 23
  obtain ⟨z0, z1, z2⟩ := gthree FG
  have B8 := Box.new (w.alloc (.cells (gcell ga gd gl).toArray 23)) 63 (.slice none 0 0)
  have B9 := Box.new ((w.alloc (.cells (gcell ga gd gl).toArray 23)).alloc (.cells #[.slice none 0 0] 63)) 28 (.int .i64 0)
  simp at B8 B9
  obtain ⟨w0, hw0⟩ : ∃ w0, w0 = (((w.alloc (.cells (gcell ga gd gl).toArray 23)).alloc (.cells #[.slice none 0 0] 63)).alloc (.cells #[.int .i64 0] 28)).alloc (.cells (acell (.pointer none) (.pointer (some ⟨gS, 0, none⟩)) ga gd gl life).toArray 138) := ⟨_, rfl⟩
  have b0 : Below w.heap.size w w0 := by rw [hw0]; exact bt (b3alloc _ _ _ _) (b1alloc _ _)
  have C8 : Box w0 (w.heap.size + 1) (.slice none 0 0) := by rw [hw0]; exact (B8.alloc _).alloc _
  have C9 : Box w0 (w.heap.size + 1 + 1) (.int .i64 0) := by rw [hw0]; exact B9.alloc _
  have CA : Blk w0 (w.heap.size + 1 + 1 + 1) (acell (.pointer none) (.pointer (some ⟨gS, 0, none⟩)) ga gd gl life) := by
    rw [hw0]
    have := Blk.new (((w.alloc (.cells (gcell ga gd gl).toArray 23)).alloc (.cells #[.slice none 0 0] 63)).alloc (.cells #[.int .i64 0] 28)) (acell (.pointer none) (.pointer (some ⟨gS, 0, none⟩)) ga gd gl life) 138
    simpa using this
  obtain ⟨q0, q1, q2, q3, q4, q5⟩ := six6 CA
  have e0 : (((w.alloc (.cells #[.int .i64 ga, .int .i64 gd, .int .i64 gl] 23)).alloc (.cells #[.slice none 0 0] 63)).alloc (.cells #[.int .i64 0] 28)).alloc (.cells #[.pointer none, .pointer (some ⟨gS, 0, none⟩), .int .i64 ga, .int .i64 gd, .int .i64 gl, .int .u64 (life.toNat : Int)] 138) = w0 := hw0.symm
  clear hw0 B8 B9
  go_enter Try.func38, Try.ntmps38
  go_wp2
  go_step3
  go_wp2_with (go_at_call 85; refine (rightD_nil _ _ _ _ _ _).mono ?_; rintro e w1 ⟨rfl, b1⟩; have D8 := C8.on' b1; have D9 := C9.on' b1; have y8 := D8.cell; have y9 := D9.cell; have f8 := D8.free; have f9 := D9.free; have bw := bt b0 b1)
  try rw [Exit.noGoto_ret]
  refine bodyPost_ret (v := .tuple #[.slice none 0 0, .int .i64 1]) (by simp [results, Try.results38, go_sem, *]) rfl ⟨rfl, ?_⟩
  exact bset (bset bw (by omega) _) (by omega) _
end Go.Proofs.Ytmpmibcdpkolkaa.Snap
