/- Texts of this claim, joined: WalPut, WalPut2, Snap7, SnapPlain, Snap8, SupL1, Rows20, SnapL1, WalL1, WalRf3, WalRef, OpenSec, OpenSecs, WalRf. -/
import Derived.Test.YtmpmibcdpkolkaaWalAppendsF
import Derived.Test.YtmpmibcdpkolkaaWalAppendsE
import Derived.Test.YtmpmibcdpkolkaaWalAppendsD
import Derived.Test.YtmpmibcdpkolkaaWalAppendsB
import Derived.Lib.MinMax
import Derived.Deep.RegionLaw
/- The log, in plain Lean: what stands behind what was appended, and that it is read back. No statement is proved here. -/
namespace Go.Proofs.Ytmpmibcdpkolkaa.Wal
open Go.RowKit
open Go.Proofs.Ytmpmibcdpkolkaa.Geom
open Go.Proofs.Ytmpmibcdpkolkaa.Num (putL putL_len getN getN_putL)
open Go.Proofs.Ytmpmibcdpkolkaa.Disk (St Wr write flush read kept new zero512)
open Go.Proofs.Ytmpmibcdpkolkaa.Sec (X X0 text rightF)
open Go.Proofs.Ytmpmibcdpkolkaa.Sup (UpN Gb)
open Go.Proofs.Ytmpmibcdpkolkaa.Enc (Itm Enf enf enf_of More kept_of rd rd_good rd_zero)
set_option linter.unusedVariables false
/-- one behind the other -/
def takes (np : Int) : List (Nat × X) → Rg → Rg × Bool
  | [], r => (r, true)
  | t :: l, r => if (takeF np r t.1 t.2).2 = true then takes np l (takeF np r t.1 t.2).1 else ((takeF np r t.1 t.2).1, false)
theorem takes_append (np : Int) : ∀ (a b : List (Nat × X)) (r r' : Rg), takes np a r = (r', true) → takes np (a ++ b) r = takes np b r'
  | [], b, r, r', h => by injection h with h _; subst h; rfl
  | t :: a, b, r, r', h => by
    unfold takes at h
    rw [List.cons_append]
    show (if _ then _ else _) = _
    split at h
    · rename_i ht
      rw [if_pos ht]
      exact takes_append np a b _ _ h
    · cases h
theorem takes_fold (np : Int) : ∀ (l : List (Nat × X)) (r' : Rg) (pre : List (Nat × X)), okR np pre → takes np l (foldR np pre) = (r', true) → okR np (pre ++ l) ∧ foldR np (pre ++ l) = r'
  | [], r', pre, ho, h => by injection h with h _; rw [List.append_nil]; exact ⟨ho, h⟩
  | t :: l, r', pre, ho, h => by
    unfold takes at h
    split at h
    · rename_i ht
      have := takes_fold np l r' (pre ++ [t]) (okR_snoc ho ht) (by rw [foldR_snoc]; exact h)
      simpa using this
    · cases h
/-- the sectors of a transaction -/
def dSecs (life : UInt64) (q : Nat) (gen : UInt64) : Nat → List Pg → List X
  | _, [] => []
  | i, x :: r => dX 4 life q i gen x.n.toNat x.body :: dSecs life q gen (i + 1) r
def tSecs (life : UInt64) (q : Nat) (t : Tx) : List X := dSecs life q t.gen 0 t.pages ++ [dX 5 life q t.pages.length t.gen t.pages.length []]
theorem dSecs_len (life : UInt64) (q : Nat) (gen : UInt64) : ∀ (l : List Pg) (i : Nat), (dSecs life q gen i l).length = l.length
  | [], i => rfl
  | x :: r, i => by simp [dSecs, dSecs_len life q gen r (i + 1)]
theorem tSecs_len (life : UInt64) (q : Nat) (t : Tx) : (tSecs life q t).length = t.pages.length + 1 := by simp [tSecs, dSecs_len]
theorem dSecs_get (life : UInt64) (q : Nat) (gen : UInt64) : ∀ (l : List Pg) (i k : Nat) (h : k < (dSecs life q gen i l).length) (h' : k < l.length), (dSecs life q gen i l)[k] = dX 4 life q (i + k) gen l[k].n.toNat l[k].body
  | [], i, k, h, h' => absurd h' (by simp)
  | x :: r, i, 0, h, h' => rfl
  | x :: r, i, k + 1, h, h' => by
    have := dSecs_get life q gen r (i + 1) k (by rw [dSecs_len]; simpa using h') (by simpa using h')
    rw [show i + (k + 1) = i + 1 + k by omega]
    exact this
theorem tSecs_at (life : UInt64) (q : Nat) (t : Tx) (k : Nat) (h : k < (tSecs life q t).length) : (tSecs life q t)[k].life = life ∧ (tSecs life q t)[k].seq = ((q + k : Nat) : Int) := by
  have hk := tSecs_len life q t
  have h0 : k < (dSecs life q t.gen 0 t.pages ++ [dX 5 life q t.pages.length t.gen t.pages.length []]).length := h
  show ((dSecs life q t.gen 0 t.pages ++ [dX 5 life q t.pages.length t.gen t.pages.length []])[k]'h0).life = life ∧ ((dSecs life q t.gen 0 t.pages ++ [dX 5 life q t.pages.length t.gen t.pages.length []])[k]'h0).seq = ((q + k : Nat) : Int)
  by_cases h1 : k < t.pages.length
  · rw [List.getElem_append_left (by rw [dSecs_len]; exact h1), dSecs_get _ _ _ _ _ _ _ h1, Nat.zero_add]
    exact ⟨rfl, rfl⟩
  · obtain rfl : k = t.pages.length := by omega
    rw [List.getElem_append_right (Nat.le_of_eq (dSecs_len _ _ _ _ _))]
    simp only [dSecs_len, Nat.sub_self, List.getElem_cons_zero]
    exact ⟨rfl, rfl⟩
/-- numbered from a number on -/
def num (q : Nat) : List X → List (Nat × X)
  | [] => []
  | x :: r => (q, x) :: num (q + 1) r
theorem num_append (q : Nat) : ∀ (a b : List X), num q (a ++ b) = num q a ++ num (q + a.length) b
  | [], b => by simp [num]
  | x :: a, b => by simp only [List.cons_append, num, List.length_cons]; rw [num_append (q + 1) a b, show q + 1 + a.length = q + (a.length + 1) by omega]
theorem num_range (l : List X) : (List.range l.length).map (fun j => (j, l.getD j X0)) = num 0 l := by
  have h : ∀ (l : List X) (q : Nat) (f : Nat → X), (∀ j (h : j < l.length), f (q + j) = l[j]) → (List.range' q l.length).map (fun j => (j, f j)) = num q l := by
    intro l
    induction l with
    | nil => intro q f hf; rfl
    | cons x l ih =>
      intro q f hf
      rw [List.length_cons, List.range'_succ, List.map_cons, num]
      congr 1
      · rw [show f q = x by have := hf 0 (by simp); rw [Nat.add_zero] at this; exact this]
      · exact ih (q + 1) f (fun j hj => by have := hf (j + 1) (by simpa using hj); rw [show q + 1 + j = q + (j + 1) by omega]; simpa using this)
  rw [List.range_eq_range']
  exact h l 0 _ (fun j hj => by simp [List.getD, hj])
theorem take_dX4 {np : Int} {life : UInt64} {q i n : Nat} {gen : UInt64} {b : List UInt8} (r : Rg) (hq : q < 4294967296) (hn : n < 65536) (hnp : (n : Int) < np) (hf : r.frm = q) (hg : r.now ≠ [] → r.gen = gen) (j : Nat) :
    takeF np r j (dX 4 life q i gen n b) = ({ r with gen := gen, now := r.now ++ [⟨(n : Int), b⟩] }, true) := by
  have e0 : (dX 4 life q i gen n b).body = putL q 4 ++ putL n 2 ++ b := rfl
  have h4 := putL_len q 4
  have h2 := putL_len n 2
  have hl : ¬ (dX 4 life q i gen n b).body.length < 6 := by rw [e0]; simp only [List.length_append]; omega
  have ef : fstN (dX 4 life q i gen n b).body = q := by
    unfold fstN
    rw [e0, List.append_assoc, List.take_append_of_le_length (by omega), List.take_of_length_le (by omega), getN_putL]
    exact Nat.mod_eq_of_lt (by rw [show 256 ^ 4 = 4294967296 from rfl]; exact hq)
  have es : sndN (dX 4 life q i gen n b).body = n := by
    unfold sndN
    rw [e0, List.append_assoc, List.drop_append_of_le_length (by omega), List.drop_of_length_le (by omega), List.nil_append, List.take_append_of_le_length (by omega), List.take_of_length_le (by omega), getN_putL]
    exact Nat.mod_eq_of_lt (by rw [show 256 ^ 2 = 65536 from rfl]; exact hn)
  have ed : (dX 4 life q i gen n b).body.drop 6 = b := by
    rw [e0, List.drop_append, List.drop_of_length_le (by rw [List.length_append]; omega), List.nil_append, List.length_append, h4, h2]; rfl
  unfold takeF
  rw [if_neg (fun h => h.elim hl (fun h => h.2 (hg h.1).symm)), ef, es, ed, if_neg (fun h => h hf.symm), if_pos ⟨rfl, hnp⟩]
  rfl
theorem take_dX5 {np : Int} {life : UInt64} {q n : Nat} {gen : UInt64} (r : Rg) (hq : q < 4294967296) (hn : n < 65536) (hf : r.frm = q) (hg : r.now ≠ [] → r.gen = gen) (hln : r.now.length = n) (j : Nat) :
    takeF np r j (dX 5 life q n gen n []) = (⟨r.all ++ [⟨r.now, gen⟩], [], 0, j + 1⟩, true) := by
  have e0 : (dX 5 life q n gen n []).body = putL q 4 ++ putL n 2 := by show putL q 4 ++ putL n 2 ++ [] = _; rw [List.append_nil]
  have h4 := putL_len q 4
  have h2 := putL_len n 2
  have h6 : (dX 5 life q n gen n []).body.length = 6 := by rw [e0, List.length_append]; omega
  have ef : fstN (dX 5 life q n gen n []).body = q := by
    unfold fstN
    rw [e0, List.take_append_of_le_length (by omega), List.take_of_length_le (by omega), getN_putL]
    exact Nat.mod_eq_of_lt (by rw [show 256 ^ 4 = 4294967296 from rfl]; exact hq)
  have es : sndN (dX 5 life q n gen n []).body = n := by
    unfold sndN
    rw [e0, List.drop_append_of_le_length (by omega), List.drop_of_length_le (by omega), List.nil_append, List.take_of_length_le (by omega), getN_putL]
    exact Nat.mod_eq_of_lt (by rw [show 256 ^ 2 = 65536 from rfl]; exact hn)
  unfold takeF
  rw [if_neg (fun h => h.elim (by omega) (fun h => h.2 (hg h.1).symm)), ef, es, if_neg (fun h => h hf.symm), if_neg (fun h => absurd h.1 (show ¬ (5 : Int) = 4 by decide)), if_pos ⟨rfl, hln.symm, h6⟩]
  rfl
theorem takes_data {np : Int} {life : UInt64} {q : Nat} {gen : UInt64} (hq : q < 4294967296) (hnp : np ≤ 65536) : ∀ (l : List Pg) (i : Nat) (r : Rg), (∀ x ∈ l, 0 ≤ x.n ∧ x.n < np) → r.frm = q → (r.now ≠ [] → r.gen = gen) →
    ∃ g, takes np (num (q + i) (dSecs life q gen i l)) r = (⟨r.all, r.now ++ l, g, q⟩, true) ∧ (r.now ++ l ≠ [] → g = gen)
  | [], i, r, _, hf, hg => ⟨r.gen, by subst hf; simp [dSecs, num, takes], by simpa using hg⟩
  | x :: l, i, r, hx, hf, hg => by
    obtain ⟨h0, h1⟩ := hx x (by simp)
    have ht := take_dX4 (np := np) (life := life) (i := i) (b := x.body) (n := x.n.toNat) r hq (by omega) (by omega) hf hg (q + i)
    obtain ⟨g, e1, e2⟩ := takes_data hq hnp l (i + 1) { r with gen := gen, now := r.now ++ [⟨(x.n.toNat : Int), x.body⟩] } (fun y hy => hx y (by simp [hy])) hf (fun _ => rfl)
    have hxe : (⟨(x.n.toNat : Int), x.body⟩ : Pg) = x := by rw [Int.toNat_of_nonneg h0]
    refine ⟨g, ?_, fun _ => e2 (by simp)⟩
    rw [dSecs, num]
    show (if _ then _ else _) = _
    rw [ht, if_pos rfl, show q + i + 1 = q + (i + 1) by omega, e1, hxe]
    simp
/-- a transaction is read -/
theorem takes_tx {np : Int} {life : UInt64} {q : Nat} {t : Tx} (hq : q < 4294967296) (hnp : np ≤ 65536) (hl : t.pages.length < 65536) (hx : ∀ x ∈ t.pages, 0 ≤ x.n ∧ x.n < np) (A : List Tx) (g : UInt64) :
    takes np (num q (tSecs life q t)) ⟨A, [], g, q⟩ = (⟨A ++ [t], [], 0, q + (t.pages.length + 1)⟩, true) := by
  obtain ⟨g', e1, e2⟩ := takes_data (life := life) (gen := t.gen) hq hnp t.pages 0 ⟨A, [], g, q⟩ hx rfl (fun h => absurd rfl h)
  rw [Nat.add_zero] at e1
  unfold tSecs
  rw [num_append, takes_append np _ _ _ _ e1, dSecs_len]
  show (if _ then _ else _) = _
  have ht := take_dX5 (np := np) (life := life) (n := t.pages.length) (gen := t.gen) ⟨A, [] ++ t.pages, g', q⟩ hq hl rfl (fun h => e2 h) (by simp) (q + t.pages.length)
  rw [ht, if_pos rfl]
  rfl
/-- the sectors of transactions, one behind the other -/
def allSecs (life : UInt64) : Nat → List Tx → List X
  | _, [] => []
  | q, t :: r => tSecs life q t ++ allSecs life (q + (t.pages.length + 1)) r
theorem allSecs_snoc (life : UInt64) : ∀ (l : List Tx) (q : Nat) (t : Tx), allSecs life q (l ++ [t]) = allSecs life q l ++ tSecs life (q + (allSecs life q l).length) t
  | [], q, t => by simp [allSecs]
  | u :: l, q, t => by
    rw [List.cons_append, allSecs, allSecs_snoc life l _ t, allSecs, List.append_assoc, List.length_append, tSecs_len]
    congr 3
    omega
theorem allSecs_at (life : UInt64) : ∀ (l : List Tx) (q k : Nat) (h : k < (allSecs life q l).length), (allSecs life q l)[k].life = life ∧ (allSecs life q l)[k].seq = ((q + k : Nat) : Int)
  | [], q, k, h => absurd h (by simp [allSecs])
  | t :: l, q, k, h => by
    simp only [allSecs] at h ⊢
    by_cases h1 : k < (tSecs life q t).length
    · rw [List.getElem_append_left h1]; exact tSecs_at life q t k h1
    · rw [List.getElem_append_right (by omega)]
      have h2 := tSecs_len life q t
      rw [List.length_append] at h
      have := allSecs_at life l (q + (t.pages.length + 1)) (k - (tSecs life q t).length) (by omega)
      rw [show q + (t.pages.length + 1) + (k - (tSecs life q t).length) = q + k by omega] at this
      exact this
theorem takes_all {np : Int} {life : UInt64} (hnp : np ≤ 65536) : ∀ (l : List Tx) (q : Nat) (A : List Tx) (g : UInt64), q + (allSecs life q l).length < 65536 → (∀ t ∈ l, ∀ x ∈ t.pages, 0 ≤ x.n ∧ x.n < np) →
    ∃ g', takes np (num q (allSecs life q l)) ⟨A, [], g, q⟩ = (⟨A ++ l, [], g', q + (allSecs life q l).length⟩, true)
  | [], q, A, g, _, _ => ⟨g, by simp [allSecs, num, takes]⟩
  | t :: l, q, A, g, hq, hx => by
    simp only [allSecs, List.length_append, tSecs_len] at hq ⊢
    obtain ⟨g', e⟩ := takes_all (life := life) hnp l (q + (t.pages.length + 1)) (A ++ [t]) 0 (by omega) (fun u hu => hx u (by simp [hu]))
    refine ⟨g', ?_⟩
    rw [num_append, takes_append np _ _ _ _ (takes_tx (by omega) hnp (by omega) (hx t (by simp)) A g), tSecs_len, e, List.append_assoc]
    congr 2
    omega
/-- what is scanned where just these stand -/
theorem scan_all {np : Int} {life : UInt64} {rdf : Nat → X} {good : Nat → Bool} {N : Nat} {l : List Tx} (hnp : np ≤ 65536) (hN : (allSecs life 0 l).length ≤ N) (hN1 : N < 65536) (hx : ∀ t ∈ l, ∀ x ∈ t.pages, 0 ≤ x.n ∧ x.n < np)
    (hr : ∀ k (h : k < (allSecs life 0 l).length), rdf k = (allSecs life 0 l)[k] ∧ good k = true) (he : (allSecs life 0 l).length = N ∨ good (allSecs life 0 l).length = false) : (scanH np rdf good N 0 r00).all = l := by
  obtain ⟨g', e⟩ := takes_all (life := life) hnp l 0 [] 0 (by omega) hx
  obtain ⟨e1, e2⟩ := takes_fold np _ _ [] (okR_nil np) e
  rw [List.nil_append] at e1 e2
  have hm : (List.range (allSecs life 0 l).length).map (fun j => (j, rdf j)) = num 0 (allSecs life 0 l) := by
    rw [← num_range]
    apply List.map_congr_left
    intro j hj
    have hj' := List.mem_range.1 hj
    rw [(hr j hj').1]
    simp [List.getD, hj']
  rw [scanH_done hN (fun j hj => (hr j hj).2) (by rw [hm]; exact e1) he, hm, e2]
  simp
end Go.Proofs.Ytmpmibcdpkolkaa.Wal

/- The log, in plain Lean: what the disk has behind what was appended. No statement is proved here. -/
namespace Go.Proofs.Ytmpmibcdpkolkaa.Wal
open Go.RowKit
open Go.Proofs.Ytmpmibcdpkolkaa.Geom
open Go.Proofs.Ytmpmibcdpkolkaa.Disk (St Wr write flush read kept new zero512)
open Go.Proofs.Ytmpmibcdpkolkaa.Sec (X X0 text rightF)
open Go.Proofs.Ytmpmibcdpkolkaa.Sup (UpN Gb)
open Go.Proofs.Ytmpmibcdpkolkaa.Enc (Itm Enf enf enf_of More kept_of rd rd_good rd_zero)
set_option linter.unusedVariables false
structure EnfUp (n : Nat) (is : List Itm) (l : List (List UInt8)) (s : St) (q : List (List UInt8) × St × Int) : Prop where
  res : q.2.2 = 0
  up : UpN q.2.1 n
  good : ∀ k (h : k < is.length), Sup.Good q.1 is[k].1 is[k].2 (kept q.2.1.all is[k].1.toNat)
  beside : ∀ p : Nat, (∀ i ∈ is, i.1.toNat ≠ p) → kept q.2.1.all p = kept s.all p
  more : More l q.1
theorem enf_up {n : Nat} {is : List Itm} {l : List (List UInt8)} {s : St} (hu : UpN s n) (hi : ∀ i ∈ is, rightF i.1 i.2 = 0 ∧ 0 ≤ i.1 ∧ i.1 < n) (hd : ∀ a b (ha : a < is.length) (hb : b < is.length), is[a].1 = is[b].1 → a = b) : EnfUp n is l s (enf is l s) := by
  obtain ⟨m, e⟩ := enf_of is l s hu.size hu.down hi
  rcases e.res with ⟨_, _, _, _, h⟩ | ⟨h1, h2, h3, h4, h5, h6⟩
  · exact absurd hu.fuse h
  · rw [hu.pend, List.nil_append] at h3
    have hat : ∀ k (h : k < m.length), ∃ h' : k < is.length, m[k].1 = is[k].1.toNat ∧ Sup.Good (enf is l s).1 is[k].1 is[k].2 m[k].2 := fun k h => ⟨by omega, e.at_ k h (by omega)⟩
    refine ⟨h1, ⟨e.size, h4, h2, h6 hu.fuse⟩, fun k h => ?_, fun p hp => ?_, e.more⟩
    · obtain ⟨_, g1, g2⟩ := hat k (by omega)
      rw [h3, ← g1, kept_of s.all m k (by omega) (fun a b ha hb hab => ?_)]
      · exact g2
      · obtain ⟨ha', ea, _⟩ := hat a ha
        obtain ⟨hb', eb, _⟩ := hat b hb
        rw [ea, eb] at hab
        have p1 := (hi _ (List.getElem_mem ha')).2.1
        have p2 := (hi _ (List.getElem_mem hb')).2.1
        exact hd a b ha' hb' (by omega)
    · rw [h3]
      refine Disk.kept_append s.all m p (fun w hw he => ?_)
      obtain ⟨k, hk, rfl⟩ := List.mem_iff_getElem.1 hw
      obtain ⟨hk', g1, _⟩ := hat k hk
      exact hp _ (List.getElem_mem hk') (g1.symm.trans he)
/-- the k-th place of a log -/
abbrev pl (ga gd gl base : Int) (k : Nat) : Int := logAt ga gd gl (base + (k : Int))
theorem pl_eq {ga gd gl base : Int} (hr : right ga gd gl = true) (hb : 0 ≤ base) (k : Nat) : pl ga gd gl base k = 4 + (base + (k : Int)) % gl := by
  unfold pl logAt; rw [if_pos ⟨hr, by omega⟩]
theorem pl_inj {ga gd gl base : Int} (hr : right ga gd gl = true) (hb : 0 ≤ base) {j k : Nat} (hj : (j : Int) < gl) (hk : (k : Int) < gl) (h : pl ga gd gl base j = pl ga gd gl base k) : j = k := by
  rw [pl_eq hr hb, pl_eq hr hb] at h
  have hy := right_yes hr
  have h1 : (base + (j : Int)) % gl = (base + (k : Int)) % gl := by omega
  have h2 := Int.emod_emod_of_dvd
  have h3 : ((j : Int) - k) % gl = 0 := by
    rw [show (j : Int) - k = (base + j) - (base + k) by omega, Int.sub_emod, h1]; simp
  have h4 := Int.emod_add_mul_ediv ((j : Int) - k) gl
  have hb1 : ((j : Int) - k) < gl := by omega
  have hb2 : -gl < ((j : Int) - k) := by omega
  rw [h3] at h4
  rcases Int.lt_trichotomy (((j : Int) - k) / gl) 0 with hq | hq | hq
  · have : gl * (((j : Int) - k) / gl) ≤ gl * (-1) := Int.mul_le_mul_of_nonneg_left (by omega) (by omega)
    omega
  · rw [hq] at h4; omega
  · have : gl * 1 ≤ gl * (((j : Int) - k) / gl) := Int.mul_le_mul_of_nonneg_left (by omega) (by omega)
    omega
/-- the items of sectors from the k-th place on -/
def items (ga gd gl base : Int) : Nat → List X → List Itm
  | _, [] => []
  | q, x :: r => (pl ga gd gl base q, x) :: items ga gd gl base (q + 1) r
theorem items_len (ga gd gl base : Int) : ∀ (l : List X) (q : Nat), (items ga gd gl base q l).length = l.length
  | [], q => rfl
  | x :: r, q => by simp [items, items_len ga gd gl base r (q + 1)]
theorem items_get (ga gd gl base : Int) : ∀ (l : List X) (q k : Nat) (h : k < (items ga gd gl base q l).length) (h' : k < l.length), (items ga gd gl base q l)[k] = (pl ga gd gl base (q + k), l[k])
  | [], q, k, h, h' => absurd h' (by simp)
  | x :: r, q, 0, h, h' => rfl
  | x :: r, q, k + 1, h, h' => by
    have := items_get ga gd gl base r (q + 1) k (by rw [items_len]; simpa using h') (by simpa using h')
    rw [show q + (k + 1) = q + 1 + k by omega]
    exact this
theorem items_data (ga gd gl base : Int) (life : UInt64) (q : Nat) (gen : UInt64) : ∀ (l : List Pg) (i : Nat), items ga gd gl base (q + i) (dSecs life q gen i l) = dItems ga gd gl base life q gen i l
  | [], i => rfl
  | x :: r, i => by rw [dSecs, items, dItems, ← items_data ga gd gl base life q gen r (i + 1)]; rfl
/-- the disk has these sectors in the log's places, and nothing behind them -/
structure LogIs (ga gd gl base : Int) (n : Nat) (l : List (List UInt8)) (s : St) (xs : List X) : Prop where
  up : UpN s n
  good : ∀ k (h : k < xs.length), Sup.Good l (pl ga gd gl base k) xs[k] (kept s.all (pl ga gd gl base k).toNat)
  zero : ∀ k : Nat, xs.length ≤ k → (k : Int) < gl → kept s.all (pl ga gd gl base k).toNat = zero512
theorem LogIs.new (ga gd gl base : Int) (n : Nat) : LogIs ga gd gl base n [] (new n) [] := ⟨Sup.up_new n, fun k h => absurd h (by simp), fun k _ _ => rfl⟩
theorem pl_bd {ga gd gl base : Int} {n : Nat} (hr : right ga gd gl = true) (hb : 0 ≤ base) (hn : (n : Int) = Geom.sizeOf ga gd gl) (k : Nat) : 0 ≤ pl ga gd gl base k ∧ pl ga gd gl base k < n ∧ pl ga gd gl base k ≤ 1023 := by
  have h1 := log_bd (i := base + (k : Int)) hr (by omega)
  have h2 := log_size hr
  exact ⟨h1.1, by show logAt _ _ _ _ < _; omega, h1.2.1⟩
/-- more of them are written and flushed -/
theorem LogIs.more {ga gd gl base : Int} {n : Nat} {l : List (List UInt8)} {s : St} {xs ys : List X} (h : LogIs ga gd gl base n l s xs) (hr : right ga gd gl = true) (hb : 0 ≤ base) (hn : (n : Int) = Geom.sizeOf ga gd gl) (hl : ((xs.length + ys.length : Nat) : Int) ≤ gl)
    (hy : ∀ k (hk : k < ys.length), rightF (pl ga gd gl base (xs.length + k)) ys[k] = 0) : (enf (items ga gd gl base xs.length ys) l s).2.2 = 0 ∧ LogIs ga gd gl base n (enf (items ga gd gl base xs.length ys) l s).1 (enf (items ga gd gl base xs.length ys) l s).2.1 (xs ++ ys) := by
  have hg := fun (k : Nat) (hk : k < ys.length) => items_get ga gd gl base ys xs.length k (by rw [items_len]; exact hk) hk
  have e := enf_up (l := l) (is := items ga gd gl base xs.length ys) h.up (fun i hi => by
    obtain ⟨k, hk, rfl⟩ := List.mem_iff_getElem.1 hi
    rw [items_len] at hk
    rw [hg k hk]
    have := pl_bd hr hb hn (xs.length + k)
    exact ⟨hy k hk, this.1, this.2.1⟩) (fun a b ha hb' hab => by
    rw [items_len] at ha hb'
    rw [hg a ha, hg b hb'] at hab
    have := pl_inj hr hb (j := xs.length + a) (k := xs.length + b) (by omega) (by omega) hab
    omega)
  have hbs : ∀ k : Nat, (k < xs.length ∨ xs.length + ys.length ≤ k) → (k : Int) < gl → kept (enf (items ga gd gl base xs.length ys) l s).2.1.all (pl ga gd gl base k).toNat = kept s.all (pl ga gd gl base k).toNat := fun k hk hkg => e.beside _ (fun i hi he => by
    obtain ⟨j, hj, rfl⟩ := List.mem_iff_getElem.1 hi
    rw [items_len] at hj
    rw [hg j hj] at he
    have p1 := pl_bd hr hb hn (xs.length + j)
    have p2 := pl_bd hr hb hn k
    have := pl_inj hr hb (j := xs.length + j) (k := k) (by omega) hkg (by simp only at he; omega)
    omega)
  refine ⟨e.res, e.up, fun k hk => ?_, fun k hk hkg => ?_⟩
  · rw [List.length_append] at hk
    by_cases h1 : k < xs.length
    · rw [List.getElem_append_left h1, hbs k (.inl h1) (by omega)]
      exact e.more _ _ _ (h.good k h1)
    · rw [List.getElem_append_right (by omega)]
      have h2 := e.good (k - xs.length) (by rw [items_len]; omega)
      rw [hg _ (by omega), show xs.length + (k - xs.length) = k by omega] at h2
      exact h2
  · rw [List.length_append] at hk
    rw [hbs k (.inr hk) hkg]
    exact h.zero k (by omega) hkg
/-- a transaction is appended -/
theorem LogIs.append {ga gd gl base : Int} {n : Nat} {l : List (List UInt8)} {s : St} {xs : List X} {t : Tx} {life : UInt64} (h : LogIs ga gd gl base n l s xs) (hr : right ga gd gl = true) (hb : 0 ≤ base) (hn : (n : Int) = Geom.sizeOf ga gd gl) (hl : (xs.length : Int) + t.pages.length < gl) (hbd : badB ga gd gl t.pages = false) :
    (putF ga gd gl base life xs.length t.gen t.pages l s).2.2 = 0 ∧ LogIs ga gd gl base n (putF ga gd gl base life xs.length t.gen t.pages l s).1 (putF ga gd gl base life xs.length t.gen t.pages l s).2.1 (xs ++ tSecs life xs.length t) := by
  have hy64 := right_yes hr
  have hd := items_data ga gd gl base life xs.length t.gen t.pages 0
  rw [Nat.add_zero] at hd
  obtain ⟨r1, h1⟩ := h.more (ys := dSecs life xs.length t.gen 0 t.pages) hr hb hn (by rw [dSecs_len]; omega) (fun k hk => by
    rw [dSecs_len] at hk
    rw [dSecs_get _ _ _ _ _ _ _ hk, Nat.zero_add]
    have hp := pl_bd hr hb hn (xs.length + k)
    exact dX_right hp.1 hp.2.2 (by decide) (by omega) (badB_of hbd hk).2.2)
  rw [hd] at r1 h1
  obtain ⟨r2, h2⟩ := h1.more (ys := [dX 5 life xs.length t.pages.length t.gen t.pages.length []]) hr hb hn (by simp only [List.length_append, dSecs_len, List.length_singleton]; omega) (fun k hk => by
    obtain rfl : k = 0 := by simp at hk; exact hk
    have hp := pl_bd hr hb hn ((xs ++ dSecs life xs.length t.gen 0 t.pages).length + 0)
    exact dX_right hp.1 hp.2.2 (by decide) (by omega) (by simp))
  rw [List.length_append, dSecs_len] at r2 h2
  unfold putF
  rw [if_pos r1]
  refine ⟨r2, ?_⟩
  have := h2
  rw [List.append_assoc] at this
  exact this
/-- the scan of such a disk -/
theorem LogIs.scan {ga gd gl base : Int} {n : Nat} {l : List (List UInt8)} {s : St} {life : UInt64} {ts : List Tx} (h : LogIs ga gd gl base n l s (allSecs life 0 ts)) (hr : right ga gd gl = true) (hb : 0 ≤ base) (hn : (n : Int) = Geom.sizeOf ga gd gl) (hl : ((allSecs life 0 ts).length : Int) ≤ gl) (hx : ∀ t ∈ ts, ∀ x ∈ t.pages, 0 ≤ x.n ∧ x.n < pagesOf ga gd gl) : scanTx l s ga gd gl base life = ts := by
  have hy := right_yes hr
  have hp := pagesOf_bd ga gd gl
  have hrd : ∀ k (hk : k < (allSecs life 0 ts).length), rdL l s ga gd gl base k = ((allSecs life 0 ts)[k], 0) := fun k hk => by
    have p := pl_bd hr hb hn k
    exact rd_good h.up p.1 p.2.1 (h.good k hk)
  unfold scanTx
  refine scan_all (life := life) (by omega) (by omega) (by omega) hx (fun k hk => ?_) ?_
  · have e := hrd k hk
    have a := allSecs_at life ts 0 k hk
    refine ⟨by rw [e], ?_⟩
    unfold goodL
    rw [e]
    simp only [a.1, a.2]
    simp
  · by_cases hN : (allSecs life 0 ts).length = gl.toNat
    · exact .inl hN
    · right
      have p := pl_bd hr hb hn (allSecs life 0 ts).length
      have e : rdL l s ga gd gl base (allSecs life 0 ts).length = (X0, 7) := rd_zero h.up p.1 p.2.1 (h.zero _ (Nat.le_refl _) (by omega))
      unfold goodL
      rw [e]
      simp
end Go.Proofs.Ytmpmibcdpkolkaa.Wal

/- The pages of a life: snap.Bad, and what they come to. -/
namespace Go.Proofs.Ytmpmibcdpkolkaa.Snap
open Go.RowKit Go.Shelf
open Go.Proofs.Ytmpmibcdpkolkaa.Geom
open Go.Proofs.Ytmpmibcdpkolkaa.Ch (SeqOk range_ok)
open Go.Proofs.Ytmpmibcdpkolkaa.Sup (Gb gv gcell srightF gthree)
open Go.Proofs.Ytmpmibcdpkolkaa.Disk (St DAt Did New8 Told8 read_any)
open Go.Proofs.Ytmpmibcdpkolkaa.Sec (X SymAt text sumOf sumAfter ckS blankB rightF encode_sym decode_sym right_0 right_2 xv RetX X0 five5x)
attribute [local go_sem] Oper.semAt_some
set_option linter.unusedVariables false
set_option maxRecDepth 100000
theorem infoI : (Try.prog.info? 3).map (fun i => (i.zero, i.size, i.bytes)) = some (some (.int .i64 0), 1, 8) := by kernel_rfl
/-- the numbers of those that are not there -/
def bads (l : List It) : List Int := (l.filter (fun x => !x.is)).map (fun x => (x.k : Int))
def badL (l : List (List UInt8)) (s : St) (ga gd gl : Int) (life : UInt64) (N : Nat) : List Int := ((List.range N).filter (fun k => !isPg l s ga gd gl life k)).map (fun k : Nat => (k : Int))
theorem bads_yes {pre : List It} {x : It} (h : x.is = true) : bads (pre ++ [x]) = bads pre := by simp [bads, h]
theorem bads_no {pre : List It} {x : It} (h : x.is = false) : bads (pre ++ [x]) = bads pre ++ [(x.k : Int)] := by simp [bads, h]
theorem bads_want {l : List (List UInt8)} {s : St} {ga gd gl : Int} {life : UInt64} {N : Nat} {xs : List It} (h : xs.map It.f = (List.range N).map (want l s ga gd gl life)) : bads xs = badL l s ga gd gl life N := by
  have e1 : bads xs = ((xs.map It.f).filter (fun t => !t.2.1)).map (fun t => (t.1 : Int)) := by
    unfold bads
    rw [List.filter_map, List.map_map]
    rfl
  rw [e1, h, List.filter_map, List.map_map]
  rfl
def RetBad (w : World) (l : List Int) (e : Ending) (w' : World) : Prop := ∃ A c, e = .returned (.tuple #[.slice A l.length c, .int .i64 0]) ∧ w'.ownsRow w.heap.size 3 1 (.slice A l.length c) l.length (l.map (Value.int .i64))
/-- between two rounds of Bad -/
def BInv (w w4 : World) (pre : List It) (X : World) : Prop := ((∃ v, Boxed X (w.heap.size + 1) 63 v ∧ X.ownsRow w4.heap.size 3 1 v (bads pre).length ((bads pre).map (Value.int .i64)) ∧ True) ∧ Boxed X (w.heap.size + 1 + 1) 28 (.int .i64 0) ∧ KpK (w.heap.size + 1) w4.heap.size w4 X ∧ Below w.heap.size w X) ∧ True
theorem BInv.own {w w4 : World} (h1 : w.heap.size + 1 + 1 < w4.heap.size) : OwnFrom w4.heap.size (BInv w w4) := by
  intro pre X X' row hI hg hr
  refine ⟨⟨holdsRow_own w4.heap.size (w.heap.size + 1) 63 3 1 (fun pre : List It => (bads pre).length) (fun pre => (bads pre).map (Value.int .i64)) (fun _ _ => True) pre X X' row hI.1.1 hg (fun g e => (hr g e).2), ?_, kpK_grown hI.1.2.2.1 hg (fun r e => (hr r e).1) (Nat.le_refl _), hI.1.2.2.2.grown hg (by have := hI.1.2.2.2.size; omega) (fun r e => by have := (hr r e).1; omega)⟩, trivial⟩
  exact hI.1.2.1.kept hg (fun e => by have := (hr _ e.symm).1; omega)
set_option maxHeartbeats 2000000 in
theorem bad_any (g : Nat) (fp : List Nat) (s : St) (gS bS : Nat) (l : List (List UInt8)) (ga gd gl : Int) (life : UInt64) (w : World) (hG : Gb ga gd gl) (h : Both w g fp s gS bS l) (hl : l.length ≤ 1000000) (hs : s.sz ≤ 90000000) (hf : srightF s ga gd gl = 0) (hd : s.down = false) (N : Nat) (hN : (N : Int) = pagesOf ga gd gl) :
    Calls Try.prog 38 #[.pointer (some ⟨g, 0, none⟩), .pointer (some ⟨gS, 0, none⟩), gv ga gd gl, .int .u64 (life.toNat : Int)] w fun e w' => RetBad w (badL l s ga gd gl life N) e w' ∧ Below w.heap.size w w' := by
  have FG := Blk.new w (gcell ga gd gl) 23
  obtain ⟨z0, z1, z2⟩ := gthree FG
  have HR := Lib.hid (fun W (bW : Below w.heap.size w W) => right_any g fp s gS ga gd gl life W hG (h.disk.on bW))
  rw [hf] at HR
  have hsz : (s.size : Int) = Geom.sizeOf ga gd gl := by
    unfold srightF at hf
    split at hf
    · rename_i h; exact h.2
    · cases hf
  refine (callsIn_wide (n := 8)).1 ?_
  refine callsIn_of_wp_marks Try.func38 rfl trivial ?_ rfl
  simp only [Try.ntmps38, List.size_toArray, List.length_cons, List.length_nil, Nat.reduceAdd, Nat.reduceSub, Array.replicate_succ, Array.replicate_zero, List.push_toArray, List.append_toArray, List.nil_append, List.cons_append]
  gi_wp2_with fail
  refine wpIn_wide.2 (wp_scope_straight ((wpIn_wide (n := 8)).1 ?_))
  gi_wp2_with fail
  have hb3 : ∃ w0, w0 = (((w.alloc (.cells (gcell ga gd gl).toArray 23)).alloc (.cells #[.slice none 0 0] 63)).alloc (.cells #[.int .i64 0] 28)).alloc (.cells (acell (.pointer (some ⟨g, 0, none⟩)) (.pointer (some ⟨gS, 0, none⟩)) ga gd gl life).toArray 138) := ⟨_, rfl⟩
  obtain ⟨w0, hw0⟩ := hb3
  have bx8 : Boxed w0 (w.heap.size + 1) 63 (.slice none 0 0) := by
    have := Boxed.new (w.alloc (.cells (gcell ga gd gl).toArray 23)) 63 (.slice none 0 0)
    simp at this
    rw [hw0]
    exact (Below.heap_alloc _ _ _ (by simp)).trans ((Below.heap_alloc _ _ _ (by simp)).trans this)
  have bx9 : Boxed w0 (w.heap.size + 1 + 1) 28 (.int .i64 0) := by
    have := Boxed.new ((w.alloc (.cells (gcell ga gd gl).toArray 23)).alloc (.cells #[.slice none 0 0] 63)) 28 (.int .i64 0)
    simp at this
    rw [hw0]
    exact (Below.heap_alloc _ _ _ (by simp)).trans this
  have ba : Blk w0 (w.heap.size + 1 + 1 + 1) (acell (.pointer (some ⟨g, 0, none⟩)) (.pointer (some ⟨gS, 0, none⟩)) ga gd gl life) := by
    rw [hw0]
    have := Blk.new (((w.alloc (.cells (gcell ga gd gl).toArray 23)).alloc (.cells #[.slice none 0 0] 63)).alloc (.cells #[.int .i64 0] 28)) (acell (.pointer (some ⟨g, 0, none⟩)) (.pointer (some ⟨gS, 0, none⟩)) ga gd gl life) 138
    simpa using this
  have b0 : Below w.heap.size w w0 := by rw [hw0]; exact bt (b3alloc _ _ _ _) (b1alloc _ _)
  rw [show (((w.alloc (.cells #[.int .i64 ga, .int .i64 gd, .int .i64 gl] 23)).alloc (.cells #[.slice none 0 0] 63)).alloc (.cells #[.int .i64 0] 28)).alloc (.cells #[.pointer (some ⟨g, 0, none⟩), .pointer (some ⟨gS, 0, none⟩), .int .i64 ga, .int .i64 gd, .int .i64 gl, .int .u64 (life.toNat : Int)] 138) = w0 from hw0.symm]
  clear hw0 z0 z1 z2 FG
  refine ⟨trivial, (callsIn_wide.2 (HR.out _ b0)).mono ?_⟩
  rintro e1 w1 ⟨rfl, b1⟩
  have b01 := bt b0 b1
  have hba1 := (ba.on b1).lt
  obtain ⟨z0, z1, z2, z3, z4, z5⟩ := six6 (ba.on b1)
  gi_wp2_with fail
  refine wpIn_label ?_
  gi_wp2_with fail
  refine ⟨trivial, (callsIn_wide.2 (pages_any g gS (w.heap.size + 1 + 1) ga gd gl life w1)).mono ?_⟩
  rintro e4 w4 ⟨rfl, hP4, b4⟩
  have b04 := bt b01 b4
  have bb4 := bt b1 b4
  have bx84 : Boxed w4 (w.heap.size + 1) 63 (.slice none 0 0) := (bb4.block _ bx8.lt).trans bx8
  have bx94 : Boxed w4 (w.heap.size + 1 + 1) 28 (.int .i64 0) := (bb4.block _ bx9.lt).trans bx9
  clear z0 z1 z2 z3 z4 z5 bx8 bx9 ba bb4 b0 b1 b01
  gi_wp2_with fail
  obtain ⟨i0, hi0, hz0, hz1, hz2⟩ := info_parts infoI
  have hs1 : w.heap.size + 3 < w1.heap.size := by have := hba1; omega
  have hs4 : w1.heap.size + 2 < w4.heap.size := hP4.there.lt
  have hB4 := h.on b04
  have hne : ∀ j ∈ bS :: gS :: fp, j ≠ w.heap.size + 1 := by
    intro j hj
    rcases List.mem_cons.1 hj with e | e
    · have := h.sym.lt.2; omega
    rcases List.mem_cons.1 e with e | e
    · have := h.sym.lt.1; omega
    · have := h.disk.lt _ e; omega
  have hN85 : N ≤ 85 := by have := pagesOf_bd ga gd gl; omega
  have hI : OwnFrom w4.heap.size (BInv w w4) := BInv.own (by omega)
  refine range_ok (n := 8) (by omega) (gf := 128) (lb := #[.pointer (some ⟨w1.heap.size, 0, none⟩), .pointer (some ⟨w1.heap.size + 1, 0, none⟩), .pointer (some ⟨w1.heap.size + 2, 0, none⟩)]) rfl (enters_of Try.func128 (by kernel_rfl) rfl)
    (pages2_ok 7 (by omega) (w.heap.size + 1) w1.heap.size (w1.heap.size + 1) (w1.heap.size + 2) (w.heap.size + 1 + 1) g fp s gS bS l ga gd gl life N hG hN hl hs hd hsz w4 hP4 hB4 hne (by omega) (by omega))
    (fun h k => h.trans k) (fun W l o o' hl h _ _ => KpK.turn W l o' hl) (Below.refl _ _) (fun _ => rfl)
    (BInv w w4)
    (fun c (pre' : List It) X => False)
    hI
    (fun c pre X X' row hI hg hr => hI)
    ⟨⟨⟨_, bx84, own_nil _ _ _ _, trivial⟩, bx94, KpK.refl _ _ _, b04⟩, trivial⟩
    (fun pre x a' X => ∃ pb, a' = { tmps := #[.pointer (some ⟨g, 0, none⟩), .pointer (some ⟨gS, 0, none⟩), gv ga gd gl, .int .u64 (life.toNat : Int), undef, undef, .pointer (some ⟨w.heap.size, 0, none⟩), undef, .pointer (some ⟨w.heap.size + 1, 0, none⟩), .pointer (some ⟨w.heap.size + 1 + 1, 0, none⟩), .pointer (some ⟨w.heap.size + 1 + 1 + 1, 0, none⟩), .int .i64 0, .int .i64 (x.k : Int), .pointer (some ⟨pb, 0, none⟩), .pointer (some ⟨g, 0, none⟩), .pointer (some ⟨gS, 0, none⟩), (gv ga gd gl), .int .u64 (life.toNat : Int), (av (.pointer (some ⟨g, 0, none⟩)) (.pointer (some ⟨gS, 0, none⟩)) ga gd gl life), (av (.pointer (some ⟨g, 0, none⟩)) (.pointer (some ⟨gS, 0, none⟩)) ga gd gl life), .int .i64 0, .int .i64 0, .bool false, undef, (av (.pointer (some ⟨g, 0, none⟩)) (.pointer (some ⟨gS, 0, none⟩)) ga gd gl life), .func (.func 128) #[] #[.pointer (some ⟨w1.heap.size, 0, none⟩), .pointer (some ⟨w1.heap.size + 1, 0, none⟩), .pointer (some ⟨w1.heap.size + 2, 0, none⟩)], .int .i64 (x.k : Int), .agg #[.slice x.A x.body.length x.c, .bool x.is], undef, undef, undef, undef, undef, undef, undef, undef, undef, undef], defers := [] } ∧ Blk X pb [.slice x.A x.body.length x.c, .bool x.is] ∧ w4.heap.size ≤ pb ∧ It.Ok w4.heap.size X x ∧ BInv w w4 pre X)
    ?_ ?assign ?body ?done ?stop
  · rintro pre x a' X lp o o' hl ho hc ⟨pb, rfl, hpb, hpl, hok, hIx⟩
    have hg := grownBy_putObj' X lp o'
    refine ⟨pb, rfl, ?_, hpl, hok.grown hg (fun r e => by cases e; exact ⟨o, ho, hc⟩), hI pre X _ (some lp) hIx hg (fun r e => by cases e; exact ⟨hl, o, ho, hc⟩)⟩
    obtain ⟨t, ht⟩ := hpb
    refine ⟨t, (hg.block pb (lt_of_block ht) (fun e => ?_)).trans ht⟩
    injection e with e
    subst e
    rw [ht] at ho; cases ho; cases hc
  case assign =>
    intro lp pre x X hIx hok hlen
    unfold It.enc
    simp [List.zip_toArray, List.setIfInBounds_toArray]
    gi_wp2
    refine ⟨KeepsOthers.alloc _ _, KpK.of_below (b1alloc _ _) hIx.1.2.2.1.size, X.heap.size, rfl, Blk.new X _ _, hIx.1.2.2.1.size, hok.on (b1alloc _ _), hI.alloc _ hIx⟩
  case body =>
    rintro lp pre x a' X ⟨pb, rfl, hpb, hpl, hok, hI'⟩ hlen
    obtain ⟨⟨⟨v, hv, hrow, _⟩, hv9, hkp, hB⟩, _⟩ := hI'
    have pc0 := hpb.cell (k := 0) (by simp)
    have pc1 := hpb.cell (k := 1) (by simp)
    simp only [List.getElem_cons_zero, List.getElem_cons_succ] at pc0 pc1
    have hvc := hv.cell
    have hvf := hv.frozen
    have hlx : w.heap.size + 1 < X.heap.size := hv.lt
    have hszX : w4.heap.size ≤ X.heap.size := hkp.size
    have hbl : (bads pre).length ≤ N := by unfold bads; rw [List.length_map]; exact Nat.le_trans (List.length_filter_le _ _) (by omega)
    obtain ⟨xk, xA, xc, xb, xi⟩ := x
    cases xi with
    | true =>
      gi_wp2
      exact ⟨KeepsOthers.refl _, KpK.refl _ _ _, ⟨⟨v, hv, by rw [bads_yes rfl]; exact hrow, trivial⟩, hv9, hkp, hB⟩, trivial⟩
    | false =>
      have bX1 := b1alloc X (.cells #[.int .i64 (xk : Int)] 3)
      gi_wp2_with (refine Ch.wpListIn_append_rd _ rfl _ _ _ rfl w4.heap.size 3 i0 _ 1 8 Try.underlying63 hi0 hz0 hz1 hz2 rfl (by omega) v (bads pre).length _ rfl (hrow.alloc _) _ _ 1 1 [.int .i64 (xk : Int)] rfl rfl (Rd.lit X _ _ _ (X.heap.size + 1) rfl (by omega)) (by intro u hu; simp at hu; subst hu; rfl) (by simp only [maxLen]; omega) (by omega) (by simp; omega) ?_; intro v1 w3 hown3 hg3 hat3; obtain ⟨g3, c3, rfl⟩ := ownsRow_succ hown3; have hbx := Lib.hid (box_app hv (by decide) hrow hszX (by omega) bX1 hown3 hg3); have hc3 := hbx.out.1.cell; have hf3 := hbx.out.1.frozen)
      obtain ⟨_, h1, h2, h3, h4, h5, h6⟩ := hbx.out
      refine ⟨h3, h4, ⟨⟨_, h1, ?_, trivial⟩, (h6 28 (by decide) (by decide) _ _ hv9).trans hv9, hkp.trans h4, hB.trans (h5 _ (by omega))⟩, trivial⟩
      rw [bads_no rfl, List.length_append, List.map_append]
      exact h2
  case done =>
    rintro D xs X hD hxs ⟨⟨⟨v, hv, hrow, _⟩, hv9, hkp, hB⟩, _⟩ hKD
    have hres := bads_want hxs
    have Hres := Lib.hid hres
    have hln : (bads xs).length ≤ N := by unfold bads; rw [List.length_map]; refine Nat.le_trans (List.length_filter_le _ _) ?_; have := congrArg List.length hxs; simp at this; omega
    clear hxs hres
    obtain ⟨A2, c2, rfl⟩ := own_form hrow
    have hvc := hv.cell
    have hvf := hv.frozen
    have hvl := hv.lt
    have hvc9 := hv9.cell
    have hvf9 := hv9.frozen
    have hvl9 := hv9.lt
    have hv8 := (hv.set (.slice A2 (bads xs).length c2)).kept (grownBy_setCell' _ (w.heap.size + 1 + 1) (.int .i64 0)) (fun e => by injection e with e; omega)
    have hv99 := (hv9.kept (grownBy_setCell' X (w.heap.size + 1) (.slice A2 (bads xs).length c2)) (fun e => by injection e with e; omega)).set (.int .i64 0)
    have hrow8 := (hrow.kept (grownBy_setCell' X (w.heap.size + 1) (.slice A2 (bads xs).length c2)) (.inr (hv.not_row (by decide) hrow).symm)).kept (grownBy_setCell' _ (w.heap.size + 1 + 1) (.int .i64 0)) (.inr (fun e => by have := own_block hrow e; omega))
    have hDl : D < X.heap.size := (Array.getElem?_eq_some_iff.1 hKD).1
    gi_wp2_with fail
    try rw [Exit.noGoto_ret]
    have hD2 : ((X.setCell ⟨w.heap.size + 1, 0, none⟩ (.slice A2 (bads xs).length c2)).setCell ⟨w.heap.size + 1 + 1, 0, none⟩ (.int .i64 0)).heap[D]? = some (.deferred (some [])) :=
      ((grownBy_setCell' _ (w.heap.size + 1 + 1) (.int .i64 0)).block D (by simp [World.setCell]; omega) (fun e => by injection e with e; omega)).trans (((grownBy_setCell' X (w.heap.size + 1) (.slice A2 (bads xs).length c2)).block D hDl (fun e => by injection e with e; omega)).trans hKD)
    obtain ⟨Z, hZ⟩ : ∃ Z, Z = (X.setCell ⟨w.heap.size + 1, 0, none⟩ (.slice A2 (bads xs).length c2)).setCell ⟨w.heap.size + 1 + 1, 0, none⟩ (.int .i64 0) := ⟨_, rfl⟩
    have hBZ : Below w.heap.size w Z := by rw [hZ]; exact bset (bset hB (by omega) _) (by omega) _
    rw [← hZ] at hD2 hv8 hv99 hrow8 ⊢
    have g0 := grownBy_putObj' Z D (.deferred none)
    have v8 := (hv8.kept g0 (fun e => by injection e with e; omega)).cell
    have v9 := (hv99.kept g0 (fun e => by injection e with e; omega)).cell
    clear hZ
    refine ⟨by simp, .inl ⟨_, _, rfl, run_takeDeferred hD2, ?_⟩⟩
    refine ⟨.tuple #[.slice A2 (bads xs).length c2, .int .i64 0], (by simp [results, Try.results38, go_sem, v8, v9]), ?_⟩
    rw [← Hres.out]
    exact ⟨⟨A2, c2, rfl, own_base (ownsRow_putObj hrow8 _ hD2 rfl) b04.size⟩, hBZ.trans (belowK_b (w := w) (Nat.le_refl _) _ D _ _ (by have := b04.size; omega) hD2 rfl rfl)⟩
  case stop => exact fun D c pre' X hD hk hf => hf.elim
end Go.Proofs.Ytmpmibcdpkolkaa.Snap

/- The pages of a life, in plain Lean: what stands behind a write, and a power that goes. -/
namespace Go.Proofs.Ytmpmibcdpkolkaa.Snap
open Go.RowKit
open Go.Proofs.Ytmpmibcdpkolkaa.Geom
open Go.Proofs.Ytmpmibcdpkolkaa.Disk (St Wr write flush read kept burn restart fates fate keptAt new zero512 arm)
open Go.Proofs.Ytmpmibcdpkolkaa.Sec (X text text_len sumOf sumOf_len sumAfter ckS rightF X0 place_of)
open Go.Proofs.Ytmpmibcdpkolkaa.Sup (UpN text_inj)
open Go.Proofs.Ytmpmibcdpkolkaa.Enc (Itm Enf enf enf_of More kept_of rd rd_good rd_sound restart_up)
set_option linter.unusedVariables false
theorem pItems_get (ga gd gl : Int) (life : UInt64) : ∀ (bs : List (List UInt8)) (n k : Nat) (h : k < (pItems ga gd gl life n bs).length) (h' : k < bs.length), (pItems ga gd gl life n bs)[k] = (areaAt ga gd gl life.toNat ((n + k : Nat) : Int), px life (n + k) bs[k])
  | [], n, k, h, h' => absurd h' (by simp)
  | b :: r, n, 0, h, h' => rfl
  | b :: r, n, k + 1, h, h' => by
    have := pItems_get ga gd gl life r (n + 1) k (by rw [pItems_len]; simpa using h') (by simpa using h')
    rw [show n + (k + 1) = n + 1 + k by omega]
    exact this
/-- pages that may be -/
structure PagesOk (ga gd gl : Int) (n : Nat) (pages : List (List UInt8)) : Prop where
  size : (n : Int) = Geom.sizeOf ga gd gl
  len : (pages.length : Int) = pagesOf ga gd gl
  short : ∀ j (hj : j < pages.length), pages[j].length ≤ 479
theorem PagesOk.small {ga gd gl : Int} {n : Nat} {pages : List (List UInt8)} (h : PagesOk ga gd gl n pages) : pages.length ≤ 85 ∧ n ≤ 238 := by
  have := pagesOf_bd ga gd gl
  have := size_bd ga gd gl
  have := h.size
  have := h.len
  omega
theorem PagesOk.place {ga gd gl : Int} {n : Nat} {pages : List (List UInt8)} (h : PagesOk ga gd gl n pages) (life : UInt64) {k : Nat} (hk : k < pages.length) : 0 ≤ areaAt ga gd gl life.toNat k ∧ areaAt ga gd gl life.toNat k < n ∧ areaAt ga gd gl life.toNat k ≤ 1023 := by
  have := area_ok (ga := ga) (gd := gd) (gl := gl) (life := life) (k := k) (by have := h.len; omega)
  rw [h.size]; exact this
theorem area_eq {ga gd gl : Int} {m k : Nat} (h : (k : Int) < pagesOf ga gd gl) : areaAt ga gd gl m k = 4 + gl + (m : Int) % 2 * pagesOf ga gd gl + k := by unfold areaAt; rw [if_pos ⟨by omega, h⟩]
theorem area_inj {ga gd gl : Int} {m k j : Nat} (hk : (k : Int) < pagesOf ga gd gl) (hj : (j : Int) < pagesOf ga gd gl) (h : areaAt ga gd gl m k = areaAt ga gd gl m j) : k = j := by
  rw [area_eq hk, area_eq hj] at h; omega
theorem area_apart {ga gd gl : Int} {m m' k j : Nat} (hm : m % 2 ≠ m' % 2) (hk : (k : Int) < pagesOf ga gd gl) (hj : (j : Int) < pagesOf ga gd gl) : areaAt ga gd gl m k ≠ areaAt ga gd gl m' j := by
  rw [area_eq hk, area_eq hj]
  rcases (show ((m : Int) % 2 = 0 ∧ (m' : Int) % 2 = 1) ∨ ((m : Int) % 2 = 1 ∧ (m' : Int) % 2 = 0) by omega) with ⟨h1, h2⟩ | ⟨h1, h2⟩ <;> rw [h1, h2] <;> omega
theorem PagesOk.items {ga gd gl : Int} {n : Nat} {pages : List (List UInt8)} (h : PagesOk ga gd gl n pages) (life : UInt64) : ∀ i ∈ pItems ga gd gl life 0 pages, ∃ k, ∃ hk : k < pages.length, i = (areaAt ga gd gl life.toNat k, px life k pages[k]) := by
  intro i hi
  obtain ⟨k, hk, rfl⟩ := List.mem_iff_getElem.1 hi
  rw [pItems_len] at hk
  exact ⟨k, hk, by rw [pItems_get _ _ _ _ _ _ _ _ hk]; simp⟩
theorem PagesOk.pright {ga gd gl : Int} {n : Nat} {pages : List (List UInt8)} (h : PagesOk ga gd gl n pages) (life : UInt64) {k : Nat} (hk : k < pages.length) : rightF (areaAt ga gd gl life.toNat k) (px life k pages[k]) = 0 :=
  px_right (h.place life hk).1 (h.place life hk).2.2 (by have := h.small.1; omega) (h.short k hk)
theorem PagesOk.okI {ga gd gl : Int} {n : Nat} {pages : List (List UInt8)} (h : PagesOk ga gd gl n pages) (life : UInt64) : ∀ i ∈ pItems ga gd gl life 0 pages, rightF i.1 i.2 = 0 ∧ 0 ≤ i.1 ∧ i.1 < n := by
  intro i hi
  obtain ⟨k, hk, rfl⟩ := h.items life i hi
  exact ⟨h.pright life hk, (h.place life hk).1, (h.place life hk).2.1⟩
theorem PagesOk.run {ga gd gl : Int} {n : Nat} {pages : List (List UInt8)} (h : PagesOk ga gd gl n pages) (life : UInt64) (l : List (List UInt8)) {s : St} (h2 : s.size = n) (hd : s.down = false) : ∃ m, Enf n (pItems ga gd gl life 0 pages) l s (snapF ga gd gl life pages l s) m :=
  enf_of _ l s h2 hd (h.okI life)
/-- the writes are at the life's places -/
theorem PagesOk.at_ {ga gd gl : Int} {n : Nat} {pages : List (List UInt8)} (h : PagesOk ga gd gl n pages) {life : UInt64} {l : List (List UInt8)} {s : St} {q : List (List UInt8) × St × Int} {m : List Wr} (e : Enf n (pItems ga gd gl life 0 pages) l s q m) :
    m.length ≤ pages.length ∧ ∀ k (hk : k < m.length) (hk' : k < pages.length), m[k].1 = (areaAt ga gd gl life.toNat k).toNat ∧ Sup.Good q.1 (areaAt ga gd gl life.toNat k) (px life k pages[k]) m[k].2 := by
  have hl := e.len
  rw [pItems_len] at hl
  refine ⟨hl, fun k hk hk' => ?_⟩
  have := e.at_ k hk (by rw [pItems_len]; exact hk')
  rw [pItems_get _ _ _ _ _ _ _ _ hk'] at this
  simpa using this
theorem PagesOk.good {ga gd gl : Int} {n : Nat} {pages : List (List UInt8)} (h : PagesOk ga gd gl n pages) {life : UInt64} {l : List (List UInt8)} {s : St} {q : List (List UInt8) × St × Int} {m : List Wr} (e : Enf n (pItems ga gd gl life 0 pages) l s q m) (hm : m.length = (pItems ga gd gl life 0 pages).length) (all : List Wr) {k : Nat} (hk : k < pages.length) :
    Sup.Good q.1 (areaAt ga gd gl life.toNat k) (px life k pages[k]) (kept (all ++ m) (areaAt ga gd gl life.toNat k).toNat) := by
  rw [pItems_len] at hm
  obtain ⟨_, hat⟩ := h.at_ e
  obtain ⟨h1, h2⟩ := hat k (by omega) hk
  rw [← h1, kept_of all m k (by omega) (fun a b ha hb hab => ?_)]
  · exact h2
  · rw [(hat a ha (by omega)).1, (hat b hb (by omega)).1] at hab
    have p1 := h.place life (k := a) (by omega)
    have p2 := h.place life (k := b) (by omega)
    have hl := h.len
    exact area_inj (m := life.toNat) (k := a) (j := b) (by omega) (by omega) (show areaAt ga gd gl life.toNat a = areaAt ga gd gl life.toNat b by omega)
/-- elsewhere there is what was there -/
theorem PagesOk.beside {ga gd gl : Int} {n : Nat} {pages : List (List UInt8)} (h : PagesOk ga gd gl n pages) {life : UInt64} {l : List (List UInt8)} {s : St} {q : List (List UInt8) × St × Int} {m : List Wr} (e : Enf n (pItems ga gd gl life 0 pages) l s q m) {p : Nat} (hp : ∀ k, k < pages.length → p ≠ (areaAt ga gd gl life.toNat k).toNat) : ∀ w ∈ m, w.1 ≠ p := by
  intro w hw he
  obtain ⟨hl, hat⟩ := h.at_ e
  obtain ⟨k, hk, rfl⟩ := List.mem_iff_getElem.1 hw
  rw [(hat k hk (by omega)).1] at he
  exact hp k (by omega) he.symm
theorem isX_own (life : UInt64) (k : Nat) (b : List UInt8) : isX life k (px life k b) = true := by simp [isX, px]
/-- all pages are there -/
theorem snapR_some {l : List (List UInt8)} {s : St} {ga gd gl : Int} {life : UInt64} {pages : List (List UInt8)} (h : ∀ k (hk : k < pages.length), rdAt l s ga gd gl life k = (px life k pages[k], 0)) :
    snapR l s ga gd gl life pages.length = some pages ∧ badL l s ga gd gl life pages.length = [] := by
  have hp : ∀ k, k < pages.length → isPg l s ga gd gl life k = true := fun k hk => by
    unfold isPg
    rw [h k hk]
    simp [isX_own]
  constructor
  · unfold snapR
    rw [if_pos (by unfold allPg; rw [List.all_eq_true]; intro k hk; exact hp k (List.mem_range.1 hk))]
    congr 1
    unfold bodies
    apply List.ext_getElem
    · simp
    · intro i h1 h2
      simp only [List.getElem_map, List.getElem_range]
      rw [h i h2]; rfl
  · unfold badL
    rw [List.filter_eq_nil_iff.2 (fun k hk => by rw [hp k (List.mem_range.1 hk)]; simp)]
    rfl
/-- each page that is there is the one -/
theorem snapR_or {l : List (List UInt8)} {s : St} {ga gd gl : Int} {life : UInt64} {pages : List (List UInt8)} (h : ∀ k (hk : k < pages.length), isPg l s ga gd gl life k = true → (rdAt l s ga gd gl life k).1.body = pages[k]) :
    snapR l s ga gd gl life pages.length = none ∨ snapR l s ga gd gl life pages.length = some pages := by
  unfold snapR
  split
  · rename_i ha
    right
    congr 1
    unfold allPg at ha
    rw [List.all_eq_true] at ha
    unfold bodies
    apply List.ext_getElem
    · simp
    · intro i h1 h2
      simp only [List.getElem_map, List.getElem_range]
      exact h i h2 (ha i (List.mem_range.2 h2))
  · exact .inl rfl
theorem rdAt_good {s : St} {n : Nat} (hu : UpN s n) {l : List (List UInt8)} {ga gd gl : Int} {life : UInt64} {pages : List (List UInt8)} (h : PagesOk ga gd gl n pages) {k : Nat} (hk : k < pages.length) (hg : Sup.Good l (areaAt ga gd gl life.toNat k) (px life k pages[k]) (kept s.all (areaAt ga gd gl life.toNat k).toNat)) : rdAt l s ga gd gl life k = (px life k pages[k], 0) :=
  rd_good hu (h.place life hk).1 (h.place life hk).2.1 hg
/-- a write while the power is there -/
theorem PagesOk.up {ga gd gl : Int} {n : Nat} {pages : List (List UInt8)} (h : PagesOk ga gd gl n pages) (life : UInt64) (l : List (List UInt8)) {s : St} (hu : UpN s n) :
    (snapF ga gd gl life pages l s).2.2 = 0 ∧ UpN (snapF ga gd gl life pages l s).2.1 n ∧ More l (snapF ga gd gl life pages l s).1 ∧
      (∀ k (hk : k < pages.length), Sup.Good (snapF ga gd gl life pages l s).1 (areaAt ga gd gl life.toNat k) (px life k pages[k]) (kept (snapF ga gd gl life pages l s).2.1.all (areaAt ga gd gl life.toNat k).toNat)) ∧
      (∀ p, (∀ k, k < pages.length → p ≠ (areaAt ga gd gl life.toNat k).toNat) → kept (snapF ga gd gl life pages l s).2.1.all p = kept s.all p) ∧
      ∀ T ∈ (snapF ga gd gl life pages l s).1, T ∈ l ∨ ∃ k, ∃ hk : k < pages.length, T = text (areaAt ga gd gl life.toNat k) (px life k pages[k]) := by
  obtain ⟨m, e⟩ := h.run life l hu.size hu.down
  obtain ⟨q, hq⟩ : ∃ q, q = snapF ga gd gl life pages l s := ⟨_, rfl⟩
  rw [← hq] at e ⊢
  rcases e.res with ⟨_, _, _, _, h5⟩ | ⟨h1, h2, h3, h4, h5, h6⟩
  · exact absurd hu.fuse h5
  · rw [hu.pend, List.nil_append] at h3
    refine ⟨h1, ⟨e.size, h4, h2, h6 hu.fuse⟩, e.more, fun k hk => by rw [h3]; exact h.good e h5 s.all hk, fun p hp => by rw [h3]; exact Disk.kept_append _ _ _ (h.beside e hp), fun T hT => (e.text T hT).imp id ?_⟩
    rintro ⟨i, hi, rfl⟩
    obtain ⟨k, hk, rfl⟩ := h.items life i hi
    exact ⟨k, hk, rfl⟩
theorem next_odd {life : UInt64} (h : life.toNat ≠ 18446744073709551615) : life.toNat % 2 ≠ (life + 1).toNat % 2 := by
  have h1 : (life + 1).toNat = (life.toNat + 1) % 18446744073709551616 := by simp [UInt64.toNat_add]
  have h2 : life.toNat < 18446744073709551616 := life.toNat_lt
  have h3 := Nat.mod_eq_of_lt (show life.toNat + 1 < 18446744073709551616 by omega)
  rw [h1, h3]; omega
/-- a write while the power may go; behind it the power comes back -/
theorem crash {ga gd gl : Int} {n : Nat} {a b : List (List UInt8)} (ha : PagesOk ga gd gl n a) (hb : PagesOk ga gd gl n b) {life : UInt64} (hlife : life.toNat ≠ 18446744073709551615) (fuse : Int) (keep : List Int) (t c : Int)
    {V1 V2 : List (List UInt8) × St × Int} {sA s3 : St} (e1 : V1 = snapF ga gd gl life a [] (new n)) (eA : sA = arm V1.2.1 fuse) (e2 : V2 = snapF ga gd gl (life + 1) b V1.1 sA) (e3 : s3 = restart V2.2.1 keep t c) :
    V1.2.2 = 0 ∧ UpN V1.2.1 n ∧ sA.size = n ∧ UpN s3 n ∧ snapR V2.1 s3 ga gd gl life a.length = some a ∧
      (snapR V2.1 s3 ga gd gl (life + 1) b.length = some b ∨ (V2.2.2 ≠ 0 ∧ snapR V2.1 s3 ga gd gl (life + 1) b.length = none)) := by
  obtain ⟨u1, u2, u3, u4, u5, u6⟩ := ha.up life [] (Sup.up_new n)
  rw [← e1] at u1 u2 u3 u4 u5 u6
  have hsA : sA.size = n := by rw [eA]; exact u2.size
  have hdA : sA.down = false := by rw [eA]; exact u2.down
  have hpA : sA.pend = [] := by rw [eA]; exact u2.pend
  have haA : sA.all = V1.2.1.all := by rw [eA]; rfl
  obtain ⟨m, e⟩ := hb.run (life + 1) V1.1 hsA hdA
  rw [← e2] at e
  have hodd := next_odd hlife
  have hla := ha.len
  have hlb := hb.len
  have hside : ∀ k, k < a.length → ∀ j, j < b.length → (areaAt ga gd gl life.toNat k).toNat ≠ (areaAt ga gd gl (life + 1).toNat j).toNat := fun k hk j hj h => by
    have p1 := ha.place life hk
    have p2 := hb.place (life + 1) hj
    exact area_apart hodd (by omega) (by omega) (show areaAt ga gd gl life.toNat k = areaAt ga gd gl (life + 1).toNat j by omega)
  have hmp : ∀ k, k < a.length → ∀ w ∈ m, w.1 ≠ (areaAt ga gd gl life.toNat k).toNat := fun k hk => hb.beside e (fun j hj => hside k hk j hj)
  obtain ⟨r1, r2, m', r3, r4⟩ := restart_up e.size keep t c
  rw [← e3] at r1 r2 r3
  have htext : ∀ T ∈ V2.1, (∃ k, ∃ hk : k < a.length, T = text (areaAt ga gd gl life.toNat k) (px life k a[k])) ∨ ∃ k, ∃ hk : k < b.length, T = text (areaAt ga gd gl (life + 1).toNat k) (px (life + 1) k b[k]) := fun T hT => by
    rcases e.text T hT with h | ⟨i, hi, rfl⟩
    · rcases u6 T h with h | h
      · cases h
      · exact .inl h
    · obtain ⟨k, hk, rfl⟩ := hb.items (life + 1) i hi
      exact .inr ⟨k, hk, rfl⟩
  have hfirst : (∀ k, k < a.length → kept s3.all (areaAt ga gd gl life.toNat k).toNat = kept V1.2.1.all (areaAt ga gd gl life.toNat k).toNat) → snapR V2.1 s3 ga gd gl life a.length = some a := fun hk0 =>
    (snapR_some (fun k hk => rdAt_good r1 ha hk (by rw [hk0 k hk]; exact e.more _ _ _ (u4 k hk)))).1
  have hsecond : snapR V2.1 s3 ga gd gl (life + 1) b.length = none ∨ snapR V2.1 s3 ga gd gl (life + 1) b.length = some b := by
    refine snapR_or fun k hk hp => ?_
    unfold isPg at hp
    rw [Bool.and_eq_true] at hp
    obtain ⟨g1, g2⟩ := rd_sound (l := V2.1) (s := s3) (p := areaAt ga gd gl (life + 1).toNat k) (of_decide_eq_true hp.1)
    obtain ⟨x, hx⟩ : ∃ x, x = (rdAt V2.1 s3 ga gd gl (life + 1) k).1 := ⟨_, rfl⟩
    have hx' : (rd V2.1 s3 (areaAt ga gd gl (life + 1).toNat k)).1 = x := hx.symm
    rw [hx'] at g1 g2
    rw [← hx]
    rcases htext _ g2 with ⟨j, hj, h⟩ | ⟨j, hj, h⟩
    · have e1 := text_inj g1 (ha.pright life hj) h
      rw [e1] at g1 h
      have := place_of (ha.pright life hj) g1 h
      exact absurd (by rw [this]) (hside j hj k hk)
    · have e1 := text_inj g1 (hb.pright (life + 1) hj) h
      rw [e1] at g1 h
      have := place_of (hb.pright (life + 1) hj) g1 h
      have hjk : k = j := area_inj (m := (life + 1).toNat) (by omega) (by omega) this
      subst hjk
      rw [e1]; rfl
  refine ⟨u1, u2, hsA, r1, ?_⟩
  rcases e.res with ⟨f1, f2, f3, f4, f5⟩ | ⟨f1, f2, f3, f4, f5, f6⟩
  · refine ⟨hfirst fun k hk => ?_, ?_⟩
    · rw [r3, f3, haA]
      refine Disk.kept_append _ _ _ fun w hw he => ?_
      obtain ⟨v, hv, hwv⟩ := r4 w hw
      rw [f4, hpA, List.nil_append] at hv
      exact hmp k hk v hv (by rw [← hwv]; exact he)
    · rcases hsecond with h | h
      · exact .inr ⟨by rw [f1]; decide, h⟩
      · exact .inl h
  · have hall := r2 f4
    rw [f3, hpA, List.nil_append, haA] at hall
    refine ⟨hfirst fun k hk => by rw [hall]; exact Disk.kept_append _ _ _ (hmp k hk), .inl ?_⟩
    exact (snapR_some (fun k hk => rdAt_good r1 hb hk (by rw [hall]; exact hb.good e f5 _ hk))).1
end Go.Proofs.Ytmpmibcdpkolkaa.Snap

/- The pages of a life: Bad of no disk; rows of bytes compared: Diff and Rows. -/
namespace Go.Proofs.Ytmpmibcdpkolkaa.Snap
open Go.RowKit
open Go.Proofs.Ytmpmibcdpkolkaa.Geom
open Go.Proofs.Ytmpmibcdpkolkaa.Sup (Gb gv gcell srightF gthree)
set_option linter.unusedVariables false
set_option maxRecDepth 100000
theorem badD_nil (gS : Nat) (ga gd gl : Int) (life : UInt64) (w : World) : Calls Try.prog 38 #[.pointer none, .pointer (some ⟨gS, 0, none⟩), gv ga gd gl, .int .u64 (life.toNat : Int)] w fun e w' => e = .returned (.tuple #[.slice none 0 0, .int .i64 1]) ∧ Below w.heap.size w w' := by
  have FG := Blk.new w (gcell ga gd gl) 23
  obtain ⟨z0, z1, z2⟩ := gthree FG
  have B8 := Box.new (w.alloc (.cells (gcell ga gd gl).toArray 23)) 63 (.slice none 0 0)
  have B9 := Box.new ((w.alloc (.cells (gcell ga gd gl).toArray 23)).alloc (.cells #[.slice none 0 0] 63)) 28 (.int .i64 0)
  simp at B8 B9
  obtain ⟨w0, hw0⟩ : ∃ w0, w0 = (((w.alloc (.cells (gcell ga gd gl).toArray 23)).alloc (.cells #[.slice none 0 0] 63)).alloc (.cells #[.int .i64 0] 28)).alloc (.cells (acell (.pointer none) (.pointer (some ⟨gS, 0, none⟩)) ga gd gl life).toArray 138) := ⟨_, rfl⟩
  have b0 : Below w.heap.size w w0 := by rw [hw0]; exact bt (b3alloc _ _ _ _) (b1alloc _ _)
  have C8 : Box w0 (w.heap.size + 1) (.slice none 0 0) := by rw [hw0]; exact (B8.alloc _).alloc _
  have C9 : Box w0 (w.heap.size + 1 + 1) (.int .i64 0) := by rw [hw0]; exact B9.alloc _
  have CA : Blk w0 (w.heap.size + 1 + 1 + 1) (acell (.pointer none) (.pointer (some ⟨gS, 0, none⟩)) ga gd gl life) := by
    rw [hw0]
    have := Blk.new (((w.alloc (.cells (gcell ga gd gl).toArray 23)).alloc (.cells #[.slice none 0 0] 63)).alloc (.cells #[.int .i64 0] 28)) (acell (.pointer none) (.pointer (some ⟨gS, 0, none⟩)) ga gd gl life) 138
    simpa using this
  obtain ⟨q0, q1, q2, q3, q4, q5⟩ := six6 CA
  have e0 : (((w.alloc (.cells #[.int .i64 ga, .int .i64 gd, .int .i64 gl] 23)).alloc (.cells #[.slice none 0 0] 63)).alloc (.cells #[.int .i64 0] 28)).alloc (.cells #[.pointer none, .pointer (some ⟨gS, 0, none⟩), .int .i64 ga, .int .i64 gd, .int .i64 gl, .int .u64 (life.toNat : Int)] 138) = w0 := hw0.symm
  clear hw0 B8 B9
  go_enter Try.func38, Try.ntmps38
  go_wp2
  go_step3
  go_wp2_with (go_at_call 85; refine (rightD_nil _ _ _ _ _ _).mono ?_; rintro e w1 ⟨rfl, b1⟩; have D8 := C8.on' b1; have D9 := C9.on' b1; have y8 := D8.cell; have y9 := D9.cell; have f8 := D8.free; have f9 := D9.free; have bw := bt b0 b1)
  try rw [Exit.noGoto_ret]
  refine bodyPost_ret (v := .tuple #[.slice none 0 0, .int .i64 1]) (by simp [results, Try.results38, go_sem, *]) rfl ⟨rfl, ?_⟩
  exact bset (bset bw (by omega) _) (by omega) _
end Go.Proofs.Ytmpmibcdpkolkaa.Snap

/- What the laws on supers share: the reference's Mark, Place and Sector, the example. -/
namespace Go.Proofs.Ytmpmibcdpkolkaa
theorem RdN.lit1 (w : World) (fp : List Nat) (hf : ∀ j ∈ fp, j < w.heap.size) (v : Value) (t : TypeId) : RdN (w.alloc (.cells #[v] t)) fp (some ⟨w.heap.size, 0, none⟩) [v] := fun _ =>
  ⟨w.heap.size, 0, rfl, by simp, fun e => by have := hf _ e; omega, fun i hi => by rw [World.cell?_alloc_new, Nat.zero_add]; simp at hi; subst hi; rfl⟩
end Go.Proofs.Ytmpmibcdpkolkaa
namespace Go.Proofs.Ytmpmibcdpkolkaa.Sup
open Go.RowKit
open Go.Proofs.Ytmpmibcdpkolkaa.Geom
open Go.Proofs.Ytmpmibcdpkolkaa.Disk (St DAt Did New8 Told8 new)
open Go.Proofs.Ytmpmibcdpkolkaa.Sec (X SymAt text sumOf sumAfter ckS blankB rightF xv RetX X0 five5x symbolic_any bset5)
set_option linter.unusedVariables false
set_option maxRecDepth 100000
theorem newN_any (n : Nat) (z : Int) (hz : z = (n : Int)) (h1 : 1 ≤ n) (h2 : n ≤ 1024) (w : World) : Calls Try.prog 12 #[.int .i64 z] w fun e w' => ∃ g fp, e = .returned (.tuple #[.pointer (some ⟨g, 0, none⟩), .int .i64 0]) ∧ DAt w' g fp (new n) ∧ (∀ j ∈ fp, w.heap.size ≤ j) ∧ Below w.heap.size w w' := by
  subst hz
  refine (Disk.new_any n w (by omega) (by omega)).mono ?_
  rintro e w' ⟨h, b⟩
  rw [if_neg (by omega)] at h
  obtain ⟨g, fp, he, hd, hf⟩ := h
  exact ⟨g, fp, he, by simpa using hd, hf, b⟩
theorem rmark_any (ga gd gl : Int) (w : World) (hG : Gb ga gd gl) : Calls Try.prog 18 #[gv ga gd gl] w (RetB 5 w (mk ga gd gl)) := by
  obtain ⟨z0, z1, z2⟩ := gthree (Blk.new w (gcell ga gd gl) 23)
  have b0 := b1alloc w (.cells (gcell ga gd gl).toArray 23)
  have HR := Lib.hid (fun W => Geom.rright_any ga gd gl W hG.a0 hG.a1 hG.d0 hG.d1 hG.g0 hG.g1)
  unfold mk
  cases hq : right ga gd gl with
  | false =>
    rw [hq] at HR
    rw [if_neg (by simp)]
    go_enter Try.func18, Try.ntmps18
    go_wp2_with (go_at_call 19; refine (HR.out _).mono ?_; rintro e w' ⟨rfl, b1⟩)
    go_ret
    exact RetB.mk (own_nil _ _ _ _) rfl (bt b0 b1)
  | true =>
    rw [hq] at HR
    rw [if_pos rfl]
    have hy := Geom.right_yes hq
    obtain ⟨x, hx⟩ : ∃ x, x = UInt8.ofNat ga.toNat := ⟨_, rfl⟩
    obtain ⟨y, hY⟩ : ∃ x, x = UInt8.ofNat gd.toNat := ⟨_, rfl⟩
    obtain ⟨z, hz⟩ : ∃ x, x = UInt8.ofNat gl.toNat := ⟨_, rfl⟩
    have w1 : IntKind.u8.wrap ga = (x.toNat : Int) := by rw [hx, IntKind.wrap_u8', UInt8.toNat_ofNat']; omega
    have w2 : IntKind.u8.wrap gd = (y.toNat : Int) := by rw [hY, IntKind.wrap_u8', UInt8.toNat_ofNat']; omega
    have w3 : IntKind.u8.wrap gl = (z.toNat : Int) := by rw [hz, IntKind.wrap_u8', UInt8.toNat_ofNat']; omega
    rw [← hx, ← hY, ← hz]
    clear hx hY hz
    have F := Lib.hid (Blk.new w (gcell ga gd gl) 23)
    go_enter Try.func18, Try.ntmps18
    go_wp2_with (go_at_call 19; refine (HR.out _).mono ?_; rintro e w4 ⟨rfl, b1⟩; obtain ⟨y0, y1, y2⟩ := gthree (F.out.on b1))
    go_ret
    have hl := own_lit w4 5 #[e8 x, e8 y, e8 z] w.heap.size 3 (bt b0 b1).size rfl (by unfold maxLen; omega)
    exact RetB.mk hl rfl (bt (bt b0 b1) (b1alloc _ _))
theorem rplace_any (n : UInt64) (m : Int) (hm : m = (n.toNat : Int)) (w : World) : Calls Try.prog 21 #[.int .u64 m] w fun e w' => e = .returned (.int .i64 (splace n)) ∧ w = w' := by
  subst hm
  have hl := n.toNat_lt
  have h1 : (n.toNat : Int) % 2 = (n.toNat : Int).tmod 2 := by rw [Int.tmod_eq_emod_of_nonneg (by omega)]
  have hw : IntKind.i64.wrap ((n.toNat : Int) % 2) = (n.toNat : Int) % 2 := wrap_small (by omega) (by omega)
  have hw2 : IntKind.i64.wrap (2 + (n.toNat : Int) % 2) = 2 + (n.toNat : Int) % 2 := wrap_small (by omega) (by omega)
  go_enter Try.func21, Try.ntmps21
  go_wp2
  go_ret
  exact ⟨rfl, rfl⟩
theorem set5 {W : World} {g b : Nat} {xs : List Value} (h : Blk W g xs) (n : g ≠ b) (v0 v1 v2 v3 v4 : Value) : Blk (((((W.setCell ⟨b, 0, none⟩ v0).setCell ⟨b, 1, none⟩ v1).setCell ⟨b, 2, none⟩ v2).setCell ⟨b, 3, none⟩ v3).setCell ⟨b, 4, none⟩ v4) g xs :=
  Blk.other (Blk.other (Blk.other (Blk.other (Blk.other h v0 n) v1 n) v2 n) v3 n) v4 n
set_option maxHeartbeats 2000000 in
theorem rsector_any (ga gd gl : Int) (life : UInt64) (base : Int) (gen : UInt64) (w : World) (hG : Gb ga gd gl) : Calls Try.prog 25 #[gv ga gd gl, sv life base gen] w fun e w' => ∃ A c, e = .returned (.agg #[.int .i64 2, .int .u64 (life.toNat : Int), .int .i64 base, .int .u64 (gen.toNat : Int), .slice A (mk ga gd gl).length c]) ∧ Rd w' w'.heap.size A ((mk ga gd gl).map e8) ∧ Below w.heap.size w w' := by
  have FG : Blk (((w.alloc (.cells (gcell ga gd gl).toArray 23)).alloc (.cells (scell life base gen).toArray 26)).alloc (.cells #[.int .i64 0, .int .u64 0, .int .i64 0, .int .u64 0, .slice none 0 0] 49)) w.heap.size (gcell ga gd gl) := ((Blk.new w (gcell ga gd gl) 23).alloc (.cells (scell life base gen).toArray 26)).alloc _
  have FX : Blk (((w.alloc (.cells (gcell ga gd gl).toArray 23)).alloc (.cells (scell life base gen).toArray 26)).alloc (.cells #[.int .i64 0, .int .u64 0, .int .i64 0, .int .u64 0, .slice none 0 0] 49)) (w.heap.size + 1) (scell life base gen) := by simpa using (Blk.new (w.alloc (.cells (gcell ga gd gl).toArray 23)) (scell life base gen) 26).alloc (.cells #[.int .i64 0, .int .u64 0, .int .i64 0, .int .u64 0, .slice none 0 0] 49)
  have FR : Blk (((w.alloc (.cells (gcell ga gd gl).toArray 23)).alloc (.cells (scell life base gen).toArray 26)).alloc (.cells #[.int .i64 0, .int .u64 0, .int .i64 0, .int .u64 0, .slice none 0 0] 49)) (w.heap.size + 1 + 1) [.int .i64 0, .int .u64 0, .int .i64 0, .int .u64 0, .slice none 0 0] := by simpa using Blk.new ((w.alloc (.cells (gcell ga gd gl).toArray 23)).alloc (.cells (scell life base gen).toArray 26)) [.int .i64 0, .int .u64 0, .int .i64 0, .int .u64 0, .slice none 0 0] 49
  have b0 := b3alloc w (.cells (gcell ga gd gl).toArray 23) (.cells (scell life base gen).toArray 26) (.cells #[.int .i64 0, .int .u64 0, .int .i64 0, .int .u64 0, .slice none 0 0] 49)
  have HM := Lib.hid (fun W => rmark_any ga gd gl W hG)
  obtain ⟨M, hM⟩ : ∃ M, M = mk ga gd gl := ⟨_, rfl⟩
  rw [← hM] at HM ⊢
  clear hM
  go_enter Try.func25, Try.ntmps25
  go_wp2
  have hp1 : w.heap.size + 2 = w.heap.size + 1 + 1 := by omega
  obtain ⟨w0, hw0⟩ : ∃ q, q = (((w.alloc (.cells (gcell ga gd gl).toArray 23)).alloc (.cells (scell life base gen).toArray 26)).alloc (.cells #[.int .i64 0, .int .u64 0, .int .i64 0, .int .u64 0, .slice none 0 0] 49)) := ⟨_, rfl⟩
  rw [← hw0] at FG FX FR b0
  rw [show (((w.alloc (.cells #[.int .i64 ga, .int .i64 gd, .int .i64 gl] 23)).alloc (.cells #[.int .u64 (life.toNat : Int), .int .i64 base, .int .u64 (gen.toNat : Int)] 26)).alloc (.cells #[.int .i64 0, .int .u64 0, .int .i64 0, .int .u64 0, .slice none 0 0] 49)) = w0 from hw0.symm]
  clear hw0
  obtain ⟨z0, z1, z2⟩ := gthree FG
  obtain ⟨y0, y1, y2⟩ := gthree FX
  have fr := FR.free
  have c0 : Below w0.heap.size w0 w0.drew := (Below.refl _ _).drew
  go_region_held3 (fun w' => (w'.cell? ⟨w.heap.size, 0, none⟩ = some (.int .i64 ga) ∧ w'.cell? ⟨w.heap.size, 1, none⟩ = some (.int .i64 gd) ∧ w'.cell? ⟨w.heap.size, 2, none⟩ = some (.int .i64 gl)) ∧ (w'.cell? ⟨w.heap.size + 1, 0, none⟩ = some (.int .u64 (life.toNat : Int)) ∧ w'.cell? ⟨w.heap.size + 1, 1, none⟩ = some (.int .i64 base) ∧ w'.cell? ⟨w.heap.size + 1, 2, none⟩ = some (.int .u64 (gen.toNat : Int)))) (first | exact ⟨gthree (FG.on c0), gthree (FX.on c0)⟩ | exact ⟨gthree (FG.on c1), gthree (FX.on c1)⟩ | exact ⟨gthree (set5 (FG.on c1) (by omega) _ _ _ _ _), gthree (set5 (FX.on c1) (by omega) _ _ _ _ _)⟩) ((go_at_call 18; refine (HM.out _).mono ?_; rintro e w1 ⟨A1, d1, rfl, own1, b1'⟩; have c1 := bt c0 b1'; obtain ⟨r0, r1, r2, r3, r4⟩ := five5x (FR.on c1); have fr1 := (FR.on c1).free))
  have k5 := Sec.keep5 w1 (w.heap.size + 1 + 1) (.int .i64 2) (.int .u64 (life.toNat : Int)) (.int .i64 base) (.int .u64 (gen.toNat : Int)) (.slice A1 M.length d1)
  have hlt := FR.lt
  have own2 := own_keep own1 k5 (fun g' hg' e => by have := own_block own1 hg'; rw [List.mem_singleton] at e; have h0 : w0.drew.heap.size = w0.heap.size := rfl; omega)
  have bq := bset5 (bt b0 c1) (show w.heap.size ≤ w.heap.size + 1 + 1 by omega) (v0 := .int .i64 2) (v1 := .int .u64 (life.toNat : Int)) (v2 := .int .i64 base) (v3 := .int .u64 (gen.toNat : Int)) (v4 := .slice A1 M.length d1)
  go_wp2
  exact bodyPost_ret (v := .agg #[.int .i64 2, .int .u64 (life.toNat : Int), .int .i64 base, .int .u64 (gen.toNat : Int), .slice A1 M.length d1]) (by simp [results, Try.results25, go_sem, *]) rfl ⟨_, _, rfl, Rd.own own2, bq⟩
theorem gb213 : Gb 2 1 3 := ⟨by decide, by decide, by decide, by decide, by decide, by decide⟩
theorem size213 : Geom.sizeOf 2 1 3 = 13 := by decide
theorem right213 : Geom.right 2 1 3 = true := by decide
set_option maxHeartbeats 4000000 in
theorem alive_any (w : World) : Calls Try.prog 20 #[] w fun e w' => e = .returned (.bool true) ∧ Below w.heap.size w w' := by
  obtain ⟨c1, c2, c3, c4⟩ := (up_new 13).clr (by omega)
  have r0 : srightF (new 13) 2 1 3 = 0 := srightF_new (n := 13) right213 rfl (by rw [size213]; rfl)
  have rC : srightF (clr (new 13)).1 2 1 3 = 0 := srightF_new (n := 13) right213 c2.size (by rw [size213]; rfl)
  have hz0 : (new 13).sz = 0 := rfl
  have a2 : atR [] (clr (new 13)).1 2 1 3 2 = none := c2.at_zero (by omega) (by omega) (by rw [c3]; rfl)
  have a3 : atR [] (clr (new 13)).1 2 1 3 3 = none := c2.at_zero (by omega) (by omega) (by rw [c3]; rfl)
  have hC := fun g fp W h => clear_any g fp (new 13) 2 1 3 W gb213 h (by decide) r0
  obtain ⟨C, hCe⟩ : ∃ C, C = clr (new 13) := ⟨_, rfl⟩
  rw [← hCe] at c1 c2 c3 c4 rC a2 a3 hC
  have hR1 := fun g fp gS bS W h => readSup_any g fp C.1 gS bS [] 2 1 3 W gb213 h (by simp) (by omega) rC c2.down
  rw [a2, a3] at hR1
  have hW := fun g fp gS bS W h => write_any g fp C.1 gS bS [] 2 1 3 3 1 2 W gb213 h (by simp) (by omega) rC (by omega) (by omega)
  obtain ⟨v1, v2, v3⟩ := c2.wf (p := splace 3) (by decide) (by decide) (sB_len [] 2 1 3 3 1 2)
  have y1 := wf_sz C.1 (splace 3) (sB [] 2 1 3 3 1 2)
  have y2 := sL_len [] 2 1 3 3 1 2
  have hg := sB_good [] (ga := 2) (gd := 1) (gl := 3) (life := 3) (base := 1) (gen := 2) (by omega) (by omega)
  obtain ⟨V, hV⟩ : ∃ V, V = wf C.1 (splace 3) (sB [] 2 1 3 3 1 2) := ⟨_, rfl⟩
  rw [← hV] at v1 v2 v3 y1 hW
  have hs3 : splace 3 = 3 := by decide
  have rV : srightF V.1 2 1 3 = 0 := srightF_new (n := 13) right213 v2.size (by rw [size213]; rfl)
  obtain ⟨L, hL⟩ : ∃ L, L = sL [] 2 1 3 3 1 2 := ⟨_, rfl⟩
  rw [← hL] at hW y2 hg
  have w3 : atR L V.1 2 1 3 3 = some ⟨3, 1, 2⟩ := by
    have := v2.at_own (l := L) (ga := 2) (gd := 1) (gl := 3) (life := 3) (base := 1) (gen := 2) (by decide) (by rw [v3, kept_after]; exact hg)
    rw [hs3] at this; exact this
  have w2 : atR L V.1 2 1 3 2 = none := v2.at_zero (by omega) (by omega) (by rw [v3, kept_beside _ _ (by decide), c3]; rfl)
  have hR2 := fun g fp gS bS W h => readSup_any g fp V.1 gS bS L 2 1 3 W gb213 h (by simp at y2; omega) (by omega) rV v2.down
  rw [w2, w3] at hR2
  rw [v1] at hW
  have hR1' : ∀ g fp gS bS W, Both W g fp C.1 gS bS [] → Calls Try.prog 24 #[.pointer (some ⟨g, 0, none⟩), .pointer (some ⟨gS, 0, none⟩), gv 2 1 3] W fun e w' => e = .returned (.tuple #[.agg #[.int .u64 0, .int .i64 0, .int .u64 0], .int .i64 11]) ∧ Below W.heap.size W w' := hR1
  have hR2' : ∀ g fp gS bS W, Both W g fp V.1 gS bS L → Calls Try.prog 24 #[.pointer (some ⟨g, 0, none⟩), .pointer (some ⟨gS, 0, none⟩), gv 2 1 3] W fun e w' => e = .returned (.tuple #[.agg #[.int .u64 3, .int .i64 1, .int .u64 2], .int .i64 0]) ∧ Below W.heap.size W w' := hR2
  have hW' : ∀ g fp gS bS W, Both W g fp C.1 gS bS [] → Calls Try.prog 15 #[.pointer (some ⟨g, 0, none⟩), .pointer (some ⟨gS, 0, none⟩), gv 2 1 3, .agg #[.int .u64 3, .int .i64 1, .int .u64 2]] W fun e w' => e = .returned (.int .i64 0) ∧ Turn W g fp gS bS V.1 L w' := hW
  have HC := Lib.hid hC
  have HR1 := Lib.hid hR1'
  have HR2 := Lib.hid hR2'
  have HW := Lib.hid hW'
  have C1 := Lib.hid c1
  have tR : True := trivial
  clear hC hR1 hR2 hW hR1' hR2' hW' hCe hV hL c1 c2 c3 c4 v1 v2 v3 y1 y2 hg w2 w3 a2 a3 rV rC r0 hz0 hs3
  have F := Lib.hid (Blk.new w (gcell 2 1 3) 23)
  have hltF := F.out.lt
  have b0 := b1alloc w (.cells (gcell 2 1 3).toArray 23)
  go_enter Try.func20, Try.ntmps20
  go_wp2_with (first
    | (go_at_call 12; refine (newN_any 13 13 rfl (by omega) (by omega) _).mono ?_; rintro e w1 ⟨g, fp, rfl, hD, hfp, b1⟩)
    | (go_at_call 14; refine (symbolic_any _).mono ?_; rintro e w2 ⟨gS, bS, rfl, hS, hgS, hbS, b2⟩; have H2 := Here.start hD hfp b1 hS hgS hbS b2; obtain ⟨m0, m1, m2⟩ := gthree (F.out.below H2.bel hltF))
    | (go_at_call 27; refine (HC.out _ _ _ H2.both.disk).mono ?_; rintro e w3 d3; obtain ⟨rfl, fp3, H3, _, _⟩ := H2.did d3; rw [C1.out];clear m0 m1 m2; obtain ⟨n0, n1, n2⟩ := gthree (F.out.below H3.bel hltF))
    | (go_at_call 24; have _t := tR; refine (HR1.out _ _ _ _ _ H3.both).mono ?_; rintro e w4 ⟨rfl, b4⟩; have H4 := H3.on (bt b4 (b1alloc w4 (.cells #[.int .u64 0, .int .i64 0, .int .u64 0] 35)));clear n0 n1 n2; obtain ⟨o0, o1, o2⟩ := gthree (F.out.below H4.bel hltF); clear tR)
    | (go_at_call 15; refine (HW.out _ _ _ _ _ H4.both).mono ?_; rintro e w5 ⟨rfl, T5⟩; obtain ⟨fp5, H5, _, _⟩ := H4.turn T5;clear o0 o1 o2; obtain ⟨p0, p1, p2⟩ := gthree (F.out.below H5.bel hltF))
    | (go_at_call 24; refine (HR2.out _ _ _ _ _ H5.both).mono ?_; rintro e w6 ⟨rfl, b6⟩; have H6 := H5.on (bt b6 (b1alloc w6 (.cells #[.int .u64 3, .int .i64 1, .int .u64 2] 35)))))
  go_ret
  exact ⟨rfl, bt b0 H6.bel⟩
end Go.Proofs.Ytmpmibcdpkolkaa.Sup

/- The document's comparisons: rows of bytes, rows of numbers. -/
namespace Go.Proofs.Ytmpmibcdpkolkaa.R20
open Go.RowKit
set_option linter.unusedVariables false
set_option maxRecDepth 100000
theorem take_snoc_eq {α : Type} {a b : List α} {k : Nat} (ha : k < a.length) (hb : k < b.length) : a.take (k + 1) = b.take (k + 1) ↔ (a.take k = b.take k ∧ a[k] = b[k]) := by
  rw [List.take_succ_eq_append_getElem ha, List.take_succ_eq_append_getElem hb]
  constructor
  · intro h
    have h1 := List.append_inj_left h (by simp; omega)
    have h2 := List.append_inj_right h (by simp; omega)
    exact ⟨h1, by simpa using h2⟩
  · rintro ⟨h1, h2⟩
    rw [h1, h2]
def Diffs (d : Bool) (e : Ending) : Prop := ∃ C k c, e = .returned (.slice C k c) ∧ (((k : Nat) : Int) == 0) = d
theorem infoI : (Try.prog.info? 3).map (fun i => (i.zero, i.size, i.bytes)) = some (some (.int .i64 0), 1, 8) := by kernel_rfl
set_option maxHeartbeats 1000000 in
theorem diff_any (A B : Option Addr) (a b : List (List UInt8)) (n m ca cb : Nat) (w : World) (ha : Rws w w.heap.size A a) (hb : Rws w w.heap.size B b) (hn : n = a.length) (hm : m = n) (hl : a.length = b.length) (hl1 : n ≤ 1000) (hla : ∀ x ∈ a, x.length ≤ 1000000) (hlb : ∀ x ∈ b, x.length ≤ 1000000) :
    Calls Try.prog 93 #[.slice A n ca, .slice B m cb] w fun e w' => Diffs (decide (a = b)) e ∧ Below w.heap.size w w' := by
  subst hm
  obtain ⟨i0, hi0, hz0, hz1, hz2⟩ := info_parts infoI
  have Hn := Lib.hid hn
  have HL := Lib.hid hl
  clear hn hl
  go_enter Try.func93, Try.ntmps93
  go_wp2_with fail
  go_loopw [5, 6] (fun o i wr => ∃ k : Nat, k ≤ m ∧ i = .int .i64 (k : Int) ∧ Below w.heap.size w wr ∧ ∃ j xs, wr.ownsRow w.heap.size 3 1 o j xs ∧ j ≤ k ∧ Hid ((j = 0) ↔ a.take k = b.take k)) (fun _ i _ => m - (intOf i).toNat)
  case atStart => exact ⟨0, by omega, rfl, Below.refl _ _, 0, [], own_nil _ _ _ _, Nat.le_refl _, Lib.hid (by simp)⟩
  case round =>
    obtain ⟨k, hk, rfl, bel, j, xs, hown, hjk, hj⟩ := hrel
    have hmx : max (m : Int) (m : Int) = (m : Int) := by omega
    have hwk : wrap64 ((k : Int) + 1) = (k : Int) + 1 := by unfold wrap64; omega
    by_cases hlt : k < m
    · have hka : k < a.length := by have := Hn.out; omega
      have hkb : k < b.length := by have := Hn.out; have := HL.out; omega
      have hkm : (k : Int) < (m : Int) := by omega
      have hge : ¬ (m : Int) ≤ (k : Int) := by omega
      obtain ⟨b1, o1, A1, c1, rfl, hb1, hc1, hr1, _, _⟩ := (ha.below bel).get hka
      obtain ⟨b2, o2, A2, c2, rfl, hb2, hc2, hr2, _, _⟩ := (hb.below bel).get hkb
      have hS := fun W (bW : Below wr.heap.size wr W) => R1.same_any A1 A2 a[k] b[k] _ _ c1 c2 W rfl rfl ((hr1.below (bW.mono bel.size)).more (by have := bel.size; have := bW.size; omega)) ((hr2.below (bW.mono bel.size)).more (by have := bel.size; have := bW.size; omega)) (by have := hla _ (List.getElem_mem hka); omega) (by have := hlb _ (List.getElem_mem hkb); omega)
      have hst := take_snoc_eq hka hkb
      have hsame : R1.sameB a[k] b[k] = decide (a[k] = b[k]) := rfl
      obtain ⟨x, hx⟩ : ∃ x, x = a[k] := ⟨_, rfl⟩
      obtain ⟨y, hy⟩ : ∃ y, y = b[k] := ⟨_, rfl⟩
      rw [← hx, ← hy] at hS hst hsame
      rw [← hx] at hc1
      rw [← hy] at hc2
      have hb1' : b1 < wr.heap.size := by have := bel.size; omega
      have hb2' : b2 < wr.heap.size := by have := bel.size; omega
      by_cases he : x = y
      · rw [hsame, decide_eq_true he] at hS
        have HS := Lib.hid hS
        have Hst := Lib.hid hst
        have He := Lib.hid he
        clear hS hst hsame hx hy he hr1 hr2 ha hb
        go_wp2_with fail
        refine region_inb (by kernel_rfl) (by kernel_rfl) ?_
        have inbNe := InB.some
        have inbW := @wrap_small
        have inbU := IntKind.wrap_u8'
        repeat (refine wpQuiet_step (fun K hK => ?_); go_simp; first | (refine hK _ ?_; clear hK K) | (apply Exists.intro; refine ⟨?_, hK _ ?_⟩; (· (intro w' hw'; first | (go_at_call 16; refine (HS.out _ hw'.below).mono ?_; rintro e w1 ⟨rfl, b1⟩; exact ⟨rfl, hw'.on b1⟩) | (have hcw := hw'.cell; go_simp; exact rfl))); clear hK K))
        refine wpQuiet_nil ?_
        intro wq hq
        clear inbNe inbW inbU
        go_wp2
        case roundEnd => exact ⟨⟨k + 1, by omega, rfl, bt bel hq.below, j, xs, own_on hown hq.below, by omega, Lib.hid (by rw [hj.out, Hst.out]; exact ⟨fun h => ⟨h, He.out⟩, fun h => h.1⟩)⟩, by simp only [intOf]; omega⟩
      · rw [hsame, decide_eq_false he] at hS
        have HS := Lib.hid hS
        have Hst := Lib.hid hst
        have He := Lib.hid he
        clear hS hst hsame hx hy he hr1 hr2 ha hb
        obtain ⟨A5, c5, rfl⟩ := own_form hown
        go_wp2_with fail
        refine region_inb (by kernel_rfl) (by kernel_rfl) ?_
        have inbNe := InB.some
        have inbW := @wrap_small
        have inbU := IntKind.wrap_u8'
        repeat (refine wpQuiet_step (fun K hK => ?_); go_simp; first | (refine hK _ ?_; clear hK K) | (apply Exists.intro; refine ⟨?_, hK _ ?_⟩; (· (intro w' hw'; first | (go_at_call 16; refine (HS.out _ hw'.below).mono ?_; rintro e w1 ⟨rfl, b1⟩; exact ⟨rfl, hw'.on b1⟩) | (have hcw := hw'.cell; go_simp; exact rfl))); clear hK K))
        refine wpQuiet_nil ?_
        intro wq hq
        clear inbNe inbW inbU
        have own2 := own_on hown hq.below
        have hsz2 := hq.below.size
        go_wp2_with (refine wpList_append_rd _ rfl _ _ _ rfl w.heap.size 3 i0 _ 1 8 Try.underlying63 hi0 hz0 hz1 hz2 rfl (by omega) _ j xs rfl (own2.alloc _) (wq.heap.size + 1) (some ⟨wq.heap.size, 0, none⟩) 1 1 [.int .i64 (k : Int)] rfl rfl (Rd.lit wq _ _ _ _ rfl (by omega)) (one_int _ _) (by simp only [maxLen]; omega) (by omega) (le_alloc (Nat.le_trans bel.size hsz2) _) ?_; intro v2 w2 hown2 hg2 hat2)
        have bel2 : Below w.heap.size w w2 := by
          refine ((bt bel hq.below).alloc (Nat.le_trans bel.size hsz2) _).grown hg2 (le_alloc (Nat.le_trans bel.size hsz2) _) (fun g hg => ?_)
          exact own_block hown hg
        case roundEnd => exact ⟨⟨k + 1, by omega, rfl, bel2, j + 1, _, hown2, by omega, Lib.hid ⟨fun h => absurd h (by omega), fun h => absurd (Hst.out.1 h).2 He.out⟩⟩, by simp only [intOf]; omega⟩
    · have hkm : k = m := by omega
      have hkn : ¬ (k : Int) < (m : Int) := by omega
      obtain ⟨A5, c5, rfl⟩ := own_form hown
      have Hk := Lib.hid hkm
      clear hkm
      go_wp2
      go_ret
      refine ⟨⟨A5, j, c5, rfl, ?_⟩, bel⟩
      have h1 := hj.out
      have h2 := Hk.out
      have h3 := Hn.out
      have h4 := HL.out
      rw [List.take_of_length_le (by omega), List.take_of_length_le (by omega)] at h1
      by_cases hj0 : j = 0
      · rw [beq_yes (by omega), decide_eq_true (h1.1 hj0)]
      · rw [beq_no (by omega), decide_eq_false (fun e => hj0 (h1.2 e))]
theorem rows_any (A B : Option Addr) (a b : List (List UInt8)) (n m ca cb : Nat) (w : World) (ha : Rws w w.heap.size A a) (hb : Rws w w.heap.size B b) (hn : n = a.length) (hm : m = b.length) (hl1 : n ≤ 1000) (hla : ∀ x ∈ a, x.length ≤ 1000000) (hlb : ∀ x ∈ b, x.length ≤ 1000000) :
    Calls Try.prog 39 #[.slice A n ca, .slice B m cb] w fun e w' => e = .returned (.bool (decide (a = b))) ∧ Below w.heap.size w w' := by
  by_cases hl : n = m
  · have HD := Lib.hid (diff_any A B a b n m ca cb w ha hb hn hl.symm (by omega) hl1 hla hlb)
    obtain ⟨d, hd⟩ : ∃ d, d = decide (a = b) := ⟨_, rfl⟩
    rw [← hd] at HD ⊢
    have t0 := bne_no (show (n : Int) = (m : Int) by omega)
    clear ha hb hn hm hd hl hla hlb
    go_enter Try.func39, Try.ntmps39
    go_wp2_with (go_at_call 93; refine HD.out.mono ?_; rintro e w1 ⟨⟨C, k, c, rfl, hk⟩, b1⟩)
    go_ret
    exact ⟨by first | rfl | exact ret_bool hk, b1⟩
  · have hne : decide (a = b) = false := decide_eq_false (fun e => hl (by rw [hn, hm, e]))
    rw [hne]
    have t0 := bne_yes (show (n : Int) ≠ (m : Int) by omega)
    clear ha hb hn hm hl hla hlb hne
    go_enter Try.func39, Try.ntmps39
    go_wp2
    go_ret
    exact ⟨rfl, Below.refl _ _⟩
set_option maxHeartbeats 1000000 in
/-- the same numbers -/
theorem ints_same (A B : Option Addr) (l : List Int) (n m ca cb : Nat) (w : World) (ha : Rd w w.heap.size A (l.map (Value.int .i64))) (hb : Rd w w.heap.size B (l.map (Value.int .i64))) (hn : n = l.length) (hm : m = n) (hl : n ≤ 1000000) :
    Calls Try.prog 48 #[.slice A n ca, .slice B m cb] w fun e w' => e = .returned (.bool true) ∧ Below w.heap.size w w' := by
  subst hm
  have Hn := Lib.hid hn
  clear hn
  go_enter Try.func48, Try.ntmps48
  go_wp2_with fail
  go_loopw [5] (fun i wr => ∃ k : Nat, k ≤ m ∧ i = .int .i64 (k : Int) ∧ Below w.heap.size w wr) (fun i _ => m - (intOf i).toNat)
  case atStart => exact ⟨0, by omega, rfl, Below.refl _ _⟩
  case round =>
    obtain ⟨k, hk, rfl, bel⟩ := hrel
    have hwk : wrap64 ((k : Int) + 1) = (k : Int) + 1 := by unfold wrap64; omega
    by_cases hlt : k < m
    · have hkl : k < l.length := by have := Hn.out; omega
      have hkm : (k : Int) < (m : Int) := by omega
      obtain ⟨b1, o1, rfl, hb1, hc1⟩ := (ha.below bel).get (k := k) (by rw [List.length_map]; exact hkl)
      obtain ⟨b2, o2, rfl, hb2, hc2⟩ := (hb.below bel).get (k := k) (by rw [List.length_map]; exact hkl)
      rw [List.getElem_map] at hc1 hc2
      obtain ⟨x, hx⟩ : ∃ x, x = l[k] := ⟨_, rfl⟩
      rw [← hx] at hc1 hc2
      have hb1' : b1 < wr.heap.size := by have := bel.size; omega
      have hb2' : b2 < wr.heap.size := by have := bel.size; omega
      have t1 := bne_no (show x = x from rfl)
      clear hx ha hb
      go_wp2_with fail
      refine region_inb (by kernel_rfl) (by kernel_rfl) ?_
      have inbNe := InB.some
      have inbW := @wrap_small
      have inbU := IntKind.wrap_u8'
      repeat (refine wpQuiet_step (fun K hK => ?_); go_simp; first | (refine hK _ ?_; clear hK K) | (apply Exists.intro; refine ⟨?_, hK _ ?_⟩; (· (intro w' hw'; first | fail | (have hcw := hw'.cell; go_simp; exact rfl))); clear hK K))
      refine wpQuiet_nil ?_
      intro wq hq
      clear inbNe inbW inbU
      go_wp2
      case roundEnd => exact ⟨⟨k + 1, by omega, rfl, bt bel hq.below⟩, by simp only [intOf]; omega⟩
    · have hkn : ¬ (k : Int) < (m : Int) := by omega
      go_wp2
      go_ret
      exact ⟨rfl, bel⟩
end Go.Proofs.Ytmpmibcdpkolkaa.R20

/- What the laws on pages share: which are light, which may be, the reference's sector, the example. -/
namespace Go.Proofs.Ytmpmibcdpkolkaa.Snap
open Go.RowKit
open Go.Proofs.Ytmpmibcdpkolkaa.Geom
open Go.Proofs.Ytmpmibcdpkolkaa.Disk (St DAt Did New8 Told8 new)
open Go.Proofs.Ytmpmibcdpkolkaa.Sup (Gb gv gcell srightF gthree newN_any gb213 size213 right213 UpN up_new srightF_new)
open Go.Proofs.Ytmpmibcdpkolkaa.Sec (X SymAt text sumOf sumAfter ckS blankB rightF xv RetX X0 five5x symbolic_any bset5)
set_option linter.unusedVariables false
set_option maxRecDepth 100000
theorem OwnRows.rws {w : World} {base : Nat} {A : Option Addr} {n c : Nat} {l : List (List UInt8)} (h : OwnRows w base (.slice A n c) l) (hn : n = l.length) : Rws w w.heap.size A l := by
  obtain ⟨its, hown, rfl, hall⟩ := h
  rw [List.length_map] at hn
  subst hn
  have hrd := RdQ.own hown
  intro hne
  have hne' : its.map It.sl ≠ [] := by intro e; apply hne; simp at e; simp [e]
  obtain ⟨b, off, rfl, hb, _, hc⟩ := hrd hne'
  refine ⟨b, off, rfl, hb, fun i hi => ?_⟩
  have hi' : i < its.length := by simpa using hi
  have h1 := hc i (by simpa using hi')
  rw [List.getElem_map] at h1
  have h2 := hall _ (List.getElem_mem hi')
  refine ⟨its[i].A, its[i].c, ?_, ?_, ?_, ?_⟩
  · rw [h1]; simp [It.sl]
  · rw [List.getElem_map]; exact Rd.own h2.1
  · rw [List.getElem_map]; exact (own_cap h2.1).1
  · exact (own_cap h2.1).2
theorem OwnRows.on {w w' : World} {base : Nat} {v : Value} {l : List (List UInt8)} (h : OwnRows w base v l) (b : Below w.heap.size w w') : OwnRows w' base v l := by
  obtain ⟨its, hown, hl, hall⟩ := h
  exact ⟨its, own_on hown b, hl, fun x hx => (hall x hx).on b⟩
theorem OwnRows.short {w : World} {base : Nat} {v : Value} {l : List (List UInt8)} (h : OwnRows w base v l) : ∀ x ∈ l, x.length ≤ 1000000 := by
  obtain ⟨its, _, rfl, hall⟩ := h
  intro x hx
  obtain ⟨y, hy, rfl⟩ := List.mem_map.1 hx
  have := (hall y hy).2
  omega
def lightB (ga gd gl : Int) (l : List (List UInt8)) : Bool := decide (pagesOf ga gd gl ≤ 30) && decide (l.length ≤ 40) && l.all fun b => decide (b.length ≤ 600)
theorem light_of {ga gd gl : Int} {l : List (List UInt8)} (h : lightB ga gd gl l = true) : pagesOf ga gd gl ≤ 30 ∧ l.length ≤ 40 ∧ ∀ b ∈ l, b.length ≤ 600 := by
  simp [lightB] at h
  exact ⟨h.1.1, h.1.2, h.2⟩
set_option maxHeartbeats 1000000 in
theorem light_any (ga gd gl : Int) (A : Option Addr) (l : List (List UInt8)) (n c : Nat) (w : World) (hG : Gb ga gd gl) (hr : Rws w w.heap.size A l) (hn : n = l.length) (hc : n ≤ maxLen) :
    Calls Try.prog 29 #[gv ga gd gl, .slice A n c] w fun e w' => e = .returned (.bool (lightB ga gd gl l)) ∧ Below w.heap.size w w' := by
  obtain ⟨z0, z1, z2⟩ := gthree (Blk.new w (gcell ga gd gl) 23)
  have b0 := b1alloc w (.cells (gcell ga gd gl).toArray 23)
  have HP := Lib.hid (fun W => Geom.rpages_any ga gd gl W hG.a0 hG.a1 hG.d0 hG.d1 hG.g0 hG.g1)
  have hL : lightB ga gd gl l = (decide (pagesOf ga gd gl ≤ 30) && decide (l.length ≤ 40) && l.all fun b => decide (b.length ≤ 600)) := rfl
  obtain ⟨q, hq⟩ : ∃ q, q = pagesOf ga gd gl := ⟨_, rfl⟩
  obtain ⟨R, hR⟩ : ∃ R, R = lightB ga gd gl l := ⟨_, rfl⟩
  rw [← hq] at HP hL
  rw [← hR] at hL ⊢
  clear hq hR
  by_cases h1 : q ≤ 30
  rotate_left
  · rw [decide_eq_false h1, Bool.false_and, Bool.false_and] at hL
    have h1' : 30 < q := by omega
    have HL := Lib.hid hL
    clear hL h1 hr hn
    go_enter Try.func29, Try.ntmps29
    go_wp2_with (go_at_call 33; refine (HP.out _).mono ?_; rintro e w' ⟨rfl, b1⟩)
    go_ret
    rw [HL.out]
    exact ⟨rfl, bt b0 b1⟩
  rw [decide_eq_true h1, Bool.true_and] at hL
  have h1' : ¬ 30 < q := by omega
  by_cases h2 : n ≤ 40
  rotate_left
  · rw [← hn, decide_eq_false h2, Bool.false_and] at hL
    have h2' : (40 : Int) < (n : Int) := by omega
    have HL := Lib.hid hL
    clear hL h1 h2 hr hn
    go_enter Try.func29, Try.ntmps29
    go_wp2_with (go_at_call 33; refine (HP.out _).mono ?_; rintro e w' ⟨rfl, b1⟩)
    go_ret
    rw [HL.out]
    exact ⟨rfl, bt b0 b1⟩
  have h2' : ¬ (40 : Int) < (n : Int) := by omega
  rw [← hn, decide_eq_true h2, Bool.true_and] at hL
  have HL := Lib.hid hL
  have Hn := Lib.hid hn
  clear hL h1 hn
  go_enter Try.func29, Try.ntmps29
  go_wp2_with (go_at_call 33; refine (HP.out _).mono ?_; rintro e w' ⟨rfl, b1⟩)
  have bw := bt b0 b1
  clear z0 z1 z2
  go_loopw [5] (fun i wr => ∃ k : Nat, k ≤ n ∧ i = .int .i64 (k : Int) ∧ Below w.heap.size w wr ∧ Hid (∀ j (hj : j < l.length), j < k → l[j].length ≤ 600)) (fun i _ => n - (intOf i).toNat)
  case atStart => exact ⟨0, by omega, rfl, bw, Lib.hid (fun j hj h => by omega)⟩
  case round =>
    obtain ⟨k, hk, rfl, bel, hall⟩ := hrel
    have hwk : wrap64 ((k : Int) + 1) = (k : Int) + 1 := by unfold wrap64; omega
    by_cases hlt : k < n
    · have hkl : k < l.length := by have := Hn.out; omega
      have hkm : (k : Int) < (n : Int) := by omega
      obtain ⟨b1', o1, A1, c1, rfl, hb1, hc1, hr1, _, _⟩ := (hr.below bel).get hkl
      obtain ⟨x, hx⟩ : ∃ x, x = l[k].length := ⟨_, rfl⟩
      rw [← hx] at hc1
      have Hx := Lib.hid hx
      clear hx hr1
      by_cases h3 : x ≤ 600
      · have h3' : ¬ (600 : Int) < (x : Int) := by omega
        go_wp2
        case roundEnd => exact ⟨⟨k + 1, by omega, rfl, bel, Lib.hid (fun j hj h => by
          rcases (show j < k ∨ j = k by omega) with h4 | h4
          · exact hall.out j hj h4
          · subst h4; rw [← Hx.out]; exact h3)⟩, by simp only [intOf]; omega⟩
      · have h3' : (600 : Int) < (x : Int) := by omega
        go_wp2
        go_ret
        refine ⟨ret_bool ?_, bel⟩
        rw [HL.out]
        symm
        rw [List.all_eq_false]
        exact ⟨l[k], List.getElem_mem _, by rw [← Hx.out]; simpa using h3⟩
    · have hkn : ¬ (k : Int) < (n : Int) := by omega
      go_wp2
      go_ret
      refine ⟨ret_bool ?_, bel⟩
      rw [HL.out]
      symm
      rw [List.all_eq_true]
      intro b hb
      obtain ⟨j, hj, rfl⟩ := List.mem_iff_getElem.1 hb
      exact decide_eq_true (hall.out j hj (by have := Hn.out; omega))
def okB (ga gd gl : Int) (l : List (List UInt8)) : Bool := (l.all fun b => decide (b.length ≤ 479)) && (Geom.right ga gd gl && decide ((l.length : Int) = pagesOf ga gd gl))
theorem ok_of {ga gd gl : Int} {n : Nat} {l : List (List UInt8)} (hn : (n : Int) = Geom.sizeOf ga gd gl) (h : okB ga gd gl l = true) : PagesOk ga gd gl n l ∧ Geom.right ga gd gl = true ∧ longB l = false := by
  simp [okB] at h
  exact ⟨⟨hn, h.2.2, fun j hj => h.1 _ (List.getElem_mem hj)⟩, h.2.1, longB_no fun j hj => h.1 _ (List.getElem_mem hj)⟩
set_option maxHeartbeats 1000000 in
theorem rright_any (ga gd gl : Int) (A : Option Addr) (l : List (List UInt8)) (n c : Nat) (w : World) (hG : Gb ga gd gl) (hr : Rws w w.heap.size A l) (hn : n = l.length) (hc : n ≤ 1000) :
    Calls Try.prog 34 #[gv ga gd gl, .slice A n c] w fun e w' => e = .returned (.bool (okB ga gd gl l)) ∧ Below w.heap.size w w' := by
  have FG := Blk.new w (gcell ga gd gl) 23
  have b0 := b1alloc w (.cells (gcell ga gd gl).toArray 23)
  have HP := Lib.hid (fun W => Geom.rpages_any ga gd gl W hG.a0 hG.a1 hG.d0 hG.d1 hG.g0 hG.g1)
  have HR := Lib.hid (fun W => Geom.rright_any ga gd gl W hG.a0 hG.a1 hG.d0 hG.d1 hG.g0 hG.g1)
  have hL : okB ga gd gl l = ((l.all fun b => decide (b.length ≤ 479)) && (Geom.right ga gd gl && decide ((l.length : Int) = pagesOf ga gd gl))) := rfl
  obtain ⟨q, hq⟩ : ∃ q, q = pagesOf ga gd gl := ⟨_, rfl⟩
  obtain ⟨r, hrr⟩ : ∃ r, r = Geom.right ga gd gl := ⟨_, rfl⟩
  obtain ⟨R, hR⟩ : ∃ R, R = okB ga gd gl l := ⟨_, rfl⟩
  rw [← hq] at HP hL
  rw [← hrr] at HR hL
  rw [← hR] at hL ⊢
  rw [← hn] at hL
  have HL := Lib.hid hL
  have Hn := Lib.hid hn
  have HG := Lib.hid FG
  clear hq hR hrr hL hn FG
  go_enter Try.func34, Try.ntmps34
  go_wp2_with fail
  go_loopw [5] (fun i wr => ∃ k : Nat, k ≤ n ∧ i = .int .i64 (k : Int) ∧ Below (w.alloc (.cells (gcell ga gd gl).toArray 23)).heap.size (w.alloc (.cells (gcell ga gd gl).toArray 23)) wr ∧ Hid (∀ j (hj : j < l.length), j < k → l[j].length ≤ 479)) (fun i _ => n - (intOf i).toNat)
  case atStart => exact ⟨0, by omega, rfl, Below.refl _ _, Lib.hid (fun j hj h => by omega)⟩
  case round =>
    obtain ⟨k, hk, rfl, bel0, hall⟩ := hrel
    have bel := bt b0 bel0
    have hwk : wrap64 ((k : Int) + 1) = (k : Int) + 1 := by unfold wrap64; omega
    by_cases hlt : k < n
    · have hkl : k < l.length := by have := Hn.out; omega
      have hkm : (k : Int) < (n : Int) := by omega
      obtain ⟨b1', o1, A1, c1, rfl, hb1, hc1, hr1, _, _⟩ := (hr.below bel).get hkl
      obtain ⟨x, hx⟩ : ∃ x, x = l[k].length := ⟨_, rfl⟩
      rw [← hx] at hc1
      have Hx := Lib.hid hx
      clear hx hr1
      by_cases h3 : x ≤ 479
      · have h3' : ¬ (479 : Int) < (x : Int) := by omega
        go_wp2
        case roundEnd => exact ⟨⟨k + 1, by omega, rfl, bel0, Lib.hid (fun j hj h => by
          rcases (show j < k ∨ j = k by omega) with h4 | h4
          · exact hall.out j hj h4
          · subst h4; rw [← Hx.out]; exact h3)⟩, by simp only [intOf]; omega⟩
      · have h3' : (479 : Int) < (x : Int) := by omega
        go_wp2
        go_ret
        refine ⟨ret_bool ?_, bel⟩
        rw [HL.out]
        symm
        rw [Bool.and_eq_false_iff]
        left
        rw [List.all_eq_false]
        exact ⟨l[k], List.getElem_mem _, by rw [← Hx.out]; simpa using h3⟩
    · have hkn : ¬ (k : Int) < (n : Int) := by omega
      have ht := Lib.hid (show R = (r && decide ((n : Int) = q)) by
        rw [HL.out, show (l.all fun b => decide (b.length ≤ 479)) = true from ?_, Bool.true_and]
        rw [List.all_eq_true]
        intro b hb
        obtain ⟨j, hj, rfl⟩ := List.mem_iff_getElem.1 hb
        exact decide_eq_true (hall.out j hj (by have := Hn.out; omega)))
      obtain ⟨z0, z1, z2⟩ := gthree (HG.out.on bel0)
      have H1 := fun W (bW : Below wr.heap.size wr W) => gthree ((HG.out.on bel0).on bW)
      cases r with
      | true =>
        rw [Bool.true_and] at ht
        go_wp2_with (first
          | (go_at_call 19; refine (HR.out _).mono ?_; rintro e w1 ⟨rfl, b1⟩; clear z0 z1 z2; obtain ⟨z0, z1, z2⟩ := H1 _ b1)
          | (go_at_call 33; refine (HP.out _).mono ?_; rintro e w2 ⟨rfl, b2⟩))
        go_ret
        exact ⟨ret_bool (by rw [ht.out]; first | rfl | simp | exact Bool.beq_eq_decide_eq _ _), bt bel (bt b1 b2)⟩
      | false =>
        rw [Bool.false_and] at ht
        go_wp2_with (go_at_call 19; refine (HR.out _).mono ?_; rintro e w1 ⟨rfl, b1⟩)
        go_ret
        exact ⟨ret_bool (by rw [ht.out]), bt bel b1⟩
theorem rsector_any (life : UInt64) (k : Int) (A : Option Addr) (n c : Nat) (w : World) : Calls Try.prog 36 #[.int .u64 (life.toNat : Int), .int .i64 k, .slice A n c] w fun e w' => e = .returned (.agg #[.int .i64 3, .int .u64 (life.toNat : Int), .int .i64 k, .int .u64 0, .slice A n c]) ∧ Below w.heap.size w w' := by
  have F := Blk.new w [.int .i64 0, .int .u64 0, .int .i64 0, .int .u64 0, .slice none 0 0] 49
  go_enter Try.func36, Try.ntmps36
  go_wp2
  refine bodyPost_ret (v := .agg #[.int .i64 3, .int .u64 (life.toNat : Int), .int .i64 k, .int .u64 0, .slice A n c]) (by simp [results, Try.results36, go_sem]) rfl ⟨rfl, ?_⟩
  exact b1alloc _ _
theorem box_rdQ {W : World} {g : Nat} {v : Value} {Q : Nat → Prop} (h : Box W g v) (hq : Q g) : RdQ W Q (some ⟨g, 0, none⟩) [v] := fun _ => ⟨g, 0, rfl, h.lt, hq, fun i hi => by
  obtain rfl : i = 0 := by simp at hi; exact hi
  exact h.cell⟩
theorem lit3 (w : World) (t1 t2 t3 : TypeId) : Rw (((w.alloc (.cells #[.int .u8 1] t1)).alloc (.cells #[.int .u8 2] t2)).alloc (.cells #[.slice (some ⟨w.heap.size, 0, none⟩) 1 1, .slice none 0 0, .slice (some ⟨w.heap.size + 1, 0, none⟩) 1 1] t3)) (fun j => w.heap.size ≤ j) (some ⟨w.heap.size + 1 + 1, 0, none⟩) [[1], [], [2]] := by
  have x1 := ((Box.new w t1 (.int .u8 1)).alloc (.cells #[.int .u8 2] t2)).alloc (.cells #[.slice (some ⟨w.heap.size, 0, none⟩) 1 1, .slice none 0 0, .slice (some ⟨w.heap.size + 1, 0, none⟩) 1 1] t3)
  have x2 := (Box.new (w.alloc (.cells #[.int .u8 1] t1)) t2 (.int .u8 2)).alloc (.cells #[.slice (some ⟨w.heap.size, 0, none⟩) 1 1, .slice none 0 0, .slice (some ⟨w.heap.size + 1, 0, none⟩) 1 1] t3)
  have x3 := Blk.new ((w.alloc (.cells #[.int .u8 1] t1)).alloc (.cells #[.int .u8 2] t2)) [.slice (some ⟨w.heap.size, 0, none⟩) 1 1, .slice none 0 0, .slice (some ⟨w.heap.size + 1, 0, none⟩) 1 1] t3
  simp at x2 x3
  obtain ⟨c0, c1, c2⟩ := gthree x3
  refine fun _ => ⟨w.heap.size + 1 + 1, 0, rfl, x3.lt, by omega, fun i hi => ?_⟩
  rcases (show i = 0 ∨ i = 1 ∨ i = 2 by simp at hi; omega) with rfl | rfl | rfl
  · exact ⟨_, _, c0, box_rdQ x1 (Nat.le_refl _), Nat.le_refl _, by unfold maxLen; omega⟩
  · exact ⟨_, _, c1, RdQ.nil _ _ _, Nat.le_refl _, by unfold maxLen; omega⟩
  · exact ⟨_, _, c2, box_rdQ x2 (by omega), Nat.le_refl _, by unfold maxLen; omega⟩
set_option maxHeartbeats 4000000 in
theorem alive_any (w : World) : Calls Try.prog 30 #[] w fun e w' => e = .returned (.bool true) ∧ Below w.heap.size w w' := by
  have hp3 : pagesOf 2 1 3 = 3 := by decide
  have r0 : srightF (new 13) 2 1 3 = 0 := srightF_new (n := 13) right213 rfl (by rw [size213]; rfl)
  have hz0 : (new 13).sz = 0 := rfl
  have hok : PagesOk 2 1 3 13 [[1], [], [2]] := ⟨by rw [size213]; rfl, by rw [hp3]; rfl, fun j hj => by
    rcases (show j = 0 ∨ j = 1 ∨ j = 2 by simp at hj; omega) with rfl | rfl | rfl <;> simp⟩
  have hno : snapR [] (new 13) 2 1 3 1 3 = none := by
    unfold snapR
    rw [if_neg]
    unfold allPg
    rw [List.all_eq_true]
    intro h
    have h0 := h 0 (by simp)
    unfold isPg rdAt at h0
    have hpl := area_ok (ga := 2) (gd := 1) (gl := 3) (life := 1) (k := 0) (by rw [hp3]; decide)
    rw [size213] at hpl
    rw [Enc.rd_zero (up_new 13) hpl.1 (by exact hpl.2.1) rfl] at h0
    simp at h0
  obtain ⟨u1, u2, u3, u4, u5, u6⟩ := hok.up 1 [] (up_new 13)
  obtain ⟨lm1, lm2⟩ := Enc.enf_lim (pItems 2 1 3 1 0 [[1], [], [2]]) [] (new 13)
  have hR1 := fun g fp gS bS W h => read_any g fp (new 13) gS bS [] 2 1 3 1 W gb213 h (by simp) (by omega) r0 rfl 3 hp3.symm
  rw [hno] at hR1
  have hW := fun g fp gS bS Q A c W h hr hQ => write_any g fp (new 13) gS bS [] 2 1 3 1 Q A [[1], [], [2]] c W gb213 h (by simp) (by omega) r0 hr hQ (by rw [hp3]; rfl) rfl
  have hq : snapF 2 1 3 1 [[1], [], [2]] [] (new 13) = Enc.enf (pItems 2 1 3 1 0 [[1], [], [2]]) [] (new 13) := rfl
  rw [← hq] at lm1 lm2
  obtain ⟨V, hV⟩ : ∃ V, V = snapF 2 1 3 1 [[1], [], [2]] [] (new 13) := ⟨_, rfl⟩
  rw [← hV] at u1 u2 u3 u4 u5 u6 hW lm1 lm2
  rw [u1] at hW
  rw [pItems_len] at lm1 lm2
  simp only [List.length_nil, List.length_cons] at lm1 lm2
  have rV : srightF V.2.1 2 1 3 = 0 := srightF_new (n := 13) right213 u2.size (by rw [size213]; rfl)
  have hyes := (snapR_some (fun k hk => rdAt_good u2 hok hk (u4 k hk))).1
  have hR2 := fun g fp gS bS W h => read_any g fp V.2.1 gS bS V.1 2 1 3 1 W gb213 h (by omega) (by omega) rV u2.down 3 hp3.symm
  rw [show ([[1], [], [2]] : List (List UInt8)).length = 3 from rfl] at hyes
  rw [hyes] at hR2
  have hE := fun W => empty_any 2 1 3 W gb213
  rw [hp3] at hE
  have HR1 := Lib.hid hR1
  have HR2 := Lib.hid hR2
  have HW := Lib.hid hW
  have HE := Lib.hid hE
  clear hR1 hR2 hW hE hq hV u1 u2 u3 u4 u5 u6 lm1 lm2 rV hyes hno hok r0 hz0 hp3
  have tR : True := trivial
  have F := Lib.hid (Blk.new w (gcell 2 1 3) 23)
  have hltF := F.out.lt
  have b0 := b1alloc w (.cells (gcell 2 1 3).toArray 23)
  go_enter Try.func30, Try.ntmps30
  go_wp2_with (first
    | (go_at_call 12; refine (newN_any 13 13 rfl (by omega) (by omega) _).mono ?_; rintro e w1 ⟨g, fp, rfl, hD, hfp, b1⟩)
    | (go_at_call 14; refine (symbolic_any _).mono ?_; rintro e w2 ⟨gS, bS, rfl, hS, hgS, hbS, b2⟩; have H2 := Here.start hD hfp b1 hS hgS hbS b2; obtain ⟨m0, m1, m2⟩ := gthree (F.out.below H2.bel hltF))
    | (go_at_call 37; have _t := tR; refine (HR1.out _ _ _ _ _ H2.both).mono ?_; rintro e w3 ⟨rfl, b3⟩; have H3 := H2.on b3; clear m0 m1 m2; obtain ⟨m0, m1, m2⟩ := gthree (F.out.below H3.bel hltF); clear tR)
    | (go_at_call 31; have H4 := H3.on (b3alloc w3 (.cells #[.int .u8 1] 5) (.cells #[.int .u8 2] 5) (.cells #[.slice (some ⟨w3.heap.size, 0, none⟩) 1 1, .slice none 0 0, .slice (some ⟨w3.heap.size + 1, 0, none⟩) 1 1] 37)); refine (HW.out _ _ _ _ _ _ _ _ H4.both (lit3 w3 _ _ _) (fun j hj _ e => by rcases List.mem_cons.1 e with e | e; (have := H3.both.sym.lt.2; omega); (have := H3.both.disk.lt _ e; omega))).mono ?_; rintro e w5 ⟨rfl, T5⟩; obtain ⟨fp5, H5, _, _⟩ := H4.turn T5; clear m0 m1 m2; obtain ⟨m0, m1, m2⟩ := gthree (F.out.below H5.bel hltF))
    | (go_at_call 37; refine (HR2.out _ _ _ _ _ H5.both).mono ?_; rintro e w6 ⟨⟨A6, c6, rfl, _⟩, b6⟩; have H6 := H5.on b6; clear m0 m1 m2; obtain ⟨m0, m1, m2⟩ := gthree (F.out.below H6.bel hltF))
    | (go_at_call 32; refine (HE.out _).mono ?_; rintro e w7 ⟨A7, c7, rfl, _, b7⟩))
  go_ret
  exact ⟨rfl, bt b0 (bt H6.bel b7)⟩
end Go.Proofs.Ytmpmibcdpkolkaa.Snap

/- The laws of the log: a log beside a disk, and the chapter's example. No statement is proved here. -/
namespace Go.Proofs.Ytmpmibcdpkolkaa.Wal
open Go.RowKit
open Go.Proofs.Ytmpmibcdpkolkaa.Geom
open Go.Proofs.Ytmpmibcdpkolkaa.Sup (Gb gv gcell gthree newN_any UpN up_new gb213 size213 right213)
open Go.Proofs.Ytmpmibcdpkolkaa.Disk (St DAt new)
open Go.Proofs.Ytmpmibcdpkolkaa.Sec (X symbolic_any)
set_option linter.unusedVariables false
set_option maxRecDepth 100000
/-- in a law: a log in a block of the law's own, beside the disk -/
structure HereL (w0 w : World) (g : Nat) (fp : List Nat) (s : St) (gS bS : Nat) (l : List (List UInt8)) (L : Nat) (ga gd gl : Int) (life : UInt64) (base : Int) (seq : Nat) : Prop where
  both : Both w g fp s gS bS l
  bel : Below w0.heap.size w0 w
  own : ∀ j ∈ L :: bS :: fp, w0.heap.size ≤ j
  lat : LAt w L g gS ga gd gl life base seq
  nL : L ∉ bS :: gS :: fp
theorem HereL.on {w0 w w' : World} {g : Nat} {fp : List Nat} {s : St} {gS bS : Nat} {l : List (List UInt8)} {L : Nat} {ga gd gl : Int} {life : UInt64} {base : Int} {seq : Nat} (h : HereL w0 w g fp s gS bS l L ga gd gl life base seq) (b : Below w.heap.size w w') : HereL w0 w' g fp s gS bS l L ga gd gl life base seq := ⟨h.both.on b, bt h.bel b, h.own, h.lat.on b, h.nL⟩
theorem HereL.turn {w0 w w' : World} {g : Nat} {fp : List Nat} {s s' : St} {gS bS : Nat} {l l' : List (List UInt8)} {L : Nat} {ga gd gl : Int} {life : UInt64} {base : Int} {seq seq' : Nat} (h : HereL w0 w g fp s gS bS l L ga gd gl life base seq) (t : WTurn w g fp gS bS L ga gd gl life base s' l' seq' w') : ∃ fp', HereL w0 w' g fp' s' gS bS l' L ga gd gl life base seq' := by
  obtain ⟨fp', b, k, f, la⟩ := t
  refine ⟨fp', b, h.bel.trans (k.below h.own h.bel.size), fun j hj => ?_, la, fun hj => ?_⟩
  · rcases List.mem_cons.1 hj with e | hj
    · exact h.own j (by rw [e]; simp)
    rcases List.mem_cons.1 hj with e | hj
    · exact h.own j (by rw [e]; simp)
    · exact f.ge (fun i hi => h.own i (by simp [hi])) h.bel.size j hj
  · rcases List.mem_cons.1 hj with e | hj
    · exact h.nL (by rw [e]; simp)
    rcases List.mem_cons.1 hj with e | hj
    · exact h.nL (by rw [e]; simp)
    · exact f.out h.lat.lt (fun e => h.nL (by simp [e])) hj
theorem HereL.start {w0 w w' : World} {g : Nat} {fp : List Nat} {s : St} {gS bS : Nat} {l : List (List UInt8)} {ga gd gl : Int} {life : UInt64} {base : Int} {L : Nat} (h : Here w0 w g fp s gS bS l) (hL : L = w.heap.size + 1) (ha : LAt w' L g gS ga gd gl life base 0) (b : Below w.heap.size w w') : HereL w0 w' g fp s gS bS l L ga gd gl life base 0 := by
  subst hL
  refine ⟨h.both.on b, bt h.bel b, fun j hj => ?_, ha, fun hj => ?_⟩
  · have := h.bel.size
    rcases List.mem_cons.1 hj with e | hj
    · omega
    · exact h.own j hj
  · have h1 := h.both.sym.lt
    rcases List.mem_cons.1 hj with e | hj
    · omega
    rcases List.mem_cons.1 hj with e | hj
    · omega
    · have := h.both.disk.lt _ hj; omega
theorem HereL.notQ {w0 w : World} {g : Nat} {fp : List Nat} {s : St} {gS bS : Nat} {l : List (List UInt8)} {L : Nat} {ga gd gl : Int} {life : UInt64} {base : Int} {seq : Nat} (h : HereL w0 w g fp s gS bS l L ga gd gl life base seq) {n : Nat} (hn : n ≤ w0.heap.size) : ∀ j, j < n → j < w.heap.size → j ∉ L :: bS :: fp := fun j hj _ e => by have := h.own j e; omega
theorem HereL.here {w0 w : World} {g : Nat} {fp : List Nat} {s : St} {gS bS : Nat} {l : List (List UInt8)} {L : Nat} {ga gd gl : Int} {life : UInt64} {base : Int} {seq : Nat} (h : HereL w0 w g fp s gS bS l L ga gd gl life base seq) : Here w0 w g fp s gS bS l := ⟨h.both, h.bel, fun j hj => h.own j (by simp only [List.mem_cons] at hj ⊢; exact .inr hj)⟩
theorem wright_new {ga gd gl base : Int} {n : Nat} (hr : right ga gd gl = true) (hn : (n : Int) = Geom.sizeOf ga gd gl) (h0 : 0 ≤ base) (h1 : base ≤ 1073741824) {s : St} (hs : s.size = n) : wrightF s ga gd gl base = 0 := by
  unfold wrightF
  rw [if_pos ⟨hr, by rw [hs]; exact hn, h0, h1⟩]
/-- one page, written out -/
theorem lit_page (w : World) : Pgs ((w.alloc (.cells #[.int .u8 7] 5)).alloc (.cells #[.int .i64 1, .slice (some ⟨w.heap.size, 0, none⟩) 1 1] 157)) (fun j => w.heap.size ≤ j) (some ⟨w.heap.size + 1, 0, none⟩) [⟨1, [7]⟩] := fun _ => by
  refine ⟨w.heap.size + 1, 0, rfl, by simp, by omega, fun i hi => ?_⟩
  obtain rfl : i = 0 := by simp at hi; exact hi
  refine ⟨some ⟨w.heap.size, 0, none⟩, 1, ?_⟩
  have hB := Blk.new (w.alloc (.cells #[.int .u8 7] 5)) [.int .i64 1, .slice (some ⟨w.heap.size, 0, none⟩) 1 1] 157
  have hA := (Blk.new w [.int .u8 7] 5).alloc (.cells #[.int .i64 1, .slice (some ⟨w.heap.size, 0, none⟩) 1 1] 157)
  have c0 := hB.cell (k := 0) (by simp)
  have c1 := hB.cell (k := 1) (by simp)
  have a0 := hA.cell (k := 0) (by simp)
  simp only [World.size_alloc] at c0 c1
  refine ⟨c0, c1, fun _ => ⟨w.heap.size, 0, rfl, by simp; omega, Nat.le_refl _, fun j hj => ?_⟩, by simp, by unfold maxLen; omega, by simp, by simp⟩
  obtain rfl : j = 0 := by simp at hj; exact hj
  exact a0
set_option maxHeartbeats 2000000 in
theorem alive_any (w : World) : Calls Try.prog 49 #[] w fun e w' => e = .returned (.bool true) ∧ Below w.heap.size w w' := by
  have hp3 : pagesOf 2 1 3 = 3 := by decide
  have hn : ((13 : Nat) : Int) = Geom.sizeOf 2 1 3 := by rw [size213]; rfl
  have r0 : wrightF (new 13) 2 1 3 0 = 0 := wright_new (n := 13) right213 hn (by decide) (by decide) rfl
  have hbd : badB 2 1 3 [⟨1, [7]⟩] = false := by decide
  have hft : fitsB 2 1 3 (([⟨1, [7]⟩] : List Pg).length : Int) = true := by decide
  obtain ⟨v0, hI⟩ := (LogIs.new 2 1 3 0 13).append (t := ⟨[⟨1, [7]⟩], 4⟩) (life := 1) right213 (by decide) hn (by decide) hbd
  have hsc := LogIs.scan (life := 1) (ts := [⟨[⟨1, [7]⟩], 4⟩]) (by simpa [allSecs] using hI) right213 (by decide) hn (by decide) (fun t ht x hx => by
    rw [List.mem_singleton] at ht
    subst ht
    rw [List.mem_singleton] at hx
    subst hx
    rw [hp3]
    decide)
  have hlm : (putF 2 1 3 0 1 0 4 [⟨1, [7]⟩] [] (new 13)).1.length ≤ 1000000 ∧ (putF 2 1 3 0 1 0 4 [⟨1, [7]⟩] [] (new 13)).2.1.sz ≤ 90000000 := by
    obtain ⟨l1, l2⟩ := Enc.enf_lim (dItems 2 1 3 0 1 0 4 0 [⟨1, [7]⟩]) [] (new 13)
    have hz0 : (new 13).sz = 0 := rfl
    simp only [dItems, List.length_cons, List.length_nil] at l1 l2
    unfold putF
    split
    · obtain ⟨l3, l4⟩ := Enc.enf_lim [(logAt 2 1 3 (0 + ((0 + ([⟨1, [7]⟩] : List Pg).length : Nat) : Int)), dX 5 1 0 ([⟨1, [7]⟩] : List Pg).length 4 ([⟨1, [7]⟩] : List Pg).length [])] (Enc.enf (dItems 2 1 3 0 1 0 4 0 [⟨1, [7]⟩]) [] (new 13)).1 (Enc.enf (dItems 2 1 3 0 1 0 4 0 [⟨1, [7]⟩]) [] (new 13)).2.1
      simp only [dItems, List.length_cons, List.length_nil] at l3 l4 ⊢
      omega
    · simp only [dItems]
      omega
  have hAp := fun g fp gS bS L A c W h hL hLn Q hr hQ => append_any g fp (new 13) gS bS [] L 2 1 3 1 0 0 Q A [⟨1, [7]⟩] c 4 W gb213 h hL hLn (by simp) (by decide) (by decide) (by decide) hr hQ hbd hft (by decide)
  obtain ⟨V, hV⟩ : ∃ V, V = putF 2 1 3 0 1 0 4 [⟨1, [7]⟩] [] (new 13) := ⟨_, rfl⟩
  simp only [List.length_nil] at v0 hI hsc
  rw [← hV] at v0 hI hsc hlm hAp
  rw [v0] at hAp
  have rV : wrightF V.2.1 2 1 3 0 = 0 := wright_new (n := 13) right213 hn (by decide) (by decide) hI.up.size
  have hSc := fun g fp gS bS W h => scan_any g fp V.2.1 gS bS V.1 2 1 3 1 0 W gb213 h hlm.1 hlm.2 rV hI.up.down
  rw [hsc] at hSc
  have HN := Lib.hid (fun g fp gS W h => new_any g fp (new 13) gS 2 1 3 1 0 W gb213 h r0)
  have HAp := Lib.hid hAp
  have HSc := Lib.hid hSc
  have HRm := Lib.hid (fun L g gS W h => room_any L g gS 2 1 3 1 0 2 W h (by decide) (by decide) (by decide))
  clear hAp hSc hV v0 hI hsc hlm rV hbd hft r0 hn hp3
  have F := Lib.hid (Blk.new w (gcell 2 1 3) 23)
  have hltF := F.out.lt
  have b0 := b1alloc w (.cells (gcell 2 1 3).toArray 23)
  go_enter Try.func49, Try.ntmps49
  go_wp2_with (first
    | (go_at_call 12; refine (newN_any 13 13 rfl (by omega) (by omega) _).mono ?_; rintro e w1 ⟨g, fp, rfl, hD, hfp, b1⟩)
    | (go_at_call 14; refine (symbolic_any _).mono ?_; rintro e w2 ⟨gS, bS, rfl, hS, hgS, hbS, b2⟩; have H2 := Here.start hD hfp b1 hS hgS hbS b2; obtain ⟨m0, m1, m2⟩ := gthree (F.out.below H2.bel hltF))
    | (go_at_call 55; refine (HN.out _ _ _ _ H2.both.disk).mono ?_; rintro e w3 ⟨rfl, hLA, b3⟩; have H3 := HereL.start H2 rfl hLA b3)
    | (go_at_call 59; have H4 := H3.on (b2alloc w3 (.cells #[.int .u8 7] 5) (.cells #[.int .i64 1, .slice (some ⟨w3.heap.size, 0, none⟩) 1 1] 157)); refine (HAp.out _ _ _ _ _ _ _ _ H4.both H4.lat H4.nL _ (lit_page w3) (fun j hj _ e => (by rcases List.mem_cons.1 e with e | e; (have := H3.lat.lt; omega); rcases List.mem_cons.1 e with e | e; (have := H3.both.sym.lt.2; omega); (have := H3.both.disk.lt _ e; omega)))).mono ?_; rintro e w5 ⟨rfl, T5⟩; obtain ⟨fp5, H5⟩ := H4.turn T5; clear m0 m1 m2; obtain ⟨m0, m1, m2⟩ := gthree (F.out.below H5.bel hltF))
    | (go_at_call 50; refine (HSc.out _ _ _ _ _ H5.both).mono ?_; rintro e w6 ⟨⟨v6, rfl, hO⟩, b6⟩; have H6 := H5.on b6; obtain ⟨A6, c6, rfl, hT6, _, _⟩ := hO.txs; obtain ⟨b, off, Ai, ci, rfl, hbl, hx⟩ := hT6.get (i := 0) (by simp); have x0 : w6.cell? ⟨b, off, none⟩ = some (.slice Ai 1 ci) := (by simpa using hx.c0); have x1 : w6.cell? ⟨b, off + 1, none⟩ = some (.int .u64 4) := (by simpa using hx.c1); obtain ⟨bp, op, Ap, cp, rfl, hbp, hy⟩ := hx.pgs.get (i := 0) (by simp); have y0 : w6.cell? ⟨bp, op, none⟩ = some (.int .i64 1) := (by simpa using hy.c0))
    | (go_at_call 63; refine (HRm.out _ _ _ _ H6.lat).mono ?_; rintro e w7 ⟨rfl, b7⟩))
  go_ret
  exact ⟨rfl, bt b0 (bt H6.bel b7)⟩
end Go.Proofs.Ytmpmibcdpkolkaa.Wal

/- The laws of the log: which inputs are light, which pages may be, why a transaction is not appended. No statement is proved here. -/
namespace Go.Proofs.Ytmpmibcdpkolkaa.Wal
open Go.RowKit
open Go.Proofs.Ytmpmibcdpkolkaa.Geom
open Go.Proofs.Ytmpmibcdpkolkaa.Sup (Gb gv gcell gthree)
set_option linter.unusedVariables false
set_option maxRecDepth 100000
attribute [local irreducible] wpQuiet
/-- what is light -/
structure LightOk (gl : Int) (l : List Tx) : Prop where
  log : ¬ (16 < gl ∧ gl ≤ 64)
  len : l.length ≤ 20
  pages : ∀ t ∈ l, t.pages.length ≤ 20 ∧ ∀ p ∈ t.pages, p.body.length ≤ 600
def LightRet (gl : Int) (l : List Tx) (e : Ending) : Prop := ∃ B : Bool, e = .returned (.bool B) ∧ (B = true → LightOk gl l)
set_option maxHeartbeats 2000000 in
theorem light_any (Q : Nat → Prop) (A : Option Addr) (l : List Tx) (c : Nat) (ga gd gl : Int) (w : World) (hr : Txs w Q A l) :
    Calls Try.prog 54 #[gv ga gd gl, .slice A l.length c] w fun e w' => LightRet gl l e ∧ Below w.heap.size w w' := by
  have FG := Blk.new w (gcell ga gd gl) 23
  have b0 := b1alloc w (.cells (gcell ga gd gl).toArray 23)
  obtain ⟨z0, z1, z2⟩ := gthree FG
  obtain ⟨N, hN⟩ : ∃ N, N = l.length := ⟨_, rfl⟩
  rw [← hN]
  have HN := Lib.hid hN
  have HR := Lib.hid (hr.on b0)
  clear hN hr FG
  by_cases h1 : 16 < gl ∧ gl ≤ 64
  · have h2 := h1.1
    have h3 := h1.2
    clear h1
    go_enter Try.func54, Try.ntmps54
    go_wp2
    all_goals (go_ret; exact ⟨⟨false, rfl, fun h => (by cases h)⟩, b0⟩)
  by_cases h20 : N ≤ 20
  rotate_left
  · have t2 : (20 : Int) < (N : Int) := by omega
    have t3 : (decide (16 < gl) && decide (gl ≤ 64)) = false := by
      rw [Bool.and_eq_false_iff, decide_eq_false_iff_not, decide_eq_false_iff_not]
      by_cases hx : 16 < gl
      · exact .inr (fun h => h1 ⟨hx, h⟩)
      · exact .inl hx
    clear h1 h20
    by_cases hx : 16 < gl
    · go_enter Try.func54, Try.ntmps54
      go_wp2
      all_goals (go_ret; exact ⟨⟨false, rfl, fun h => (by cases h)⟩, b0⟩)
    · go_enter Try.func54, Try.ntmps54
      go_wp2
      all_goals (go_ret; exact ⟨⟨false, rfl, fun h => (by cases h)⟩, b0⟩)
  have t2 : ¬ (20 : Int) < (N : Int) := by omega
  have H1 := Lib.hid h1
  have hsp : (16 < gl ∧ ¬ gl ≤ 64) ∨ ¬ 16 < gl := by
    by_cases hx : 16 < gl
    · exact .inl ⟨hx, fun h => h1 ⟨hx, h⟩⟩
    · exact .inr hx
  clear h1
  rcases hsp with ⟨hx, hy⟩ | hx
  all_goals
    go_enter Try.func54, Try.ntmps54
    go_wp2_with fail
    go_loopw [5] (fun i wr => ∃ k : Nat, k ≤ N ∧ i = .int .i64 (k : Int) ∧ wr = w.alloc (.cells (gcell ga gd gl).toArray 23) ∧ Hid (∀ t ∈ l.take k, t.pages.length ≤ 20 ∧ ∀ p ∈ t.pages, p.body.length ≤ 600)) (fun i _ => N - (intOf i).toNat)
    case atStart => exact ⟨0, Nat.zero_le _, rfl, rfl, Lib.hid (fun t ht => by simp at ht)⟩
    case round =>
      obtain ⟨k, hk, rfl, rfl, hid⟩ := hrel
      by_cases hlt : k < N
      · have hkm : (k : Int) < (N : Int) := by omega
        have hge : ¬ (N : Int) ≤ (k : Int) := by omega
        have hll : k < l.length := by have := HN.out; omega
        have htk : l.take (k + 1) = l.take k ++ [l[k]] := List.take_succ_eq_append_getElem hll
        obtain ⟨b, off, Ai, ci, rfl, hb, hT⟩ := HR.out.get hll
        obtain ⟨x, hx'⟩ : ∃ x, x = l[k] := ⟨_, rfl⟩
        rw [← hx'] at hT htk
        have c0 := hT.c0
        have HPg := Lib.hid hT.pgs
        have Htk := Lib.hid htk
        obtain ⟨m, hm⟩ : ∃ m, m = x.pages.length := ⟨_, rfl⟩
        rw [← hm] at c0
        have Hm := Lib.hid hm
        clear hm hT htk hx'
        by_cases hm20 : m ≤ 20
        rotate_left
        · have t5 : (20 : Int) < (m : Int) := by omega
          go_wp2
          go_ret
          exact ⟨⟨false, rfl, fun h => (by cases h)⟩, b0⟩
        have t5 : ¬ (20 : Int) < (m : Int) := by omega
        go_wp2_with fail
        go_loopw [6] (fun i wr => ∃ j : Nat, j ≤ m ∧ i = .int .i64 (j : Int) ∧ wr = w.alloc (.cells (gcell ga gd gl).toArray 23) ∧ Hid (∀ p ∈ x.pages.take j, p.body.length ≤ 600)) (fun i _ => m - (intOf i).toNat)
        case atStart => exact ⟨0, Nat.zero_le _, rfl, rfl, Lib.hid (fun t ht => by simp at ht)⟩
        case round =>
          obtain ⟨j, hj, rfl, rfl, hid2⟩ := hrel
          by_cases hjt : j < m
          · have hjm : (j : Int) < (m : Int) := by omega
            have hge2 : ¬ (m : Int) ≤ (j : Int) := by omega
            have hjl : j < x.pages.length := by have := Hm.out; omega
            have htj : x.pages.take (j + 1) = x.pages.take j ++ [x.pages[j]] := List.take_succ_eq_append_getElem hjl
            obtain ⟨b2, off2, Aj, cj, rfl, hb2, hP⟩ := HPg.out.get hjl
            obtain ⟨y, hy'⟩ : ∃ y, y = x.pages[j] := ⟨_, rfl⟩
            rw [← hy'] at hP htj
            have d1 := hP.c1
            have Htj := Lib.hid htj
            by_cases h600 : y.body.length ≤ 600
            · have t6 : ¬ (600 : Int) < (y.body.length : Int) := by omega
              have Hyl := Lib.hid h600
              clear hP htj hy' h600
              go_wp2
              case roundEnd => exact ⟨⟨j + 1, by omega, by go_num, by first | trivial | rfl, Lib.hid (by rw [Htj.out]; intro p hp; rcases List.mem_append.1 hp with hp | hp; (· exact hid2.out p hp); (· rw [List.mem_singleton] at hp; rw [hp]; exact Hyl.out))⟩, by simp only [intOf]; omega⟩
            · have t6 : (600 : Int) < (y.body.length : Int) := by omega
              clear hP htj hy' h600
              go_wp2
              go_ret
              exact ⟨⟨false, rfl, fun h => (by cases h)⟩, b0⟩
          · have hjm : j = m := by omega
            have hjn : ¬ (j : Int) < (m : Int) := by omega
            have Hj := Lib.hid hjm
            clear hjm
            go_wp2
            have hgo := Lib.hid (show ∀ t ∈ l.take (k + 1), t.pages.length ≤ 20 ∧ ∀ p ∈ t.pages, p.body.length ≤ 600 by
              rw [Htk.out]
              intro t ht
              rcases List.mem_append.1 ht with ht | ht
              · exact hid.out t ht
              · rw [List.mem_singleton] at ht
                rw [ht]
                have h2 := hid2.out
                rw [Hj.out, Hm.out, List.take_length] at h2
                exact ⟨by have := Hm.out; omega, h2⟩)
            exact ⟨⟨k + 1, by omega, by go_num, by first | trivial | rfl, Lib.hid hgo.out⟩, by simp only [intOf]; omega⟩
      · have hkm : k = N := by omega
        have hkn : ¬ (k : Int) < (N : Int) := by omega
        have Hk := Lib.hid hkm
        clear hkm
        go_wp2
        go_ret
        refine ⟨⟨true, rfl, fun _ => ⟨H1.out, by have := HN.out; omega, ?_⟩⟩, b0⟩
        have h2 := hid.out
        rw [Hk.out, HN.out, List.take_length] at h2
        exact h2
set_option maxHeartbeats 2000000 in
theorem rpagesOk_any (Q : Nat → Prop) (A : Option Addr) (l : List Pg) (c : Nat) (ga gd gl : Int) (w : World) (hG : Gb ga gd gl) (hr : Pgs w Q A l) (hl : l.length ≤ 1000000) :
    Calls Try.prog 105 #[gv ga gd gl, .slice A l.length c] w fun e w' => e = .returned (.bool (!badB ga gd gl l)) ∧ Below w.heap.size w w' := by
  have FG := Blk.new w (gcell ga gd gl) 23
  have b0 := b1alloc w (.cells (gcell ga gd gl).toArray 23)
  have HFG := Lib.hid FG
  have HPg := Lib.hid (fun W => Geom.rpages_any ga gd gl W hG.a0 hG.a1 hG.d0 hG.d1 hG.g0 hG.g1)
  obtain ⟨N, hN⟩ : ∃ N, N = l.length := ⟨_, rfl⟩
  rw [← hN]
  have HN := Lib.hid hN
  have HR := Lib.hid hr
  have hl' : N ≤ 1000000 := by omega
  obtain ⟨R, hR⟩ : ∃ R, R = badB ga gd gl l := ⟨_, rfl⟩
  rw [← hR]
  have HRR := Lib.hid hR
  obtain ⟨q, hq⟩ : ∃ q, q = pagesOf ga gd gl := ⟨_, rfl⟩
  rw [← hq] at HPg
  have Hq := Lib.hid hq
  clear hN hr hl hR hq FG
  go_enter Try.func105, Try.ntmps105
  go_wp2_with fail
  go_loopw [5] (fun i wr => ∃ k : Nat, k ≤ N ∧ i = .int .i64 (k : Int) ∧ Below w.heap.size w wr ∧ Blk wr w.heap.size (gcell ga gd gl) ∧ Hid (∀ j (hj : j < l.length), j < k → wrongB ga gd gl l[j] = false)) (fun i _ => N - (intOf i).toNat)
  case atStart => exact ⟨0, Nat.zero_le _, rfl, b0, HFG.out, Lib.hid (fun j _ h => absurd h (Nat.not_lt_zero j))⟩
  case round =>
    obtain ⟨k, hk, rfl, bel, hB, hid⟩ := hrel
    clear b0
    by_cases hlt : k < N
    · have hkm : (k : Int) < (N : Int) := by omega
      have hge : ¬ (N : Int) ≤ (k : Int) := by omega
      have hll : k < l.length := by have := HN.out; omega
      obtain ⟨z0, z1, z2⟩ := gthree hB
      have lG := hB.lt
      obtain ⟨b, off, Ai, ci, rfl, hb, hP⟩ := (HR.out.on bel).get hll
      have hW : wrongB ga gd gl l[k] = (decide (l[k].n < 0) || (decide (q ≤ l[k].n) || decide (473 < l[k].body.length))) := by rw [Hq.out]; rfl
      have hgo : wrongB ga gd gl l[k] = false → ∀ j (hj : j < l.length), j < k + 1 → wrongB ga gd gl l[j] = false := fun h j hj hjk => by
        rcases Nat.lt_succ_iff_lt_or_eq.1 hjk with e | e
        · exact hid.out j hj e
        · subst e; exact h
      have hst : wrongB ga gd gl l[k] = true → R = true := fun h => by rw [HRR.out]; exact badB_yes hll h
      obtain ⟨⟨xn, xb⟩, hx⟩ : ∃ x, x = l[k] := ⟨_, rfl⟩
      rw [← hx] at hP hW hgo hst
      simp only at hW
      have c0 := hP.c0
      have c1 := hP.c1
      obtain ⟨m, hm⟩ : ∃ m, m = xb.length := ⟨_, rfl⟩
      simp only at c0 c1
      rw [← hm] at c1 hW
      have HB := Lib.hid hB
      have Hgo := Lib.hid hgo
      have Hst := Lib.hid hst
      by_cases h0 : xn < 0
      · have hf := Lib.hid (hst (by rw [hW, decide_eq_true h0]; rfl))
        clear hP hW hgo hst hx hm hB
        go_wp2_with fail
        refine region_inb (by kernel_rfl) (by kernel_rfl) ?_
        have inbNe := InB.some
        have inbW := @wrap_small
        have inbU := IntKind.wrap_u8'
        repeat (refine wpQuiet_step (fun K hK => ?_); go_simp; first | (refine hK _ ?_; clear hK K) | (apply Exists.intro; refine ⟨?_, hK _ ?_⟩; (· (intro w' hw'; first | fail | (have hcw := hw'.cell; go_simp; exact rfl))); clear hK K))
        refine wpQuiet_nil ?_
        intro wq hq
        clear inbNe inbW inbU
        go_wp2
        go_ret
        exact ⟨by rw [hf.out]; rfl, bt bel hq.below⟩
      by_cases h1 : q ≤ xn
      · have hf := Lib.hid (hst (by rw [hW, decide_eq_true h1]; simp))
        clear hP hW hgo hst hx hm hB
        go_wp2_with fail
        refine region_inb (by kernel_rfl) (by kernel_rfl) ?_
        have inbNe := InB.some
        have inbW := @wrap_small
        have inbU := IntKind.wrap_u8'
        repeat (refine wpQuiet_step (fun K hK => ?_); go_simp; first | (refine hK _ ?_; clear hK K) | (apply Exists.intro; refine ⟨?_, hK _ ?_⟩; (· (intro w' hw'; first | (go_at_call 33; refine (HPg.out _).mono ?_; rintro e w1 ⟨rfl, b1⟩; exact ⟨rfl, hw'.on b1⟩) | (have hcw := hw'.cell; go_simp; exact rfl))); clear hK K))
        refine wpQuiet_nil ?_
        intro wq hq
        clear inbNe inbW inbU
        go_wp2
        go_ret
        exact ⟨by rw [hf.out]; rfl, bt bel hq.below⟩
      by_cases h2 : 473 < m
      · have hf := Lib.hid (hst (by rw [hW, decide_eq_true h2]; simp))
        have t2 : (473 : Int) < (m : Int) := by omega
        clear hP hW hgo hst hx hm hB h2
        go_wp2_with fail
        refine region_inb (by kernel_rfl) (by kernel_rfl) ?_
        have inbNe := InB.some
        have inbW := @wrap_small
        have inbU := IntKind.wrap_u8'
        repeat (refine wpQuiet_step (fun K hK => ?_); go_simp; first | (refine hK _ ?_; clear hK K) | (apply Exists.intro; refine ⟨?_, hK _ ?_⟩; (· (intro w' hw'; first | (go_at_call 33; refine (HPg.out _).mono ?_; rintro e w1 ⟨rfl, b1⟩; exact ⟨rfl, hw'.on b1⟩) | (have hcw := hw'.cell; go_simp; exact rfl))); clear hK K))
        refine wpQuiet_nil ?_
        intro wq hq
        clear inbNe inbW inbU
        go_wp2
        go_ret
        exact ⟨by rw [hf.out]; rfl, bt bel hq.below⟩
      · have hf := Lib.hid (hgo (by rw [hW, decide_eq_false h0, decide_eq_false h1, decide_eq_false h2]; rfl))
        have t2 : ¬ (473 : Int) < (m : Int) := by omega
        clear hP hW hgo hst hx hm hB h2
        go_wp2_with fail
        refine region_inb (by kernel_rfl) (by kernel_rfl) ?_
        have inbNe := InB.some
        have inbW := @wrap_small
        have inbU := IntKind.wrap_u8'
        repeat (refine wpQuiet_step (fun K hK => ?_); go_simp; first | (refine hK _ ?_; clear hK K) | (apply Exists.intro; refine ⟨?_, hK _ ?_⟩; (· (intro w' hw'; first | (go_at_call 33; refine (HPg.out _).mono ?_; rintro e w1 ⟨rfl, b1⟩; exact ⟨rfl, hw'.on b1⟩) | (have hcw := hw'.cell; go_simp; exact rfl))); clear hK K))
        refine wpQuiet_nil ?_
        intro wq hq
        clear inbNe inbW inbU
        go_wp2
        case roundEnd => exact ⟨⟨k + 1, by omega, by go_num, bt bel hq.below, HB.out.on hq.below, Lib.hid hf.out⟩, by simp only [intOf]; omega⟩
    · have hkm : k = N := by omega
      have hkn : ¬ (k : Int) < (N : Int) := by omega
      have Hk := Lib.hid hkm
      clear hkm
      go_wp2
      go_ret
      have hf : R = false := by
        rw [HRR.out]
        exact badB_no (fun j hj => hid.out j hj (by have := Hk.out; have := HN.out; omega))
      exact ⟨by rw [hf]; rfl, bel⟩
end Go.Proofs.Ytmpmibcdpkolkaa.Wal

/- The log: the document's comparisons. No statement is proved here. -/
namespace Go.Proofs.Ytmpmibcdpkolkaa.Wal
open Go.RowKit
set_option linter.unusedVariables false
set_option maxRecDepth 100000
attribute [local irreducible] wpQuiet
theorem take_all_eq {α : Type} {a b : List α} (hl : a.length = b.length) (h : a.take a.length = b.take a.length) : a = b := by
  rw [List.take_length, hl, List.take_length] at h; exact h
set_option maxHeartbeats 1000000 in
theorem alike_any (Q Q' : Nat → Prop) (A B : Option Addr) (a b : List Pg) (n m ca cb : Nat) (w : World) (ha : Pgs w Q A a) (hb : Pgs w Q' B b) (hn : n = a.length) (hm : m = b.length) (hl1 : n ≤ 1000000) (hla : ∀ x ∈ a, x.body.length ≤ 1000000) (hlb : ∀ x ∈ b, x.body.length ≤ 1000000) :
    Calls Try.prog 103 #[.slice A n ca, .slice B m cb] w fun e w' => e = .returned (.bool (decide (a = b))) ∧ Below w.heap.size w w' := by
  by_cases hl : a.length = b.length
  rotate_left
  · have hne : decide (a = b) = false := decide_eq_false (fun e => hl (by rw [e]))
    rw [hne]
    subst hn hm
    have t0 := bne_yes (show (a.length : Int) ≠ (b.length : Int) by omega)
    clear hl hne
    go_enter Try.func103, Try.ntmps103
    go_wp2
    go_ret
    exact ⟨rfl, Below.refl _ _⟩
  have hmn : m = n := by omega
  subst hmn
  have Hn := Lib.hid hn
  have HL := Lib.hid hl
  obtain ⟨D, hD⟩ : ∃ D, D = decide (a = b) := ⟨_, rfl⟩
  rw [← hD]
  have HD := Lib.hid hD
  clear hn hl hm hD
  go_enter Try.func103, Try.ntmps103
  go_wp2_with fail
  go_loopw [5] (fun i wr => ∃ k : Nat, k ≤ m ∧ i = .int .i64 (k : Int) ∧ Below w.heap.size w wr ∧ Hid (a.take k = b.take k)) (fun i _ => m - (intOf i).toNat)
  case atStart => exact ⟨0, by omega, rfl, Below.refl _ _, Lib.hid (by simp)⟩
  case round =>
    obtain ⟨k, hk, rfl, bel, hj⟩ := hrel
    by_cases hlt : k < m
    · have hka : k < a.length := by have := Hn.out; omega
      have hkb : k < b.length := by have := Hn.out; have := HL.out; omega
      have hkm : (k : Int) < (m : Int) := by omega
      have hge : ¬ (m : Int) ≤ (k : Int) := by omega
      obtain ⟨b1, o1, A1, c1, rfl, hb1, hc1⟩ := (ha.on bel).get hka
      obtain ⟨b2, o2, A2, c2, rfl, hb2, hc2⟩ := (hb.on bel).get hkb
      have p0 := hc1.c0
      have p1 := hc1.c1
      have q0 := hc2.c0
      have q1 := hc2.c1
      have hS := fun W (bW : Below wr.heap.size wr W) => R1.same_any A1 A2 a[k].body b[k].body _ _ c1 c2 W rfl rfl ((hc1.rd.rd.below bW).more bW.size) ((hc2.rd.rd.below bW).more bW.size) (by have := hla _ (List.getElem_mem hka); omega) (by have := hlb _ (List.getElem_mem hkb); omega)
      have hst := R20.take_snoc_eq hka hkb
      obtain ⟨⟨xn, xb⟩, hx⟩ : ∃ x, x = a[k] := ⟨_, rfl⟩
      obtain ⟨⟨yn, yb⟩, hy⟩ : ∃ y, y = b[k] := ⟨_, rfl⟩
      rw [← hx, ← hy] at hS hst
      rw [← hx] at p0 p1
      rw [← hy] at q0 q1
      have hsame : R1.sameB xb yb = decide (xb = yb) := rfl
      simp only at hS p0 p1 q0 q1
      rw [hsame] at hS
      by_cases hen : xn = yn
      rotate_left
      · have t0 := bne_yes hen
        have Hst := Lib.hid hst
        have He := Lib.hid hen
        clear hS hst hsame hx hy hc1 hc2 ha hb hen
        go_wp2_with fail
        refine region_inb (by kernel_rfl) (by kernel_rfl) ?_
        have inbNe := InB.some
        have inbW := @wrap_small
        have inbU := IntKind.wrap_u8'
        repeat (refine wpQuiet_step (fun K hK => ?_); go_simp; first | (refine hK _ ?_; clear hK K) | (apply Exists.intro; refine ⟨?_, hK _ ?_⟩; (· (intro w' hw'; first | fail | (have hcw := hw'.cell; go_simp; exact rfl))); clear hK K))
        refine wpQuiet_nil ?_
        intro wq hq
        clear inbNe inbW inbU
        go_wp2
        go_ret
        have hF : D = false := by
          rw [HD.out]
          refine decide_eq_false fun e => ?_
          have h2 : a.take (k + 1) = b.take (k + 1) := by rw [e]
          have h3 := (Hst.out.1 h2).2
          injection h3 with h3 _
          exact He.out h3
        exact ⟨ret_bool hF.symm, bt bel hq.below⟩
      have t0 := bne_no hen
      by_cases heb : xb = yb
      · rw [decide_eq_true heb] at hS
        have HS := Lib.hid hS
        have Hgo := Lib.hid (show a.take (k + 1) = b.take (k + 1) from hst.2 ⟨hj.out, by rw [hen, heb]⟩)
        clear hS hst hsame hx hy hc1 hc2 ha hb hen heb
        go_wp2_with fail
        refine region_inb (by kernel_rfl) (by kernel_rfl) ?_
        have inbNe := InB.some
        have inbW := @wrap_small
        have inbU := IntKind.wrap_u8'
        repeat (refine wpQuiet_step (fun K hK => ?_); go_simp; first | (refine hK _ ?_; clear hK K) | (apply Exists.intro; refine ⟨?_, hK _ ?_⟩; (· (intro w' hw'; first | (go_at_call 16; refine (HS.out _ hw'.below).mono ?_; rintro e w1 ⟨rfl, b1⟩; exact ⟨rfl, hw'.on b1⟩) | (have hcw := hw'.cell; go_simp; exact rfl))); clear hK K))
        refine wpQuiet_nil ?_
        intro wq hq
        clear inbNe inbW inbU
        go_wp2
        case roundEnd => exact ⟨⟨k + 1, by omega, by go_num, bt bel hq.below, Lib.hid Hgo.out⟩, by simp only [intOf]; omega⟩
      · rw [decide_eq_false heb] at hS
        have HS := Lib.hid hS
        have Hst := Lib.hid hst
        have He := Lib.hid heb
        clear hS hst hsame hx hy hc1 hc2 ha hb hen heb
        go_wp2_with fail
        refine region_inb (by kernel_rfl) (by kernel_rfl) ?_
        have inbNe := InB.some
        have inbW := @wrap_small
        have inbU := IntKind.wrap_u8'
        repeat (refine wpQuiet_step (fun K hK => ?_); go_simp; first | (refine hK _ ?_; clear hK K) | (apply Exists.intro; refine ⟨?_, hK _ ?_⟩; (· (intro w' hw'; first | (go_at_call 16; refine (HS.out _ hw'.below).mono ?_; rintro e w1 ⟨rfl, b1⟩; exact ⟨rfl, hw'.on b1⟩) | (have hcw := hw'.cell; go_simp; exact rfl))); clear hK K))
        refine wpQuiet_nil ?_
        intro wq hq
        clear inbNe inbW inbU
        go_wp2
        go_ret
        have hF : D = false := by
          rw [HD.out]
          refine decide_eq_false fun e => ?_
          have h2 : a.take (k + 1) = b.take (k + 1) := by rw [e]
          have h3 := (Hst.out.1 h2).2
          injection h3 with _ h3
          exact He.out h3
        exact ⟨ret_bool hF.symm, bt bel hq.below⟩
    · have hkm : k = m := by omega
      have hkn : ¬ (k : Int) < (m : Int) := by omega
      have Hk := Lib.hid hkm
      clear hkm
      go_wp2
      go_ret
      have hF : D = true := by
        rw [HD.out]
        refine decide_eq_true ?_
        have h1 := hj.out
        rw [Hk.out, Hn.out] at h1
        exact take_all_eq HL.out h1
      exact ⟨ret_bool hF.symm, bel⟩
set_option maxHeartbeats 1000000 in
theorem txsame_any (Q Q' : Nat → Prop) (A B : Option Addr) (a b : List Tx) (n m ca cb : Nat) (w : World) (ha : Txs w Q A a) (hb : Txs w Q' B b) (hn : n = a.length) (hm : m = b.length) (hl1 : n ≤ 1000000) (hla : ∀ x ∈ a, x.pages.length ≤ 1000000 ∧ ∀ y ∈ x.pages, y.body.length ≤ 1000000) (hlb : ∀ x ∈ b, ∀ y ∈ x.pages, y.body.length ≤ 1000000) :
    Calls Try.prog 51 #[.slice A n ca, .slice B m cb] w fun e w' => e = .returned (.bool (decide (a = b))) ∧ Below w.heap.size w w' := by
  by_cases hl : a.length = b.length
  rotate_left
  · have hne : decide (a = b) = false := decide_eq_false (fun e => hl (by rw [e]))
    rw [hne]
    subst hn hm
    have t0 := bne_yes (show (a.length : Int) ≠ (b.length : Int) by omega)
    clear hl hne
    go_enter Try.func51, Try.ntmps51
    go_wp2
    go_ret
    exact ⟨rfl, Below.refl _ _⟩
  have hmn : m = n := by omega
  subst hmn
  have Hn := Lib.hid hn
  have HL := Lib.hid hl
  obtain ⟨D, hD⟩ : ∃ D, D = decide (a = b) := ⟨_, rfl⟩
  rw [← hD]
  have HD := Lib.hid hD
  clear hn hl hm hD
  go_enter Try.func51, Try.ntmps51
  go_wp2_with fail
  go_loopw [5] (fun i wr => ∃ k : Nat, k ≤ m ∧ i = .int .i64 (k : Int) ∧ Below w.heap.size w wr ∧ Hid (a.take k = b.take k)) (fun i _ => m - (intOf i).toNat)
  case atStart => exact ⟨0, by omega, rfl, Below.refl _ _, Lib.hid (by simp)⟩
  case round =>
    obtain ⟨k, hk, rfl, bel, hj⟩ := hrel
    by_cases hlt : k < m
    · have hka : k < a.length := by have := Hn.out; omega
      have hkb : k < b.length := by have := Hn.out; have := HL.out; omega
      have hkm : (k : Int) < (m : Int) := by omega
      have hge : ¬ (m : Int) ≤ (k : Int) := by omega
      obtain ⟨b1, o1, A1, c1, rfl, hb1, hc1⟩ := (ha.on bel).get hka
      obtain ⟨b2, o2, A2, c2, rfl, hb2, hc2⟩ := (hb.on bel).get hkb
      have p0 := hc1.c0
      have p1 := hc1.c1
      have q0 := hc2.c0
      have q1 := hc2.c1
      have hS := fun W (bW : Below wr.heap.size wr W) => alike_any Q Q' A1 A2 a[k].pages b[k].pages _ _ c1 c2 W (hc1.pgs.on bW) (hc2.pgs.on bW) rfl rfl (hla _ (List.getElem_mem hka)).1 (hla _ (List.getElem_mem hka)).2 (hlb _ (List.getElem_mem hkb))
      have hst := R20.take_snoc_eq hka hkb
      obtain ⟨⟨xb, xn⟩, hx⟩ : ∃ x, x = a[k] := ⟨_, rfl⟩
      obtain ⟨⟨yb, yn⟩, hy⟩ : ∃ y, y = b[k] := ⟨_, rfl⟩
      rw [← hx, ← hy] at hS hst
      rw [← hx] at p0 p1
      rw [← hy] at q0 q1
      simp only at hS p0 p1 q0 q1
      by_cases hen : xn = yn
      rotate_left
      · have t0 := bne_yes (show (xn.toNat : Int) ≠ (yn.toNat : Int) from fun e => hen (UInt64.toNat_inj.1 (by omega)))
        have Hst := Lib.hid hst
        have He := Lib.hid hen
        clear hS hst hx hy hc1 hc2 ha hb hen
        go_wp2_with fail
        refine region_inb (by kernel_rfl) (by kernel_rfl) ?_
        have inbNe := InB.some
        have inbW := @wrap_small
        have inbU := IntKind.wrap_u8'
        repeat (refine wpQuiet_step (fun K hK => ?_); go_simp; first | (refine hK _ ?_; clear hK K) | (apply Exists.intro; refine ⟨?_, hK _ ?_⟩; (· (intro w' hw'; first | fail | (have hcw := hw'.cell; go_simp; exact rfl))); clear hK K))
        refine wpQuiet_nil ?_
        intro wq hq
        clear inbNe inbW inbU
        go_wp2
        go_ret
        have hF : D = false := by
          rw [HD.out]
          refine decide_eq_false fun e => ?_
          have h2 : a.take (k + 1) = b.take (k + 1) := by rw [e]
          have h3 := (Hst.out.1 h2).2
          injection h3 with _ h3
          exact He.out h3
        exact ⟨ret_bool hF.symm, bt bel hq.below⟩
      have t0 := bne_no (show (xn.toNat : Int) = (yn.toNat : Int) by rw [hen])
      by_cases heb : xb = yb
      · rw [decide_eq_true heb] at hS
        have HS := Lib.hid hS
        have Hgo := Lib.hid (show a.take (k + 1) = b.take (k + 1) from hst.2 ⟨hj.out, by rw [hen, heb]⟩)
        clear hS hst hx hy hc1 hc2 ha hb hen heb
        go_wp2_with fail
        refine region_inb (by kernel_rfl) (by kernel_rfl) ?_
        have inbNe := InB.some
        have inbW := @wrap_small
        have inbU := IntKind.wrap_u8'
        repeat (refine wpQuiet_step (fun K hK => ?_); go_simp; first | (refine hK _ ?_; clear hK K) | (apply Exists.intro; refine ⟨?_, hK _ ?_⟩; (· (intro w' hw'; first | (go_at_call 103; refine (HS.out _ hw'.below).mono ?_; rintro e w1 ⟨rfl, b1⟩; exact ⟨rfl, hw'.on b1⟩) | (have hcw := hw'.cell; go_simp; exact rfl))); clear hK K))
        refine wpQuiet_nil ?_
        intro wq hq
        clear inbNe inbW inbU
        go_wp2
        case roundEnd => exact ⟨⟨k + 1, by omega, by go_num, bt bel hq.below, Lib.hid Hgo.out⟩, by simp only [intOf]; omega⟩
      · rw [decide_eq_false heb] at hS
        have HS := Lib.hid hS
        have Hst := Lib.hid hst
        have He := Lib.hid heb
        clear hS hst hx hy hc1 hc2 ha hb hen heb
        go_wp2_with fail
        refine region_inb (by kernel_rfl) (by kernel_rfl) ?_
        have inbNe := InB.some
        have inbW := @wrap_small
        have inbU := IntKind.wrap_u8'
        repeat (refine wpQuiet_step (fun K hK => ?_); go_simp; first | (refine hK _ ?_; clear hK K) | (apply Exists.intro; refine ⟨?_, hK _ ?_⟩; (· (intro w' hw'; first | (go_at_call 103; refine (HS.out _ hw'.below).mono ?_; rintro e w1 ⟨rfl, b1⟩; exact ⟨rfl, hw'.on b1⟩) | (have hcw := hw'.cell; go_simp; exact rfl))); clear hK K))
        refine wpQuiet_nil ?_
        intro wq hq
        clear inbNe inbW inbU
        go_wp2
        go_ret
        have hF : D = false := by
          rw [HD.out]
          refine decide_eq_false fun e => ?_
          have h2 : a.take (k + 1) = b.take (k + 1) := by rw [e]
          have h3 := (Hst.out.1 h2).2
          injection h3 with h3 _
          exact He.out h3
        exact ⟨ret_bool hF.symm, bt bel hq.below⟩
    · have hkm : k = m := by omega
      have hkn : ¬ (k : Int) < (m : Int) := by omega
      have Hk := Lib.hid hkm
      clear hkm
      go_wp2
      go_ret
      have hF : D = true := by
        rw [HD.out]
        refine decide_eq_true ?_
        have h1 := hj.out
        rw [Hk.out, Hn.out] at h1
        exact take_all_eq HL.out h1
      exact ⟨ret_bool hF.symm, bel⟩
end Go.Proofs.Ytmpmibcdpkolkaa.Wal

/- How a sector (a struct of five fields, one of them a slice of bytes) comes in as an argument. -/
namespace Go.Proofs.Ytmpmibcdpkolkaa
open Go.ChangeShapes Go.WideShapes Go.ChangeAt Go.RowKit Go.Joins Go.Deep
set_option maxRecDepth 100000
set_option linter.unusedVariables false
theorem array5 {α : Type} {cs : Array α} (h : cs.size = 5) : ∃ c0 c1 c2 c3 c4, cs = #[c0, c1, c2, c3, c4] := by
  obtain ⟨l⟩ := cs
  match l, h with
  | [c0, c1, c2, c3, c4], _ => exact ⟨c0, c1, c2, c3, c4, rfl⟩
theorem open_agg5 {H : Type} {enc : TypeId × Value → H} {P : Program} {w : World} {base : Nat} {spare : Nat → Bool} {held : Bool} {r : Reach} {b0 : Nat} {t : TypeId} {f0 f1 f2 f3 f4 : Field} {v : Value} {d : DataW H} {p : List MemPlace}
    (hs : P.underlying t = some (.struct #[f0, f1, f2, f3, f4])) (hone : oneCellFields P #[f0, f1, f2, f3, f4] = true) (hC : P.cellsOf t = 5)
    (hv : Value.okWide P w r b0 t v) (h : DataW.Trod enc P w base spare held t v d p) :
    ∃ (v0 v1 v2 v3 v4 : Value) (y0 y1 y2 y3 y4 : DataW H × List MemPlace) (n : Nat), v = .agg #[v0, v1, v2, v3, v4] ∧
      DataW.trod enc P w base spare held n f0.type [v0] = some y0 ∧ DataW.trod enc P w base spare held n f1.type [v1] = some y1 ∧ DataW.trod enc P w base spare held n f2.type [v2] = some y2 ∧ DataW.trod enc P w base spare held n f3.type [v3] = some y3 ∧ DataW.trod enc P w base spare held n f4.type [v4] = some y4 := by
  obtain ⟨cs, rfl, hsz⟩ := okWide_struct hs hv
  obtain ⟨c0, c1, c2, c3, c4, rfl⟩ := array5 (hsz.trans hC)
  obtain ⟨fuel, hf⟩ := h
  obtain ⟨ys, n, _, hx, hl, hlen, hf⟩ := DataW.trod_struct hs hf
  obtain ⟨o0, k0⟩ := hone_of hone 0 f0 rfl
  obtain ⟨o1, k1⟩ := hone_of hone 1 f1 rfl
  obtain ⟨o2, k2⟩ := hone_of hone 2 f2 rfl
  obtain ⟨o3, k3⟩ := hone_of hone 3 f3 rfl
  obtain ⟨o4, k4⟩ := hone_of hone 4 f4 rfl
  match ys, hlen with
  | [y0, y1, y2, y3, y4], _ =>
    have e0 := hf 0 f0 rfl
    have e1 := hf 1 f1 rfl
    have e2 := hf 2 f2 rfl
    have e3 := hf 3 f3 rfl
    have e4 := hf 4 f4 rfl
    exact ⟨c0, c1, c2, c3, c4, y0, y1, y2, y3, y4, n, rfl, by simpa [Value.cells, o0, k0] using e0, by simpa [Value.cells, o1, k1] using e1, by simpa [Value.cells, o2, k2] using e2, by simpa [Value.cells, o3, k3] using e3, by simpa [Value.cells, o4, k4] using e4⟩
theorem sector_of {H : Type} {enc : TypeId × Value → H} {w : World} {r : Reach} {b0 : Nat} {v : Value} {d : DataW H} {p : List MemPlace} (hv : Value.okWide Try.prog w r b0 49 v) (h : DataW.Trod enc Try.prog w 0 (fun _ => true) true 49 v d p) :
    ∃ (x : Sec.X) (A : Option Addr) (c : Nat), v = .agg #[.int .i64 x.kind, .int .u64 (x.life.toNat : Int), .int .i64 x.seq, .int .u64 (x.gen.toNat : Int), .slice A x.body.length c] ∧ Rd w w.heap.size A (x.body.map e8) ∧ x.body.length ≤ c ∧ c ≤ maxLen := by
  obtain ⟨v0, v1, v2, v3, v4, y0, y1, y2, y3, y4, n, rfl, t0, t1, t2, t3, t4⟩ := open_agg5 Try.underlying49 (by kernel_rfl) (by kernel_rfl) hv h
  obtain ⟨k, e0, _, wk⟩ := DataW.trod_int Try.underlying3 t0
  obtain ⟨u1, e1, _, w1⟩ := DataW.trod_int Try.underlying24 t1
  obtain ⟨s, e2, _, ws⟩ := DataW.trod_int Try.underlying3 t2
  obtain ⟨u3, e3, _, w3⟩ := DataW.trod_int Try.underlying24 t3
  obtain ⟨A4, l4, c4, e4, r4, q4, m4⟩ := bytes_of1 Try.underlying37 Try.underlying5 (by kernel_rfl) t4
  simp only [List.cons.injEq, and_true] at e0 e1 e2 e3
  subst e0 e1 e2 e3 e4
  obtain ⟨u1', rfl⟩ := wf64 w1
  obtain ⟨u3', rfl⟩ := wf64 w3
  exact ⟨⟨k, u1', s, u3', l4⟩, A4, c4, rfl, r4, q4, m4⟩
end Go.Proofs.Ytmpmibcdpkolkaa

/- Rows of sectors ([]Sector): how they read, and how they come in as an argument. -/
namespace Go.Proofs.Ytmpmibcdpkolkaa
open Go.RowKit
set_option linter.unusedVariables false
/-- a sector in five cells -/
structure SecAt (w : World) (B b o : Nat) (x : Sec.X) (Ai : Option Addr) (ci : Nat) : Prop where
  c0 : w.cell? ⟨b, o, none⟩ = some (.int .i64 x.kind)
  c1 : w.cell? ⟨b, o + 1, none⟩ = some (.int .u64 (x.life.toNat : Int))
  c2 : w.cell? ⟨b, o + 2, none⟩ = some (.int .i64 x.seq)
  c3 : w.cell? ⟨b, o + 3, none⟩ = some (.int .u64 (x.gen.toNat : Int))
  c4 : w.cell? ⟨b, o + 4, none⟩ = some (.slice Ai x.body.length ci)
  rd : Rd w B Ai (x.body.map e8)
  cap : x.body.length ≤ ci
  max : ci ≤ maxLen
/-- a slice of sectors -/
def Secs (w : World) (B : Nat) (A : Option Addr) (l : List Sec.X) : Prop :=
  l ≠ [] → ∃ b off, A = some ⟨b, off, none⟩ ∧ b < B ∧ ∀ i (h : i < l.length), ∃ Ai ci, SecAt w B b (off + i * 5) l[i] Ai ci
theorem Secs.get {w : World} {B : Nat} {A : Option Addr} {l : List Sec.X} (h : Secs w B A l) {i : Nat} (hi : i < l.length) :
    ∃ b off Ai ci, A = some ⟨b, off, none⟩ ∧ b < B ∧ SecAt w B b (off + i * 5) l[i] Ai ci := by
  obtain ⟨b, off, rfl, hb, hc⟩ := h (by intro e; rw [e] at hi; exact absurd hi (by simp))
  obtain ⟨Ai, ci, h1⟩ := hc i hi
  exact ⟨b, off, Ai, ci, rfl, hb, h1⟩
theorem SecAt.below {w w' : World} {B b o : Nat} {x : Sec.X} {Ai : Option Addr} {ci : Nat} (h : SecAt w B b o x Ai ci) (hb : Below B w w') (hlt : b < B) : SecAt w' B b o x Ai ci :=
  ⟨(hb.cell (p := ⟨b, _, none⟩) hlt).trans h.c0, (hb.cell (p := ⟨b, _, none⟩) hlt).trans h.c1, (hb.cell (p := ⟨b, _, none⟩) hlt).trans h.c2, (hb.cell (p := ⟨b, _, none⟩) hlt).trans h.c3, (hb.cell (p := ⟨b, _, none⟩) hlt).trans h.c4, h.rd.below hb, h.cap, h.max⟩
theorem Secs.below {w w' : World} {B : Nat} {A : Option Addr} {l : List Sec.X} (h : Secs w B A l) (hb : Below B w w') : Secs w' B A l := by
  intro hne
  obtain ⟨b, off, rfl, hlt, hc⟩ := h hne
  refine ⟨b, off, rfl, hlt, fun i hi => ?_⟩
  obtain ⟨Ai, ci, h1⟩ := hc i hi
  exact ⟨Ai, ci, h1.below hb hlt⟩
open Go.ChangeShapes Go.WideShapes Go.ChangeAt Go.Joins Go.Deep
set_option maxRecDepth 100000
theorem sectors_of {A : Option Addr} {len cap : Nat} {H : Type} {enc : TypeId × Value → H} {w : World} {held : Bool} {fuel : Nat} {x : DataW H × List MemPlace}
    (h : DataW.trod enc Try.prog w 0 (fun _ => true) held fuel 71 (Value.slice A len cap).cells.toList = some x) :
    ∃ l : List Sec.X, l.length = len ∧ Secs w w.heap.size A l ∧ len ≤ cap ∧ cap ≤ maxLen := by
  rcases open_slice_fields Try.underlying71 Try.underlying49 (by kernel_rfl) (by kernel_rfl) h with hcs | ⟨a, l', c', m, hcs, _, hl, hm, hmm, hi⟩
  · simp [Value.cells] at hcs
    obtain ⟨rfl, rfl, rfl⟩ := hcs
    exact ⟨[], rfl, fun h => absurd rfl h, by omega, by unfold maxLen; omega⟩
  · simp [Value.cells] at hcs
    obtain ⟨rfl, rfl, rfl⟩ := hcs
    simp only [if_true] at hmm
    subst hmm
    have key : ∀ i, i < len → ∃ f : Sec.X, ∃ b off, a = ⟨b, off, none⟩ ∧ b < w.heap.size ∧ ∃ Ai ci, SecAt w w.heap.size b (off + i * 5) f Ai ci := by
      intro i hil
      obtain ⟨ys, n, hf⟩ := hi i (by omega)
      obtain ⟨v0, y0, c0, _, t0⟩ := hf 0 _ rfl
      obtain ⟨v1, y1, c1, _, t1⟩ := hf 1 _ rfl
      obtain ⟨v2, y2, c2, _, t2⟩ := hf 2 _ rfl
      obtain ⟨v3, y3, c3, _, t3⟩ := hf 3 _ rfl
      obtain ⟨v4, y4, c4, _, t4⟩ := hf 4 _ rfl
      obtain ⟨k, e0, _, wk⟩ := DataW.trod_int Try.underlying3 t0
      obtain ⟨u1, e1, _, w1⟩ := DataW.trod_int Try.underlying24 t1
      obtain ⟨s, e2, _, ws⟩ := DataW.trod_int Try.underlying3 t2
      obtain ⟨u3, e3, _, w3⟩ := DataW.trod_int Try.underlying24 t3
      obtain ⟨A4, l4, c4', e4, r4, q4, m4⟩ := bytes_of1 Try.underlying37 Try.underlying5 (by kernel_rfl) t4
      simp only [List.cons.injEq, and_true] at e0 e1 e2 e3
      subst e0 e1 e2 e3 e4
      obtain ⟨u1', rfl⟩ := wf64 w1
      obtain ⟨u3', rfl⟩ := wf64 w3
      obtain ⟨b, off, spot⟩ := a
      have hspot : spot = none := by
        obtain ⟨_, _, hf0⟩ := hi 0 (by omega)
        obtain ⟨_, _, c00, _, _⟩ := hf0 0 _ rfl
        exact World.cell?_spot c00
      subst hspot
      rw [Addr.add_lit] at c0 c1 c2 c3 c4
      have hb : b < w.heap.size := by
        rcases Nat.lt_or_ge b w.heap.size with h | h
        · exact h
        · simp [World.cell?, Array.getElem?_eq_none h] at c0
      exact ⟨⟨k, u1', s, u3', l4⟩, b, off, rfl, hb, A4, c4', c0, c1, c2, c3, c4, r4, q4, m4⟩
    obtain ⟨l, hll, hp⟩ := choose_list key
    refine ⟨l, hll, fun hne => ?_, hl, hm⟩
    have hpos : 0 < l.length := by cases l; exact absurd rfl hne; simp
    obtain ⟨b, off, rfl, hb, _⟩ := hp 0 hpos
    refine ⟨b, off, rfl, hb, fun i hi => ?_⟩
    obtain ⟨b', off', e, _, h2⟩ := hp i hi
    injection e with e1 e2 _
    subst e1 e2
    exact h2
end Go.Proofs.Ytmpmibcdpkolkaa

/- The log: what the document scans, and the laws' turning of transactions. No statement is proved here. -/
namespace Go.Proofs.Ytmpmibcdpkolkaa.Wal
open Go.RowKit
open Go.Proofs.Ytmpmibcdpkolkaa.Sec (X X0)
set_option linter.unusedVariables false
set_option maxRecDepth 100000
attribute [local irreducible] wpQuiet
/-- a page whose bytes lie below -/
structure PfOk (w : World) (n : Nat) (p : Pr) : Prop where
  rd : RdQ w (fun j => j < n) p.A (p.body.map e8)
  cap : p.body.length ≤ p.c
  max : p.c ≤ maxLen
  lo : 0 ≤ p.n
  hi : p.n ≤ 1000000
theorem PfOk.keep {w w' : World} {n : Nat} {p : Pr} (h : PfOk w n p) (hk : ∀ j, j < n → j < w.heap.size → w'.heap[j]? = w.heap[j]?) (hs : w.heap.size ≤ w'.heap.size) : PfOk w' n p :=
  ⟨fun hne => by obtain ⟨b, off, e, hb, hq, hc⟩ := h.rd hne; exact ⟨b, off, e, by omega, hq, fun i hi => (World.cell?_of_block (hk b hq hb)).trans (hc i hi)⟩, h.cap, h.max, h.lo, h.hi⟩
structure TfOk (w : World) (n0 n : Nat) (now : Option Nat) (t : Tr) : Prop where
  row : w.ownsRow n0 157 2 t.sl t.ps.length (t.ps.flatMap Pr.cells)
  ne : ∀ g, t.sl.ownBlock = some g → now ≠ some g
  pages : ∀ p ∈ t.ps, PfOk w n p
theorem TfOk.keep {w w' : World} {n0 n : Nat} {now now' : Option Nat} {t : Tr} (h : TfOk w n0 n now t) (hu : ∀ j, j < n → j < w.heap.size → w'.heap[j]? = w.heap[j]?) (hs : w.heap.size ≤ w'.heap.size)
    (hp : ∀ (j : Nat) (cs : Array Value), now ≠ some j → n0 ≤ j → w.heap[j]? = some (Obj.cells cs 157 (0, 0)) → w'.heap[j]? = w.heap[j]?) (hn : ∀ g, t.sl.ownBlock = some g → now' ≠ some g) : TfOk w' n0 n now' t :=
  ⟨own_keep h.row (fun j cs e hb hh => hp j cs (h.ne j e) hb hh), hn, fun p hpm => (h.pages p hpm).keep hu hs⟩
/-- what the document has read so far -/
structure RfAt (w : World) (n0 T : Nat) (r : Rg) (allv nowv : Value) (trs : List Tr) (prs : List Pr) : Prop where
  blk : Blk w T [nowv, .int .u64 (r.gen.toNat : Int)]
  all : w.ownsRow n0 104 2 allv trs.length (trs.flatMap Tr.cells)
  now : w.ownsRow n0 157 2 nowv prs.length (prs.flatMap Pr.cells)
  okA : ∀ t ∈ trs, TfOk w n0 T nowv.ownBlock t
  okN : ∀ p ∈ prs, PfOk w T p
  eA : r.all = trs.map Tr.tx
  eN : r.now = prs.map Pr.pg
  lT : T < n0
  lN : n0 ≤ w.heap.size
theorem RfAt.move {w w' : World} {n0 T : Nat} {r : Rg} {allv nowv : Value} {trs : List Tr} {prs : List Pr} (h : RfAt w n0 T r allv nowv trs prs) (hk : ∀ j, j ≠ T → j < w.heap.size → w'.heap[j]? = w.heap[j]?) (hs : w.heap.size ≤ w'.heap.size) (r' : Rg)
    (hb : Blk w' T [nowv, .int .u64 (r'.gen.toNat : Int)]) (h1 : r'.all = r.all) (h2 : r'.now = r.now) : RfAt w' n0 T r' allv nowv trs prs := by
  have hlT := h.lT
  exact ⟨hb, own_keep h.all (fun j cs _ hj hh => hk j (by omega) (lt_of_block hh)), own_keep h.now (fun j cs _ hj hh => hk j (by omega) (lt_of_block hh)),
    fun t ht => (h.okA t ht).keep (fun j hj hl => hk j (by omega) hl) hs (fun j cs _ hj hh => hk j (by omega) (lt_of_block hh)) (h.okA t ht).ne,
    fun p hp => (h.okN p hp).keep (fun j hj hl => hk j (by omega) hl) hs, h1.trans h.eA, h2.trans h.eN, h.lT, Nat.le_trans h.lN hs⟩
theorem RfAt.on {w w' : World} {n0 T : Nat} {r : Rg} {allv nowv : Value} {trs : List Tr} {prs : List Pr} (h : RfAt w n0 T r allv nowv trs prs) (b : Below w.heap.size w w') : RfAt w' n0 T r allv nowv trs prs :=
  h.move (fun j _ hj => b.block j hj) b.size r (h.blk.on b) rfl rfl
theorem RfAt.data {w w1 w2 : World} {n0 T : Nat} {r : Rg} {allv nowv v' : Value} {trs : List Tr} {prs : List Pr} (h : RfAt w n0 T r allv nowv trs prs) (p : Pr) (hp : PfOk w T p) (b1 : Below w.heap.size w w1) (hg : w1.grownBy w2 nowv.ownBlock)
    (own : w2.ownsRow n0 157 2 v' (prs.length + 1) (prs.flatMap Pr.cells ++ p.cells)) (hat : v'.ownBlock = nowv.ownBlock ∨ v'.ownBlock = some w1.heap.size) :
    RfAt (w2.setCell ⟨T, 0, none⟩ v') n0 T { r with now := r.now ++ [p.pg] } allv v' trs (prs ++ [p]) ∧ Below T w (w2.setCell ⟨T, 0, none⟩ v') := by
  have hsz := b1.size
  have hsg := hg.size
  have hob : ∀ j, nowv.ownBlock = some j → n0 ≤ j ∧ j < w.heap.size := fun j e => h.now.lt j e
  have hT : T < w.heap.size := h.blk.lt
  have hk2 : ∀ j, j < w.heap.size → some j ≠ nowv.ownBlock → w2.heap[j]? = w.heap[j]? := fun j hj hn => (hg.block j (by omega) hn).trans (b1.block j hj)
  have hk : ∀ j, j < w.heap.size → j ≠ T → some j ≠ nowv.ownBlock → (w2.setCell ⟨T, 0, none⟩ v').heap[j]? = w.heap[j]? := fun j hj hn hr => (Below.heap_setCell w2 ⟨T, 0, none⟩ v' j (fun e => hn e)).trans (hk2 j hj hr)
  have hsT : ∀ j, j ≠ T → (w2.setCell ⟨T, 0, none⟩ v').heap[j]? = w2.heap[j]? := fun j hn => Below.heap_setCell w2 ⟨T, 0, none⟩ v' j (fun e => hn e)
  have hlT := h.lT
  have hss : (w2.setCell ⟨T, 0, none⟩ v').heap.size = w2.heap.size := by simp [World.setCell]
  have hku : ∀ j, j < T → j < w.heap.size → (w2.setCell ⟨T, 0, none⟩ v').heap[j]? = w.heap[j]? := fun j hj hl => hk j hl (by omega) (fun e => by have := (hob j e.symm).1; omega)
  have hkp : ∀ (j : Nat) (cs : Array Value), nowv.ownBlock ≠ some j → n0 ≤ j → w.heap[j]? = some (Obj.cells cs 157 (0, 0)) → (w2.setCell ⟨T, 0, none⟩ v').heap[j]? = w.heap[j]? := fun j cs hn hj hh => hk j (lt_of_block hh) (by omega) (fun e => hn e.symm)
  have hb2 : Blk w2 T [nowv, .int .u64 (r.gen.toNat : Int)] := h.blk.elim fun t ht => ⟨t, (hk2 T hT (fun e => by have := (hob T e.symm).1; omega)).trans ht⟩
  have hle : w.heap.size ≤ (w2.setCell ⟨T, 0, none⟩ v').heap.size := by rw [hss]; omega
  refine ⟨⟨hb2.set (k := 0) v', own_keep h.all (fun j cs e hj hh => hk j (lt_of_block hh) (by omega) (own_bt h.now hh (by decide))), ?_, fun t ht => (h.okA t ht).keep hku hle hkp (fun g e => ?_), fun q hq => ?_, h.eA, ?_, h.lT, by have := h.lN; omega⟩, ?_⟩
  · have e1 : (prs ++ [p]).flatMap Pr.cells = prs.flatMap Pr.cells ++ p.cells := by simp
    rw [e1, List.length_append, List.length_singleton]
    exact own_keep own (fun j cs _ hj _ => hsT j (by omega))
  · rcases hat with hat | hat
    · rw [hat]; exact (h.okA t ht).ne g e
    · rw [hat]; intro e2; injection e2 with e2
      have := ((h.okA t ht).row.lt g e).2
      omega
  · rcases List.mem_append.1 hq with hq | hq
    · exact (h.okN q hq).keep hku hle
    · rw [List.mem_singleton] at hq; rw [hq]; exact hp.keep hku hle
  · show r.now ++ [p.pg] = (prs ++ [p]).map Pr.pg
    rw [h.eN]; simp
  · exact ⟨hg.os.trans b1.os, hg.tape.trans b1.tape, hg.output.trans b1.output, hle, fun j hj => hku j hj (by omega)⟩
theorem RfAt.commit {w w1 w2 : World} {n0 T : Nat} {r : Rg} {allv v' : Value} {An : Option Addr} {cn : Nat} {trs : List Tr} {prs : List Pr} (h : RfAt w n0 T r allv (.slice An prs.length cn) trs prs) (b1 : Below w.heap.size w w1) (hg : w1.grownBy w2 allv.ownBlock)
    (own : w2.ownsRow n0 104 2 v' (trs.length + 1) (trs.flatMap Tr.cells ++ [.slice An prs.length cn, .int .u64 (r.gen.toNat : Int)])) (frm : Nat) :
    RfAt ((w2.setCell ⟨T, 0, none⟩ (.slice none 0 0)).setCell ⟨T, 1, none⟩ (.int .u64 0)) n0 T ⟨r.all ++ [⟨r.now, r.gen⟩], [], 0, frm⟩ v' (.slice none 0 0) (trs ++ [⟨An, cn, prs, r.gen⟩]) [] ∧ Below T w ((w2.setCell ⟨T, 0, none⟩ (.slice none 0 0)).setCell ⟨T, 1, none⟩ (.int .u64 0)) := by
  have hsz := b1.size
  have hsg := hg.size
  have hlT := h.lT
  have hT : T < w.heap.size := h.blk.lt
  have hob : ∀ j, allv.ownBlock = some j → n0 ≤ j ∧ j < w.heap.size := fun j e => h.all.lt j e
  obtain ⟨w3, hw3⟩ : ∃ w3, w3 = (w2.setCell ⟨T, 0, none⟩ (.slice none 0 0)).setCell ⟨T, 1, none⟩ (.int .u64 0) := ⟨_, rfl⟩
  rw [← hw3]
  have h3 : ∀ j, j ≠ T → w3.heap[j]? = w2.heap[j]? := fun j hj => by rw [hw3]; exact (Below.heap_setCell _ ⟨T, 1, none⟩ _ j (fun e => hj e)).trans (Below.heap_setCell _ ⟨T, 0, none⟩ _ j (fun e => hj e))
  have hss : w3.heap.size = w2.heap.size := by rw [hw3]; simp [World.setCell]
  have hb2 : Blk w2 T [.slice An prs.length cn, .int .u64 (r.gen.toNat : Int)] := h.blk.elim fun t ht => ⟨t, ((hg.block T (by omega) (fun e => by have := (hob T e.symm).1; omega)).trans (b1.block T hT)).trans ht⟩
  have hB : Blk w3 T [.slice none 0 0, .int .u64 0] := by rw [hw3]; exact (hb2.set (k := 0) (.slice none 0 0)).set (k := 1) (.int .u64 0)
  have hk : ∀ j, j < w.heap.size → j ≠ T → some j ≠ allv.ownBlock → w3.heap[j]? = w.heap[j]? := fun j hj hn hr => (h3 j hn).trans ((hg.block j (by omega) hr).trans (b1.block j hj))
  have hku : ∀ j, j < T → j < w.heap.size → w3.heap[j]? = w.heap[j]? := fun j hj hl => hk j hl (by omega) (fun e => by have := (hob j e.symm).1; omega)
  have hkp : ∀ (j : Nat) (cs : Array Value), n0 ≤ j → w.heap[j]? = some (Obj.cells cs 157 (0, 0)) → w3.heap[j]? = w.heap[j]? := fun j cs hj hh => hk j (lt_of_block hh) (by omega) (own_bt h.all hh (by decide))
  have hle : w.heap.size ≤ w3.heap.size := by omega
  refine ⟨⟨hB, ?_, own_nil _ _ _ _, fun t ht => ?_, fun q hq => (by cases hq), ?_, rfl, h.lT, by have := h.lN; omega⟩, ⟨?_, ?_, ?_, hle, fun j hj => hku j hj (by omega)⟩⟩
  · have e1 : (trs ++ [(⟨An, cn, prs, r.gen⟩ : Tr)]).flatMap Tr.cells = trs.flatMap Tr.cells ++ [.slice An prs.length cn, .int .u64 (r.gen.toNat : Int)] := by simp [Tr.cells, Tr.sl]
    rw [e1, List.length_append, List.length_singleton]
    exact own_keep own (fun j cs _ hj _ => h3 j (by omega))
  · rcases List.mem_append.1 ht with ht | ht
    · exact (h.okA t ht).keep hku hle (fun j cs _ hj hh => hkp j cs hj hh) (fun g _ e => by simp [Value.ownBlock] at e)
    · rw [List.mem_singleton] at ht
      subst ht
      exact ⟨own_keep h.now (fun j cs _ hj hh => hkp j cs hj hh), fun g _ e => (by simp [Value.ownBlock] at e), fun q hq => (h.okN q hq).keep hku hle⟩
  · show r.all ++ [⟨r.now, r.gen⟩] = (trs ++ [_]).map Tr.tx
    rw [h.eA, h.eN]; simp [Tr.tx]
  · rw [hw3]; exact hg.os.trans b1.os
  · rw [hw3]; exact hg.tape.trans b1.tape
  · rw [hw3]; exact hg.output.trans b1.output
theorem TfOk.pgs {w : World} {n0 n : Nat} {now : Option Nat} {t : Tr} (h : TfOk w n0 n now t) : Pgs w (fun _ => True) t.A (t.ps.map Pr.pg) := fun hne => by
  have hp : 0 < t.ps.length := by
    rcases Nat.eq_zero_or_pos t.ps.length with e | e
    · exact absurd (by rw [List.eq_nil_of_length_eq_zero e]; rfl) hne
    · exact e
  obtain ⟨g, c, e, hg⟩ := own_some h.row (by omega)
  unfold Tr.sl at e
  injection e with e1 e2 e3
  have hr := h.row
  unfold Tr.sl at hr
  rw [e1] at hr
  obtain ⟨cs, hcs⟩ := Disk.own_blk hr
  refine ⟨g, 0, e1, lt_of_block hcs, trivial, fun i hi => ?_⟩
  have hi' : i < t.ps.length := by simpa using hi
  have hk := h.pages _ (List.getElem_mem hi')
  have c0 := own_cell2 (f := Pr.cells) (fun _ => rfl) hr i hi' 0 (by omega)
  have c1 := own_cell2 (f := Pr.cells) (fun _ => rfl) hr i hi' 1 (by omega)
  refine ⟨t.ps[i].A, t.ps[i].c, ?_⟩
  rw [Nat.zero_add, List.getElem_map]
  exact ⟨by simpa [Pr.cells, Pr.pg] using c0, by simpa [Pr.cells, Pr.pg] using c1, hk.rd.imp (fun _ _ _ => trivial), hk.cap, hk.max, by have := hk.lo; show _ ≤ t.ps[i].n; omega, by have := hk.hi; show t.ps[i].n ≤ _; omega⟩
theorem RfAt.txs {w : World} {n0 T : Nat} {r : Rg} {A : Option Addr} {n c : Nat} {nowv : Value} {trs : List Tr} {prs : List Pr} (h : RfAt w n0 T r (.slice A n c) nowv trs prs) : n = r.all.length ∧ Txs w (fun _ => True) A r.all ∧ r.all.length ≤ c ∧ c ≤ maxLen := by
  have hl : r.all.length = trs.length := by rw [h.eA]; simp
  have hr := h.all
  obtain rfl : n = trs.length := by
    obtain ⟨A', c', e⟩ := own_form hr
    injection e with _ e _
  have hcp := Disk.own_caps hr
  refine ⟨hl.symm, fun hne => ?_, by omega, hcp.2⟩
  have hp : 0 < trs.length := by
    rcases Nat.eq_zero_or_pos trs.length with e | e
    · exact absurd (List.eq_nil_of_length_eq_zero (by omega)) hne
    · exact e
  obtain ⟨g, c', e, hg⟩ := own_some hr (by omega)
  injection e with e1 e2 e3
  subst e1
  obtain ⟨cs, hcs⟩ := Disk.own_blk hr
  refine ⟨g, 0, rfl, lt_of_block hcs, trivial, fun i hi => ?_⟩
  have hi' : i < trs.length := by omega
  have hk := h.okA _ (List.getElem_mem hi')
  have c0 := own_cell2 (f := Tr.cells) (fun _ => rfl) hr i hi' 0 (by omega)
  have c1 := own_cell2 (f := Tr.cells) (fun _ => rfl) hr i hi' 1 (by omega)
  have hc2 := Disk.own_caps hk.row
  have he : r.all[i] = trs[i].tx := by
    have : r.all[i]? = (trs.map Tr.tx)[i]? := by rw [h.eA]
    rw [List.getElem?_map, List.getElem?_eq_getElem hi, List.getElem?_eq_getElem hi'] at this
    simpa using this
  refine ⟨trs[i].A, trs[i].c, ?_⟩
  rw [Nat.zero_add, he]
  exact ⟨by simpa [Tr.cells, Tr.sl, Tr.tx] using c0, by simpa [Tr.cells, Tr.tx] using c1, hk.pgs, by simpa [Tr.tx] using hc2.1, hc2.2⟩
theorem number_any (A : Option Addr) (l : List UInt8) (n cap : Nat) (B : Nat) (w : World) (hn : n = l.length) (hr : Rd w B A (l.map e8)) (h1 : 1 ≤ l.length) (h4 : l.length ≤ 4) :
    Calls Try.prog 104 #[.slice A n cap] w fun e w' => e = .returned (.int .i64 (Num.getN l : Int)) ∧ w = w' := by
  have HG := Lib.hid (Num.rget_any A l n cap B w hn hr h1 (by omega))
  have hb := Num.getN_lt l l.length (Nat.le_refl _)
  rw [List.take_length] at hb
  have hb4 : Num.getN l < 4294967296 := Nat.lt_of_lt_of_le hb (by rw [show (4294967296 : Nat) = 256 ^ 4 from rfl]; exact Nat.pow_le_pow_right (by omega) h4)
  have hw : IntKind.i64.wrap (Num.getN l : Int) = (Num.getN l : Int) := wrap_small (by omega) (by omega)
  obtain ⟨m, hm⟩ : ∃ m, m = Num.getN l := ⟨_, rfl⟩
  rw [← hm] at HG hw ⊢
  clear hb hb4 hm hr hn h1 h4
  go_enter Try.func104, Try.ntmps104
  go_wp2_with (go_at_call 134; refine HG.out.mono ?_; rintro e w1 ⟨rfl, rfl⟩)
  go_ret
  exact ⟨rfl, rfl⟩
end Go.Proofs.Ytmpmibcdpkolkaa.Wal
