/- Texts of this claim, joined: WalPut, WalPut2, WalCrP, WalCrS, StPlain, StCrash, StCrash2, StCrash3, StCrash4, WalTx, Snap8, SupL1, Rows20, SnapL1, WalL1, WalRf3, WalRef, OpenSec, OpenSecs, WalRf, WalRf2, WalRf4. -/
import Derived.Test.YtchcmklelmlbgaaGreatStoreNilsF
import Derived.Test.YtchcmklelmlbgaaGreatStoreNilsE
import Derived.Test.YtchcmklelmlbgaaGreatStoreNilsD
import Derived.Test.YtchcmklelmlbgaaGreatStoreNilsB
import Derived.Lib.MinMax
import Derived.Deep.RegionLaw
/- The log, in plain Lean: what stands behind what was appended, and that it is read back. No statement is proved here. -/
namespace Go.Proofs.YtchcmklelmlbgaaGreat.Wal
open Go.RowKit
open Go.Proofs.YtchcmklelmlbgaaGreat.Geom
open Go.Proofs.YtchcmklelmlbgaaGreat.Num (putL putL_len getN getN_putL)
open Go.Proofs.YtchcmklelmlbgaaGreat.Disk (St Wr write flush read kept new zero512)
open Go.Proofs.YtchcmklelmlbgaaGreat.Sec (X X0 text rightF)
open Go.Proofs.YtchcmklelmlbgaaGreat.Sup (UpN Gb)
open Go.Proofs.YtchcmklelmlbgaaGreat.Enc (Itm Enf enf enf_of More kept_of rd rd_good rd_zero)
set_option linter.unusedVariables false
/-- one behind the other -/
def takes (np : Int) : List (Nat × X) → Rg → Rg × Bool
  | [], r => (r, true)
  | t :: l, r => if (takeF np r t.1 t.2).2 = true then takes np l (takeF np r t.1 t.2).1 else ((takeF np r t.1 t.2).1, false)
theorem takes_append (np : Int) : ∀ (a b : List (Nat × X)) (r r' : Rg), takes np a r = (r', true) → takes np (a ++ b) r = takes np b r'
  | [], b, r, r', h => by injection h with h _; subst h; rfl
  | t :: a, b, r, r', h => by
    unfold takes at h
    rw [List.cons_append]
    show (if _ then _ else _) = _
    split at h
    · rename_i ht
      rw [if_pos ht]
      exact takes_append np a b _ _ h
    · cases h
theorem takes_fold (np : Int) : ∀ (l : List (Nat × X)) (r' : Rg) (pre : List (Nat × X)), okR np pre → takes np l (foldR np pre) = (r', true) → okR np (pre ++ l) ∧ foldR np (pre ++ l) = r'
  | [], r', pre, ho, h => by injection h with h _; rw [List.append_nil]; exact ⟨ho, h⟩
  | t :: l, r', pre, ho, h => by
    unfold takes at h
    split at h
    · rename_i ht
      have := takes_fold np l r' (pre ++ [t]) (okR_snoc ho ht) (by rw [foldR_snoc]; exact h)
      simpa using this
    · cases h
/-- the sectors of a transaction -/
def dSecs (life : UInt64) (q : Nat) (gen : UInt64) : Nat → List Pg → List X
  | _, [] => []
  | i, x :: r => dX 4 life q i gen x.n.toNat x.body :: dSecs life q gen (i + 1) r
def tSecs (life : UInt64) (q : Nat) (t : Tx) : List X := dSecs life q t.gen 0 t.pages ++ [dX 5 life q t.pages.length t.gen t.pages.length []]
theorem dSecs_len (life : UInt64) (q : Nat) (gen : UInt64) : ∀ (l : List Pg) (i : Nat), (dSecs life q gen i l).length = l.length
  | [], i => rfl
  | x :: r, i => by simp [dSecs, dSecs_len life q gen r (i + 1)]
theorem tSecs_len (life : UInt64) (q : Nat) (t : Tx) : (tSecs life q t).length = t.pages.length + 1 := by simp [tSecs, dSecs_len]
theorem dSecs_get (life : UInt64) (q : Nat) (gen : UInt64) : ∀ (l : List Pg) (i k : Nat) (h : k < (dSecs life q gen i l).length) (h' : k < l.length), (dSecs life q gen i l)[k] = dX 4 life q (i + k) gen l[k].n.toNat l[k].body
  | [], i, k, h, h' => absurd h' (by simp)
  | x :: r, i, 0, h, h' => rfl
  | x :: r, i, k + 1, h, h' => by
    have := dSecs_get life q gen r (i + 1) k (by rw [dSecs_len]; simpa using h') (by simpa using h')
    rw [show i + (k + 1) = i + 1 + k by omega]
    exact this
theorem tSecs_at (life : UInt64) (q : Nat) (t : Tx) (k : Nat) (h : k < (tSecs life q t).length) : (tSecs life q t)[k].life = life ∧ (tSecs life q t)[k].seq = ((q + k : Nat) : Int) := by
  have hk := tSecs_len life q t
  have h0 : k < (dSecs life q t.gen 0 t.pages ++ [dX 5 life q t.pages.length t.gen t.pages.length []]).length := h
  show ((dSecs life q t.gen 0 t.pages ++ [dX 5 life q t.pages.length t.gen t.pages.length []])[k]'h0).life = life ∧ ((dSecs life q t.gen 0 t.pages ++ [dX 5 life q t.pages.length t.gen t.pages.length []])[k]'h0).seq = ((q + k : Nat) : Int)
  by_cases h1 : k < t.pages.length
  · rw [List.getElem_append_left (by rw [dSecs_len]; exact h1), dSecs_get _ _ _ _ _ _ _ h1, Nat.zero_add]
    exact ⟨rfl, rfl⟩
  · obtain rfl : k = t.pages.length := by omega
    rw [List.getElem_append_right (Nat.le_of_eq (dSecs_len _ _ _ _ _))]
    simp only [dSecs_len, Nat.sub_self, List.getElem_cons_zero]
    exact ⟨rfl, rfl⟩
/-- numbered from a number on -/
def num (q : Nat) : List X → List (Nat × X)
  | [] => []
  | x :: r => (q, x) :: num (q + 1) r
theorem num_append (q : Nat) : ∀ (a b : List X), num q (a ++ b) = num q a ++ num (q + a.length) b
  | [], b => by simp [num]
  | x :: a, b => by simp only [List.cons_append, num, List.length_cons]; rw [num_append (q + 1) a b, show q + 1 + a.length = q + (a.length + 1) by omega]
theorem num_range (l : List X) : (List.range l.length).map (fun j => (j, l.getD j X0)) = num 0 l := by
  have h : ∀ (l : List X) (q : Nat) (f : Nat → X), (∀ j (h : j < l.length), f (q + j) = l[j]) → (List.range' q l.length).map (fun j => (j, f j)) = num q l := by
    intro l
    induction l with
    | nil => intro q f hf; rfl
    | cons x l ih =>
      intro q f hf
      rw [List.length_cons, List.range'_succ, List.map_cons, num]
      congr 1
      · rw [show f q = x by have := hf 0 (by simp); rw [Nat.add_zero] at this; exact this]
      · exact ih (q + 1) f (fun j hj => by have := hf (j + 1) (by simpa using hj); rw [show q + 1 + j = q + (j + 1) by omega]; simpa using this)
  rw [List.range_eq_range']
  exact h l 0 _ (fun j hj => by simp [List.getD, hj])
theorem take_dX4 {np : Int} {life : UInt64} {q i n : Nat} {gen : UInt64} {b : List UInt8} (r : Rg) (hq : q < 4294967296) (hn : n < 65536) (hnp : (n : Int) < np) (hf : r.frm = q) (hg : r.now ≠ [] → r.gen = gen) (j : Nat) :
    takeF np r j (dX 4 life q i gen n b) = ({ r with gen := gen, now := r.now ++ [⟨(n : Int), b⟩] }, true) := by
  have e0 : (dX 4 life q i gen n b).body = putL q 4 ++ putL n 2 ++ b := rfl
  have h4 := putL_len q 4
  have h2 := putL_len n 2
  have hl : ¬ (dX 4 life q i gen n b).body.length < 6 := by rw [e0]; simp only [List.length_append]; omega
  have ef : fstN (dX 4 life q i gen n b).body = q := by
    unfold fstN
    rw [e0, List.append_assoc, List.take_append_of_le_length (by omega), List.take_of_length_le (by omega), getN_putL]
    exact Nat.mod_eq_of_lt (by rw [show 256 ^ 4 = 4294967296 from rfl]; exact hq)
  have es : sndN (dX 4 life q i gen n b).body = n := by
    unfold sndN
    rw [e0, List.append_assoc, List.drop_append_of_le_length (by omega), List.drop_of_length_le (by omega), List.nil_append, List.take_append_of_le_length (by omega), List.take_of_length_le (by omega), getN_putL]
    exact Nat.mod_eq_of_lt (by rw [show 256 ^ 2 = 65536 from rfl]; exact hn)
  have ed : (dX 4 life q i gen n b).body.drop 6 = b := by
    rw [e0, List.drop_append, List.drop_of_length_le (by rw [List.length_append]; omega), List.nil_append, List.length_append, h4, h2]; rfl
  unfold takeF
  rw [if_neg (fun h => h.elim hl (fun h => h.2 (hg h.1).symm)), ef, es, ed, if_neg (fun h => h hf.symm), if_pos ⟨rfl, hnp⟩]
  rfl
theorem take_dX5 {np : Int} {life : UInt64} {q n : Nat} {gen : UInt64} (r : Rg) (hq : q < 4294967296) (hn : n < 65536) (hf : r.frm = q) (hg : r.now ≠ [] → r.gen = gen) (hln : r.now.length = n) (j : Nat) :
    takeF np r j (dX 5 life q n gen n []) = (⟨r.all ++ [⟨r.now, gen⟩], [], 0, j + 1⟩, true) := by
  have e0 : (dX 5 life q n gen n []).body = putL q 4 ++ putL n 2 := by show putL q 4 ++ putL n 2 ++ [] = _; rw [List.append_nil]
  have h4 := putL_len q 4
  have h2 := putL_len n 2
  have h6 : (dX 5 life q n gen n []).body.length = 6 := by rw [e0, List.length_append]; omega
  have ef : fstN (dX 5 life q n gen n []).body = q := by
    unfold fstN
    rw [e0, List.take_append_of_le_length (by omega), List.take_of_length_le (by omega), getN_putL]
    exact Nat.mod_eq_of_lt (by rw [show 256 ^ 4 = 4294967296 from rfl]; exact hq)
  have es : sndN (dX 5 life q n gen n []).body = n := by
    unfold sndN
    rw [e0, List.drop_append_of_le_length (by omega), List.drop_of_length_le (by omega), List.nil_append, List.take_of_length_le (by omega), getN_putL]
    exact Nat.mod_eq_of_lt (by rw [show 256 ^ 2 = 65536 from rfl]; exact hn)
  unfold takeF
  rw [if_neg (fun h => h.elim (by omega) (fun h => h.2 (hg h.1).symm)), ef, es, if_neg (fun h => h hf.symm), if_neg (fun h => absurd h.1 (show ¬ (5 : Int) = 4 by decide)), if_pos ⟨rfl, hln.symm, h6⟩]
  rfl
theorem takes_data {np : Int} {life : UInt64} {q : Nat} {gen : UInt64} (hq : q < 4294967296) (hnp : np ≤ 65536) : ∀ (l : List Pg) (i : Nat) (r : Rg), (∀ x ∈ l, 0 ≤ x.n ∧ x.n < np) → r.frm = q → (r.now ≠ [] → r.gen = gen) →
    ∃ g, takes np (num (q + i) (dSecs life q gen i l)) r = (⟨r.all, r.now ++ l, g, q⟩, true) ∧ (r.now ++ l ≠ [] → g = gen)
  | [], i, r, _, hf, hg => ⟨r.gen, by subst hf; simp [dSecs, num, takes], by simpa using hg⟩
  | x :: l, i, r, hx, hf, hg => by
    obtain ⟨h0, h1⟩ := hx x (by simp)
    have ht := take_dX4 (np := np) (life := life) (i := i) (b := x.body) (n := x.n.toNat) r hq (by omega) (by omega) hf hg (q + i)
    obtain ⟨g, e1, e2⟩ := takes_data hq hnp l (i + 1) { r with gen := gen, now := r.now ++ [⟨(x.n.toNat : Int), x.body⟩] } (fun y hy => hx y (by simp [hy])) hf (fun _ => rfl)
    have hxe : (⟨(x.n.toNat : Int), x.body⟩ : Pg) = x := by rw [Int.toNat_of_nonneg h0]
    refine ⟨g, ?_, fun _ => e2 (by simp)⟩
    rw [dSecs, num]
    show (if _ then _ else _) = _
    rw [ht, if_pos rfl, show q + i + 1 = q + (i + 1) by omega, e1, hxe]
    simp
/-- a transaction is read -/
theorem takes_tx {np : Int} {life : UInt64} {q : Nat} {t : Tx} (hq : q < 4294967296) (hnp : np ≤ 65536) (hl : t.pages.length < 65536) (hx : ∀ x ∈ t.pages, 0 ≤ x.n ∧ x.n < np) (A : List Tx) (g : UInt64) :
    takes np (num q (tSecs life q t)) ⟨A, [], g, q⟩ = (⟨A ++ [t], [], 0, q + (t.pages.length + 1)⟩, true) := by
  obtain ⟨g', e1, e2⟩ := takes_data (life := life) (gen := t.gen) hq hnp t.pages 0 ⟨A, [], g, q⟩ hx rfl (fun h => absurd rfl h)
  rw [Nat.add_zero] at e1
  unfold tSecs
  rw [num_append, takes_append np _ _ _ _ e1, dSecs_len]
  show (if _ then _ else _) = _
  have ht := take_dX5 (np := np) (life := life) (n := t.pages.length) (gen := t.gen) ⟨A, [] ++ t.pages, g', q⟩ hq hl rfl (fun h => e2 h) (by simp) (q + t.pages.length)
  rw [ht, if_pos rfl]
  rfl
/-- the sectors of transactions, one behind the other -/
def allSecs (life : UInt64) : Nat → List Tx → List X
  | _, [] => []
  | q, t :: r => tSecs life q t ++ allSecs life (q + (t.pages.length + 1)) r
theorem allSecs_snoc (life : UInt64) : ∀ (l : List Tx) (q : Nat) (t : Tx), allSecs life q (l ++ [t]) = allSecs life q l ++ tSecs life (q + (allSecs life q l).length) t
  | [], q, t => by simp [allSecs]
  | u :: l, q, t => by
    rw [List.cons_append, allSecs, allSecs_snoc life l _ t, allSecs, List.append_assoc, List.length_append, tSecs_len]
    congr 3
    omega
theorem allSecs_at (life : UInt64) : ∀ (l : List Tx) (q k : Nat) (h : k < (allSecs life q l).length), (allSecs life q l)[k].life = life ∧ (allSecs life q l)[k].seq = ((q + k : Nat) : Int)
  | [], q, k, h => absurd h (by simp [allSecs])
  | t :: l, q, k, h => by
    simp only [allSecs] at h ⊢
    by_cases h1 : k < (tSecs life q t).length
    · rw [List.getElem_append_left h1]; exact tSecs_at life q t k h1
    · rw [List.getElem_append_right (by omega)]
      have h2 := tSecs_len life q t
      rw [List.length_append] at h
      have := allSecs_at life l (q + (t.pages.length + 1)) (k - (tSecs life q t).length) (by omega)
      rw [show q + (t.pages.length + 1) + (k - (tSecs life q t).length) = q + k by omega] at this
      exact this
theorem takes_all {np : Int} {life : UInt64} (hnp : np ≤ 65536) : ∀ (l : List Tx) (q : Nat) (A : List Tx) (g : UInt64), q + (allSecs life q l).length < 65536 → (∀ t ∈ l, ∀ x ∈ t.pages, 0 ≤ x.n ∧ x.n < np) →
    ∃ g', takes np (num q (allSecs life q l)) ⟨A, [], g, q⟩ = (⟨A ++ l, [], g', q + (allSecs life q l).length⟩, true)
  | [], q, A, g, _, _ => ⟨g, by simp [allSecs, num, takes]⟩
  | t :: l, q, A, g, hq, hx => by
    simp only [allSecs, List.length_append, tSecs_len] at hq ⊢
    obtain ⟨g', e⟩ := takes_all (life := life) hnp l (q + (t.pages.length + 1)) (A ++ [t]) 0 (by omega) (fun u hu => hx u (by simp [hu]))
    refine ⟨g', ?_⟩
    rw [num_append, takes_append np _ _ _ _ (takes_tx (by omega) hnp (by omega) (hx t (by simp)) A g), tSecs_len, e, List.append_assoc]
    congr 2
    omega
/-- what is scanned where just these stand -/
theorem scan_all {np : Int} {life : UInt64} {rdf : Nat → X} {good : Nat → Bool} {N : Nat} {l : List Tx} (hnp : np ≤ 65536) (hN : (allSecs life 0 l).length ≤ N) (hN1 : N < 65536) (hx : ∀ t ∈ l, ∀ x ∈ t.pages, 0 ≤ x.n ∧ x.n < np)
    (hr : ∀ k (h : k < (allSecs life 0 l).length), rdf k = (allSecs life 0 l)[k] ∧ good k = true) (he : (allSecs life 0 l).length = N ∨ good (allSecs life 0 l).length = false) : (scanH np rdf good N 0 r00).all = l := by
  obtain ⟨g', e⟩ := takes_all (life := life) hnp l 0 [] 0 (by omega) hx
  obtain ⟨e1, e2⟩ := takes_fold np _ _ [] (okR_nil np) e
  rw [List.nil_append] at e1 e2
  have hm : (List.range (allSecs life 0 l).length).map (fun j => (j, rdf j)) = num 0 (allSecs life 0 l) := by
    rw [← num_range]
    apply List.map_congr_left
    intro j hj
    have hj' := List.mem_range.1 hj
    rw [(hr j hj').1]
    simp [List.getD, hj']
  rw [scanH_done hN (fun j hj => (hr j hj).2) (by rw [hm]; exact e1) he, hm, e2]
  simp
end Go.Proofs.YtchcmklelmlbgaaGreat.Wal

/- The log, in plain Lean: what the disk has behind what was appended. No statement is proved here. -/
namespace Go.Proofs.YtchcmklelmlbgaaGreat.Wal
open Go.RowKit
open Go.Proofs.YtchcmklelmlbgaaGreat.Geom
open Go.Proofs.YtchcmklelmlbgaaGreat.Disk (St Wr write flush read kept new zero512)
open Go.Proofs.YtchcmklelmlbgaaGreat.Sec (X X0 text rightF)
open Go.Proofs.YtchcmklelmlbgaaGreat.Sup (UpN Gb)
open Go.Proofs.YtchcmklelmlbgaaGreat.Enc (Itm Enf enf enf_of More kept_of rd rd_good rd_zero)
set_option linter.unusedVariables false
structure EnfUp (n : Nat) (is : List Itm) (l : List (List UInt8)) (s : St) (q : List (List UInt8) × St × Int) : Prop where
  res : q.2.2 = 0
  up : UpN q.2.1 n
  good : ∀ k (h : k < is.length), Sup.Good q.1 is[k].1 is[k].2 (kept q.2.1.all is[k].1.toNat)
  beside : ∀ p : Nat, (∀ i ∈ is, i.1.toNat ≠ p) → kept q.2.1.all p = kept s.all p
  more : More l q.1
theorem enf_up {n : Nat} {is : List Itm} {l : List (List UInt8)} {s : St} (hu : UpN s n) (hi : ∀ i ∈ is, rightF i.1 i.2 = 0 ∧ 0 ≤ i.1 ∧ i.1 < n) (hd : ∀ a b (ha : a < is.length) (hb : b < is.length), is[a].1 = is[b].1 → a = b) : EnfUp n is l s (enf is l s) := by
  obtain ⟨m, e⟩ := enf_of is l s hu.size hu.down hi
  rcases e.res with ⟨_, _, _, _, h⟩ | ⟨h1, h2, h3, h4, h5, h6⟩
  · exact absurd hu.fuse h
  · rw [hu.pend, List.nil_append] at h3
    have hat : ∀ k (h : k < m.length), ∃ h' : k < is.length, m[k].1 = is[k].1.toNat ∧ Sup.Good (enf is l s).1 is[k].1 is[k].2 m[k].2 := fun k h => ⟨by omega, e.at_ k h (by omega)⟩
    refine ⟨h1, ⟨e.size, h4, h2, h6 hu.fuse⟩, fun k h => ?_, fun p hp => ?_, e.more⟩
    · obtain ⟨_, g1, g2⟩ := hat k (by omega)
      rw [h3, ← g1, kept_of s.all m k (by omega) (fun a b ha hb hab => ?_)]
      · exact g2
      · obtain ⟨ha', ea, _⟩ := hat a ha
        obtain ⟨hb', eb, _⟩ := hat b hb
        rw [ea, eb] at hab
        have p1 := (hi _ (List.getElem_mem ha')).2.1
        have p2 := (hi _ (List.getElem_mem hb')).2.1
        exact hd a b ha' hb' (by omega)
    · rw [h3]
      refine Disk.kept_append s.all m p (fun w hw he => ?_)
      obtain ⟨k, hk, rfl⟩ := List.mem_iff_getElem.1 hw
      obtain ⟨hk', g1, _⟩ := hat k hk
      exact hp _ (List.getElem_mem hk') (g1.symm.trans he)
/-- the k-th place of a log -/
abbrev pl (ga gd gl base : Int) (k : Nat) : Int := logAt ga gd gl (base + (k : Int))
theorem pl_eq {ga gd gl base : Int} (hr : right ga gd gl = true) (hb : 0 ≤ base) (k : Nat) : pl ga gd gl base k = 4 + (base + (k : Int)) % gl := by
  unfold pl logAt; rw [if_pos ⟨hr, by omega⟩]
theorem pl_inj {ga gd gl base : Int} (hr : right ga gd gl = true) (hb : 0 ≤ base) {j k : Nat} (hj : (j : Int) < gl) (hk : (k : Int) < gl) (h : pl ga gd gl base j = pl ga gd gl base k) : j = k := by
  rw [pl_eq hr hb, pl_eq hr hb] at h
  have hy := right_yes hr
  have h1 : (base + (j : Int)) % gl = (base + (k : Int)) % gl := by omega
  have h2 := Int.emod_emod_of_dvd
  have h3 : ((j : Int) - k) % gl = 0 := by
    rw [show (j : Int) - k = (base + j) - (base + k) by omega, Int.sub_emod, h1]; simp
  have h4 := Int.emod_add_mul_ediv ((j : Int) - k) gl
  have hb1 : ((j : Int) - k) < gl := by omega
  have hb2 : -gl < ((j : Int) - k) := by omega
  rw [h3] at h4
  rcases Int.lt_trichotomy (((j : Int) - k) / gl) 0 with hq | hq | hq
  · have : gl * (((j : Int) - k) / gl) ≤ gl * (-1) := Int.mul_le_mul_of_nonneg_left (by omega) (by omega)
    omega
  · rw [hq] at h4; omega
  · have : gl * 1 ≤ gl * (((j : Int) - k) / gl) := Int.mul_le_mul_of_nonneg_left (by omega) (by omega)
    omega
/-- the items of sectors from the k-th place on -/
def items (ga gd gl base : Int) : Nat → List X → List Itm
  | _, [] => []
  | q, x :: r => (pl ga gd gl base q, x) :: items ga gd gl base (q + 1) r
theorem items_len (ga gd gl base : Int) : ∀ (l : List X) (q : Nat), (items ga gd gl base q l).length = l.length
  | [], q => rfl
  | x :: r, q => by simp [items, items_len ga gd gl base r (q + 1)]
theorem items_get (ga gd gl base : Int) : ∀ (l : List X) (q k : Nat) (h : k < (items ga gd gl base q l).length) (h' : k < l.length), (items ga gd gl base q l)[k] = (pl ga gd gl base (q + k), l[k])
  | [], q, k, h, h' => absurd h' (by simp)
  | x :: r, q, 0, h, h' => rfl
  | x :: r, q, k + 1, h, h' => by
    have := items_get ga gd gl base r (q + 1) k (by rw [items_len]; simpa using h') (by simpa using h')
    rw [show q + (k + 1) = q + 1 + k by omega]
    exact this
theorem items_data (ga gd gl base : Int) (life : UInt64) (q : Nat) (gen : UInt64) : ∀ (l : List Pg) (i : Nat), items ga gd gl base (q + i) (dSecs life q gen i l) = dItems ga gd gl base life q gen i l
  | [], i => rfl
  | x :: r, i => by rw [dSecs, items, dItems, ← items_data ga gd gl base life q gen r (i + 1)]; rfl
/-- the disk has these sectors in the log's places, and nothing behind them -/
structure LogIs (ga gd gl base : Int) (n : Nat) (l : List (List UInt8)) (s : St) (xs : List X) : Prop where
  up : UpN s n
  good : ∀ k (h : k < xs.length), Sup.Good l (pl ga gd gl base k) xs[k] (kept s.all (pl ga gd gl base k).toNat)
  zero : ∀ k : Nat, xs.length ≤ k → (k : Int) < gl → kept s.all (pl ga gd gl base k).toNat = zero512
theorem LogIs.new (ga gd gl base : Int) (n : Nat) : LogIs ga gd gl base n [] (new n) [] := ⟨Sup.up_new n, fun k h => absurd h (by simp), fun k _ _ => rfl⟩
theorem pl_bd {ga gd gl base : Int} {n : Nat} (hr : right ga gd gl = true) (hb : 0 ≤ base) (hn : (n : Int) = Geom.sizeOf ga gd gl) (k : Nat) : 0 ≤ pl ga gd gl base k ∧ pl ga gd gl base k < n ∧ pl ga gd gl base k ≤ 1023 := by
  have h1 := log_bd (i := base + (k : Int)) hr (by omega)
  have h2 := log_size hr
  exact ⟨h1.1, by show logAt _ _ _ _ < _; omega, h1.2.1⟩
/-- more of them are written and flushed -/
theorem LogIs.more {ga gd gl base : Int} {n : Nat} {l : List (List UInt8)} {s : St} {xs ys : List X} (h : LogIs ga gd gl base n l s xs) (hr : right ga gd gl = true) (hb : 0 ≤ base) (hn : (n : Int) = Geom.sizeOf ga gd gl) (hl : ((xs.length + ys.length : Nat) : Int) ≤ gl)
    (hy : ∀ k (hk : k < ys.length), rightF (pl ga gd gl base (xs.length + k)) ys[k] = 0) : (enf (items ga gd gl base xs.length ys) l s).2.2 = 0 ∧ LogIs ga gd gl base n (enf (items ga gd gl base xs.length ys) l s).1 (enf (items ga gd gl base xs.length ys) l s).2.1 (xs ++ ys) := by
  have hg := fun (k : Nat) (hk : k < ys.length) => items_get ga gd gl base ys xs.length k (by rw [items_len]; exact hk) hk
  have e := enf_up (l := l) (is := items ga gd gl base xs.length ys) h.up (fun i hi => by
    obtain ⟨k, hk, rfl⟩ := List.mem_iff_getElem.1 hi
    rw [items_len] at hk
    rw [hg k hk]
    have := pl_bd hr hb hn (xs.length + k)
    exact ⟨hy k hk, this.1, this.2.1⟩) (fun a b ha hb' hab => by
    rw [items_len] at ha hb'
    rw [hg a ha, hg b hb'] at hab
    have := pl_inj hr hb (j := xs.length + a) (k := xs.length + b) (by omega) (by omega) hab
    omega)
  have hbs : ∀ k : Nat, (k < xs.length ∨ xs.length + ys.length ≤ k) → (k : Int) < gl → kept (enf (items ga gd gl base xs.length ys) l s).2.1.all (pl ga gd gl base k).toNat = kept s.all (pl ga gd gl base k).toNat := fun k hk hkg => e.beside _ (fun i hi he => by
    obtain ⟨j, hj, rfl⟩ := List.mem_iff_getElem.1 hi
    rw [items_len] at hj
    rw [hg j hj] at he
    have p1 := pl_bd hr hb hn (xs.length + j)
    have p2 := pl_bd hr hb hn k
    have := pl_inj hr hb (j := xs.length + j) (k := k) (by omega) hkg (by simp only at he; omega)
    omega)
  refine ⟨e.res, e.up, fun k hk => ?_, fun k hk hkg => ?_⟩
  · rw [List.length_append] at hk
    by_cases h1 : k < xs.length
    · rw [List.getElem_append_left h1, hbs k (.inl h1) (by omega)]
      exact e.more _ _ _ (h.good k h1)
    · rw [List.getElem_append_right (by omega)]
      have h2 := e.good (k - xs.length) (by rw [items_len]; omega)
      rw [hg _ (by omega), show xs.length + (k - xs.length) = k by omega] at h2
      exact h2
  · rw [List.length_append] at hk
    rw [hbs k (.inr hk) hkg]
    exact h.zero k (by omega) hkg
/-- a transaction is appended -/
theorem LogIs.append {ga gd gl base : Int} {n : Nat} {l : List (List UInt8)} {s : St} {xs : List X} {t : Tx} {life : UInt64} (h : LogIs ga gd gl base n l s xs) (hr : right ga gd gl = true) (hb : 0 ≤ base) (hn : (n : Int) = Geom.sizeOf ga gd gl) (hl : (xs.length : Int) + t.pages.length < gl) (hbd : badB ga gd gl t.pages = false) :
    (putF ga gd gl base life xs.length t.gen t.pages l s).2.2 = 0 ∧ LogIs ga gd gl base n (putF ga gd gl base life xs.length t.gen t.pages l s).1 (putF ga gd gl base life xs.length t.gen t.pages l s).2.1 (xs ++ tSecs life xs.length t) := by
  have hy64 := right_yes hr
  have hd := items_data ga gd gl base life xs.length t.gen t.pages 0
  rw [Nat.add_zero] at hd
  obtain ⟨r1, h1⟩ := h.more (ys := dSecs life xs.length t.gen 0 t.pages) hr hb hn (by rw [dSecs_len]; omega) (fun k hk => by
    rw [dSecs_len] at hk
    rw [dSecs_get _ _ _ _ _ _ _ hk, Nat.zero_add]
    have hp := pl_bd hr hb hn (xs.length + k)
    exact dX_right hp.1 hp.2.2 (by decide) (by omega) (badB_of hbd hk).2.2)
  rw [hd] at r1 h1
  obtain ⟨r2, h2⟩ := h1.more (ys := [dX 5 life xs.length t.pages.length t.gen t.pages.length []]) hr hb hn (by simp only [List.length_append, dSecs_len, List.length_singleton]; omega) (fun k hk => by
    obtain rfl : k = 0 := by simp at hk; exact hk
    have hp := pl_bd hr hb hn ((xs ++ dSecs life xs.length t.gen 0 t.pages).length + 0)
    exact dX_right hp.1 hp.2.2 (by decide) (by omega) (by simp))
  rw [List.length_append, dSecs_len] at r2 h2
  unfold putF
  rw [if_pos r1]
  refine ⟨r2, ?_⟩
  have := h2
  rw [List.append_assoc] at this
  exact this
/-- the scan of such a disk -/
theorem LogIs.scan {ga gd gl base : Int} {n : Nat} {l : List (List UInt8)} {s : St} {life : UInt64} {ts : List Tx} (h : LogIs ga gd gl base n l s (allSecs life 0 ts)) (hr : right ga gd gl = true) (hb : 0 ≤ base) (hn : (n : Int) = Geom.sizeOf ga gd gl) (hl : ((allSecs life 0 ts).length : Int) ≤ gl) (hx : ∀ t ∈ ts, ∀ x ∈ t.pages, 0 ≤ x.n ∧ x.n < pagesOf ga gd gl) : scanTx l s ga gd gl base life = ts := by
  have hy := right_yes hr
  have hp := pagesOf_bd ga gd gl
  have hrd : ∀ k (hk : k < (allSecs life 0 ts).length), rdL l s ga gd gl base k = ((allSecs life 0 ts)[k], 0) := fun k hk => by
    have p := pl_bd hr hb hn k
    exact rd_good h.up p.1 p.2.1 (h.good k hk)
  unfold scanTx
  refine scan_all (life := life) (by omega) (by omega) (by omega) hx (fun k hk => ?_) ?_
  · have e := hrd k hk
    have a := allSecs_at life ts 0 k hk
    refine ⟨by rw [e], ?_⟩
    unfold goodL
    rw [e]
    simp only [a.1, a.2]
    simp
  · by_cases hN : (allSecs life 0 ts).length = gl.toNat
    · exact .inl hN
    · right
      have p := pl_bd hr hb hn (allSecs life 0 ts).length
      have e : rdL l s ga gd gl base (allSecs life 0 ts).length = (X0, 7) := rd_zero h.up p.1 p.2.1 (h.zero _ (Nat.le_refl _) (by omega))
      unfold goodL
      rw [e]
      simp
end Go.Proofs.YtchcmklelmlbgaaGreat.Wal

/- The log, in plain Lean: what stands where the power went: those that were appended, and perhaps the one that was being appended, are read. No statement is proved here. -/
namespace Go.Proofs.YtchcmklelmlbgaaGreat.Wal
open Go.RowKit
open Go.Proofs.YtchcmklelmlbgaaGreat.Geom
open Go.Proofs.YtchcmklelmlbgaaGreat.Disk (St Wr write flush read kept new zero512 restart)
open Go.Proofs.YtchcmklelmlbgaaGreat.Sec (X X0 text rightF place_of)
open Go.Proofs.YtchcmklelmlbgaaGreat.Sup (UpN Gb text_inj)
open Go.Proofs.YtchcmklelmlbgaaGreat.Enc (Itm Enf enf enf_of More kept_of rd rd_good rd_zero rd_sound restart_up)
set_option linter.unusedVariables false
theorem items_append (ga gd gl base : Int) : ∀ (a b : List X) (q : Nat), items ga gd gl base q (a ++ b) = items ga gd gl base q a ++ items ga gd gl base (q + a.length) b
  | [], b, q => by simp [items]
  | x :: a, b, q => by simp only [List.cons_append, items, List.length_cons]; rw [items_append ga gd gl base a b (q + 1), show q + 1 + a.length = q + (a.length + 1) by omega]
theorem tSecs_items (ga gd gl base : Int) (life : UInt64) (q : Nat) (t : Tx) : items ga gd gl base q (tSecs life q t) = dItems ga gd gl base life q t.gen 0 t.pages ++ [(logAt ga gd gl (base + ((q + t.pages.length : Nat) : Int)), dX 5 life q t.pages.length t.gen t.pages.length [])] := by
  have hd := items_data ga gd gl base life q t.gen t.pages 0
  rw [Nat.add_zero] at hd
  unfold tSecs
  rw [items_append, hd, dSecs_len]; rfl
theorem tSecs_right {ga gd gl base : Int} {life : UInt64} {q : Nat} {t : Tx} {n : Nat} (hr : right ga gd gl = true) (hb : 0 ≤ base) (hn : (n : Int) = Geom.sizeOf ga gd gl) (hl : (q : Int) + t.pages.length < gl) (hbd : badB ga gd gl t.pages = false) (j : Nat) (h : j < (tSecs life q t).length) : rightF (pl ga gd gl base (q + j)) (tSecs life q t)[j] = 0 := by
  have hy := right_yes hr
  have hp := pl_bd (base := base) hr hb hn (q + j)
  have hk := tSecs_len life q t
  have h0 : j < (dSecs life q t.gen 0 t.pages ++ [dX 5 life q t.pages.length t.gen t.pages.length []]).length := h
  show rightF _ ((dSecs life q t.gen 0 t.pages ++ [dX 5 life q t.pages.length t.gen t.pages.length []])[j]'h0) = 0
  by_cases h1 : j < t.pages.length
  · rw [List.getElem_append_left (by rw [dSecs_len]; exact h1), dSecs_get _ _ _ _ _ _ _ h1, Nat.zero_add]
    exact dX_right hp.1 hp.2.2 (by decide) (by omega) (badB_of hbd h1).2.2
  · obtain rfl : j = t.pages.length := by omega
    rw [List.getElem_append_right (Nat.le_of_eq (dSecs_len _ _ _ _ _))]
    simp only [dSecs_len, Nat.sub_self, List.getElem_cons_zero]
    exact dX_right hp.1 hp.2.2 (by decide) (by omega) (by simp)
/-- what becomes of an append, whatever the power does -/
structure PutT (ga gd gl base : Int) (n : Nat) (life : UInt64) (q : Nat) (t : Tx) (sm : List (List UInt8)) (st : St) (V : List (List UInt8) × St × Int) : Prop where
  size : V.2.1.size = n
  more : More sm V.1
  old : ∀ T ∈ sm, T ∈ V.1
  text : ∀ T ∈ V.1, T ∈ sm ∨ ∃ (j : Nat) (h : j < (tSecs life q t).length), T = text (pl ga gd gl base (q + j)) (tSecs life q t)[j]
  res : (V.2.2 = 12 ∧ V.2.1.down = true ∧ ¬ st.fuse < 0 ∧ ∃ m : List Wr, V.2.1.all = st.all ++ m ∧ ∀ w ∈ m ++ V.2.1.pend, ∃ j : Nat, j < (tSecs life q t).length ∧ w.1 = (pl ga gd gl base (q + j)).toNat) ∨
    (V.2.2 = 0 ∧ V.2.1.down = false ∧ V.2.1.pend = [] ∧ (st.fuse < 0 → V.2.1.fuse < 0) ∧ ∃ m : List Wr, V.2.1.all = st.all ++ m ∧ m.length = (tSecs life q t).length ∧ ∀ (j : Nat) (h : j < m.length) (h' : j < (tSecs life q t).length), m[j].1 = (pl ga gd gl base (q + j)).toNat ∧ Sup.Good V.1 (pl ga gd gl base (q + j)) (tSecs life q t)[j] m[j].2)
theorem putF_turn {ga gd gl base : Int} {n : Nat} {life : UInt64} {q : Nat} {t : Tx} {sm : List (List UInt8)} {st : St} (hs : st.size = n) (hp : st.pend = []) (hdn : st.down = false) (hr : right ga gd gl = true) (hb : 0 ≤ base) (hn : (n : Int) = Geom.sizeOf ga gd gl) (hl : (q : Int) + t.pages.length < gl) (hbd : badB ga gd gl t.pages = false) :
    PutT ga gd gl base n life q t sm st (putF ga gd gl base life q t.gen t.pages sm st) := by
  have htl := tSecs_len life q t
  have hit := tSecs_items ga gd gl base life q t
  have hget := fun (j : Nat) (h : j < (tSecs life q t).length) => items_get ga gd gl base (tSecs life q t) q j (by rw [items_len]; exact h) h
  unfold putF
  obtain ⟨I1, hI1⟩ : ∃ I1, I1 = dItems ga gd gl base life q t.gen 0 t.pages := ⟨_, rfl⟩
  obtain ⟨i2, hi2⟩ : ∃ i2 : Itm, i2 = (logAt ga gd gl (base + ((q + t.pages.length : Nat) : Int)), dX 5 life q t.pages.length t.gen t.pages.length []) := ⟨_, rfl⟩
  rw [← hI1, ← hi2] at hit
  rw [← hI1, ← hi2]
  have hl1 : I1.length = t.pages.length := by
    have h1 := congrArg List.length hit
    rw [items_len, htl, List.length_append, List.length_singleton] at h1
    omega
  have g1 : ∀ (j : Nat) (h : j < I1.length), ∃ h' : j < (tSecs life q t).length, I1[j] = (pl ga gd gl base (q + j), (tSecs life q t)[j]) := fun j h => by
    have h' : j < (tSecs life q t).length := by omega
    refine ⟨h', ?_⟩
    have e := hget j h'
    have e2 : (items ga gd gl base q (tSecs life q t))[j]'(by rw [items_len]; exact h') = (I1 ++ [i2])[j]'(by simp; omega) := by simp only [hit]
    rw [e2, List.getElem_append_left h] at e
    exact e
  have g2 : ∃ h' : t.pages.length < (tSecs life q t).length, i2 = (pl ga gd gl base (q + t.pages.length), (tSecs life q t)[t.pages.length]) := by
    have h' : t.pages.length < (tSecs life q t).length := by omega
    refine ⟨h', ?_⟩
    have e := hget _ h'
    have e2 : (items ga gd gl base q (tSecs life q t))[t.pages.length]'(by rw [items_len]; exact h') = (I1 ++ [i2])[t.pages.length]'(by simp; omega) := by simp only [hit]
    rw [e2, List.getElem_append_right (by omega)] at e
    simpa [hl1] using e
  obtain ⟨g2l, g2e⟩ := g2
  clear hget hit
  have hri := fun j h => tSecs_right (base := base) (life := life) hr hb hn hl hbd j h
  have hbdp := fun k => pl_bd (base := base) hr hb hn k
  obtain ⟨m1, e1⟩ := enf_of I1 sm st hs hdn (fun i hi => by
    obtain ⟨j, hj, rfl⟩ := List.mem_iff_getElem.1 hi
    obtain ⟨h', e⟩ := g1 j hj
    rw [e]
    exact ⟨hri j h', (hbdp _).1, (hbdp _).2.1⟩)
  have p1 : ∀ w ∈ m1, ∃ j : Nat, j < (tSecs life q t).length ∧ w.1 = (pl ga gd gl base (q + j)).toNat := fun w hw => by
    obtain ⟨j, hj, rfl⟩ := List.mem_iff_getElem.1 hw
    have hj' : j < I1.length := by have := e1.len; omega
    obtain ⟨h', e⟩ := g1 j hj'
    exact ⟨j, h', by rw [(e1.at_ j hj hj').1, e]⟩
  have t1 : ∀ T ∈ (enf I1 sm st).1, T ∈ sm ∨ ∃ (j : Nat) (h : j < (tSecs life q t).length), T = text (pl ga gd gl base (q + j)) (tSecs life q t)[j] := fun T hT => by
    rcases e1.text T hT with h | ⟨i, hi, h⟩
    · exact .inl h
    · obtain ⟨j, hj, rfl⟩ := List.mem_iff_getElem.1 hi
      obtain ⟨h', e⟩ := g1 j hj
      rw [e] at h
      exact .inr ⟨j, h', h⟩
  rcases e1.res with ⟨r1, r2, r3, r4, r5⟩ | ⟨r1, r2, r3, r4, r5, r6⟩
  · rw [if_neg (by rw [r1]; decide)]
    refine ⟨e1.size, e1.more, e1.old, t1, .inl ⟨r1, r2, r5, [], by rw [r3]; simp, fun w hw => ?_⟩⟩
    rw [List.nil_append, r4, hp, List.nil_append] at hw
    exact p1 w hw
  · rw [if_pos r1]
    rw [hp, List.nil_append] at r3
    obtain ⟨D, hD⟩ : ∃ D, D = enf I1 sm st := ⟨_, rfl⟩
    rw [← hD] at e1 t1 r1 r2 r3 r4 r6
    rw [← hD]
    obtain ⟨m2, e2⟩ := enf_of [i2] D.1 D.2.1 e1.size r2 (fun i hi => by
      rw [List.mem_singleton] at hi
      rw [hi, g2e]
      exact ⟨hri _ g2l, (hbdp _).1, (hbdp _).2.1⟩)
    have p2 : ∀ w ∈ m2, ∃ j : Nat, j < (tSecs life q t).length ∧ w.1 = (pl ga gd gl base (q + j)).toNat := fun w hw => by
      obtain ⟨j, hj, rfl⟩ := List.mem_iff_getElem.1 hw
      have hj' : j < [i2].length := by have := e2.len; omega
      obtain rfl : j = 0 := by simpa using hj'
      refine ⟨t.pages.length, g2l, ?_⟩
      rw [(e2.at_ 0 hj hj').1]
      show i2.1.toNat = _
      rw [g2e]
    have t2 : ∀ T ∈ (enf [i2] D.1 D.2.1).1, T ∈ sm ∨ ∃ (j : Nat) (h : j < (tSecs life q t).length), T = text (pl ga gd gl base (q + j)) (tSecs life q t)[j] := fun T hT => by
      rcases e2.text T hT with h | ⟨i, hi, h⟩
      · exact t1 T h
      · rw [List.mem_singleton] at hi
        rw [hi, g2e] at h
        exact .inr ⟨_, g2l, h⟩
    refine ⟨e2.size, e1.more.trans e2.more, fun T hT => e2.old T (e1.old T hT), t2, ?_⟩
    rcases e2.res with ⟨s1, s2, s3, s4, s5⟩ | ⟨s1, s2, s3, s4, s5, s6⟩
    · refine .inl ⟨s1, s2, fun e => s5 (r6 e), m1, by rw [s3, r3], fun w hw => ?_⟩
      rw [s4, r4, List.nil_append] at hw
      rcases List.mem_append.1 hw with hw | hw
      · exact p1 w hw
      · exact p2 w hw
    · refine .inr ⟨s1, s2, s4, fun e => s6 (r6 e), m1 ++ m2, by rw [s3, r3, r4, List.nil_append, List.append_assoc], by rw [List.length_append, r5, s5, htl, hl1]; rfl, fun j h h' => ?_⟩
      by_cases hj : j < m1.length
      · rw [List.getElem_append_left hj]
        have hj' : j < I1.length := by omega
        obtain ⟨h'', e⟩ := g1 j hj'
        obtain ⟨a1, a2⟩ := e1.at_ j hj hj'
        rw [e] at a1 a2
        exact ⟨a1, e2.more _ _ _ a2⟩
      · have s5' : m2.length = 1 := s5
        obtain rfl : j = t.pages.length := by rw [List.length_append] at h; omega
        obtain ⟨a1, a2⟩ := e2.at_ 0 (by omega) (by simp)
        rw [List.getElem_append_right (by omega)]
        simp only [r5, hl1, Nat.sub_self]
        have g21 : i2.1 = pl ga gd gl base (q + t.pages.length) := by rw [g2e]
        have g22 : i2.2 = (tSecs life q t)[t.pages.length] := by rw [g2e]
        rw [show [i2][0] = i2 from rfl, g21] at a1 a2
        rw [g22] at a2
        exact ⟨a1, a2⟩
/-- the log of a life has these sectors, by what was summed: no other sector of the life is ever read in its places -/
structure LogC (ga gd gl base : Int) (n : Nat) (life : UInt64) (sm : List (List UInt8)) (all : List Wr) (xs ys : List X) : Prop where
  good : ∀ k (h : k < xs.length), Sup.Good sm (pl ga gd gl base k) xs[k] (kept all (pl ga gd gl base k).toNat)
  only : ∀ (k : Nat) (x : X), (k : Int) < gl → rightF (pl ga gd gl base k) x = 0 → text (pl ga gd gl base k) x ∈ sm → x.life = life → (ys)[k]? = some x
theorem text_at {ga gd gl base : Int} {n : Nat} (hr : right ga gd gl = true) (hb : 0 ≤ base) (hn : (n : Int) = Geom.sizeOf ga gd gl) {j k : Nat} (hj : (j : Int) < gl) (hk : (k : Int) < gl) {x y : X} (hx : rightF (pl ga gd gl base k) x = 0) (hy : rightF (pl ga gd gl base j) y = 0) (h : text (pl ga gd gl base k) x = text (pl ga gd gl base j) y) : x = y ∧ k = j := by
  have e := text_inj hx hy h
  subst e
  have e2 := place_of hx hy h.symm
  exact ⟨rfl, (pl_inj hr hb hj hk e2).symm⟩
theorem LogC.kept {ga gd gl base : Int} {n : Nat} {life : UInt64} {sm sm' : List (List UInt8)} {all m : List Wr} {xs ys : List X} (h : LogC ga gd gl base n life sm all xs ys) (hr : right ga gd gl = true) (hb : 0 ≤ base) (hn : (n : Int) = Geom.sizeOf ga gd gl) (hl : (xs.length : Int) ≤ gl) (hm : More sm sm') {q e : Nat} (hq : xs.length ≤ q) (he : ((q + e : Nat) : Int) ≤ gl) (hw : ∀ w ∈ m, ∃ j : Nat, j < e ∧ w.1 = (pl ga gd gl base (q + j)).toNat) : ∀ k (h : k < xs.length), Sup.Good sm' (pl ga gd gl base k) xs[k] (Disk.kept (all ++ m) (pl ga gd gl base k).toNat) := fun k hk => by
  rw [Disk.kept_append all m _ (fun w h1 h2 => by
    obtain ⟨j, hj, e1⟩ := hw w h1
    rw [e1] at h2
    have p1 := pl_bd (base := base) hr hb hn (q + j)
    have p2 := pl_bd (base := base) hr hb hn k
    have := pl_inj hr hb (base := base) (j := q + j) (k := k) (by omega) (by omega) (by omega)
    omega)]
  exact hm _ _ _ (h.good k hk)
theorem LogC.only' {ga gd gl base : Int} {n : Nat} {life : UInt64} {sm sm' : List (List UInt8)} {all : List Wr} {xs : List X} {t : Tx} (h : LogC ga gd gl base n life sm all xs xs) (hr : right ga gd gl = true) (hb : 0 ≤ base) (hn : (n : Int) = Geom.sizeOf ga gd gl) (hl : (xs.length : Int) + t.pages.length < gl) (hbd : badB ga gd gl t.pages = false) (ht : ∀ T ∈ sm', T ∈ sm ∨ ∃ (j : Nat) (h : j < (tSecs life xs.length t).length), T = text (pl ga gd gl base (xs.length + j)) (tSecs life xs.length t)[j]) :
    ∀ (k : Nat) (x : X), (k : Int) < gl → rightF (pl ga gd gl base k) x = 0 → text (pl ga gd gl base k) x ∈ sm' → x.life = life → (xs ++ tSecs life xs.length t)[k]? = some x := fun k x hk hx hT hlf => by
  rcases ht _ hT with h1 | ⟨j, hj, e⟩
  · have h2 := h.only k x hk hx h1 hlf
    have h3 : k < xs.length := by
      rcases Nat.lt_or_ge k xs.length with h4 | h4
      · exact h4
      · rw [List.getElem?_eq_none h4] at h2; cases h2
    rw [List.getElem?_append_left h3]; exact h2
  · have htl := tSecs_len life xs.length t
    obtain ⟨e1, e2⟩ := text_at hr hb hn (j := xs.length + j) (by omega) hk hx (tSecs_right hr hb hn hl hbd j hj) e
    rw [e2, List.getElem?_append_right (by omega), Nat.add_sub_cancel_left, e1, List.getElem?_eq_getElem hj]
/-- an append that is told -/
theorem LogC.append {ga gd gl base : Int} {n : Nat} {life : UInt64} {sm : List (List UInt8)} {st : St} {xs : List X} {t : Tx} {V : List (List UInt8) × St × Int} (h : LogC ga gd gl base n life sm st.all xs xs) (hr : right ga gd gl = true) (hb : 0 ≤ base) (hn : (n : Int) = Geom.sizeOf ga gd gl) (hl : (xs.length : Int) + t.pages.length < gl) (hbd : badB ga gd gl t.pages = false) (hV : PutT ga gd gl base n life xs.length t sm st V) (hz : V.2.2 = 0) : LogC ga gd gl base n life V.1 V.2.1.all (xs ++ tSecs life xs.length t) (xs ++ tSecs life xs.length t) := by
  have htl := tSecs_len life xs.length t
  refine ⟨fun k hk => ?_, h.only' hr hb hn hl hbd hV.text⟩
  rcases hV.res with ⟨r, _⟩ | ⟨_, _, _, _, m, r1, r2, r3⟩
  · rw [r] at hz; cases hz
  have hat : ∀ k (h : k < m.length), ∃ h' : k < (tSecs life xs.length t).length, m[k].1 = (pl ga gd gl base (xs.length + k)).toNat := fun k h => ⟨by omega, (r3 k h (by omega)).1⟩
  rw [r1]
  by_cases h1 : k < xs.length
  · rw [List.getElem_append_left h1]
    exact h.kept hr hb hn (by omega) hV.more (Nat.le_refl _) (e := (tSecs life xs.length t).length) (by omega) (fun w hw => by
      obtain ⟨j, hj, rfl⟩ := List.mem_iff_getElem.1 hw
      obtain ⟨h', e⟩ := hat j hj
      exact ⟨j, h', e⟩) k h1
  · rw [List.length_append] at hk
    rw [List.getElem_append_right (by omega)]
    obtain ⟨a1, a2⟩ := r3 (k - xs.length) (by omega) (by omega)
    rw [show xs.length + (k - xs.length) = k by omega] at a1 a2
    rw [← a1, kept_of st.all m (k - xs.length) (by omega) (fun a b ha hb' hab => ?_)]
    · exact a2
    · obtain ⟨ha', ea⟩ := hat a ha
      obtain ⟨hb'', eb⟩ := hat b hb'
      rw [ea, eb] at hab
      have p1 := pl_bd (base := base) hr hb hn (xs.length + a)
      have p2 := pl_bd (base := base) hr hb hn (xs.length + b)
      have := pl_inj hr hb (base := base) (j := xs.length + a) (k := xs.length + b) (by omega) (by omega) (by omega)
      omega
/-- an append in which the power goes: and behind it, whatever becomes of what was pending -/
theorem LogC.crash {ga gd gl base : Int} {n : Nat} {life : UInt64} {sm : List (List UInt8)} {st : St} {xs : List X} {t : Tx} {V : List (List UInt8) × St × Int} (h : LogC ga gd gl base n life sm st.all xs xs) (hr : right ga gd gl = true) (hb : 0 ≤ base) (hn : (n : Int) = Geom.sizeOf ga gd gl) (hl : (xs.length : Int) + t.pages.length < gl) (hbd : badB ga gd gl t.pages = false) (hV : PutT ga gd gl base n life xs.length t sm st V) (hz : V.2.2 ≠ 0) (keep : List Int) (torn at_ : Int) :
    UpN (restart V.2.1 keep torn at_) n ∧ LogC ga gd gl base n life V.1 (restart V.2.1 keep torn at_).all xs (xs ++ tSecs life xs.length t) := by
  have htl := tSecs_len life xs.length t
  obtain ⟨u, _, m', e, hm'⟩ := restart_up hV.size keep torn at_
  refine ⟨u, fun k hk => ?_, h.only' hr hb hn hl hbd hV.text⟩
  rcases hV.res with ⟨_, _, _, m, r1, r2⟩ | ⟨r, _⟩
  rotate_left
  · exact absurd r hz
  rw [e, r1, List.append_assoc]
  exact h.kept hr hb hn (by omega) hV.more (Nat.le_refl _) (e := (tSecs life xs.length t).length) (by omega) (fun w hw => by
    rcases List.mem_append.1 hw with hw | hw
    · exact r2 w (List.mem_append.2 (.inl hw))
    · obtain ⟨v, hv, e⟩ := hm' w hw
      obtain ⟨j, hj, e2⟩ := r2 v (List.mem_append.2 (.inr hv))
      exact ⟨j, hj, e.trans e2⟩) k hk
end Go.Proofs.YtchcmklelmlbgaaGreat.Wal

/- The log, in plain Lean: what is scanned where the power went. No statement is proved here. -/
namespace Go.Proofs.YtchcmklelmlbgaaGreat.Wal
open Go.RowKit
open Go.Proofs.YtchcmklelmlbgaaGreat.Geom
open Go.Proofs.YtchcmklelmlbgaaGreat.Disk (St Wr write flush read kept new zero512 restart)
open Go.Proofs.YtchcmklelmlbgaaGreat.Sec (X X0 text rightF place_of)
open Go.Proofs.YtchcmklelmlbgaaGreat.Sup (UpN Gb text_inj)
open Go.Proofs.YtchcmklelmlbgaaGreat.Enc (Itm Enf enf enf_of More kept_of rd rd_good rd_zero rd_sound restart_up)
set_option linter.unusedVariables false
theorem find_stop (good : Nat → Bool) : ∀ N : Nat, ∃ K, K ≤ N ∧ (∀ j, j < K → good j = true) ∧ (K = N ∨ good K = false)
  | 0 => ⟨0, Nat.le_refl _, fun j h => absurd h (Nat.not_lt_zero _), .inl rfl⟩
  | N + 1 => by
    obtain ⟨K, h1, h2, h3⟩ := find_stop good N
    rcases h3 with h3 | h3
    · subst h3
      cases hg : good K with
      | true => exact ⟨K + 1, Nat.le_refl _, fun j hj => by
          rcases Nat.lt_or_ge j K with h | h
          · exact h2 j h
          · obtain rfl : j = K := by omega
            exact hg, .inl rfl⟩
      | false => exact ⟨K, by omega, h2, .inr hg⟩
    · exact ⟨K, by omega, h2, .inr h3⟩
theorem dSecs_take (life : UInt64) (q : Nat) (gen : UInt64) : ∀ (l : List Pg) (i j : Nat), (dSecs life q gen i l).take j = dSecs life q gen i (l.take j)
  | [], i, j => by simp [dSecs]
  | x :: r, i, 0 => by simp [dSecs]
  | x :: r, i, j + 1 => by simp only [dSecs, List.take_succ_cons]; rw [dSecs_take life q gen r (i + 1) j]
theorem range_num {rdf : Nat → X} {S : List X} {K : Nat} (hK : K ≤ S.length) (h : ∀ k, k < K → S[k]? = some (rdf k)) : (List.range K).map (fun j => (j, rdf j)) = num 0 (S.take K) := by
  have h1 := num_range (S.take K)
  have h2 : (S.take K).length = K := by rw [List.length_take]; omega
  rw [h2] at h1
  rw [← h1]
  apply List.map_congr_left
  intro j hj
  have hj' := List.mem_range.1 hj
  have h3 : (S.take K).getD j X0 = rdf j := by
    rw [List.getD, List.getElem?_take_of_lt hj', h j hj']; rfl
  rw [h3]
/-- what is scanned where just these stand, and perhaps some of one more -/
theorem scan_some {np : Int} {life : UInt64} {rdf : Nat → X} {good : Nat → Bool} {N : Nat} {ts : List Tx} {t : Tx} (hnp : np ≤ 65536) (hN1 : N < 65536) (hN : (allSecs life 0 (ts ++ [t])).length ≤ N) (hx : ∀ u ∈ ts ++ [t], ∀ x ∈ u.pages, 0 ≤ x.n ∧ x.n < np)
    (hr : ∀ k, k < (allSecs life 0 ts).length → good k = true) (ho : ∀ k, k < N → good k = true → (allSecs life 0 (ts ++ [t]))[k]? = some (rdf k)) : (scanH np rdf good N 0 r00).all = ts ∨ (scanH np rdf good N 0 r00).all = ts ++ [t] := by
  obtain ⟨K, hK, hg, he⟩ := find_stop good N
  have hs := allSecs_snoc life ts 0 t
  rw [Nat.zero_add] at hs
  have htl := tSecs_len life (allSecs life 0 ts).length t
  obtain ⟨S, hS⟩ : ∃ S, S = allSecs life 0 (ts ++ [t]) := ⟨_, rfl⟩
  have hSl : S.length = (allSecs life 0 ts).length + (t.pages.length + 1) := by rw [hS, hs, List.length_append, htl]
  rw [← hS] at hN ho
  have hKS : K ≤ S.length := by
    rcases Nat.lt_or_ge S.length K with h | h
    · have := ho S.length (by omega) (hg _ h)
      rw [List.getElem?_eq_none (Nat.le_refl _)] at this; cases this
    · exact h
  have hMK : (allSecs life 0 ts).length ≤ K := by
    rcases Nat.lt_or_ge K (allSecs life 0 ts).length with h | h
    · have := hr K h
      rcases he with e | e
      · omega
      · rw [this] at e; cases e
    · exact h
  have hm := range_num (rdf := rdf) hKS (fun k hk => ho k (by omega) (hg k hk))
  by_cases hKe : K = S.length
  · right
    obtain ⟨g', e⟩ := takes_all (life := life) hnp (ts ++ [t]) 0 [] 0 (by rw [← hS]; omega) hx
    obtain ⟨e1, e2⟩ := takes_fold np _ _ [] (okR_nil np) e
    rw [List.nil_append, ← hS] at e1 e2
    have hm' : (List.range K).map (fun j => (j, rdf j)) = num 0 S := by rw [hm, hKe, List.take_length]
    rw [scanH_done hK hg (by rw [hm']; exact e1) he, hm', e2]
    simp
  · left
    obtain ⟨j, hj⟩ : ∃ j, K = (allSecs life 0 ts).length + j := ⟨K - (allSecs life 0 ts).length, by omega⟩
    have hjl : j ≤ t.pages.length := by omega
    have htake : S.take K = allSecs life 0 ts ++ dSecs life (allSecs life 0 ts).length t.gen 0 (t.pages.take j) := by
      rw [hS, hs, hj, List.take_append, List.take_of_length_le (by omega), Nat.add_sub_cancel_left]
      unfold tSecs
      rw [List.take_append_of_le_length (by rw [dSecs_len]; exact hjl), dSecs_take]
    obtain ⟨g', e⟩ := takes_all (life := life) hnp ts 0 [] 0 (by omega) (fun u hu => hx u (by simp [hu]))
    obtain ⟨g2, f1, f2⟩ := takes_data (life := life) (gen := t.gen) (q := (allSecs life 0 ts).length) (by omega) hnp (t.pages.take j) 0 ⟨[] ++ ts, [], g', 0 + (allSecs life 0 ts).length⟩ (fun x hx' => hx t (by simp) x (List.mem_of_mem_take hx')) (Nat.zero_add _) (fun h => absurd rfl h)
    have e3 := takes_append np (num 0 (allSecs life 0 ts)) (num (0 + (allSecs life 0 ts).length) (dSecs life (allSecs life 0 ts).length t.gen 0 (t.pages.take j))) _ _ e
    rw [← num_append, ← htake] at e3
    rw [Nat.add_zero] at f1
    rw [show 0 + (allSecs life 0 ts).length = (allSecs life 0 ts).length from Nat.zero_add _] at e3 f1
    rw [f1] at e3
    obtain ⟨e1, e2⟩ := takes_fold np _ _ [] (okR_nil np) e3
    rw [List.nil_append] at e1 e2
    rw [scanH_done hK hg (by rw [hm]; exact e1) he, hm, e2]
    simp
theorem LogC.read {ga gd gl base : Int} {n : Nat} {life : UInt64} {sm : List (List UInt8)} {st : St} {xs ys : List X} (h : LogC ga gd gl base n life sm st.all xs ys) (hu : UpN st n) (hr : right ga gd gl = true) (hb : 0 ≤ base) (hn : (n : Int) = Geom.sizeOf ga gd gl) {k : Nat} (hk : k < xs.length) : rdL sm st ga gd gl base k = (xs[k], 0) := by
  have p := pl_bd (base := base) hr hb hn k
  exact rd_good hu p.1 p.2.1 (h.good k hk)
theorem LogC.sound {ga gd gl base : Int} {n : Nat} {life : UInt64} {sm : List (List UInt8)} {st : St} {xs ys : List X} (h : LogC ga gd gl base n life sm st.all xs ys) {k : Nat} (hk : (k : Int) < gl) (hg : goodL sm st ga gd gl base life k = true) : ys[k]? = some (rdL sm st ga gd gl base k).1 := by
  unfold goodL at hg
  simp only [Bool.and_eq_true, decide_eq_true_eq] at hg
  obtain ⟨r1, r2⟩ := rd_sound hg.1
  exact h.only k _ hk r1 r2 hg.2.1
theorem LogC.isgood {ga gd gl base : Int} {n : Nat} {life : UInt64} {sm : List (List UInt8)} {st : St} {ts : List Tx} {ys : List X} (h : LogC ga gd gl base n life sm st.all (allSecs life 0 ts) ys) (hu : UpN st n) (hr : right ga gd gl = true) (hb : 0 ≤ base) (hn : (n : Int) = Geom.sizeOf ga gd gl) {k : Nat} (hk : k < (allSecs life 0 ts).length) : goodL sm st ga gd gl base life k = true := by
  have e := h.read hu hr hb hn hk
  have a := allSecs_at life ts 0 k hk
  unfold goodL
  rw [e]
  simp only [a.1, a.2]
  simp
/-- what is scanned: just these -/
theorem LogC.scan {ga gd gl base : Int} {n : Nat} {life : UInt64} {sm : List (List UInt8)} {st : St} {ts : List Tx} (h : LogC ga gd gl base n life sm st.all (allSecs life 0 ts) (allSecs life 0 ts)) (hu : UpN st n) (hr : right ga gd gl = true) (hb : 0 ≤ base) (hn : (n : Int) = Geom.sizeOf ga gd gl) (hl : ((allSecs life 0 ts).length : Int) ≤ gl) (hx : ∀ t ∈ ts, ∀ x ∈ t.pages, 0 ≤ x.n ∧ x.n < pagesOf ga gd gl) : scanTx sm st ga gd gl base life = ts := by
  have hy := right_yes hr
  have hp := pagesOf_bd ga gd gl
  unfold scanTx
  refine scan_all (life := life) (by omega) (by omega) (by omega) hx (fun k hk => ?_) ?_
  · exact ⟨by rw [h.read hu hr hb hn hk], h.isgood hu hr hb hn hk⟩
  · by_cases hN : (allSecs life 0 ts).length = gl.toNat
    · exact .inl hN
    · right
      cases hg : goodL sm st ga gd gl base life (allSecs life 0 ts).length with
      | false => rfl
      | true =>
        have := h.sound (by omega) hg
        rw [List.getElem?_eq_none (Nat.le_refl _)] at this; cases this
/-- what is scanned where the power went: just these, or also the one that was being appended -/
theorem LogC.scan2 {ga gd gl base : Int} {n : Nat} {life : UInt64} {sm : List (List UInt8)} {st : St} {ts : List Tx} {t : Tx} (h : LogC ga gd gl base n life sm st.all (allSecs life 0 ts) (allSecs life 0 ts ++ tSecs life (allSecs life 0 ts).length t)) (hu : UpN st n) (hr : right ga gd gl = true) (hb : 0 ≤ base) (hn : (n : Int) = Geom.sizeOf ga gd gl) (hl : ((allSecs life 0 ts).length : Int) + t.pages.length < gl) (hx : ∀ u ∈ ts ++ [t], ∀ x ∈ u.pages, 0 ≤ x.n ∧ x.n < pagesOf ga gd gl) : scanTx sm st ga gd gl base life = ts ∨ scanTx sm st ga gd gl base life = ts ++ [t] := by
  have hy := right_yes hr
  have hp := pagesOf_bd ga gd gl
  have hs := allSecs_snoc life ts 0 t
  rw [Nat.zero_add] at hs
  unfold scanTx
  refine scan_some (life := life) (by omega) (by omega) ?_ hx (fun k hk => h.isgood hu hr hb hn hk) (fun k hk hg => ?_)
  · rw [hs, List.length_append, tSecs_len]; omega
  · rw [hs]; exact h.sound (by omega) hg
/-- another life has none -/
theorem scan_none {sm : List (List UInt8)} {st : St} {ga gd gl base : Int} {life : UInt64} (h : ∀ (p : Int) (x : X), rightF p x = 0 → text p x ∈ sm → x.life ≠ life) : scanTx sm st ga gd gl base life = [] := by
  have hg : goodL sm st ga gd gl base life 0 = false := by
    cases hg : goodL sm st ga gd gl base life 0 with
    | false => rfl
    | true =>
      unfold goodL at hg
      simp only [Bool.and_eq_true, decide_eq_true_eq] at hg
      obtain ⟨r1, r2⟩ := rd_sound hg.1
      exact absurd hg.2.1 (h _ _ r1 r2)
  unfold scanTx
  cases hN : gl.toNat with
  | zero => rfl
  | succ m => show (if _ then _ else _ : Rg).all = _; rw [if_neg (by rw [hg]; simp)]; rfl
/-- all that was summed is of one life -/
def Lives (life : UInt64) (sm : List (List UInt8)) : Prop := ∀ (p : Int) (x : X), rightF p x = 0 → text p x ∈ sm → x.life = life
theorem Lives.put {ga gd gl base : Int} {n : Nat} {life : UInt64} {q : Nat} {t : Tx} {sm : List (List UInt8)} {st : St} {V : List (List UInt8) × St × Int} (h : Lives life sm) (hV : PutT ga gd gl base n life q t sm st V) (hr : right ga gd gl = true) (hb : 0 ≤ base) (hn : (n : Int) = Geom.sizeOf ga gd gl) (hl : (q : Int) + t.pages.length < gl) (hbd : badB ga gd gl t.pages = false) : Lives life V.1 := fun p x hx hT => by
  rcases hV.text _ hT with h1 | ⟨j, hj, e⟩
  · exact h p x hx h1
  · rw [text_inj hx (tSecs_right hr hb hn hl hbd j hj) e]
    exact (tSecs_at life q t j hj).1
theorem putF_lim (ga gd gl base : Int) (life : UInt64) (q : Nat) (t : Tx) (sm : List (List UInt8)) (st : St) : (putF ga gd gl base life q t.gen t.pages sm st).1.length ≤ sm.length + (t.pages.length + 1) ∧ (putF ga gd gl base life q t.gen t.pages sm st).2.1.sz ≤ st.sz + 2 * (t.pages.length + 2) := by
  have hd := items_data ga gd gl base life q t.gen t.pages 0
  rw [Nat.add_zero] at hd
  have hl : (dItems ga gd gl base life q t.gen 0 t.pages).length = t.pages.length := by rw [← hd, items_len, dSecs_len]
  obtain ⟨l1, l2⟩ := Enc.enf_lim (dItems ga gd gl base life q t.gen 0 t.pages) sm st
  rw [hl] at l1 l2
  unfold putF
  split
  · obtain ⟨l3, l4⟩ := Enc.enf_lim [(logAt ga gd gl (base + ((q + t.pages.length : Nat) : Int)), dX 5 life q t.pages.length t.gen t.pages.length [])] (enf (dItems ga gd gl base life q t.gen 0 t.pages) sm st).1 (enf (dItems ga gd gl base life q t.gen 0 t.pages) sm st).2.1
    simp only [List.length_cons, List.length_nil] at l3 l4
    omega
  · omega
end Go.Proofs.YtchcmklelmlbgaaGreat.Wal

/- The store, in plain Lean: what its disk has while the power is there. No statement is proved here. -/
namespace Go.Proofs.YtchcmklelmlbgaaGreat.Sto
open Go.RowKit
open Go.Proofs.YtchcmklelmlbgaaGreat.Geom
open Go.Proofs.YtchcmklelmlbgaaGreat.Disk (St Wr write flush kept new zero512)
open Go.Proofs.YtchcmklelmlbgaaGreat.Sec (X X0 text rightF sumAfter)
open Go.Proofs.YtchcmklelmlbgaaGreat.Sup (UpN splace splace_ok splace_next sx sx_right sB sB_len sB_good sL wf atR best best_first best_later SV)
open Go.Proofs.YtchcmklelmlbgaaGreat.Snap (PagesOk px snapF snapR snapR_some rdAt_good area_eq area_inj area_apart)
open Go.Proofs.YtchcmklelmlbgaaGreat.Wal (Tx Lives allSecs allSecs_at allSecs_snoc tSecs tSecs_len tSecs_at pl pl_eq pl_inj pl_bd badB badB_of putF PutT putF_turn scanTx scan_all rdL goodL tSecs_right)
open Go.Proofs.YtchcmklelmlbgaaGreat.Enc (Enf More rd_good rd_zero kept_of)
set_option linter.unusedVariables false
/-- what a place of the log has: nothing, or a sector of an elder life -/
def Elder (sm : List (List UInt8)) (all : List Wr) (life : UInt64) (p : Int) : Prop := kept all p.toNat = zero512 ∨ ∃ y, Sup.Good sm p y (kept all p.toNat) ∧ y.life < life
/-- what the other super's place has -/
def Other (ga gd gl : Int) (sm : List (List UInt8)) (all : List Wr) (life : UInt64) : Prop := kept all (5 - splace life).toNat = zero512 ∨ ∃ (l' : UInt64) (b' : Int) (g' : UInt64), l' < life ∧ splace l' = 5 - splace life ∧ Sup.Good sm (splace l') (sx ga gd gl l' b' g') (kept all (splace l').toNat)
/-- a life may begin -/
structure PreN (ga gd gl : Int) (n : Nat) (sm : List (List UInt8)) (st : St) (life : UInt64) : Prop where
  up : UpN st n
  oth : Other ga gd gl sm st.all life
  log : ∀ p : Int, 4 ≤ p → p < 4 + gl → Elder sm st.all life p
/-- a life, and its transactions -/
structure InvN (ga gd gl : Int) (n : Nat) (sm : List (List UInt8)) (st : St) (life : UInt64) (base : Int) (gen0 : UInt64) (P0 : List (List UInt8)) (ts : List Tx) : Prop where
  up : UpN st n
  hb : 0 ≤ base ∧ base ≤ 1073741824
  pages : PagesOk ga gd gl n P0
  snap : ∀ k (hk : k < P0.length), Sup.Good sm (areaAt ga gd gl life.toNat k) (px life k P0[k]) (kept st.all (areaAt ga gd gl life.toNat k).toNat)
  sup : Sup.Good sm (splace life) (sx ga gd gl life base gen0) (kept st.all (splace life).toNat)
  oth : Other ga gd gl sm st.all life
  log : ∀ k (h : k < (allSecs life 0 ts).length), Sup.Good sm (pl ga gd gl base k) (allSecs life 0 ts)[k] (kept st.all (pl ga gd gl base k).toNat)
  rest : ∀ p : Int, 4 ≤ p → p < 4 + gl → (∃ k, k < (allSecs life 0 ts).length ∧ p = pl ga gd gl base k) ∨ Elder sm st.all life p
  len : ((allSecs life 0 ts).length : Int) ≤ gl
  bad : ∀ t ∈ ts, badB ga gd gl t.pages = false
theorem good_up {sm sm' : List (List UInt8)} {p : Int} {x : X} {b : List UInt8} (h : Sup.Good sm p x b) (m : More sm sm') : Sup.Good sm' p x b := m _ _ _ h
theorem Elder.keep {sm sm' : List (List UInt8)} {all all' : List Wr} {life : UInt64} {p : Int} (h : Elder sm all life p) (m : More sm sm') (k : kept all' p.toNat = kept all p.toNat) : Elder sm' all' life p := by
  rcases h with h | ⟨y, h1, h2⟩
  · exact .inl (k.trans h)
  · exact .inr ⟨y, by rw [k]; exact m _ _ _ h1, h2⟩
theorem Other.keep {ga gd gl : Int} {sm sm' : List (List UInt8)} {all all' : List Wr} {life : UInt64} (h : Other ga gd gl sm all life) (m : More sm sm') (k : kept all' (5 - splace life).toNat = kept all (5 - splace life).toNat) : Other ga gd gl sm' all' life := by
  rcases h with h | ⟨l', b', g', h1, h2, h3⟩
  · exact .inl (k.trans h)
  · exact .inr ⟨l', b', g', h1, h2, by rw [h2, k, ← h2]; exact m _ _ _ h3⟩
theorem life_next {life : UInt64} (h : life.toNat ≠ 18446744073709551615) : life < life + 1 := by
  have h1 : (life + 1).toNat = (life.toNat + 1) % 18446744073709551616 := by simp [UInt64.toNat_add]
  have h2 : life.toNat < 18446744073709551616 := life.toNat_lt
  rw [UInt64.lt_iff_toNat_lt]; omega
/-- behind a life the next one may begin -/
theorem InvN.pre {ga gd gl : Int} {n : Nat} {sm : List (List UInt8)} {st : St} {life : UInt64} {base : Int} {gen0 : UInt64} {P0 : List (List UInt8)} {ts : List Tx} (h : InvN ga gd gl n sm st life base gen0 P0 ts) (hl : life.toNat ≠ 18446744073709551615) : PreN ga gd gl n sm st (life + 1) := by
  have hlt := life_next hl
  have hsn := splace_next life
  refine ⟨h.up, .inr ⟨life, base, gen0, hlt, by omega, h.sup⟩, fun p h0 h1 => ?_⟩
  rcases h.rest p h0 h1 with ⟨k, hk, rfl⟩ | h2 | ⟨y, h2, h3⟩
  · exact .inr ⟨_, h.log k hk, by rw [(allSecs_at life ts 0 k hk).1]; exact hlt⟩
  · exact .inl h2
  · exact .inr ⟨y, h2, by rw [UInt64.lt_iff_toNat_lt] at h3 hlt ⊢; omega⟩
/-- a life begins -/
theorem PreN.begin {ga gd gl : Int} {n : Nat} {sm : List (List UInt8)} {st : St} {life : UInt64} (h : PreN ga gd gl n sm st life) (hr : right ga gd gl = true) {P : List (List UInt8)} (hP : PagesOk ga gd gl n P) (base : Int) (gen : UInt64) (hb : 0 ≤ base ∧ base ≤ 1073741824) :
    (snapF ga gd gl life P sm st).2.2 = 0 ∧ (wf (snapF ga gd gl life P sm st).2.1 (splace life) (sB (snapF ga gd gl life P sm st).1 ga gd gl life base gen)).2 = 0 ∧
      InvN ga gd gl n (sL (snapF ga gd gl life P sm st).1 ga gd gl life base gen) (wf (snapF ga gd gl life P sm st).2.1 (splace life) (sB (snapF ga gd gl life P sm st).1 ga gd gl life base gen)).1 life base gen P [] := by
  obtain ⟨u1, u2, u3, u4, u5, _⟩ := hP.up life sm h.up
  obtain ⟨V, hV⟩ : ∃ V, V = snapF ga gd gl life P sm st := ⟨_, rfl⟩
  rw [← hV] at u1 u2 u3 u4 u5 ⊢
  have hy := right_yes hr
  have hsp := splace_ok life
  have hlz := Wal.log_size hr
  have hPl := hP.len
  have hn7 : 4 ≤ n := by have := hP.size; omega
  have hpl : ∀ k, k < P.length → 4 + gl ≤ areaAt ga gd gl life.toNat k := fun k hk => by
    rw [area_eq (by omega)]
    have hpb := pagesOf_bd ga gd gl
    have : 0 ≤ (life.toNat : Int) % 2 * pagesOf ga gd gl := Int.mul_nonneg (by omega) (by omega)
    omega
  obtain ⟨w1, w2, w3⟩ := u2.wf (p := splace life) (by omega) (by omega) (sB_len V.1 ga gd gl life base gen)
  have hm : More V.1 (sL V.1 ga gd gl life base gen) := More.after _ _
  -- what stands elsewhere
  have hk : ∀ p : Int, 0 ≤ p → p ≠ splace life → p < 4 + gl → kept (wf V.2.1 (splace life) (sB V.1 ga gd gl life base gen)).1.all p.toNat = kept st.all p.toNat := fun p h0 h1 h2 => by
    rw [w3, Sup.kept_beside _ _ (by omega)]
    exact u5 _ (fun k hk => by have := hpl k hk; omega)
  refine ⟨u1, w1, w2, hb, hP, fun k hk' => ?_, ?_, ?_, fun k hk' => absurd hk' (by simp [allSecs]), fun p h0 h1 => .inr ?_, by simp [allSecs]; omega, fun t ht => (by cases ht)⟩
  · rw [w3, Sup.kept_beside _ _ (by have := hpl k hk'; omega)]
    exact hm _ _ _ (u4 k hk')
  · rw [w3, Sup.kept_after]
    exact sB_good V.1 hb.1 hb.2
  · exact h.oth.keep (u3.trans hm) (hk _ (by omega) (by omega) (by omega))
  · exact (h.log p h0 h1).keep (u3.trans hm) (hk p (by omega) (by omega) h1)
/-- a transaction is appended -/
theorem InvN.append {ga gd gl : Int} {n : Nat} {sm : List (List UInt8)} {st : St} {life : UInt64} {base : Int} {gen0 : UInt64} {P0 : List (List UInt8)} {ts : List Tx} {t : Tx} (h : InvN ga gd gl n sm st life base gen0 P0 ts) (hr : right ga gd gl = true) (hl : ((allSecs life 0 ts).length : Int) + t.pages.length < gl) (hbd : badB ga gd gl t.pages = false) :
    (putF ga gd gl base life (allSecs life 0 ts).length t.gen t.pages sm st).2.2 = 0 ∧
      InvN ga gd gl n (putF ga gd gl base life (allSecs life 0 ts).length t.gen t.pages sm st).1 (putF ga gd gl base life (allSecs life 0 ts).length t.gen t.pages sm st).2.1 life base gen0 P0 (ts ++ [t]) := by
  have hn := h.pages.size
  have hV := putF_turn (life := life) (q := (allSecs life 0 ts).length) (t := t) (sm := sm) h.up.size h.up.pend h.up.down hr h.hb.1 hn hl hbd
  obtain ⟨V, hVe⟩ : ∃ V, V = putF ga gd gl base life (allSecs life 0 ts).length t.gen t.pages sm st := ⟨_, rfl⟩
  rw [← hVe] at hV ⊢
  rcases hV.res with ⟨_, _, h3, _⟩ | ⟨r1, r2, r3, r4, m, r5, r6, r7⟩
  · exact absurd h.up.fuse h3
  have hs := allSecs_snoc life ts 0 t
  rw [Nat.zero_add] at hs
  have htl := tSecs_len life (allSecs life 0 ts).length t
  have hlen : (allSecs life 0 (ts ++ [t])).length = (allSecs life 0 ts).length + (t.pages.length + 1) := by rw [hs, List.length_append, htl]
  have hat : ∀ k (h : k < m.length), ∃ h' : k < (tSecs life (allSecs life 0 ts).length t).length, m[k].1 = (pl ga gd gl base ((allSecs life 0 ts).length + k)).toNat := fun k h => ⟨by omega, (r7 k h (by omega)).1⟩
  have hkp : ∀ p : Int, 0 ≤ p → (∀ j, j < t.pages.length + 1 → p ≠ pl ga gd gl base ((allSecs life 0 ts).length + j)) → kept V.2.1.all p.toNat = kept st.all p.toNat := fun p h0 h1 => by
    rw [r5]
    refine Disk.kept_append _ _ _ (fun w hw he => ?_)
    obtain ⟨j, hj, rfl⟩ := List.mem_iff_getElem.1 hw
    obtain ⟨h', e⟩ := hat j hj
    have p1 := pl_bd (base := base) hr h.hb.1 hn ((allSecs life 0 ts).length + j)
    exact h1 j (by omega) (by omega)
  have hy := right_yes hr
  have hsp := splace_ok life
  have hplb : ∀ k, 4 ≤ pl ga gd gl base k ∧ pl ga gd gl base k < 4 + gl := fun k => by
    rw [pl_eq hr h.hb.1]
    have := Int.emod_nonneg (base + (k : Int)) (show gl ≠ 0 by omega)
    have := Int.emod_lt_of_pos (base + (k : Int)) (show 0 < gl by omega)
    omega
  have hPl := h.pages.len
  have hpl : ∀ k, k < P0.length → 4 + gl ≤ areaAt ga gd gl life.toNat k := fun k hk => by
    rw [area_eq (by omega)]
    have hpb := pagesOf_bd ga gd gl
    have : 0 ≤ (life.toNat : Int) % 2 * pagesOf ga gd gl := Int.mul_nonneg (by omega) (by omega)
    omega
  refine ⟨r1, ⟨hV.size, r3, r2, r4 h.up.fuse⟩, h.hb, h.pages, fun k hk => ?_, ?_, ?_, fun k hk => ?_, fun p h0 h1 => ?_, by rw [hlen]; omega, fun u hu => ?_⟩
  · rw [hkp _ (by have := hpl k hk; omega) (fun j hj => by have := hpl k hk; have := hplb ((allSecs life 0 ts).length + j); omega)]
    exact hV.more _ _ _ (h.snap k hk)
  · rw [hkp _ (by omega) (fun j hj => by have := hplb ((allSecs life 0 ts).length + j); omega)]
    exact hV.more _ _ _ h.sup
  · exact h.oth.keep hV.more (hkp _ (by omega) (fun j hj => by have := hplb ((allSecs life 0 ts).length + j); omega))
  · rw [hlen] at hk
    by_cases h1 : k < (allSecs life 0 ts).length
    · rw [hkp _ (by have := hplb k; omega) (fun j hj e => by
        have := pl_inj hr h.hb.1 (base := base) (j := k) (k := (allSecs life 0 ts).length + j) (by omega) (by omega) e
        omega)]
      have e : (allSecs life 0 (ts ++ [t]))[k]'(by rw [hlen]; omega) = (allSecs life 0 ts)[k] := by
        simp only [hs]; exact List.getElem_append_left h1
      rw [e]
      exact hV.more _ _ _ (h.log k h1)
    · have e : (allSecs life 0 (ts ++ [t]))[k]'(by rw [hlen]; omega) = (tSecs life (allSecs life 0 ts).length t)[k - (allSecs life 0 ts).length]'(by omega) := by
        simp only [hs]; exact List.getElem_append_right (by omega)
      obtain ⟨a1, a2⟩ := r7 (k - (allSecs life 0 ts).length) (by omega) (by omega)
      rw [show (allSecs life 0 ts).length + (k - (allSecs life 0 ts).length) = k by omega] at a1 a2
      rw [e, r5, ← a1, kept_of st.all m (k - (allSecs life 0 ts).length) (by omega) (fun a b ha hb' hab => ?_)]
      · exact a2
      · obtain ⟨ha', ea⟩ := hat a ha
        obtain ⟨hb'', eb⟩ := hat b hb'
        rw [ea, eb] at hab
        have p1 := hplb ((allSecs life 0 ts).length + a)
        have p2 := hplb ((allSecs life 0 ts).length + b)
        have := pl_inj hr h.hb.1 (base := base) (j := (allSecs life 0 ts).length + a) (k := (allSecs life 0 ts).length + b) (by omega) (by omega) (by omega)
        omega
  · by_cases hj : ∃ j, j < t.pages.length + 1 ∧ p = pl ga gd gl base ((allSecs life 0 ts).length + j)
    · obtain ⟨j, hj, rfl⟩ := hj
      exact .inl ⟨_, by rw [hlen]; omega, rfl⟩
    · rcases h.rest p h0 h1 with ⟨k, hk, e⟩ | h2
      · exact .inl ⟨k, by rw [hlen]; omega, e⟩
      · exact .inr (h2.keep hV.more (hkp p (by omega) (fun j hj' e => hj ⟨j, hj', e⟩)))
  · rcases List.mem_append.1 hu with hu | hu
    · exact h.bad u hu
    · rw [List.mem_singleton] at hu; rw [hu]; exact hbd
/-! what is read of it -/
theorem InvN.super {ga gd gl : Int} {n : Nat} {sm : List (List UInt8)} {st : St} {life : UInt64} {base : Int} {gen0 : UInt64} {P0 : List (List UInt8)} {ts : List Tx} (h : InvN ga gd gl n sm st life base gen0 P0 ts) (hn : 4 ≤ n) : best (best none (atR sm st ga gd gl 2)) (atR sm st ga gd gl 3) = some ⟨life, base, gen0⟩ := by
  have hsp := splace_ok life
  have a1 := h.up.at_own (by omega) h.sup
  rcases h.oth with h1 | ⟨l', b', g', h1, h2, h3⟩
  · exact best_first (f := atR sm st ga gd gl) hsp rfl a1 (h.up.at_zero (by omega) (by omega) h1)
  · have a2 := h.up.at_own (by omega) h3
    exact best_later (f := atR sm st ga gd gl) (p := splace l') (q := splace life) (splace_ok l') (by omega) a2 a1 h1
theorem InvN.read {ga gd gl : Int} {n : Nat} {sm : List (List UInt8)} {st : St} {life : UInt64} {base : Int} {gen0 : UInt64} {P0 : List (List UInt8)} {ts : List Tx} (h : InvN ga gd gl n sm st life base gen0 P0 ts) : snapR sm st ga gd gl life P0.length = some P0 :=
  (snapR_some (fun k hk => rdAt_good h.up h.pages hk (h.snap k hk))).1
theorem InvN.scan {ga gd gl : Int} {n : Nat} {sm : List (List UInt8)} {st : St} {life : UInt64} {base : Int} {gen0 : UInt64} {P0 : List (List UInt8)} {ts : List Tx} (h : InvN ga gd gl n sm st life base gen0 P0 ts) (hr : right ga gd gl = true) : scanTx sm st ga gd gl base life = ts := by
  have hy := right_yes hr
  have hp := pagesOf_bd ga gd gl
  have hn := h.pages.size
  have hrd : ∀ k (hk : k < (allSecs life 0 ts).length), rdL sm st ga gd gl base k = ((allSecs life 0 ts)[k], 0) := fun k hk => by
    have p := pl_bd (base := base) hr h.hb.1 hn k
    exact rd_good h.up p.1 p.2.1 (h.log k hk)
  have hlen := h.len
  unfold scanTx
  refine scan_all (life := life) (by omega) (by omega) (by omega) (fun t ht x hx => ?_) (fun k hk => ?_) ?_
  · obtain ⟨j, hj, rfl⟩ := List.mem_iff_getElem.1 hx
    have := badB_of (h.bad t ht) hj
    exact ⟨this.1, this.2.1⟩
  · have e := hrd k hk
    have a := allSecs_at life ts 0 k hk
    refine ⟨by rw [e], ?_⟩
    unfold goodL
    rw [e]
    simp only [a.1, a.2]
    simp
  · by_cases hN : (allSecs life 0 ts).length = gl.toNat
    · exact .inl hN
    · right
      have p := pl_bd (base := base) hr h.hb.1 hn (allSecs life 0 ts).length
      have hpe := pl_eq (base := base) hr h.hb.1 (allSecs life 0 ts).length
      have e1 := Int.emod_nonneg (base + ((allSecs life 0 ts).length : Int)) (show gl ≠ 0 by omega)
      have e2 := Int.emod_lt_of_pos (base + ((allSecs life 0 ts).length : Int)) (show 0 < gl by omega)
      rcases h.rest (pl ga gd gl base (allSecs life 0 ts).length) (by omega) (by omega) with ⟨k, hk, e⟩ | h1 | ⟨y, h1, h2⟩
      · have := pl_inj hr h.hb.1 (base := base) (by omega) (by omega) e
        omega
      · have e : rdL sm st ga gd gl base (allSecs life 0 ts).length = (X0, 7) := rd_zero h.up p.1 p.2.1 h1
        unfold goodL
        rw [e]
        simp
      · have e : rdL sm st ga gd gl base (allSecs life 0 ts).length = (y, 0) := rd_good h.up p.1 p.2.1 h1
        unfold goodL
        rw [e]
        have : ¬ y.life = life := fun e => by rw [e, UInt64.lt_iff_toNat_lt] at h2; omega
        simp [this]
/-! a log that is wiped -/
def wipeL : List Int → St → St × Int
  | [], s => (s, 0)
  | p :: r, s => if (write s p zero512).2 = 0 then wipeL r (write s p zero512).1 else write s p zero512
def wipeF (gl : Int) (s : St) : St × Int := if (wipeL ((List.range gl.toNat).map fun i : Nat => 4 + (i : Int)) s).2 = 0 then flush (wipeL ((List.range gl.toNat).map fun i : Nat => 4 + (i : Int)) s).1 else wipeL ((List.range gl.toNat).map fun i : Nat => 4 + (i : Int)) s
theorem wipeL_up {n : Nat} : ∀ (ps : List Int) (s : St), s.size = n → s.down = false → s.fuse < 0 → (∀ p ∈ ps, 0 ≤ p ∧ p < n) →
    (wipeL ps s).2 = 0 ∧ (wipeL ps s).1.size = n ∧ (wipeL ps s).1.down = false ∧ (wipeL ps s).1.fuse < 0 ∧ (wipeL ps s).1.all = s.all ∧ (wipeL ps s).1.pend = s.pend ++ ps.map fun p => (p.toNat, zero512)
  | [], s, h1, h2, h3, _ => ⟨rfl, h1, h2, h3, rfl, by simp [wipeL]⟩
  | p :: r, s, h1, h2, h3, hp => by
    obtain ⟨hp0, hp1⟩ := hp p (by simp)
    obtain ⟨w1, w2, w3, w4⟩ := Enc.write_cases h1 h2 hp0 hp1 Disk.zero512_len
    rcases w4 with ⟨_, _, w5⟩ | ⟨w4, w5, w6⟩
    · exact absurd h3 w5
    · obtain ⟨e1, e2, e3, e4, e5, e6⟩ := wipeL_up r (write s p zero512).1 w1 w5 (w6 h3) (fun q hq => hp q (by simp [hq]))
      have e : wipeL (p :: r) s = wipeL r (write s p zero512).1 := by show (if _ then _ else _) = _; rw [if_pos w4]
      rw [e]
      exact ⟨e1, e2, e3, e4, e5.trans w2, by rw [e6, w3]; simp⟩
theorem kept_zero (all : List Wr) (ps : List Int) {p : Int} (hp : p ∈ ps) (h0 : ∀ q ∈ ps, 0 ≤ q) : kept (all ++ ps.map fun p => (p.toNat, zero512)) p.toNat = zero512 := by
  have hz : ∀ (l : List Wr) (all : List Wr) (k : Nat), (∀ w ∈ l, w.2 = zero512) → (kept all k = zero512 ∨ ∃ w ∈ l, w.1 = k) → kept (all ++ l) k = zero512 := by
    intro l
    induction l with
    | nil =>
      intro all k _ h
      rcases h with h | ⟨w, hw, _⟩
      · simpa using h
      · cases hw
    | cons w l ih =>
      intro all k hw h
      have e : all ++ w :: l = (all ++ [w]) ++ l := by simp
      rw [e]
      refine ih _ _ (fun v hv => hw v (by simp [hv])) ?_
      obtain ⟨q, b⟩ := w
      have hb : b = zero512 := hw (q, b) (by simp)
      subst hb
      by_cases hq : q = k
      · subst hq; exact .inl (Sup.kept_after _ _ _)
      · rcases h with h | ⟨v, hv, e⟩
        · exact .inl ((Sup.kept_beside _ _ hq).trans h)
        · rcases List.mem_cons.1 hv with hv | hv
          · rw [hv] at e; exact absurd e hq
          · exact .inr ⟨v, hv, e⟩
  exact hz _ _ _ (fun w hw => by obtain ⟨q, _, rfl⟩ := List.mem_map.1 hw; rfl) (.inr ⟨_, List.mem_map.2 ⟨p, hp, rfl⟩, rfl⟩)
theorem wipe_up {n : Nat} {s : St} {gl : Int} (h : UpN s n) (h0 : 0 ≤ gl) (hn : 4 + gl ≤ n) : (wipeF gl s).2 = 0 ∧ UpN (wipeF gl s).1 n ∧ (∀ p : Int, 4 ≤ p → p < 4 + gl → kept (wipeF gl s).1.all p.toNat = zero512) ∧ ∀ p : Int, 0 ≤ p → (p < 4 ∨ 4 + gl ≤ p) → kept (wipeF gl s).1.all p.toNat = kept s.all p.toNat := by
  have hps : ∀ p ∈ (List.range gl.toNat).map (fun i : Nat => 4 + (i : Int)), 4 ≤ p ∧ p < 4 + gl := fun p hp => by
    obtain ⟨i, hi, rfl⟩ := List.mem_map.1 hp
    have := List.mem_range.1 hi
    omega
  obtain ⟨e1, e2, e3, e4, e5, e6⟩ := wipeL_up (n := n) ((List.range gl.toNat).map fun i : Nat => 4 + (i : Int)) s h.size h.down h.fuse (fun p hp => by have := hps p hp; omega)
  unfold wipeF
  rw [if_pos e1]
  obtain ⟨f1, f2⟩ := Enc.flush_cases e2 e3
  rcases f2 with ⟨_, _, _, _, f⟩ | ⟨f2, f3, f4, f5, f6⟩
  · exact absurd e4 f
  · have ha : (flush (wipeL ((List.range gl.toNat).map fun i : Nat => 4 + (i : Int)) s).1).1.all = s.all ++ ((List.range gl.toNat).map fun i : Nat => 4 + (i : Int)).map fun p => (p.toNat, zero512) := by rw [f4, e5, e6, h.pend, List.nil_append]
    refine ⟨f2, ⟨f1, f5, f3, f6 e4⟩, fun p h1 h2 => ?_, fun p h1 h2 => ?_⟩
    · rw [ha]
      exact kept_zero _ _ (List.mem_map.2 ⟨(p - 4).toNat, List.mem_range.2 (by omega), by omega⟩) (fun q hq => by have := hps q hq; omega)
    · rw [ha]
      refine Disk.kept_append _ _ _ (fun w hw he => ?_)
      obtain ⟨q, hq, rfl⟩ := List.mem_map.1 hw
      have := hps q hq
      simp only at he
      omega
/-- a disk that is made anew -/
theorem pre_first {ga gd gl : Int} {n : Nat} {s : St} (h : UpN s n) (hr : right ga gd gl = true) (hn : (n : Int) = Geom.sizeOf ga gd gl) (sm : List (List UInt8)) : (Sup.clr s).2 = 0 ∧ (wipeF gl (Sup.clr s).1).2 = 0 ∧ PreN ga gd gl n sm (wipeF gl (Sup.clr s).1).1 1 := by
  have hy := right_yes hr
  have hlz := Wal.log_size hr
  obtain ⟨c1, c2, c3, _⟩ := h.clr (by omega)
  obtain ⟨w1, w2, w3, w4⟩ := wipe_up (gl := gl) c2 (by omega) (by omega)
  refine ⟨c1, w1, w2, .inl ?_, fun p h0 h1 => .inl (w3 p h0 h1)⟩
  have h5 : 5 - splace (1 : UInt64) = 2 := by decide
  rw [h5, w4 2 (by omega) (by omega), c3]
  show kept (s.all ++ ([(2, zero512)] ++ [(3, zero512)])) 2 = zero512
  rw [← List.append_assoc, Sup.kept_beside _ _ (by decide), Sup.kept_after]
end Go.Proofs.YtchcmklelmlbgaaGreat.Sto

/- The store, in plain Lean: what its disk has wherever the power goes. No statement is proved here. -/
namespace Go.Proofs.YtchcmklelmlbgaaGreat.Sto
open Go.RowKit
open Go.Proofs.YtchcmklelmlbgaaGreat.Geom
open Go.Proofs.YtchcmklelmlbgaaGreat.Disk (St Wr write flush kept new zero512 restart)
open Go.Proofs.YtchcmklelmlbgaaGreat.Sec (X X0 text text_len rightF sumAfter ckS checkOf sumOf place_of)
open Go.Proofs.YtchcmklelmlbgaaGreat.Sup (UpN splace splace_ok splace_next sx sx_right sB sB_len sB_good sL wf wf_cases restart_one atR best best_first best_later SV text_inj isSup mem_after)
open Go.Proofs.YtchcmklelmlbgaaGreat.Snap (PagesOk px snapF snapR snapR_some rdAt_good area_eq area_inj area_apart next_odd)
open Go.Proofs.YtchcmklelmlbgaaGreat.Wal (Tx allSecs allSecs_at allSecs_snoc tSecs tSecs_len tSecs_at dSecs dSecs_len dSecs_get dSecs_take pl pl_eq pl_inj pl_bd badB badB_of putF PutT putF_turn scanTx scan_all rdL goodL tSecs_right LogC takes takes_all takes_data takes_append takes_fold okR_nil num num_append range_num scanH_done find_stop r00 scanH)
open Go.Proofs.YtchcmklelmlbgaaGreat.Enc (Enf More rd_good rd_zero kept_of encs enf encs_go encs_stop Itm restart_up)
set_option linter.unusedVariables false
/-! pages and transactions -/
def putP (P : List (List UInt8)) (l : List Pg) : List (List UInt8) := l.foldl (fun P x => P.set x.n.toNat x.body) P
def applyT (P : List (List UInt8)) (ts : List Tx) : List (List UInt8) := ts.foldl (fun P t => putP P t.pages) P
def genT (g : UInt64) (ts : List Tx) : UInt64 := ts.foldl (fun _ t => t.gen) g
theorem putP_len : ∀ (l : List Pg) (P : List (List UInt8)), (putP P l).length = P.length
  | [], P => rfl
  | x :: l, P => by show (putP (P.set x.n.toNat x.body) l).length = _; rw [putP_len l]; simp
theorem applyT_len : ∀ (ts : List Tx) (P : List (List UInt8)), (applyT P ts).length = P.length
  | [], P => rfl
  | t :: ts, P => by show (applyT (putP P t.pages) ts).length = _; rw [applyT_len ts, putP_len]
theorem applyT_snoc (P : List (List UInt8)) (ts : List Tx) (t : Tx) : applyT P (ts ++ [t]) = putP (applyT P ts) t.pages := by simp [applyT]
theorem genT_snoc (g : UInt64) (ts : List Tx) (t : Tx) : genT g (ts ++ [t]) = t.gen := by simp [genT]
theorem putP_ok {ga gd gl : Int} {n : Nat} : ∀ (l : List Pg) (P : List (List UInt8)), PagesOk ga gd gl n P → (∀ x ∈ l, x.body.length ≤ 479) → PagesOk ga gd gl n (putP P l)
  | [], P, h, _ => h
  | x :: l, P, h, hl => putP_ok l (P.set x.n.toNat x.body) ⟨h.size, by rw [List.length_set]; exact h.len, fun j hj => by
      rw [List.getElem_set]
      split
      · exact hl x (by simp)
      · exact h.short j (by simpa using hj)⟩ (fun y hy => hl y (by simp [hy]))
theorem bad_short {ga gd gl : Int} {l : List Pg} (h : badB ga gd gl l = false) : ∀ x ∈ l, x.body.length ≤ 473 := fun x hx => by
  obtain ⟨j, hj, rfl⟩ := List.mem_iff_getElem.1 hx
  exact (badB_of h hj).2.2
theorem bad_num {ga gd gl : Int} {l : List Pg} (h : badB ga gd gl l = false) : ∀ x ∈ l, 0 ≤ x.n ∧ x.n < pagesOf ga gd gl := fun x hx => by
  obtain ⟨j, hj, rfl⟩ := List.mem_iff_getElem.1 hx
  exact ⟨(badB_of h hj).1, (badB_of h hj).2.1⟩
theorem applyT_ok {ga gd gl : Int} {n : Nat} : ∀ (ts : List Tx) (P : List (List UInt8)), PagesOk ga gd gl n P → (∀ t ∈ ts, badB ga gd gl t.pages = false) → PagesOk ga gd gl n (applyT P ts)
  | [], P, h, _ => h
  | t :: ts, P, h, hb => applyT_ok ts (putP P t.pages) (putP_ok _ _ h (fun x hx => by have := bad_short (hb t (by simp)) x hx; omega)) (fun u hu => hb u (by simp [hu]))
/-! sums grow at their end -/
def Ext (l l' : List (List UInt8)) : Prop := ∃ e, l' = l ++ e
theorem Ext.refl (l : List (List UInt8)) : Ext l l := ⟨[], by simp⟩
theorem Ext.trans {a b c : List (List UInt8)} (h : Ext a b) (k : Ext b c) : Ext a c := by
  obtain ⟨e, rfl⟩ := h
  obtain ⟨f, rfl⟩ := k
  exact ⟨e ++ f, by simp⟩
theorem Ext.after (l : List (List UInt8)) (T : List UInt8) : Ext l (sumAfter l T) := by
  unfold sumAfter
  split
  · exact Ext.refl l
  · exact ⟨[T], rfl⟩
theorem encs_ext : ∀ (is : List Itm) (l : List (List UInt8)) (s : St), Ext l (encs is l s).1
  | [], l, s => Ext.refl l
  | i :: r, l, s => by
    by_cases h : (write s i.1 (Enc.xB l i.1 i.2)).2 = 0
    · rw [encs_go h]; exact (Ext.after _ _).trans (encs_ext r _ _)
    · rw [encs_stop h]; exact Ext.after _ _
theorem enf_ext (is : List Itm) (l : List (List UInt8)) (s : St) : Ext l (enf is l s).1 := by
  unfold enf
  split
  · exact encs_ext is l s
  · exact encs_ext is l s
theorem putF_ext (ga gd gl base : Int) (life : UInt64) (q : Nat) (gen : UInt64) (pages : List Pg) (l : List (List UInt8)) (s : St) : Ext l (putF ga gd gl base life q gen pages l s).1 := by
  unfold putF
  split
  · exact (enf_ext _ _ _).trans (enf_ext _ _ _)
  · exact enf_ext _ _ _
theorem Ext.mem {l l' : List (List UInt8)} (h : Ext l l') {T : List UInt8} (hT : T ∈ l) : T ∈ l' := by obtain ⟨e, rfl⟩ := h; simp [hT]
theorem Good.back {l l' : List (List UInt8)} {p : Int} {x : X} {b : List UInt8} (h : Sup.Good l' p x b) (e : Ext l l') (hT : text p x ∈ l) : Sup.Good l p x b := by
  obtain ⟨h1, h2, s, hs, rfl⟩ := h
  refine ⟨h1, ?_, s, hs, rfl⟩
  obtain ⟨f, rfl⟩ := e
  unfold ckS checkOf at h2 ⊢
  rw [List.take_left' (text_len p x), List.drop_left' (text_len p x)] at h2 ⊢
  rw [Bool.and_eq_true] at h2 ⊢
  refine ⟨decide_eq_true hT, ?_⟩
  have h3 := h2.2
  rw [List.idxOf_append, if_pos hT] at h3
  exact h3
theorem Good.text {l : List (List UInt8)} {p : Int} {x : X} {b : List UInt8} (h : Sup.Good l p x b) : rightF p x = 0 ∧ text p x ∈ l := Sup.dec_sound h.dec
theorem Good.uniq {l l' : List (List UInt8)} {p : Int} {x y : X} {b : List UInt8} (h : Sup.Good l p x b) (k : Sup.Good l' p y b) : x = y := by
  obtain ⟨h1, _, s, hs, rfl⟩ := h
  obtain ⟨k1, _, t, ht, e⟩ := k
  have := (List.append_inj e (by rw [text_len, text_len])).1
  exact text_inj h1 k1 this
theorem not_zero {l : List (List UInt8)} {p : Int} {x : X} (h : Sup.Good l p x zero512) : False := by
  have h1 := h.dec
  rw [Sup.dec_zero] at h1
  injection h1 with _ h2
  cases h2
theorem dec_good {l : List (List UInt8)} {p : Int} {b : List UInt8} {x : X} (h : Sec.decode (ckS l b) p b = (x, 0)) : Sup.Good l p x b := by
  have hs := Sup.dec_sound h
  have h0 := h
  unfold Sec.decode at h
  split at h
  · cases h
  · rename_i hl
    split at h
    · cases h
    · split at h
      · rename_i y hr
        split at h
        · rename_i hc
          injection h with h _
          subst h
          refine ⟨hs.1, hc, b.drop 504, by rw [List.length_drop]; omega, ?_⟩
          have ht : text p y = b.take 504 := by
            unfold Sec.reads at hr
            split at hr
            · rename_i hq
              injection hr with hr
              subst hr
              exact hq.2.2
            · cases hr
          rw [ht, List.take_append_drop]
        · cases h
      · cases h
end Go.Proofs.YtchcmklelmlbgaaGreat.Sto

/- The store, in plain Lean: its log and its lives wherever the power goes. No statement is proved here. -/
namespace Go.Proofs.YtchcmklelmlbgaaGreat.Sto
open Go.RowKit
open Go.Proofs.YtchcmklelmlbgaaGreat.Geom
open Go.Proofs.YtchcmklelmlbgaaGreat.Disk (St Wr write flush kept new zero512 restart)
open Go.Proofs.YtchcmklelmlbgaaGreat.Sec (X X0 text text_len rightF sumAfter ckS checkOf sumOf place_of)
open Go.Proofs.YtchcmklelmlbgaaGreat.Sup (UpN splace splace_ok splace_next sx sx_right sB sB_len sB_good sL wf wf_cases restart_one atR best best_first best_later SV text_inj isSup mem_after)
open Go.Proofs.YtchcmklelmlbgaaGreat.Snap (PagesOk px snapF snapR snapR_some rdAt_good area_eq area_inj area_apart next_odd)
open Go.Proofs.YtchcmklelmlbgaaGreat.Wal (Tx allSecs allSecs_at allSecs_snoc tSecs tSecs_len tSecs_at dSecs dSecs_len dSecs_get dSecs_take pl pl_eq pl_inj pl_bd badB badB_of putF PutT putF_turn scanTx scan_all rdL goodL tSecs_right LogC takes takes_all takes_data takes_append takes_fold okR_nil num num_append range_num scanH_done find_stop r00 scanH)
open Go.Proofs.YtchcmklelmlbgaaGreat.Enc (Enf More rd_good rd_zero kept_of encs enf encs_go encs_stop Itm restart_up)
set_option linter.unusedVariables false
/-- no sector of this kind is read at a place -/
def NoG (sm : List (List UInt8)) (all : List Wr) (p : Int) (Q : X → Prop) : Prop := ∀ y, Sup.Good sm p y (kept all p.toNat) → ¬ Q y
theorem NoG.keep {sm sm' : List (List UInt8)} {all all' : List Wr} {p : Int} {Q : X → Prop} (h : NoG sm all p Q) (e : Ext sm sm') (ht : ∀ y, rightF p y = 0 → text p y ∈ sm' → text p y ∈ sm ∨ ¬ Q y) (k : kept all' p.toNat = kept all p.toNat) : NoG sm' all' p Q := fun y hy hq => by
  rw [k] at hy
  obtain ⟨h1, h2⟩ := Good.text hy
  rcases ht y h1 h2 with h3 | h3
  · exact h y (Good.back hy e h3) hq
  · exact h3 hq
/-- the sectors that are read: those of the transactions, and perhaps pages of one more -/
def zsec (life : UInt64) (ts : List Tx) (gen : UInt64) (pgs : List Pg) : List X := allSecs life 0 ts ++ dSecs life (allSecs life 0 ts).length gen 0 pgs
theorem zsec_at (life : UInt64) (ts : List Tx) (gen : UInt64) (pgs : List Pg) (k : Nat) (h : k < (zsec life ts gen pgs).length) : (zsec life ts gen pgs)[k].life = life ∧ (zsec life ts gen pgs)[k].seq = (k : Int) := by
  have hl : (zsec life ts gen pgs).length = (allSecs life 0 ts).length + pgs.length := by simp [zsec, dSecs_len]
  have h0 : k < (allSecs life 0 ts ++ dSecs life (allSecs life 0 ts).length gen 0 pgs).length := h
  show ((allSecs life 0 ts ++ dSecs life (allSecs life 0 ts).length gen 0 pgs)[k]'h0).life = life ∧ ((allSecs life 0 ts ++ dSecs life (allSecs life 0 ts).length gen 0 pgs)[k]'h0).seq = (k : Int)
  by_cases h1 : k < (allSecs life 0 ts).length
  · rw [List.getElem_append_left h1]
    have := allSecs_at life ts 0 k h1
    rw [Nat.zero_add] at this
    exact this
  · rw [List.getElem_append_right (by omega), dSecs_get _ _ _ _ _ _ _ (by omega)]
    refine ⟨rfl, ?_⟩
    show ((((allSecs life 0 ts).length + (0 + (k - (allSecs life 0 ts).length)) : Nat) : Int)) = k
    omega
/-- what the log's places are read as -/
structure LogS (ga gd gl base : Int) (life : UInt64) (sm : List (List UInt8)) (all : List Wr) (ts : List Tx) : Prop where
  ex : ∃ (gen : UInt64) (pgs : List Pg), (∀ x ∈ pgs, 0 ≤ x.n ∧ x.n < pagesOf ga gd gl) ∧ ((zsec life ts gen pgs).length : Int) ≤ gl ∧ (∀ k (h : k < (zsec life ts gen pgs).length), Sup.Good sm (pl ga gd gl base k) (zsec life ts gen pgs)[k] (kept all (pl ga gd gl base k).toNat)) ∧
    (((zsec life ts gen pgs).length : Int) = gl ∨ NoG sm all (pl ga gd gl base (zsec life ts gen pgs).length) (fun y => y.life = life ∧ y.seq = ((zsec life ts gen pgs).length : Int)))
theorem LogS.keep {ga gd gl base : Int} {life : UInt64} {sm sm' : List (List UInt8)} {all all' : List Wr} {ts : List Tx} (h : LogS ga gd gl base life sm all ts) (e : Ext sm sm') (m : More sm sm') (ht : ∀ (k : Nat) y, (k : Int) < gl → rightF (pl ga gd gl base k) y = 0 → text (pl ga gd gl base k) y ∈ sm' → text (pl ga gd gl base k) y ∈ sm) (k : ∀ k : Nat, (k : Int) < gl → kept all' (pl ga gd gl base k).toNat = kept all (pl ga gd gl base k).toNat) : LogS ga gd gl base life sm' all' ts := by
  obtain ⟨gen, pgs, h1, h2, h3, h4⟩ := h.ex
  refine ⟨gen, pgs, h1, h2, fun j hj => by rw [k j (by omega)]; exact m _ _ _ (h3 j hj), ?_⟩
  rcases h4 with h4 | h4
  · exact .inl h4
  · by_cases hz : ((zsec life ts gen pgs).length : Int) = gl
    · exact .inl hz
    · exact .inr (h4.keep e (fun y a b => .inl (ht _ y (by omega) a b)) (k _ (by omega)))
theorem LogS.scan {ga gd gl base : Int} {n : Nat} {life : UInt64} {sm : List (List UInt8)} {st : St} {ts : List Tx} (h : LogS ga gd gl base life sm st.all ts) (hu : UpN st n) (hr : right ga gd gl = true) (hb : 0 ≤ base) (hn : (n : Int) = Geom.sizeOf ga gd gl) (hx : ∀ t ∈ ts, ∀ x ∈ t.pages, 0 ≤ x.n ∧ x.n < pagesOf ga gd gl) : scanTx sm st ga gd gl base life = ts := by
  have hy := right_yes hr
  have hp := pagesOf_bd ga gd gl
  obtain ⟨gen, pgs, h1, h2, h3, h4⟩ := h.ex
  obtain ⟨Z, hZ⟩ : ∃ Z, Z = zsec life ts gen pgs := ⟨_, rfl⟩
  have hzat := zsec_at life ts gen pgs
  rw [← hZ] at h2 h3 h4 hzat
  have hZl : Z.length = (allSecs life 0 ts).length + pgs.length := by rw [hZ]; simp [zsec, dSecs_len]
  have hrd : ∀ k (hk : k < Z.length), rdL sm st ga gd gl base k = (Z[k], 0) := fun k hk => by
    have p := pl_bd (base := base) hr hb hn k
    exact rd_good hu p.1 p.2.1 (h3 k hk)
  have hg : ∀ k, k < Z.length → goodL sm st ga gd gl base life k = true := fun k hk => by
    have a := hzat k hk
    unfold goodL
    rw [hrd k hk]
    simp only [a.1, a.2]
    simp
  have he : Z.length = gl.toNat ∨ goodL sm st ga gd gl base life Z.length = false := by
    rcases h4 with h4 | h4
    · exact .inl (by omega)
    · right
      cases hgz : goodL sm st ga gd gl base life Z.length with
      | false => rfl
      | true =>
        unfold goodL at hgz
        simp only [Bool.and_eq_true, decide_eq_true_eq] at hgz
        have p := pl_bd (base := base) hr hb hn Z.length
        have hd : Sec.decode (ckS sm (kept st.all (pl ga gd gl base Z.length).toNat)) (pl ga gd gl base Z.length) (kept st.all (pl ga gd gl base Z.length).toNat) = ((rdL sm st ga gd gl base Z.length).1, 0) := by
          have e1 := hgz.1
          unfold rdL Enc.rd at e1 ⊢
          rw [hu.read p.1 p.2.1] at e1 ⊢
          simp only [] at e1 ⊢
          generalize Sec.decode (ckS sm (kept st.all (pl ga gd gl base Z.length).toNat)) (pl ga gd gl base Z.length) (kept st.all (pl ga gd gl base Z.length).toNat) = d at e1
          obtain ⟨x, f⟩ := d
          simp only at e1
          rw [e1]
        exact absurd hgz.2 (h4 _ (dec_good hd))
  have hm := range_num (rdf := fun k => (rdL sm st ga gd gl base k).1) (S := Z) (K := Z.length) (Nat.le_refl _) (fun k hk => by rw [List.getElem?_eq_getElem hk, hrd k hk])
  rw [List.take_length] at hm
  obtain ⟨g', e⟩ := takes_all (life := life) (np := pagesOf ga gd gl) (by omega) ts 0 [] 0 (by omega) hx
  obtain ⟨g2, f1, f2⟩ := takes_data (life := life) (gen := gen) (q := (allSecs life 0 ts).length) (np := pagesOf ga gd gl) (by omega) (by omega) pgs 0 ⟨[] ++ ts, [], g', 0 + (allSecs life 0 ts).length⟩ h1 (Nat.zero_add _) (fun h => absurd rfl h)
  have e3 := takes_append (pagesOf ga gd gl) (num 0 (allSecs life 0 ts)) (num (0 + (allSecs life 0 ts).length) (dSecs life (allSecs life 0 ts).length gen 0 pgs)) _ _ e
  rw [← num_append] at e3
  rw [Nat.add_zero] at f1
  rw [show 0 + (allSecs life 0 ts).length = (allSecs life 0 ts).length from Nat.zero_add _] at e3 f1
  rw [f1] at e3
  rw [show allSecs life 0 ts ++ dSecs life (allSecs life 0 ts).length gen 0 pgs = Z from hZ.symm] at e3
  obtain ⟨e1, e2⟩ := takes_fold (pagesOf ga gd gl) _ _ [] (okR_nil _) e3
  rw [List.nil_append] at e1 e2
  unfold scanTx
  rw [scanH_done (by omega) hg (by rw [hm]; exact e1) he, hm, e2]
  simp
/-- behind an append in which the power went -/
theorem LogS.crash {ga gd gl base : Int} {n : Nat} {life : UInt64} {sm : List (List UInt8)} {st : St} {ts : List Tx} {t : Tx} (h : LogC ga gd gl base n life sm st.all (allSecs life 0 ts) (allSecs life 0 ts ++ tSecs life (allSecs life 0 ts).length t)) (hu : UpN st n) (hr : right ga gd gl = true) (hb : 0 ≤ base) (hn : (n : Int) = Geom.sizeOf ga gd gl) (hl : ((allSecs life 0 ts).length : Int) + t.pages.length < gl) (hx : ∀ x ∈ t.pages, 0 ≤ x.n ∧ x.n < pagesOf ga gd gl) :
    LogS ga gd gl base life sm st.all ts ∨ LogS ga gd gl base life sm st.all (ts ++ [t]) := by
  obtain ⟨K, hK, hg, he⟩ := find_stop (goodL sm st ga gd gl base life) gl.toNat
  have hs := allSecs_snoc life ts 0 t
  rw [Nat.zero_add] at hs
  have htl := tSecs_len life (allSecs life 0 ts).length t
  obtain ⟨S, hS⟩ : ∃ S, S = allSecs life 0 ts ++ tSecs life (allSecs life 0 ts).length t := ⟨_, rfl⟩
  rw [← hS] at h hs
  have hSl : S.length = (allSecs life 0 ts).length + (t.pages.length + 1) := by rw [hS, List.length_append, htl]
  have hrd : ∀ k : Nat, (k : Int) < gl → goodL sm st ga gd gl base life k = true → Sup.Good sm (pl ga gd gl base k) (rdL sm st ga gd gl base k).1 (kept st.all (pl ga gd gl base k).toNat) ∧ S[k]? = some (rdL sm st ga gd gl base k).1 := fun k hk hgk => by
    refine ⟨?_, h.sound hk hgk⟩
    unfold goodL at hgk
    simp only [Bool.and_eq_true, decide_eq_true_eq] at hgk
    have p := pl_bd (base := base) hr hb hn k
    apply dec_good
    have e1 := hgk.1
    unfold rdL Enc.rd at e1 ⊢
    rw [hu.read p.1 p.2.1] at e1 ⊢
    simp only [] at e1 ⊢
    generalize Sec.decode (ckS sm (kept st.all (pl ga gd gl base k).toNat)) (pl ga gd gl base k) (kept st.all (pl ga gd gl base k).toNat) = d at e1
    obtain ⟨x, f⟩ := d
    simp only at e1
    rw [e1]
  have hKS : K ≤ S.length := by
    rcases Nat.lt_or_ge S.length K with h5 | h5
    · have := (hrd S.length (by omega) (hg _ h5)).2
      rw [List.getElem?_eq_none (Nat.le_refl _)] at this; cases this
    · exact h5
  have hMK : (allSecs life 0 ts).length ≤ K := by
    rcases Nat.lt_or_ge K (allSecs life 0 ts).length with h5 | h5
    · have := h.isgood hu hr hb hn h5
      rcases he with e | e
      · omega
      · rw [this] at e; cases e
    · exact h5
  have hgood : ∀ k (hk : k < K), Sup.Good sm (pl ga gd gl base k) (S[k]'(by omega)) (kept st.all (pl ga gd gl base k).toNat) := fun k hk => by
    obtain ⟨h5, h6⟩ := hrd k (by omega) (hg k hk)
    rw [List.getElem?_eq_getElem (by omega)] at h6
    rw [Option.some.inj h6]; exact h5
  have hstop : (K : Int) = gl ∨ NoG sm st.all (pl ga gd gl base K) (fun y => y.life = life ∧ y.seq = (K : Int)) := by
    have hy := right_yes hr
    rcases he with e | e
    · exact .inl (by omega)
    · right
      intro y hy' hq
      have p := pl_bd (base := base) hr hb hn K
      have e1 : rdL sm st ga gd gl base K = (y, 0) := rd_good hu p.1 p.2.1 hy'
      unfold goodL at e
      rw [e1] at e
      simp [hq.1, hq.2] at e
  by_cases hKe : K = S.length
  · right
    have hz : zsec life (ts ++ [t]) 0 [] = S := by rw [← hs]; simp [zsec, dSecs]
    refine ⟨0, [], fun x hx => (by cases hx), ?_⟩
    rw [hz]
    subst hKe
    exact ⟨by omega, fun k hk => hgood k hk, hstop⟩
  · left
    obtain ⟨j, hj⟩ : ∃ j, K = (allSecs life 0 ts).length + j := ⟨K - (allSecs life 0 ts).length, by omega⟩
    have hjl : j ≤ t.pages.length := by omega
    have htake : zsec life ts t.gen (t.pages.take j) = S.take K := by
      have hR : (allSecs life 0 ts ++ tSecs life (allSecs life 0 ts).length t).take ((allSecs life 0 ts).length + j) = allSecs life 0 ts ++ (tSecs life (allSecs life 0 ts).length t).take j := by
        rw [List.take_append, List.take_of_length_le (by omega), Nat.add_sub_cancel_left]
      rw [hS, hj, hR]
      unfold tSecs zsec
      rw [List.take_append_of_le_length (by rw [dSecs_len]; exact hjl), dSecs_take]
    have hln : (zsec life ts t.gen (t.pages.take j)).length = K := by rw [htake, List.length_take]; omega
    refine ⟨t.gen, t.pages.take j, fun x hx' => hx x (List.mem_of_mem_take hx'), by rw [hln]; omega, fun k hk => ?_, by rw [hln]; exact hstop⟩
    have hk' : k < K := by omega
    have e : (zsec life ts t.gen (t.pages.take j))[k] = S[k]'(by omega) := by
      have : (zsec life ts t.gen (t.pages.take j))[k]? = (S.take K)[k]? := by rw [htake]
      rw [List.getElem?_eq_getElem hk, List.getElem?_take_of_lt hk', List.getElem?_eq_getElem (by omega)] at this
      exact Option.some.inj this
    rw [e]
    exact hgood k hk'
theorem LogS.of_C {ga gd gl base : Int} {n : Nat} {life : UInt64} {sm : List (List UInt8)} {all : List Wr} {ts : List Tx} (h : LogC ga gd gl base n life sm all (allSecs life 0 ts) (allSecs life 0 ts)) (hl : ((allSecs life 0 ts).length : Int) ≤ gl) : LogS ga gd gl base life sm all ts := by
  have hz : zsec life ts 0 [] = allSecs life 0 ts := by simp [zsec, dSecs]
  refine ⟨0, [], fun x hx => (by cases hx), ?_⟩
  rw [hz]
  refine ⟨hl, h.good, ?_⟩
  by_cases e : ((allSecs life 0 ts).length : Int) = gl
  · exact .inl e
  · right
    intro y hy hq
    obtain ⟨h1, h2⟩ := Good.text hy
    have := h.only (allSecs life 0 ts).length y (by omega) h1 h2 hq.1
    rw [List.getElem?_eq_none (Nat.le_refl _)] at this; cases this
end Go.Proofs.YtchcmklelmlbgaaGreat.Sto

/- The store, in plain Lean: its lives wherever the power goes. No statement is proved here. -/
namespace Go.Proofs.YtchcmklelmlbgaaGreat.Sto
open Go.RowKit
open Go.Proofs.YtchcmklelmlbgaaGreat.Geom
open Go.Proofs.YtchcmklelmlbgaaGreat.Disk (St Wr write flush kept new zero512 restart)
open Go.Proofs.YtchcmklelmlbgaaGreat.Sec (X X0 text text_len rightF sumAfter ckS checkOf sumOf place_of)
open Go.Proofs.YtchcmklelmlbgaaGreat.Sup (UpN splace splace_ok splace_next sx sx_right sB sB_len sB_good sL wf wf_cases restart_one atR best best_first best_later SV text_inj isSup mem_after)
open Go.Proofs.YtchcmklelmlbgaaGreat.Snap (PagesOk px snapF snapR snapR_some rdAt_good area_eq area_inj area_apart next_odd)
open Go.Proofs.YtchcmklelmlbgaaGreat.Wal (Tx allSecs allSecs_at allSecs_snoc tSecs tSecs_len tSecs_at pl pl_eq pl_inj pl_bd badB badB_of putF PutT putF_turn scanTx tSecs_right LogC)
open Go.Proofs.YtchcmklelmlbgaaGreat.Enc (Enf More kept_of restart_up)
set_option linter.unusedVariables false
def nextB (gl base : Int) (life : UInt64) (ts : List Tx) : Int := (base + ((allSecs life 0 ts).length : Int)) % gl
/-- a sector of the next life, as it would begin -/
def NextAt (ga gd gl : Int) (life : UInt64) (base : Int) (gen0 : UInt64) (P0 : List (List UInt8)) (ts : List Tx) (p : Int) (y : X) : Prop :=
  (∃ k, ∃ h : k < (applyT P0 ts).length, p = areaAt ga gd gl (life + 1).toNat k ∧ y = px (life + 1) k (applyT P0 ts)[k]) ∨ (p = splace (life + 1) ∧ y = sx ga gd gl (life + 1) (nextB gl base life ts) (genT gen0 ts))
/-- a life on a disk, whatever stands of the next one -/
structure KB (ga gd gl : Int) (n : Nat) (sm : List (List UInt8)) (all : List Wr) (life : UInt64) (base : Int) (gen0 : UInt64) (P0 : List (List UInt8)) (ts : List Tx) : Prop where
  hb : 0 ≤ base ∧ base ≤ 1073741824
  pages : PagesOk ga gd gl n P0
  snap : ∀ k (hk : k < P0.length), Sup.Good sm (areaAt ga gd gl life.toNat k) (px life k P0[k]) (kept all (areaAt ga gd gl life.toNat k).toNat)
  sup : Sup.Good sm (splace life) (sx ga gd gl life base gen0) (kept all (splace life).toNat)
  log : LogS ga gd gl base life sm all ts
  len : ((allSecs life 0 ts).length : Int) ≤ gl
  bad : ∀ t ∈ ts, badB ga gd gl t.pages = false
  texts : ∀ (p : Int) (y : X), rightF p y = 0 → text p y ∈ sm → y.life.toNat ≤ life.toNat ∨ (y.life = life + 1 ∧ NextAt ga gd gl life base gen0 P0 ts p y)
/-- it counts -/
structure KC (ga gd gl : Int) (n : Nat) (sm : List (List UInt8)) (all : List Wr) (life : UInt64) (base : Int) (gen0 : UInt64) (P0 : List (List UInt8)) (ts : List Tx) : Prop where
  kb : KB ga gd gl n sm all life base gen0 P0 ts
  oth : NoG sm all (5 - splace life) (fun y => y.kind = 2 ∧ splace y.life = 5 - splace life ∧ ¬ y.life < life)
/-- its store may be turned -/
structure KA (ga gd gl : Int) (n : Nat) (sm : List (List UInt8)) (st : St) (life : UInt64) (base : Int) (gen0 : UInt64) (P0 : List (List UInt8)) (ts : List Tx) : Prop where
  kc : KC ga gd gl n sm st.all life base gen0 P0 ts
  size : st.size = n
  pend : st.pend = []
  down : st.down = false
  logc : LogC ga gd gl base n life sm st.all (allSecs life 0 ts) (allSecs life 0 ts)
  nonext : ∀ (p : Int) (y : X), rightF p y = 0 → text p y ∈ sm → y.life.toNat ≤ life.toNat
theorem pl_log {ga gd gl base : Int} (hr : right ga gd gl = true) (hb : 0 ≤ base) (k : Nat) : 4 ≤ pl ga gd gl base k ∧ pl ga gd gl base k < 4 + gl := by
  have hy := right_yes hr
  rw [pl_eq hr hb]
  have := Int.emod_nonneg (base + (k : Int)) (show gl ≠ 0 by omega)
  have := Int.emod_lt_of_pos (base + (k : Int)) (show 0 < gl by omega)
  omega
theorem area_high {ga gd gl : Int} {m k : Nat} (h : (k : Int) < pagesOf ga gd gl) : 4 + gl ≤ areaAt ga gd gl m k := by
  rw [area_eq h]
  have : 0 ≤ (m : Int) % 2 * pagesOf ga gd gl := Int.mul_nonneg (by omega) (by omega)
  omega
theorem NextAt.place {ga gd gl : Int} {n : Nat} {life : UInt64} {base : Int} {gen0 : UInt64} {P0 : List (List UInt8)} {ts : List Tx} {p : Int} {y : X} (h : NextAt ga gd gl life base gen0 P0 ts p y) (hP : PagesOk ga gd gl n P0) : p = splace (life + 1) ∨ 4 + gl ≤ p := by
  rcases h with ⟨k, hk, e, _⟩ | ⟨e, _⟩
  · right
    rw [applyT_len] at hk
    rw [e]
    exact area_high (by have := hP.len; omega)
  · exact .inl e
theorem life1 {life : UInt64} (h : life.toNat ≠ 18446744073709551615) : (life + 1).toNat = life.toNat + 1 := by
  have h1 : (life + 1).toNat = (life.toNat + 1) % 18446744073709551616 := by simp [UInt64.toNat_add]
  have h2 : life.toNat < 18446744073709551616 := life.toNat_lt
  omega
/-- elsewhere something is written -/
theorem KB.keep {ga gd gl : Int} {n : Nat} {sm sm' : List (List UInt8)} {all all' : List Wr} {life : UInt64} {base : Int} {gen0 : UInt64} {P0 : List (List UInt8)} {ts : List Tx} (h : KB ga gd gl n sm all life base gen0 P0 ts) (hr : right ga gd gl = true) (e : Ext sm sm') (m : More sm sm')
    (hs : ∀ k, k < P0.length → kept all' (areaAt ga gd gl life.toNat k).toNat = kept all (areaAt ga gd gl life.toNat k).toNat) (hp : kept all' (splace life).toNat = kept all (splace life).toNat) (hl : ∀ p : Int, 4 ≤ p → p < 4 + gl → kept all' p.toNat = kept all p.toNat)
    (ht : ∀ (p : Int) (y : X), rightF p y = 0 → text p y ∈ sm' → text p y ∈ sm ∨ (y.life = life + 1 ∧ NextAt ga gd gl life base gen0 P0 ts p y)) : KB ga gd gl n sm' all' life base gen0 P0 ts := by
  refine ⟨h.hb, h.pages, fun k hk => by rw [hs k hk]; exact m _ _ _ (h.snap k hk), by rw [hp]; exact m _ _ _ h.sup, h.log.keep e m (fun k y hk hy hT => ?_) (fun k hk => ?_), h.len, h.bad, fun p y hy hT => ?_⟩
  · rcases ht _ y hy hT with h1 | ⟨_, h1⟩
    · exact h1
    · have := pl_log (k := k) hr h.hb.1
      have := h1.place h.pages
      have := splace_ok (life + 1)
      omega
  · have := pl_log (k := k) hr h.hb.1
    exact hl _ this.1 this.2
  · rcases ht p y hy hT with h1 | h1
    · exact h.texts p y hy h1
    · exact .inr h1
/-- the next life has come to be -/
theorem KB.next {ga gd gl : Int} {n : Nat} {sm : List (List UInt8)} {all : List Wr} {life : UInt64} {base : Int} {gen0 : UInt64} {P0 : List (List UInt8)} {ts : List Tx} (h : KB ga gd gl n sm all life base gen0 P0 ts) (hr : right ga gd gl = true) (hL : life.toNat ≠ 18446744073709551615)
    (hg : ∀ k (hk : k < (applyT P0 ts).length), Sup.Good sm (areaAt ga gd gl (life + 1).toNat k) (px (life + 1) k (applyT P0 ts)[k]) (kept all (areaAt ga gd gl (life + 1).toNat k).toNat))
    (hs : Sup.Good sm (splace (life + 1)) (sx ga gd gl (life + 1) (nextB gl base life ts) (genT gen0 ts)) (kept all (splace (life + 1)).toNat)) :
    KC ga gd gl n sm all (life + 1) (nextB gl base life ts) (genT gen0 ts) (applyT P0 ts) [] ∧ LogC ga gd gl (nextB gl base life ts) n (life + 1) sm all [] [] ∧ ∀ (p : Int) (y : X), rightF p y = 0 → text p y ∈ sm → y.life.toNat ≤ (life + 1).toNat := by
  have hy := right_yes hr
  have hl1 := life1 hL
  have hnb : 0 ≤ nextB gl base life ts ∧ nextB gl base life ts ≤ 1073741824 := by
    unfold nextB
    have := Int.emod_nonneg (base + ((allSecs life 0 ts).length : Int)) (show gl ≠ 0 by omega)
    have := Int.emod_lt_of_pos (base + ((allSecs life 0 ts).length : Int)) (show 0 < gl by omega)
    omega
  have hall : ∀ (p : Int) (y : X), rightF p y = 0 → text p y ∈ sm → y.life.toNat ≤ (life + 1).toNat := fun p y h1 h2 => by
    rcases h.texts p y h1 h2 with h3 | ⟨h3, _⟩
    · omega
    · rw [h3]; exact Nat.le_refl _
  have hlc : LogC ga gd gl (nextB gl base life ts) n (life + 1) sm all [] [] := ⟨fun k hk => absurd hk (by simp), fun k x hk h1 h2 h3 => by
    rcases h.texts _ x h1 h2 with h4 | ⟨_, h4⟩
    · rw [h3] at h4; omega
    · have := pl_log (k := k) hr hnb.1
      have := h4.place h.pages
      have := splace_ok (life + 1)
      omega⟩
  refine ⟨⟨⟨hnb, applyT_ok _ _ h.pages h.bad, hg, hs, LogS.of_C (n := n) (by simpa [allSecs] using hlc) (by simp [allSecs]; omega), by simp [allSecs]; omega, fun t ht => (by cases ht), fun p y h1 h2 => .inl (hall p y h1 h2)⟩, fun y hy' hq => ?_⟩, hlc, hall⟩
  have hsn := splace_next life
  have e1 : 5 - splace (life + 1) = splace life := by omega
  rw [e1] at hy'
  have e2 := Good.uniq hy' h.sup
  refine hq.2.2 ?_
  rw [e2]
  exact life_next hL
/-- the pages of the next life are written -/
theorem KC.snapW {ga gd gl : Int} {n : Nat} {sm : List (List UInt8)} {st : St} {life : UInt64} {base : Int} {gen0 : UInt64} {P0 : List (List UInt8)} {ts : List Tx} (h : KC ga gd gl n sm st.all life base gen0 P0 ts) (h1 : st.size = n) (h2 : st.pend = []) (h3 : st.down = false) (hr : right ga gd gl = true) (hL : life.toNat ≠ 18446744073709551615) {V : List (List UInt8) × St × Int} (hV : V = snapF ga gd gl (life + 1) (applyT P0 ts) sm st) :
    V.2.1.size = n ∧
      ((V.2.2 = 12 ∧ V.2.1.down = true ∧ ∀ keep t a, UpN (restart V.2.1 keep t a) n ∧ KC ga gd gl n V.1 (restart V.2.1 keep t a).all life base gen0 P0 ts) ∨
        (V.2.2 = 0 ∧ V.2.1.down = false ∧ V.2.1.pend = [] ∧ KC ga gd gl n V.1 V.2.1.all life base gen0 P0 ts ∧ ∀ k (hk : k < (applyT P0 ts).length), Sup.Good V.1 (areaAt ga gd gl (life + 1).toNat k) (px (life + 1) k (applyT P0 ts)[k]) (kept V.2.1.all (areaAt ga gd gl (life + 1).toNat k).toNat))) := by
  have hP := applyT_ok _ _ h.kb.pages h.kb.bad
  obtain ⟨m, e⟩ := hP.run (life + 1) sm h1 h3
  have hext : Ext sm V.1 := by rw [hV]; exact enf_ext _ _ _
  rw [← hV] at e
  have hodd := next_odd hL
  have hln := applyT_len ts P0
  have hpl := h.kb.pages.len
  have hsp := splace_ok life
  have hsn := splace_next life
  have hy := right_yes hr
  have hkp : ∀ (all' m' : List Wr), all' = st.all ++ m' → (∀ w ∈ m', ∃ v ∈ m, w.1 = v.1) → ∀ p : Int, 0 ≤ p → (∀ k, k < P0.length → p ≠ areaAt ga gd gl (life + 1).toNat k) → kept all' p.toNat = kept st.all p.toNat := fun all' m' ea hm p h0 hne => by
    rw [ea]
    refine Disk.kept_append _ _ _ (fun w hw he => ?_)
    obtain ⟨v, hv, ev⟩ := hm w hw
    refine hP.beside e (p := p.toNat) (fun k hk he2 => ?_) v hv (ev.symm.trans he)
    have := hP.place (life + 1) hk
    exact hne k (by omega) (by omega)
  have hKC : ∀ (all' m' : List Wr), all' = st.all ++ m' → (∀ w ∈ m', ∃ v ∈ m, w.1 = v.1) → KC ga gd gl n V.1 all' life base gen0 P0 ts := fun all' m' ea hm => by
    have hk := hkp all' m' ea hm
    have htx : ∀ (p : Int) (y : X), rightF p y = 0 → text p y ∈ V.1 → text p y ∈ sm ∨ ((∃ k, k < P0.length ∧ p = areaAt ga gd gl (life + 1).toNat k) ∧ y.life = life + 1 ∧ NextAt ga gd gl life base gen0 P0 ts p y) := fun p y h4 h5 => by
      rcases e.text _ h5 with h6 | ⟨i, hi, h6⟩
      · exact .inl h6
      · obtain ⟨k, hk', rfl⟩ := hP.items (life + 1) i hi
        have hR := hP.pright (life + 1) hk'
        have e1 := text_inj h4 hR h6
        subst e1
        have e2 := place_of h4 hR h6.symm
        exact .inr ⟨⟨k, by omega, e2.symm⟩, rfl, .inl ⟨k, hk', e2.symm, rfl⟩⟩
    have hla : ∀ k, k < P0.length → 4 + gl ≤ areaAt ga gd gl (life + 1).toNat k := fun k hk => area_high (by omega)
    refine ⟨h.kb.keep hr hext e.more (fun k hk' => hk _ (h.kb.pages.place life hk').1 (fun j hj => area_apart hodd (by omega) (by omega))) (hk _ (by omega) (fun j hj => by have := hla j hj; omega)) (fun p h4 h5 => hk p (by omega) (fun j hj => by have := hla j hj; omega)) (fun p y h4 h5 => (htx p y h4 h5).imp id (fun h => h.2)), ?_⟩
    refine h.oth.keep hext (fun y h4 h5 => ?_) (hk _ (by omega) (fun j hj => by have := hla j hj; omega))
    rcases htx _ y h4 h5 with h6 | ⟨⟨k, hk', h6⟩, _⟩
    · exact .inl h6
    · have := hla k hk'; omega
  refine ⟨e.size, ?_⟩
  rcases e.res with ⟨r1, r2, r3, r4, r5⟩ | ⟨r1, r2, r3, r4, r5, r6⟩
  · refine .inl ⟨r1, r2, fun keep t a => ?_⟩
    obtain ⟨u, _, m', e1, e2⟩ := restart_up e.size keep t a
    refine ⟨u, hKC _ m' (by rw [e1, r3]) (fun w hw => ?_)⟩
    obtain ⟨v, hv, ev⟩ := e2 w hw
    rw [r4, h2, List.nil_append] at hv
    exact ⟨v, hv, ev⟩
  · rw [h2, List.nil_append] at r3
    exact .inr ⟨r1, r2, r4, hKC _ m r3 (fun w hw => ⟨w, hw, rfl⟩), fun k hk => by rw [r3]; exact hP.good e r5 st.all hk⟩
/-- the next life's super is written -/
theorem KC.supW {ga gd gl : Int} {n : Nat} {sm : List (List UInt8)} {st : St} {life : UInt64} {base : Int} {gen0 : UInt64} {P0 : List (List UInt8)} {ts : List Tx} (h : KC ga gd gl n sm st.all life base gen0 P0 ts) (h1 : st.size = n) (h2 : st.pend = []) (h3 : st.down = false) (hr : right ga gd gl = true) (hL : life.toNat ≠ 18446744073709551615)
    (hg : ∀ k (hk : k < (applyT P0 ts).length), Sup.Good sm (areaAt ga gd gl (life + 1).toNat k) (px (life + 1) k (applyT P0 ts)[k]) (kept st.all (areaAt ga gd gl (life + 1).toNat k).toNat))
    {S : List (List UInt8)} {W : St × Int} (hS : S = sL sm ga gd gl (life + 1) (nextB gl base life ts) (genT gen0 ts)) (hW : W = wf st (splace (life + 1)) (sB sm ga gd gl (life + 1) (nextB gl base life ts) (genT gen0 ts))) :
    W.1.size = n ∧
      ((W.2 = 12 ∧ W.1.down = true ∧ ∀ keep t a, UpN (restart W.1 keep t a) n ∧ (KC ga gd gl n S (restart W.1 keep t a).all life base gen0 P0 ts ∨ KC ga gd gl n S (restart W.1 keep t a).all (life + 1) (nextB gl base life ts) (genT gen0 ts) (applyT P0 ts) [])) ∨
        (W.2 = 0 ∧ KA ga gd gl n S W.1 (life + 1) (nextB gl base life ts) (genT gen0 ts) (applyT P0 ts) [])) := by
  have hy := right_yes hr
  have hsp := splace_ok life
  have hsp1 := splace_ok (life + 1)
  have hsn := splace_next life
  have hl1 := life1 hL
  have hlz := Wal.log_size hr
  have hpz := h.kb.pages.size
  have hpl := h.kb.pages.len
  have hln := applyT_len ts P0
  have hnb : 0 ≤ nextB gl base life ts ∧ nextB gl base life ts ≤ 1073741824 := by
    unfold nextB
    have := Int.emod_nonneg (base + ((allSecs life 0 ts).length : Int)) (show gl ≠ 0 by omega)
    have := Int.emod_lt_of_pos (base + ((allSecs life 0 ts).length : Int)) (show 0 < gl by omega)
    omega
  have hR : rightF (splace (life + 1)) (sx ga gd gl (life + 1) (nextB gl base life ts) (genT gen0 ts)) = 0 := sx_right hnb.1 hnb.2
  have hext : Ext sm S := by rw [hS]; exact Ext.after _ _
  have hm : More sm S := by rw [hS]; exact More.after _ _
  have hgood : Sup.Good S (splace (life + 1)) (sx ga gd gl (life + 1) (nextB gl base life ts) (genT gen0 ts)) (sB sm ga gd gl (life + 1) (nextB gl base life ts) (genT gen0 ts)) := by rw [hS]; exact sB_good sm hnb.1 hnb.2
  have htx : ∀ (p : Int) (y : X), rightF p y = 0 → text p y ∈ S → text p y ∈ sm ∨ (y.life = life + 1 ∧ NextAt ga gd gl life base gen0 P0 ts p y) := fun p y h4 h5 => by
    rw [hS] at h5
    rcases mem_after.1 h5 with h6 | h6
    · exact .inl h6
    · have e1 := text_inj h4 hR h6
      subst e1
      exact .inr ⟨rfl, .inr ⟨(place_of h4 hR h6.symm).symm, rfl⟩⟩
  have hKB : ∀ all' : List Wr, (∀ p : Int, 0 ≤ p → p ≠ splace (life + 1) → kept all' p.toNat = kept st.all p.toNat) → KB ga gd gl n S all' life base gen0 P0 ts ∧ ∀ k (hk : k < (applyT P0 ts).length), Sup.Good S (areaAt ga gd gl (life + 1).toNat k) (px (life + 1) k (applyT P0 ts)[k]) (kept all' (areaAt ga gd gl (life + 1).toNat k).toNat) := fun all' hk => by
    refine ⟨h.kb.keep hr hext hm (fun k hk' => hk _ (h.kb.pages.place life hk').1 (by have := area_high (ga := ga) (gd := gd) (gl := gl) (m := life.toNat) (k := k) (by omega); omega)) (hk _ (by omega) (by omega)) (fun p h4 h5 => hk p (by omega) (by omega)) htx, fun k hk' => ?_⟩
    have := area_high (ga := ga) (gd := gd) (gl := gl) (m := (life + 1).toNat) (k := k) (by omega)
    rw [hk _ (by omega) (by omega)]
    exact hm _ _ _ (hg k hk')
  have hw := wf_cases h1 h2 h3 (p := splace (life + 1)) (by omega) (by omega) (sB_len sm ga gd gl (life + 1) (nextB gl base life ts) (genT gen0 ts))
  rw [← hW] at hw
  rcases hw with ⟨r1, r2, r3, r4, r5, _⟩ | ⟨r1, r2, r3, r4, r5, _⟩
  · refine ⟨r5, .inl ⟨r1, r2, fun keep t a => ?_⟩⟩
    obtain ⟨u, hc, _⟩ := restart_one r5 (.inl r3) keep t a
    refine ⟨u, ?_⟩
    obtain ⟨all', ha⟩ : ∃ all', all' = (restart W.1 keep t a).all := ⟨_, rfl⟩
    rw [← ha] at hc ⊢
    obtain ⟨kb, kg⟩ := hKB all' (fun p h0 hne => by
      rcases hc with hc | ⟨z, hc⟩
      · rw [hc, r4]
      · rw [hc, r4, Sup.kept_beside _ _ (by omega)])
    by_cases ho : NoG S all' (5 - splace life) (fun y => y.kind = 2 ∧ splace y.life = 5 - splace life ∧ ¬ y.life < life)
    · exact .inl ⟨kb, ho⟩
    · right
      unfold NoG at ho
      simp only [Classical.not_forall, Classical.not_not] at ho
      obtain ⟨y, hy', q1, q2, q3⟩ := ho
      obtain ⟨t1, t2⟩ := Good.text hy'
      have e5 : 5 - splace life = splace (life + 1) := by omega
      have hyx : y = sx ga gd gl (life + 1) (nextB gl base life ts) (genT gen0 ts) := by
        rcases kb.texts _ y t1 t2 with h4 | ⟨_, h4 | ⟨_, h4⟩⟩
        · have h5 : y.life = life := by
            rw [UInt64.lt_iff_toNat_lt] at q3
            exact UInt64.toNat_inj.1 (by omega)
          rw [h5] at q2; omega
        · obtain ⟨k, hk, h5, _⟩ := h4
          have := area_high (ga := ga) (gd := gd) (gl := gl) (m := (life + 1).toNat) (k := k) (by omega)
          omega
        · exact h4
      rw [hyx, e5] at hy'
      exact (kb.next hr hL kg hy').1
  · refine ⟨r5, .inr ⟨r1, ?_⟩⟩
    obtain ⟨kb, kg⟩ := hKB W.1.all (fun p h0 hne => by rw [r4, Sup.kept_beside _ _ (by omega)])
    obtain ⟨c1, c2, c3⟩ := kb.next hr hL kg (by rw [r4, Sup.kept_after]; exact hgood)
    exact ⟨c1, r5, r3, r2, by simpa [allSecs] using c2, c3⟩
end Go.Proofs.YtchcmklelmlbgaaGreat.Sto

/- The store, in plain Lean: appends, what is read, and how it begins, wherever the power goes. No statement is proved here. -/
namespace Go.Proofs.YtchcmklelmlbgaaGreat.Sto
open Go.RowKit
open Go.Proofs.YtchcmklelmlbgaaGreat.Geom
open Go.Proofs.YtchcmklelmlbgaaGreat.Disk (St Wr write flush kept new zero512 restart)
open Go.Proofs.YtchcmklelmlbgaaGreat.Sec (X X0 text text_len rightF sumAfter ckS checkOf sumOf place_of)
open Go.Proofs.YtchcmklelmlbgaaGreat.Sup (UpN splace splace_ok splace_next sx sx_right sB sB_len sB_good sL wf wf_cases restart_one atR best best_first best_later SV text_inj isSup mem_after)
open Go.Proofs.YtchcmklelmlbgaaGreat.Snap (PagesOk px snapF snapR snapR_some rdAt_good area_eq area_inj area_apart next_odd)
open Go.Proofs.YtchcmklelmlbgaaGreat.Wal (Tx allSecs allSecs_at allSecs_snoc tSecs tSecs_len tSecs_at pl pl_eq pl_inj pl_bd badB badB_of putF PutT putF_turn scanTx tSecs_right LogC)
open Go.Proofs.YtchcmklelmlbgaaGreat.Enc (Enf More kept_of restart_up)
set_option linter.unusedVariables false
theorem KC.wrote {ga gd gl : Int} {n : Nat} {sm sm' : List (List UInt8)} {all all' : List Wr} {life : UInt64} {base : Int} {gen0 : UInt64} {P0 : List (List UInt8)} {ts ts' : List Tx} (h : KC ga gd gl n sm all life base gen0 P0 ts) (hr : right ga gd gl = true) (e : Ext sm sm') (m : More sm sm') (hk : ∀ p : Int, 0 ≤ p → (p < 4 ∨ 4 + gl ≤ p) → kept all' p.toNat = kept all p.toNat)
    (ht : ∀ (p : Int) (y : X), rightF p y = 0 → text p y ∈ sm' → text p y ∈ sm ∨ (4 ≤ p ∧ p < 4 + gl)) (hn : ∀ (p : Int) (y : X), rightF p y = 0 → text p y ∈ sm' → y.life.toNat ≤ life.toNat) (hlog : LogS ga gd gl base life sm' all' ts') (hlen : ((allSecs life 0 ts').length : Int) ≤ gl) (hbad : ∀ t ∈ ts', badB ga gd gl t.pages = false) : KC ga gd gl n sm' all' life base gen0 P0 ts' := by
  have hsp := splace_ok life
  have hpl := h.kb.pages.len
  refine ⟨⟨h.kb.hb, h.kb.pages, fun k hk' => ?_, ?_, hlog, hlen, hbad, fun p y h1 h2 => .inl (hn p y h1 h2)⟩, ?_⟩
  · rw [hk _ (h.kb.pages.place life hk').1 (.inr (area_high (by omega)))]
    exact m _ _ _ (h.kb.snap k hk')
  · rw [hk _ (by omega) (.inl (by omega))]
    exact m _ _ _ h.kb.sup
  · refine h.oth.keep e (fun y h1 h2 => ?_) (hk _ (by omega) (.inl (by omega)))
    rcases ht _ y h1 h2 with h3 | h3
    · exact .inl h3
    · omega
/-- a transaction is appended, or the power goes in it -/
theorem KA.append {ga gd gl : Int} {n : Nat} {sm : List (List UInt8)} {st : St} {life : UInt64} {base : Int} {gen0 : UInt64} {P0 : List (List UInt8)} {ts : List Tx} {t : Tx} (h : KA ga gd gl n sm st life base gen0 P0 ts) (hr : right ga gd gl = true) (hl : ((allSecs life 0 ts).length : Int) + t.pages.length < gl) (hbd : badB ga gd gl t.pages = false) {V : List (List UInt8) × St × Int} (hV : V = putF ga gd gl base life (allSecs life 0 ts).length t.gen t.pages sm st) :
    (V.2.2 = 0 ∧ KA ga gd gl n V.1 V.2.1 life base gen0 P0 (ts ++ [t])) ∨
      (V.2.2 = 12 ∧ V.2.1.down = true ∧ ∀ keep torn a, UpN (restart V.2.1 keep torn a) n ∧ (KC ga gd gl n V.1 (restart V.2.1 keep torn a).all life base gen0 P0 ts ∨ KC ga gd gl n V.1 (restart V.2.1 keep torn a).all life base gen0 P0 (ts ++ [t]))) := by
  have hn := h.kc.kb.pages.size
  have hb := h.kc.kb.hb.1
  have hT := putF_turn (life := life) (q := (allSecs life 0 ts).length) (t := t) (sm := sm) h.size h.pend h.down hr hb hn hl hbd
  have hext : Ext sm V.1 := by rw [hV]; exact putF_ext _ _ _ _ _ _ _ _ _ _
  rw [← hV] at hT
  have hy := right_yes hr
  have hs := allSecs_snoc life ts 0 t
  rw [Nat.zero_add] at hs
  have htl := tSecs_len life (allSecs life 0 ts).length t
  have hlen : (allSecs life 0 (ts ++ [t])).length = (allSecs life 0 ts).length + (t.pages.length + 1) := by rw [hs, List.length_append, htl]
  have hbad : ∀ u ∈ ts ++ [t], badB ga gd gl u.pages = false := fun u hu => by
    rcases List.mem_append.1 hu with hu | hu
    · exact h.kc.kb.bad u hu
    · rw [List.mem_singleton] at hu; rw [hu]; exact hbd
  have htx : ∀ (p : Int) (y : X), rightF p y = 0 → text p y ∈ V.1 → text p y ∈ sm ∨ ((4 ≤ p ∧ p < 4 + gl) ∧ y.life = life) := fun p y h1 h2 => by
    rcases hT.text _ h2 with h3 | ⟨j, hj, h3⟩
    · exact .inl h3
    · have hR := tSecs_right (base := base) (life := life) hr hb hn hl hbd j hj
      have e1 := text_inj h1 hR h3
      subst e1
      have e2 := place_of h1 hR h3.symm
      have := pl_log (k := (allSecs life 0 ts).length + j) hr hb
      exact .inr ⟨by omega, (tSecs_at life _ t j hj).1⟩
  have hno : ∀ (p : Int) (y : X), rightF p y = 0 → text p y ∈ V.1 → y.life.toNat ≤ life.toNat := fun p y h1 h2 => by
    rcases htx p y h1 h2 with h3 | ⟨_, h3⟩
    · exact h.nonext p y h1 h3
    · rw [h3]; exact Nat.le_refl _
  have hkp : ∀ (all' m : List Wr), all' = st.all ++ m → (∀ w ∈ m, ∃ j : Nat, j < (tSecs life (allSecs life 0 ts).length t).length ∧ w.1 = (pl ga gd gl base ((allSecs life 0 ts).length + j)).toNat) → ∀ p : Int, 0 ≤ p → (p < 4 ∨ 4 + gl ≤ p) → kept all' p.toNat = kept st.all p.toNat := fun all' m ea hm p h0 hp => by
    rw [ea]
    refine Disk.kept_append _ _ _ (fun w hw he => ?_)
    obtain ⟨j, hj, e⟩ := hm w hw
    have := pl_log (k := (allSecs life 0 ts).length + j) hr hb
    omega
  rcases hT.res with ⟨r1, r2, _, m, r3, r4⟩ | ⟨r1, r2, r3, _, m, r5, r6, r7⟩
  · right
    refine ⟨r1, r2, fun keep torn a => ?_⟩
    obtain ⟨u, hc⟩ := h.logc.crash hr hb hn hl hbd hT (by rw [r1]; decide) keep torn a
    obtain ⟨_, _, m', e1, e2⟩ := restart_up hT.size keep torn a
    have hk := hkp (restart V.2.1 keep torn a).all (m ++ m') (by rw [e1, r3, List.append_assoc]) (fun w hw => by
      rcases List.mem_append.1 hw with hw | hw
      · exact r4 w (List.mem_append.2 (.inl hw))
      · obtain ⟨v, hv, ev⟩ := e2 w hw
        obtain ⟨j, hj, ej⟩ := r4 v (List.mem_append.2 (.inr hv))
        exact ⟨j, hj, ev.trans ej⟩)
    refine ⟨u, ?_⟩
    rcases LogS.crash hc u hr hb hn hl (bad_num hbd) with hc | hc
    · exact .inl (h.kc.wrote hr hext hT.more hk (fun p y h1 h2 => (htx p y h1 h2).imp id (fun h => h.1)) hno hc h.kc.kb.len h.kc.kb.bad)
    · exact .inr (h.kc.wrote hr hext hT.more hk (fun p y h1 h2 => (htx p y h1 h2).imp id (fun h => h.1)) hno hc (by rw [hlen]; omega) hbad)
  · left
    have hlc := h.logc.append hr hb hn hl hbd hT r1
    rw [← hs] at hlc
    have hk := hkp V.2.1.all m r5 (fun w hw => by
      obtain ⟨j, hj, rfl⟩ := List.mem_iff_getElem.1 hw
      exact ⟨j, by omega, (r7 j hj (by omega)).1⟩)
    exact ⟨r1, h.kc.wrote hr hext hT.more hk (fun p y h1 h2 => (htx p y h1 h2).imp id (fun h => h.1)) hno (LogS.of_C hlc (by rw [hlen]; omega)) (by rw [hlen]; omega) hbad, hT.size, r3, r2, hlc, hno⟩
/-! what is read -/
theorem KC.super {ga gd gl : Int} {n : Nat} {sm : List (List UInt8)} {st : St} {life : UInt64} {base : Int} {gen0 : UInt64} {P0 : List (List UInt8)} {ts : List Tx} (h : KC ga gd gl n sm st.all life base gen0 P0 ts) (hu : UpN st n) (hn : 4 ≤ n) : best (best none (atR sm st ga gd gl 2)) (atR sm st ga gd gl 3) = some ⟨life, base, gen0⟩ := by
  have hsp := splace_ok life
  have a1 := hu.at_own (by omega) h.kb.sup
  cases ha : atR sm st ga gd gl (5 - splace life) with
  | none => exact best_first (f := atR sm st ga gd gl) hsp rfl a1 ha
  | some x =>
    have hx : x.life < life := by
      unfold atR at ha
      split at ha
      · rename_i hs
        injection ha with ha
        unfold isSup at hs
        simp only [Bool.and_eq_true, decide_eq_true_eq] at hs
        obtain ⟨⟨⟨s1, s2⟩, s3⟩, _⟩ := hs
        unfold Sup.dec at s1 s2 s3 ha
        rw [hu.read (by omega) (by omega)] at s1 s2 s3 ha
        simp only [] at s1 s2 s3 ha
        have hd : Sec.decode (ckS sm (kept st.all (5 - splace life).toNat)) (5 - splace life) (kept st.all (5 - splace life).toNat) = ((Sec.decode (ckS sm (kept st.all (5 - splace life).toNat)) (5 - splace life) (kept st.all (5 - splace life).toNat)).1, 0) := by
          generalize Sec.decode (ckS sm (kept st.all (5 - splace life).toNat)) (5 - splace life) (kept st.all (5 - splace life).toNat) = d at s1
          obtain ⟨y, f⟩ := d
          simp only at s1
          rw [s1]
        have hg := dec_good hd
        have hno := h.oth _ hg
        rw [← ha]
        exact Decidable.byContradiction fun hc => hno ⟨s2, s3, hc⟩
      · cases ha
    exact best_later (f := atR sm st ga gd gl) (p := 5 - splace life) (q := splace life) (by omega) (by omega) ha a1 hx
theorem KC.read {ga gd gl : Int} {n : Nat} {sm : List (List UInt8)} {st : St} {life : UInt64} {base : Int} {gen0 : UInt64} {P0 : List (List UInt8)} {ts : List Tx} (h : KC ga gd gl n sm st.all life base gen0 P0 ts) (hu : UpN st n) : snapR sm st ga gd gl life P0.length = some P0 :=
  (snapR_some (fun k hk => rdAt_good hu h.kb.pages hk (h.kb.snap k hk))).1
theorem KC.scan {ga gd gl : Int} {n : Nat} {sm : List (List UInt8)} {st : St} {life : UInt64} {base : Int} {gen0 : UInt64} {P0 : List (List UInt8)} {ts : List Tx} (h : KC ga gd gl n sm st.all life base gen0 P0 ts) (hu : UpN st n) (hr : right ga gd gl = true) : scanTx sm st ga gd gl base life = ts :=
  h.kb.log.scan hu hr h.kb.hb.1 h.kb.pages.size (fun t ht => bad_num (h.kb.bad t ht))
/-! how it begins -/
theorem InvN.ka {ga gd gl : Int} {n : Nat} {sm : List (List UInt8)} {st : St} {life : UInt64} {base : Int} {gen0 : UInt64} {P0 : List (List UInt8)} (h : InvN ga gd gl n sm st life base gen0 P0 []) (hr : right ga gd gl = true) (ht : ∀ (p : Int) (y : X), rightF p y = 0 → text p y ∈ sm → y.life = life ∧ (p < 4 ∨ 4 + gl ≤ p)) : KA ga gd gl n sm st life base gen0 P0 [] := by
  have hy := right_yes hr
  have hlc : LogC ga gd gl base n life sm st.all (allSecs life 0 []) (allSecs life 0 []) := ⟨fun k hk => absurd hk (by simp [allSecs]), fun k x hk h1 h2 h3 => by
    have h4 := (ht _ x h1 h2).2
    have := pl_log (k := k) hr h.hb.1
    omega⟩
  have hno : ∀ (p : Int) (y : X), rightF p y = 0 → text p y ∈ sm → y.life.toNat ≤ life.toNat := fun p y h1 h2 => by rw [(ht p y h1 h2).1]; exact Nat.le_refl _
  refine ⟨⟨⟨h.hb, h.pages, h.snap, h.sup, LogS.of_C hlc (by simp [allSecs]; omega), by simp [allSecs]; omega, h.bad, fun p y h1 h2 => .inl (hno p y h1 h2)⟩, fun y hy' hq => ?_⟩, h.up.size, h.up.pend, h.up.down, hlc, hno⟩
  rcases h.oth with h1 | ⟨l', b', g', h1, h2, h3⟩
  · rw [h1] at hy'; exact not_zero hy'
  · rw [← h2] at hy'
    have e := Good.uniq hy' h3
    rw [e] at hq
    exact hq.2.2 h1
/-- a disk that is new, formatted -/
theorem first_ka {ga gd gl : Int} {n : Nat} (hr : right ga gd gl = true) (hn : (n : Int) = Geom.sizeOf ga gd gl) {P : List (List UInt8)} (hP : PagesOk ga gd gl n P) {V : List (List UInt8) × St × Int} (hV : V = snapF ga gd gl 1 P [] (wipeF gl (Sup.clr (new n)).1).1) {W : St × Int} (hW : W = wf V.2.1 (splace 1) (sB V.1 ga gd gl 1 0 0)) : KA ga gd gl n (sL V.1 ga gd gl 1 0 0) W.1 1 0 0 P [] := by
  obtain ⟨c1, c2, c3⟩ := pre_first (Sup.up_new n) hr hn []
  obtain ⟨b1, b2, b3⟩ := c3.begin hr hP 0 0 (by decide)
  obtain ⟨_, _, _, _, _, u6⟩ := hP.up 1 [] c3.up
  rw [← hV] at b1 b2 b3 u6
  rw [← hW] at b2 b3
  refine b3.ka hr (fun p y h1 h2 => ?_)
  have hR : rightF (splace 1) (sx ga gd gl 1 0 0) = 0 := sx_right (by decide) (by decide)
  rcases mem_after.1 h2 with h3 | h3
  · rcases u6 _ h3 with h4 | ⟨k, hk, h4⟩
    · cases h4
    · have hR2 := hP.pright 1 hk
      have e1 := text_inj h1 hR2 h4
      subst e1
      have e2 := place_of h1 hR2 h4.symm
      have := area_high (ga := ga) (gd := gd) (gl := gl) (m := (1 : UInt64).toNat) (k := k) (by have := hP.len; omega)
      exact ⟨rfl, .inr (by omega)⟩
  · have e1 := text_inj h1 hR h3
    subst e1
    have e2 := place_of h1 hR h3.symm
    have := splace_ok 1
    exact ⟨rfl, .inl (by omega)⟩
end Go.Proofs.YtchcmklelmlbgaaGreat.Sto

/- Transactions ([]Txn) in memory: how they read, in blocks of a kind. No statement is proved here. -/
namespace Go.Proofs.YtchcmklelmlbgaaGreat.Wal
open Go.RowKit
set_option linter.unusedVariables false
instance : DecidableEq Pg := fun a b => decidable_of_iff (a.n = b.n ∧ a.body = b.body) ⟨fun h => by cases a; cases b; simp_all, fun h => by rw [h]; exact ⟨rfl, rfl⟩⟩
instance : DecidableEq Tx := fun a b => decidable_of_iff (a.pages = b.pages ∧ a.gen = b.gen) ⟨fun h => by cases a; cases b; simp_all, fun h => by rw [h]; exact ⟨rfl, rfl⟩⟩
/-- a transaction in two cells -/
structure TxAt (w : World) (Q : Nat → Prop) (b o : Nat) (x : Tx) (Ai : Option Addr) (ci : Nat) : Prop where
  c0 : w.cell? ⟨b, o, none⟩ = some (.slice Ai x.pages.length ci)
  c1 : w.cell? ⟨b, o + 1, none⟩ = some (.int .u64 (x.gen.toNat : Int))
  pgs : Pgs w Q Ai x.pages
  cap : x.pages.length ≤ ci
  max : ci ≤ maxLen
def Txs (w : World) (Q : Nat → Prop) (A : Option Addr) (l : List Tx) : Prop :=
  l ≠ [] → ∃ b off, A = some ⟨b, off, none⟩ ∧ b < w.heap.size ∧ Q b ∧ ∀ i (h : i < l.length), ∃ Ai ci, TxAt w Q b (off + i * 2) l[i] Ai ci
theorem Txs.nil (w : World) (Q : Nat → Prop) (A : Option Addr) : Txs w Q A [] := fun h => absurd rfl h
theorem Txs.get {w : World} {Q : Nat → Prop} {A : Option Addr} {l : List Tx} (h : Txs w Q A l) {i : Nat} (hi : i < l.length) :
    ∃ b off Ai ci, A = some ⟨b, off, none⟩ ∧ b < w.heap.size ∧ TxAt w Q b (off + i * 2) l[i] Ai ci := by
  obtain ⟨b, off, rfl, hb, _, hc⟩ := h (by intro e; rw [e] at hi; exact absurd hi (by simp))
  obtain ⟨Ai, ci, h1⟩ := hc i hi
  exact ⟨b, off, Ai, ci, rfl, hb, h1⟩
theorem TxAt.keep {w w' : World} {Q : Nat → Prop} {b o : Nat} {x : Tx} {Ai : Option Addr} {ci : Nat} {fp : List Nat} (h : TxAt w Q b o x Ai ci) (k : Keep fp w w') (hf : ∀ j, Q j → j < w.heap.size → j ∉ fp) (hb : b < w.heap.size) (hq : Q b) : TxAt w' Q b o x Ai ci :=
  ⟨(World.cell?_of_block (k.block hb (hf b hq hb))).trans h.c0, (World.cell?_of_block (k.block hb (hf b hq hb))).trans h.c1, h.pgs.keep k hf, h.cap, h.max⟩
theorem Txs.keep {w w' : World} {Q : Nat → Prop} {A : Option Addr} {l : List Tx} {fp : List Nat} (h : Txs w Q A l) (k : Keep fp w w') (hf : ∀ j, Q j → j < w.heap.size → j ∉ fp) : Txs w' Q A l := fun hne => by
  obtain ⟨b, off, rfl, hb, hq, hc⟩ := h hne
  refine ⟨b, off, rfl, Nat.lt_of_lt_of_le hb k.size, hq, fun i hi => ?_⟩
  obtain ⟨Ai, ci, h1⟩ := hc i hi
  exact ⟨Ai, ci, h1.keep k hf hb hq⟩
theorem Txs.on {w w' : World} {Q : Nat → Prop} {A : Option Addr} {l : List Tx} (h : Txs w Q A l) (b : Below w.heap.size w w') : Txs w' Q A l := h.keep (Keep.of_below b []) (fun j _ _ => by simp)
theorem Txs.imp {w : World} {Q Q' : Nat → Prop} {A : Option Addr} {l : List Tx} (h : Txs w Q A l) (hq : ∀ j, j < w.heap.size → Q j → Q' j) : Txs w Q' A l := fun hne => by
  obtain ⟨b, off, rfl, hb, h1, hc⟩ := h hne
  refine ⟨b, off, rfl, hb, hq b hb h1, fun i hi => ?_⟩
  obtain ⟨Ai, ci, h⟩ := hc i hi
  exact ⟨Ai, ci, h.c0, h.c1, h.pgs.imp hq, h.cap, h.max⟩
theorem flat2 {α : Type} {f : α → List Value} (hf : ∀ x, (f x).length = 2) : ∀ (l : List α) (i : Nat) (h : i < l.length) (k : Nat), k < 2 → (l.flatMap f)[i * 2 + k]? = (f l[i])[k]?
  | [], i, h, _, _ => by cases h
  | x :: l, 0, _, k, hk => by rw [List.flatMap_cons, List.getElem?_append_left (by rw [hf]; omega)]; simp
  | x :: l, i + 1, h, k, hk => by
    rw [List.flatMap_cons, List.getElem?_append_right (by rw [hf]; omega), hf, show (i + 1) * 2 + k - 2 = i * 2 + k by omega]
    simpa using flat2 hf l i (by simpa using h) k hk
theorem own_cell2 {w : World} {base n c g : Nat} {e : TypeId} {α : Type} {f : α → List Value} (hf : ∀ x, (f x).length = 2) {l : List α} (h : w.ownsRow base e 2 (.slice (some ⟨g, 0, none⟩) n c) n (l.flatMap f)) (i : Nat) (hi : i < l.length) (k : Nat) (hk : k < 2) : w.cell? ⟨g, i * 2 + k, none⟩ = (f l[i])[k]? := by
  have hl := h.1
  have h2 : (l.flatMap f).length = l.length * 2 := by
    clear h hl hi
    induction l with
    | nil => rfl
    | cons x l ih => rw [List.flatMap_cons, List.length_append, hf, ih, List.length_cons]; omega
  have := World.ownsRow.cellAt (j := i * 2 + k) h (by omega)
  rw [this]
  exact flat2 hf l i hi k hk
theorem PrOk.rdQ {w : World} {base : Nat} {p : Pr} (h : PrOk w base p) : RdQ w (fun j => base ≤ j) p.A (p.body.map e8) := fun hne => by
  obtain ⟨g, off, cs, e, hg, hh, hc⟩ := h.rd (fun e => hne (by rw [e]; rfl))
  refine ⟨g, off, e, lt_of_block hh, hg, fun i hi => ?_⟩
  rw [cell_of_row _ _ _ _ _ _ hh, hc i (by simpa using hi)]
  simp
theorem TrOk.pgs {w : World} {base : Nat} {now : Option Nat} {t : Tr} (h : TrOk w base now t) : Pgs w (fun j => base ≤ j) t.A (t.ps.map Pr.pg) := fun hne => by
  have hp : 0 < t.ps.length := by
    rcases Nat.eq_zero_or_pos t.ps.length with e | e
    · exact absurd (by rw [List.eq_nil_of_length_eq_zero e]; rfl) hne
    · exact e
  obtain ⟨g, c, e, hg⟩ := own_some h.row (by omega)
  unfold Tr.sl at e
  injection e with e1 e2 e3
  have hr := h.row
  unfold Tr.sl at hr
  rw [e1] at hr
  obtain ⟨cs, hcs⟩ := Disk.own_blk hr
  refine ⟨g, 0, e1, lt_of_block hcs, by omega, fun i hi => ?_⟩
  have hi' : i < t.ps.length := by simpa using hi
  have hk := h.pages _ (List.getElem_mem hi')
  have c0 := own_cell2 (f := Pr.cells) (fun _ => rfl) hr i hi' 0 (by omega)
  have c1 := own_cell2 (f := Pr.cells) (fun _ => rfl) hr i hi' 1 (by omega)
  refine ⟨t.ps[i].A, t.ps[i].c, ?_⟩
  rw [Nat.zero_add, List.getElem_map]
  exact ⟨by simpa [Pr.cells, Pr.pg] using c0, by simpa [Pr.cells, Pr.pg] using c1, hk.rdQ, hk.cap, hk.max, by have := hk.lo; show _ ≤ t.ps[i].n; omega, by have := hk.hi; show t.ps[i].n ≤ _; omega⟩
theorem OwnTx.txs {w : World} {base : Nat} {v : Value} {l : List Tx} (h : OwnTx w base v l) : ∃ A c, v = .slice A l.length c ∧ Txs w (fun j => base ≤ j) A l ∧ l.length ≤ c ∧ c ≤ maxLen := by
  obtain ⟨trs, hr, rfl, hok, _⟩ := h
  obtain ⟨A, c, rfl⟩ := own_form hr
  have hcp := Disk.own_caps hr
  refine ⟨A, c, by simp, fun hne => ?_, by simpa using hcp.1, hcp.2⟩
  have hp : 0 < trs.length := by
    rcases Nat.eq_zero_or_pos trs.length with e | e
    · exact absurd (by rw [List.eq_nil_of_length_eq_zero e]; rfl) hne
    · exact e
  obtain ⟨g, c', e, hg⟩ := own_some hr (by omega)
  injection e with e1 e2 e3
  subst e1
  obtain ⟨cs, hcs⟩ := Disk.own_blk hr
  refine ⟨g, 0, rfl, lt_of_block hcs, by omega, fun i hi => ?_⟩
  have hi' : i < trs.length := by simpa using hi
  have hk := hok _ (List.getElem_mem hi')
  have c0 := own_cell2 (f := Tr.cells) (fun _ => rfl) hr i hi' 0 (by omega)
  have c1 := own_cell2 (f := Tr.cells) (fun _ => rfl) hr i hi' 1 (by omega)
  have hc2 := Disk.own_caps hk.row
  refine ⟨trs[i].A, trs[i].c, ?_⟩
  rw [Nat.zero_add, List.getElem_map]
  exact ⟨by simpa [Tr.cells, Tr.sl, Tr.tx] using c0, by simpa [Tr.cells, Tr.tx] using c1, hk.pgs, by simpa [Tr.tx] using hc2.1, hc2.2⟩
end Go.Proofs.YtchcmklelmlbgaaGreat.Wal

/- The pages of a life: Bad of no disk; rows of bytes compared: Diff and Rows. -/
namespace Go.Proofs.YtchcmklelmlbgaaGreat.Snap
open Go.RowKit
open Go.Proofs.YtchcmklelmlbgaaGreat.Geom
open Go.Proofs.YtchcmklelmlbgaaGreat.Sup (Gb gv gcell srightF gthree)
set_option linter.unusedVariables false
set_option maxRecDepth 100000
end Go.Proofs.YtchcmklelmlbgaaGreat.Snap

/- What the laws on supers share: the reference's Mark, Place and Sector, the example. -/
namespace Go.Proofs.YtchcmklelmlbgaaGreat
theorem RdN.lit1 (w : World) (fp : List Nat) (hf : ∀ j ∈ fp, j < w.heap.size) (v : Value) (t : TypeId) : RdN (w.alloc (.cells #[v] t)) fp (some ⟨w.heap.size, 0, none⟩) [v] := fun _ =>
  ⟨w.heap.size, 0, rfl, by simp, fun e => by have := hf _ e; omega, fun i hi => by rw [World.cell?_alloc_new, Nat.zero_add]; simp at hi; subst hi; rfl⟩
end Go.Proofs.YtchcmklelmlbgaaGreat
namespace Go.Proofs.YtchcmklelmlbgaaGreat.Sup
open Go.RowKit
open Go.Proofs.YtchcmklelmlbgaaGreat.Geom
open Go.Proofs.YtchcmklelmlbgaaGreat.Disk (St DAt Did New8 Told8 new)
open Go.Proofs.YtchcmklelmlbgaaGreat.Sec (X SymAt text sumOf sumAfter ckS blankB rightF xv RetX X0 five5x symbolic_any bset5)
set_option linter.unusedVariables false
set_option maxRecDepth 100000
theorem newN_any (n : Nat) (z : Int) (hz : z = (n : Int)) (h1 : 1 ≤ n) (h2 : n ≤ 1024) (w : World) : Calls Tryz.prog 11 #[.int .i64 z] w fun e w' => ∃ g fp, e = .returned (.tuple #[.pointer (some ⟨g, 0, none⟩), .int .i64 0]) ∧ DAt w' g fp (new n) ∧ (∀ j ∈ fp, w.heap.size ≤ j) ∧ Below w.heap.size w w' := by
  subst hz
  refine (Disk.new_any n w (by omega) (by omega)).mono ?_
  rintro e w' ⟨h, b⟩
  rw [if_neg (by omega)] at h
  obtain ⟨g, fp, he, hd, hf⟩ := h
  exact ⟨g, fp, he, by simpa using hd, hf, b⟩
theorem set5 {W : World} {g b : Nat} {xs : List Value} (h : Blk W g xs) (n : g ≠ b) (v0 v1 v2 v3 v4 : Value) : Blk (((((W.setCell ⟨b, 0, none⟩ v0).setCell ⟨b, 1, none⟩ v1).setCell ⟨b, 2, none⟩ v2).setCell ⟨b, 3, none⟩ v3).setCell ⟨b, 4, none⟩ v4) g xs :=
  Blk.other (Blk.other (Blk.other (Blk.other (Blk.other h v0 n) v1 n) v2 n) v3 n) v4 n
theorem gb213 : Gb 2 1 3 := ⟨by decide, by decide, by decide, by decide, by decide, by decide⟩
theorem size213 : Geom.sizeOf 2 1 3 = 13 := by decide
theorem right213 : Geom.right 2 1 3 = true := by decide
end Go.Proofs.YtchcmklelmlbgaaGreat.Sup

/- The document's comparisons: rows of bytes, rows of numbers. -/
namespace Go.Proofs.YtchcmklelmlbgaaGreat.R20
open Go.RowKit
set_option linter.unusedVariables false
set_option maxRecDepth 100000
theorem take_snoc_eq {α : Type} {a b : List α} {k : Nat} (ha : k < a.length) (hb : k < b.length) : a.take (k + 1) = b.take (k + 1) ↔ (a.take k = b.take k ∧ a[k] = b[k]) := by
  rw [List.take_succ_eq_append_getElem ha, List.take_succ_eq_append_getElem hb]
  constructor
  · intro h
    have h1 := List.append_inj_left h (by simp; omega)
    have h2 := List.append_inj_right h (by simp; omega)
    exact ⟨h1, by simpa using h2⟩
  · rintro ⟨h1, h2⟩
    rw [h1, h2]
def Diffs (d : Bool) (e : Ending) : Prop := ∃ C k c, e = .returned (.slice C k c) ∧ (((k : Nat) : Int) == 0) = d
theorem infoI : (Tryz.prog.info? 3).map (fun i => (i.zero, i.size, i.bytes)) = some (some (.int .i64 0), 1, 8) := by kernel_rfl
set_option maxHeartbeats 1000000 in
theorem diff_any (A B : Option Addr) (a b : List (List UInt8)) (n m ca cb : Nat) (w : World) (ha : Rws w w.heap.size A a) (hb : Rws w w.heap.size B b) (hn : n = a.length) (hm : m = n) (hl : a.length = b.length) (hl1 : n ≤ 1000) (hla : ∀ x ∈ a, x.length ≤ 1000000) (hlb : ∀ x ∈ b, x.length ≤ 1000000) :
    Calls Tryz.prog 56 #[.slice A n ca, .slice B m cb] w fun e w' => Diffs (decide (a = b)) e ∧ Below w.heap.size w w' := by
  subst hm
  obtain ⟨i0, hi0, hz0, hz1, hz2⟩ := info_parts infoI
  have Hn := Lib.hid hn
  have HL := Lib.hid hl
  clear hn hl
  go_enter Tryz.func56, Tryz.ntmps56
  go_wp2_with fail
  go_loopw [5, 6] (fun o i wr => ∃ k : Nat, k ≤ m ∧ i = .int .i64 (k : Int) ∧ Below w.heap.size w wr ∧ ∃ j xs, wr.ownsRow w.heap.size 3 1 o j xs ∧ j ≤ k ∧ Hid ((j = 0) ↔ a.take k = b.take k)) (fun _ i _ => m - (intOf i).toNat)
  case atStart => exact ⟨0, by omega, rfl, Below.refl _ _, 0, [], own_nil _ _ _ _, Nat.le_refl _, Lib.hid (by simp)⟩
  case round =>
    obtain ⟨k, hk, rfl, bel, j, xs, hown, hjk, hj⟩ := hrel
    have hmx : max (m : Int) (m : Int) = (m : Int) := by omega
    have hwk : wrap64 ((k : Int) + 1) = (k : Int) + 1 := by unfold wrap64; omega
    by_cases hlt : k < m
    · have hka : k < a.length := by have := Hn.out; omega
      have hkb : k < b.length := by have := Hn.out; have := HL.out; omega
      have hkm : (k : Int) < (m : Int) := by omega
      have hge : ¬ (m : Int) ≤ (k : Int) := by omega
      obtain ⟨b1, o1, A1, c1, rfl, hb1, hc1, hr1, _, _⟩ := (ha.below bel).get hka
      obtain ⟨b2, o2, A2, c2, rfl, hb2, hc2, hr2, _, _⟩ := (hb.below bel).get hkb
      have hS := fun W (bW : Below wr.heap.size wr W) => R1.same_any A1 A2 a[k] b[k] _ _ c1 c2 W rfl rfl ((hr1.below (bW.mono bel.size)).more (by have := bel.size; have := bW.size; omega)) ((hr2.below (bW.mono bel.size)).more (by have := bel.size; have := bW.size; omega)) (by have := hla _ (List.getElem_mem hka); omega) (by have := hlb _ (List.getElem_mem hkb); omega)
      have hst := take_snoc_eq hka hkb
      have hsame : R1.sameB a[k] b[k] = decide (a[k] = b[k]) := rfl
      obtain ⟨x, hx⟩ : ∃ x, x = a[k] := ⟨_, rfl⟩
      obtain ⟨y, hy⟩ : ∃ y, y = b[k] := ⟨_, rfl⟩
      rw [← hx, ← hy] at hS hst hsame
      rw [← hx] at hc1
      rw [← hy] at hc2
      have hb1' : b1 < wr.heap.size := by have := bel.size; omega
      have hb2' : b2 < wr.heap.size := by have := bel.size; omega
      by_cases he : x = y
      · rw [hsame, decide_eq_true he] at hS
        have HS := Lib.hid hS
        have Hst := Lib.hid hst
        have He := Lib.hid he
        clear hS hst hsame hx hy he hr1 hr2 ha hb
        go_wp2_with fail
        refine region_inb (by kernel_rfl) (by kernel_rfl) ?_
        have inbNe := InB.some
        have inbW := @wrap_small
        have inbU := IntKind.wrap_u8'
        repeat (refine wpQuiet_step (fun K hK => ?_); go_simp; first | (refine hK _ ?_; clear hK K) | (apply Exists.intro; refine ⟨?_, hK _ ?_⟩; (· (intro w' hw'; first | (go_at_call 95; refine (HS.out _ hw'.below).mono ?_; rintro e w1 ⟨rfl, b1⟩; exact ⟨rfl, hw'.on b1⟩) | (have hcw := hw'.cell; go_simp; exact rfl))); clear hK K))
        refine wpQuiet_nil ?_
        intro wq hq
        clear inbNe inbW inbU
        go_wp2
        case roundEnd => exact ⟨⟨k + 1, by omega, rfl, bt bel hq.below, j, xs, own_on hown hq.below, by omega, Lib.hid (by rw [hj.out, Hst.out]; exact ⟨fun h => ⟨h, He.out⟩, fun h => h.1⟩)⟩, by simp only [intOf]; omega⟩
      · rw [hsame, decide_eq_false he] at hS
        have HS := Lib.hid hS
        have Hst := Lib.hid hst
        have He := Lib.hid he
        clear hS hst hsame hx hy he hr1 hr2 ha hb
        obtain ⟨A5, c5, rfl⟩ := own_form hown
        go_wp2_with fail
        refine region_inb (by kernel_rfl) (by kernel_rfl) ?_
        have inbNe := InB.some
        have inbW := @wrap_small
        have inbU := IntKind.wrap_u8'
        repeat (refine wpQuiet_step (fun K hK => ?_); go_simp; first | (refine hK _ ?_; clear hK K) | (apply Exists.intro; refine ⟨?_, hK _ ?_⟩; (· (intro w' hw'; first | (go_at_call 95; refine (HS.out _ hw'.below).mono ?_; rintro e w1 ⟨rfl, b1⟩; exact ⟨rfl, hw'.on b1⟩) | (have hcw := hw'.cell; go_simp; exact rfl))); clear hK K))
        refine wpQuiet_nil ?_
        intro wq hq
        clear inbNe inbW inbU
        have own2 := own_on hown hq.below
        have hsz2 := hq.below.size
        go_wp2_with (refine wpList_append_rd _ rfl _ _ _ rfl w.heap.size 3 i0 _ 1 8 Tryz.underlying66 hi0 hz0 hz1 hz2 rfl (by omega) _ j xs rfl (own2.alloc _) (wq.heap.size + 1) (some ⟨wq.heap.size, 0, none⟩) 1 1 [.int .i64 (k : Int)] rfl rfl (Rd.lit wq _ _ _ _ rfl (by omega)) (one_int _ _) (by simp only [maxLen]; omega) (by omega) (le_alloc (Nat.le_trans bel.size hsz2) _) ?_; intro v2 w2 hown2 hg2 hat2)
        have bel2 : Below w.heap.size w w2 := by
          refine ((bt bel hq.below).alloc (Nat.le_trans bel.size hsz2) _).grown hg2 (le_alloc (Nat.le_trans bel.size hsz2) _) (fun g hg => ?_)
          exact own_block hown hg
        case roundEnd => exact ⟨⟨k + 1, by omega, rfl, bel2, j + 1, _, hown2, by omega, Lib.hid ⟨fun h => absurd h (by omega), fun h => absurd (Hst.out.1 h).2 He.out⟩⟩, by simp only [intOf]; omega⟩
    · have hkm : k = m := by omega
      have hkn : ¬ (k : Int) < (m : Int) := by omega
      obtain ⟨A5, c5, rfl⟩ := own_form hown
      have Hk := Lib.hid hkm
      clear hkm
      go_wp2
      go_ret
      refine ⟨⟨A5, j, c5, rfl, ?_⟩, bel⟩
      have h1 := hj.out
      have h2 := Hk.out
      have h3 := Hn.out
      have h4 := HL.out
      rw [List.take_of_length_le (by omega), List.take_of_length_le (by omega)] at h1
      by_cases hj0 : j = 0
      · rw [beq_yes (by omega), decide_eq_true (h1.1 hj0)]
      · rw [beq_no (by omega), decide_eq_false (fun e => hj0 (h1.2 e))]
theorem rows_any (A B : Option Addr) (a b : List (List UInt8)) (n m ca cb : Nat) (w : World) (ha : Rws w w.heap.size A a) (hb : Rws w w.heap.size B b) (hn : n = a.length) (hm : m = b.length) (hl1 : n ≤ 1000) (hla : ∀ x ∈ a, x.length ≤ 1000000) (hlb : ∀ x ∈ b, x.length ≤ 1000000) :
    Calls Tryz.prog 18 #[.slice A n ca, .slice B m cb] w fun e w' => e = .returned (.bool (decide (a = b))) ∧ Below w.heap.size w w' := by
  by_cases hl : n = m
  · have HD := Lib.hid (diff_any A B a b n m ca cb w ha hb hn hl.symm (by omega) hl1 hla hlb)
    obtain ⟨d, hd⟩ : ∃ d, d = decide (a = b) := ⟨_, rfl⟩
    rw [← hd] at HD ⊢
    have t0 := bne_no (show (n : Int) = (m : Int) by omega)
    clear ha hb hn hm hd hl hla hlb
    go_enter Tryz.func18, Tryz.ntmps18
    go_wp2_with (go_at_call 56; refine HD.out.mono ?_; rintro e w1 ⟨⟨C, k, c, rfl, hk⟩, b1⟩)
    go_ret
    exact ⟨by first | rfl | exact ret_bool hk, b1⟩
  · have hne : decide (a = b) = false := decide_eq_false (fun e => hl (by rw [hn, hm, e]))
    rw [hne]
    have t0 := bne_yes (show (n : Int) ≠ (m : Int) by omega)
    clear ha hb hn hm hl hla hlb hne
    go_enter Tryz.func18, Tryz.ntmps18
    go_wp2
    go_ret
    exact ⟨rfl, Below.refl _ _⟩
end Go.Proofs.YtchcmklelmlbgaaGreat.R20

/- What the laws on pages share: which are light, which may be, the reference's sector, the example. -/
namespace Go.Proofs.YtchcmklelmlbgaaGreat.Snap
open Go.RowKit
open Go.Proofs.YtchcmklelmlbgaaGreat.Geom
open Go.Proofs.YtchcmklelmlbgaaGreat.Disk (St DAt Did New8 Told8 new)
open Go.Proofs.YtchcmklelmlbgaaGreat.Sup (Gb gv gcell srightF gthree newN_any gb213 size213 right213 UpN up_new srightF_new)
open Go.Proofs.YtchcmklelmlbgaaGreat.Sec (X SymAt text sumOf sumAfter ckS blankB rightF xv RetX X0 five5x symbolic_any bset5)
set_option linter.unusedVariables false
set_option maxRecDepth 100000
theorem OwnRows.rws {w : World} {base : Nat} {A : Option Addr} {n c : Nat} {l : List (List UInt8)} (h : OwnRows w base (.slice A n c) l) (hn : n = l.length) : Rws w w.heap.size A l := by
  obtain ⟨its, hown, rfl, hall⟩ := h
  rw [List.length_map] at hn
  subst hn
  have hrd := RdQ.own hown
  intro hne
  have hne' : its.map It.sl ≠ [] := by intro e; apply hne; simp at e; simp [e]
  obtain ⟨b, off, rfl, hb, _, hc⟩ := hrd hne'
  refine ⟨b, off, rfl, hb, fun i hi => ?_⟩
  have hi' : i < its.length := by simpa using hi
  have h1 := hc i (by simpa using hi')
  rw [List.getElem_map] at h1
  have h2 := hall _ (List.getElem_mem hi')
  refine ⟨its[i].A, its[i].c, ?_, ?_, ?_, ?_⟩
  · rw [h1]; simp [It.sl]
  · rw [List.getElem_map]; exact Rd.own h2.1
  · rw [List.getElem_map]; exact (own_cap h2.1).1
  · exact (own_cap h2.1).2
theorem OwnRows.on {w w' : World} {base : Nat} {v : Value} {l : List (List UInt8)} (h : OwnRows w base v l) (b : Below w.heap.size w w') : OwnRows w' base v l := by
  obtain ⟨its, hown, hl, hall⟩ := h
  exact ⟨its, own_on hown b, hl, fun x hx => (hall x hx).on b⟩
theorem OwnRows.short {w : World} {base : Nat} {v : Value} {l : List (List UInt8)} (h : OwnRows w base v l) : ∀ x ∈ l, x.length ≤ 1000000 := by
  obtain ⟨its, _, rfl, hall⟩ := h
  intro x hx
  obtain ⟨y, hy, rfl⟩ := List.mem_map.1 hx
  have := (hall y hy).2
  omega
def lightB (ga gd gl : Int) (l : List (List UInt8)) : Bool := decide (pagesOf ga gd gl ≤ 30) && decide (l.length ≤ 40) && l.all fun b => decide (b.length ≤ 600)
theorem light_of {ga gd gl : Int} {l : List (List UInt8)} (h : lightB ga gd gl l = true) : pagesOf ga gd gl ≤ 30 ∧ l.length ≤ 40 ∧ ∀ b ∈ l, b.length ≤ 600 := by
  simp [lightB] at h
  exact ⟨h.1.1, h.1.2, h.2⟩
def okB (ga gd gl : Int) (l : List (List UInt8)) : Bool := (l.all fun b => decide (b.length ≤ 479)) && (Geom.right ga gd gl && decide ((l.length : Int) = pagesOf ga gd gl))
theorem ok_of {ga gd gl : Int} {n : Nat} {l : List (List UInt8)} (hn : (n : Int) = Geom.sizeOf ga gd gl) (h : okB ga gd gl l = true) : PagesOk ga gd gl n l ∧ Geom.right ga gd gl = true ∧ longB l = false := by
  simp [okB] at h
  exact ⟨⟨hn, h.2.2, fun j hj => h.1 _ (List.getElem_mem hj)⟩, h.2.1, longB_no fun j hj => h.1 _ (List.getElem_mem hj)⟩
theorem box_rdQ {W : World} {g : Nat} {v : Value} {Q : Nat → Prop} (h : Box W g v) (hq : Q g) : RdQ W Q (some ⟨g, 0, none⟩) [v] := fun _ => ⟨g, 0, rfl, h.lt, hq, fun i hi => by
  obtain rfl : i = 0 := by simp at hi; exact hi
  exact h.cell⟩
theorem lit3 (w : World) (t1 t2 t3 : TypeId) : Rw (((w.alloc (.cells #[.int .u8 1] t1)).alloc (.cells #[.int .u8 2] t2)).alloc (.cells #[.slice (some ⟨w.heap.size, 0, none⟩) 1 1, .slice none 0 0, .slice (some ⟨w.heap.size + 1, 0, none⟩) 1 1] t3)) (fun j => w.heap.size ≤ j) (some ⟨w.heap.size + 1 + 1, 0, none⟩) [[1], [], [2]] := by
  have x1 := ((Box.new w t1 (.int .u8 1)).alloc (.cells #[.int .u8 2] t2)).alloc (.cells #[.slice (some ⟨w.heap.size, 0, none⟩) 1 1, .slice none 0 0, .slice (some ⟨w.heap.size + 1, 0, none⟩) 1 1] t3)
  have x2 := (Box.new (w.alloc (.cells #[.int .u8 1] t1)) t2 (.int .u8 2)).alloc (.cells #[.slice (some ⟨w.heap.size, 0, none⟩) 1 1, .slice none 0 0, .slice (some ⟨w.heap.size + 1, 0, none⟩) 1 1] t3)
  have x3 := Blk.new ((w.alloc (.cells #[.int .u8 1] t1)).alloc (.cells #[.int .u8 2] t2)) [.slice (some ⟨w.heap.size, 0, none⟩) 1 1, .slice none 0 0, .slice (some ⟨w.heap.size + 1, 0, none⟩) 1 1] t3
  simp at x2 x3
  obtain ⟨c0, c1, c2⟩ := gthree x3
  refine fun _ => ⟨w.heap.size + 1 + 1, 0, rfl, x3.lt, by omega, fun i hi => ?_⟩
  rcases (show i = 0 ∨ i = 1 ∨ i = 2 by simp at hi; omega) with rfl | rfl | rfl
  · exact ⟨_, _, c0, box_rdQ x1 (Nat.le_refl _), Nat.le_refl _, by unfold maxLen; omega⟩
  · exact ⟨_, _, c1, RdQ.nil _ _ _, Nat.le_refl _, by unfold maxLen; omega⟩
  · exact ⟨_, _, c2, box_rdQ x2 (by omega), Nat.le_refl _, by unfold maxLen; omega⟩
end Go.Proofs.YtchcmklelmlbgaaGreat.Snap

/- The laws of the log: a log beside a disk, and the chapter's example. No statement is proved here. -/
namespace Go.Proofs.YtchcmklelmlbgaaGreat.Wal
open Go.RowKit
open Go.Proofs.YtchcmklelmlbgaaGreat.Geom
open Go.Proofs.YtchcmklelmlbgaaGreat.Sup (Gb gv gcell gthree newN_any UpN up_new gb213 size213 right213)
open Go.Proofs.YtchcmklelmlbgaaGreat.Disk (St DAt new)
open Go.Proofs.YtchcmklelmlbgaaGreat.Sec (X symbolic_any)
set_option linter.unusedVariables false
set_option maxRecDepth 100000
/-- in a law: a log in a block of the law's own, beside the disk -/
structure HereL (w0 w : World) (g : Nat) (fp : List Nat) (s : St) (gS bS : Nat) (l : List (List UInt8)) (L : Nat) (ga gd gl : Int) (life : UInt64) (base : Int) (seq : Nat) : Prop where
  both : Both w g fp s gS bS l
  bel : Below w0.heap.size w0 w
  own : ∀ j ∈ L :: bS :: fp, w0.heap.size ≤ j
  lat : LAt w L g gS ga gd gl life base seq
  nL : L ∉ bS :: gS :: fp
theorem HereL.on {w0 w w' : World} {g : Nat} {fp : List Nat} {s : St} {gS bS : Nat} {l : List (List UInt8)} {L : Nat} {ga gd gl : Int} {life : UInt64} {base : Int} {seq : Nat} (h : HereL w0 w g fp s gS bS l L ga gd gl life base seq) (b : Below w.heap.size w w') : HereL w0 w' g fp s gS bS l L ga gd gl life base seq := ⟨h.both.on b, bt h.bel b, h.own, h.lat.on b, h.nL⟩
theorem HereL.turn {w0 w w' : World} {g : Nat} {fp : List Nat} {s s' : St} {gS bS : Nat} {l l' : List (List UInt8)} {L : Nat} {ga gd gl : Int} {life : UInt64} {base : Int} {seq seq' : Nat} (h : HereL w0 w g fp s gS bS l L ga gd gl life base seq) (t : WTurn w g fp gS bS L ga gd gl life base s' l' seq' w') : ∃ fp', HereL w0 w' g fp' s' gS bS l' L ga gd gl life base seq' := by
  obtain ⟨fp', b, k, f, la⟩ := t
  refine ⟨fp', b, h.bel.trans (k.below h.own h.bel.size), fun j hj => ?_, la, fun hj => ?_⟩
  · rcases List.mem_cons.1 hj with e | hj
    · exact h.own j (by rw [e]; simp)
    rcases List.mem_cons.1 hj with e | hj
    · exact h.own j (by rw [e]; simp)
    · exact f.ge (fun i hi => h.own i (by simp [hi])) h.bel.size j hj
  · rcases List.mem_cons.1 hj with e | hj
    · exact h.nL (by rw [e]; simp)
    rcases List.mem_cons.1 hj with e | hj
    · exact h.nL (by rw [e]; simp)
    · exact f.out h.lat.lt (fun e => h.nL (by simp [e])) hj
theorem HereL.start {w0 w w' : World} {g : Nat} {fp : List Nat} {s : St} {gS bS : Nat} {l : List (List UInt8)} {ga gd gl : Int} {life : UInt64} {base : Int} {L : Nat} (h : Here w0 w g fp s gS bS l) (hL : L = w.heap.size + 1) (ha : LAt w' L g gS ga gd gl life base 0) (b : Below w.heap.size w w') : HereL w0 w' g fp s gS bS l L ga gd gl life base 0 := by
  subst hL
  refine ⟨h.both.on b, bt h.bel b, fun j hj => ?_, ha, fun hj => ?_⟩
  · have := h.bel.size
    rcases List.mem_cons.1 hj with e | hj
    · omega
    · exact h.own j hj
  · have h1 := h.both.sym.lt
    rcases List.mem_cons.1 hj with e | hj
    · omega
    rcases List.mem_cons.1 hj with e | hj
    · omega
    · have := h.both.disk.lt _ hj; omega
theorem HereL.notQ {w0 w : World} {g : Nat} {fp : List Nat} {s : St} {gS bS : Nat} {l : List (List UInt8)} {L : Nat} {ga gd gl : Int} {life : UInt64} {base : Int} {seq : Nat} (h : HereL w0 w g fp s gS bS l L ga gd gl life base seq) {n : Nat} (hn : n ≤ w0.heap.size) : ∀ j, j < n → j < w.heap.size → j ∉ L :: bS :: fp := fun j hj _ e => by have := h.own j e; omega
theorem HereL.here {w0 w : World} {g : Nat} {fp : List Nat} {s : St} {gS bS : Nat} {l : List (List UInt8)} {L : Nat} {ga gd gl : Int} {life : UInt64} {base : Int} {seq : Nat} (h : HereL w0 w g fp s gS bS l L ga gd gl life base seq) : Here w0 w g fp s gS bS l := ⟨h.both, h.bel, fun j hj => h.own j (by simp only [List.mem_cons] at hj ⊢; exact .inr hj)⟩
theorem wright_new {ga gd gl base : Int} {n : Nat} (hr : right ga gd gl = true) (hn : (n : Int) = Geom.sizeOf ga gd gl) (h0 : 0 ≤ base) (h1 : base ≤ 1073741824) {s : St} (hs : s.size = n) : wrightF s ga gd gl base = 0 := by
  unfold wrightF
  rw [if_pos ⟨hr, by rw [hs]; exact hn, h0, h1⟩]
end Go.Proofs.YtchcmklelmlbgaaGreat.Wal

/- The laws of the log: which inputs are light, which pages may be, why a transaction is not appended. No statement is proved here. -/
namespace Go.Proofs.YtchcmklelmlbgaaGreat.Wal
open Go.RowKit
open Go.Proofs.YtchcmklelmlbgaaGreat.Geom
open Go.Proofs.YtchcmklelmlbgaaGreat.Sup (Gb gv gcell gthree)
set_option linter.unusedVariables false
set_option maxRecDepth 100000
attribute [local irreducible] wpQuiet
/-- what is light -/
structure LightOk (gl : Int) (l : List Tx) : Prop where
  log : ¬ (16 < gl ∧ gl ≤ 64)
  len : l.length ≤ 20
  pages : ∀ t ∈ l, t.pages.length ≤ 20 ∧ ∀ p ∈ t.pages, p.body.length ≤ 600
def LightRet (gl : Int) (l : List Tx) (e : Ending) : Prop := ∃ B : Bool, e = .returned (.bool B) ∧ (B = true → LightOk gl l)
set_option maxHeartbeats 2000000 in
theorem light_any (Q : Nat → Prop) (A : Option Addr) (l : List Tx) (c : Nat) (ga gd gl : Int) (w : World) (hr : Txs w Q A l) :
    Calls Tryz.prog 33 #[gv ga gd gl, .slice A l.length c] w fun e w' => LightRet gl l e ∧ Below w.heap.size w w' := by
  have FG := Blk.new w (gcell ga gd gl) 23
  have b0 := b1alloc w (.cells (gcell ga gd gl).toArray 23)
  obtain ⟨z0, z1, z2⟩ := gthree FG
  obtain ⟨N, hN⟩ : ∃ N, N = l.length := ⟨_, rfl⟩
  rw [← hN]
  have HN := Lib.hid hN
  have HR := Lib.hid (hr.on b0)
  clear hN hr FG
  by_cases h1 : 16 < gl ∧ gl ≤ 64
  · have h2 := h1.1
    have h3 := h1.2
    clear h1
    go_enter Tryz.func33, Tryz.ntmps33
    go_wp2
    all_goals (go_ret; exact ⟨⟨false, rfl, fun h => (by cases h)⟩, b0⟩)
  by_cases h20 : N ≤ 20
  rotate_left
  · have t2 : (20 : Int) < (N : Int) := by omega
    have t3 : (decide (16 < gl) && decide (gl ≤ 64)) = false := by
      rw [Bool.and_eq_false_iff, decide_eq_false_iff_not, decide_eq_false_iff_not]
      by_cases hx : 16 < gl
      · exact .inr (fun h => h1 ⟨hx, h⟩)
      · exact .inl hx
    clear h1 h20
    by_cases hx : 16 < gl
    · go_enter Tryz.func33, Tryz.ntmps33
      go_wp2
      all_goals (go_ret; exact ⟨⟨false, rfl, fun h => (by cases h)⟩, b0⟩)
    · go_enter Tryz.func33, Tryz.ntmps33
      go_wp2
      all_goals (go_ret; exact ⟨⟨false, rfl, fun h => (by cases h)⟩, b0⟩)
  have t2 : ¬ (20 : Int) < (N : Int) := by omega
  have H1 := Lib.hid h1
  have hsp : (16 < gl ∧ ¬ gl ≤ 64) ∨ ¬ 16 < gl := by
    by_cases hx : 16 < gl
    · exact .inl ⟨hx, fun h => h1 ⟨hx, h⟩⟩
    · exact .inr hx
  clear h1
  rcases hsp with ⟨hx, hy⟩ | hx
  all_goals
    go_enter Tryz.func33, Tryz.ntmps33
    go_wp2_with fail
    go_loopw [5] (fun i wr => ∃ k : Nat, k ≤ N ∧ i = .int .i64 (k : Int) ∧ wr = w.alloc (.cells (gcell ga gd gl).toArray 23) ∧ Hid (∀ t ∈ l.take k, t.pages.length ≤ 20 ∧ ∀ p ∈ t.pages, p.body.length ≤ 600)) (fun i _ => N - (intOf i).toNat)
    case atStart => exact ⟨0, Nat.zero_le _, rfl, rfl, Lib.hid (fun t ht => by simp at ht)⟩
    case round =>
      obtain ⟨k, hk, rfl, rfl, hid⟩ := hrel
      by_cases hlt : k < N
      · have hkm : (k : Int) < (N : Int) := by omega
        have hge : ¬ (N : Int) ≤ (k : Int) := by omega
        have hll : k < l.length := by have := HN.out; omega
        have htk : l.take (k + 1) = l.take k ++ [l[k]] := List.take_succ_eq_append_getElem hll
        obtain ⟨b, off, Ai, ci, rfl, hb, hT⟩ := HR.out.get hll
        obtain ⟨x, hx'⟩ : ∃ x, x = l[k] := ⟨_, rfl⟩
        rw [← hx'] at hT htk
        have c0 := hT.c0
        have HPg := Lib.hid hT.pgs
        have Htk := Lib.hid htk
        obtain ⟨m, hm⟩ : ∃ m, m = x.pages.length := ⟨_, rfl⟩
        rw [← hm] at c0
        have Hm := Lib.hid hm
        clear hm hT htk hx'
        by_cases hm20 : m ≤ 20
        rotate_left
        · have t5 : (20 : Int) < (m : Int) := by omega
          go_wp2
          go_ret
          exact ⟨⟨false, rfl, fun h => (by cases h)⟩, b0⟩
        have t5 : ¬ (20 : Int) < (m : Int) := by omega
        go_wp2_with fail
        go_loopw [6] (fun i wr => ∃ j : Nat, j ≤ m ∧ i = .int .i64 (j : Int) ∧ wr = w.alloc (.cells (gcell ga gd gl).toArray 23) ∧ Hid (∀ p ∈ x.pages.take j, p.body.length ≤ 600)) (fun i _ => m - (intOf i).toNat)
        case atStart => exact ⟨0, Nat.zero_le _, rfl, rfl, Lib.hid (fun t ht => by simp at ht)⟩
        case round =>
          obtain ⟨j, hj, rfl, rfl, hid2⟩ := hrel
          by_cases hjt : j < m
          · have hjm : (j : Int) < (m : Int) := by omega
            have hge2 : ¬ (m : Int) ≤ (j : Int) := by omega
            have hjl : j < x.pages.length := by have := Hm.out; omega
            have htj : x.pages.take (j + 1) = x.pages.take j ++ [x.pages[j]] := List.take_succ_eq_append_getElem hjl
            obtain ⟨b2, off2, Aj, cj, rfl, hb2, hP⟩ := HPg.out.get hjl
            obtain ⟨y, hy'⟩ : ∃ y, y = x.pages[j] := ⟨_, rfl⟩
            rw [← hy'] at hP htj
            have d1 := hP.c1
            have Htj := Lib.hid htj
            by_cases h600 : y.body.length ≤ 600
            · have t6 : ¬ (600 : Int) < (y.body.length : Int) := by omega
              have Hyl := Lib.hid h600
              clear hP htj hy' h600
              go_wp2
              case roundEnd => exact ⟨⟨j + 1, by omega, by go_num, by first | trivial | rfl, Lib.hid (by rw [Htj.out]; intro p hp; rcases List.mem_append.1 hp with hp | hp; (· exact hid2.out p hp); (· rw [List.mem_singleton] at hp; rw [hp]; exact Hyl.out))⟩, by simp only [intOf]; omega⟩
            · have t6 : (600 : Int) < (y.body.length : Int) := by omega
              clear hP htj hy' h600
              go_wp2
              go_ret
              exact ⟨⟨false, rfl, fun h => (by cases h)⟩, b0⟩
          · have hjm : j = m := by omega
            have hjn : ¬ (j : Int) < (m : Int) := by omega
            have Hj := Lib.hid hjm
            clear hjm
            go_wp2
            have hgo := Lib.hid (show ∀ t ∈ l.take (k + 1), t.pages.length ≤ 20 ∧ ∀ p ∈ t.pages, p.body.length ≤ 600 by
              rw [Htk.out]
              intro t ht
              rcases List.mem_append.1 ht with ht | ht
              · exact hid.out t ht
              · rw [List.mem_singleton] at ht
                rw [ht]
                have h2 := hid2.out
                rw [Hj.out, Hm.out, List.take_length] at h2
                exact ⟨by have := Hm.out; omega, h2⟩)
            exact ⟨⟨k + 1, by omega, by go_num, by first | trivial | rfl, Lib.hid hgo.out⟩, by simp only [intOf]; omega⟩
      · have hkm : k = N := by omega
        have hkn : ¬ (k : Int) < (N : Int) := by omega
        have Hk := Lib.hid hkm
        clear hkm
        go_wp2
        go_ret
        refine ⟨⟨true, rfl, fun _ => ⟨H1.out, by have := HN.out; omega, ?_⟩⟩, b0⟩
        have h2 := hid.out
        rw [Hk.out, HN.out, List.take_length] at h2
        exact h2
set_option maxHeartbeats 2000000 in
theorem rpagesOk_any (Q : Nat → Prop) (A : Option Addr) (l : List Pg) (c : Nat) (ga gd gl : Int) (w : World) (hG : Gb ga gd gl) (hr : Pgs w Q A l) (hl : l.length ≤ 1000000) :
    Calls Tryz.prog 61 #[gv ga gd gl, .slice A l.length c] w fun e w' => e = .returned (.bool (!badB ga gd gl l)) ∧ Below w.heap.size w w' := by
  have FG := Blk.new w (gcell ga gd gl) 23
  have b0 := b1alloc w (.cells (gcell ga gd gl).toArray 23)
  have HFG := Lib.hid FG
  have HPg := Lib.hid (fun W => Geom.rpages_any ga gd gl W hG.a0 hG.a1 hG.d0 hG.d1 hG.g0 hG.g1)
  obtain ⟨N, hN⟩ : ∃ N, N = l.length := ⟨_, rfl⟩
  rw [← hN]
  have HN := Lib.hid hN
  have HR := Lib.hid hr
  have hl' : N ≤ 1000000 := by omega
  obtain ⟨R, hR⟩ : ∃ R, R = badB ga gd gl l := ⟨_, rfl⟩
  rw [← hR]
  have HRR := Lib.hid hR
  obtain ⟨q, hq⟩ : ∃ q, q = pagesOf ga gd gl := ⟨_, rfl⟩
  rw [← hq] at HPg
  have Hq := Lib.hid hq
  clear hN hr hl hR hq FG
  go_enter Tryz.func61, Tryz.ntmps61
  go_wp2_with fail
  go_loopw [5] (fun i wr => ∃ k : Nat, k ≤ N ∧ i = .int .i64 (k : Int) ∧ Below w.heap.size w wr ∧ Blk wr w.heap.size (gcell ga gd gl) ∧ Hid (∀ j (hj : j < l.length), j < k → wrongB ga gd gl l[j] = false)) (fun i _ => N - (intOf i).toNat)
  case atStart => exact ⟨0, Nat.zero_le _, rfl, b0, HFG.out, Lib.hid (fun j _ h => absurd h (Nat.not_lt_zero j))⟩
  case round =>
    obtain ⟨k, hk, rfl, bel, hB, hid⟩ := hrel
    clear b0
    by_cases hlt : k < N
    · have hkm : (k : Int) < (N : Int) := by omega
      have hge : ¬ (N : Int) ≤ (k : Int) := by omega
      have hll : k < l.length := by have := HN.out; omega
      obtain ⟨z0, z1, z2⟩ := gthree hB
      have lG := hB.lt
      obtain ⟨b, off, Ai, ci, rfl, hb, hP⟩ := (HR.out.on bel).get hll
      have hW : wrongB ga gd gl l[k] = (decide (l[k].n < 0) || (decide (q ≤ l[k].n) || decide (473 < l[k].body.length))) := by rw [Hq.out]; rfl
      have hgo : wrongB ga gd gl l[k] = false → ∀ j (hj : j < l.length), j < k + 1 → wrongB ga gd gl l[j] = false := fun h j hj hjk => by
        rcases Nat.lt_succ_iff_lt_or_eq.1 hjk with e | e
        · exact hid.out j hj e
        · subst e; exact h
      have hst : wrongB ga gd gl l[k] = true → R = true := fun h => by rw [HRR.out]; exact badB_yes hll h
      obtain ⟨⟨xn, xb⟩, hx⟩ : ∃ x, x = l[k] := ⟨_, rfl⟩
      rw [← hx] at hP hW hgo hst
      simp only at hW
      have c0 := hP.c0
      have c1 := hP.c1
      obtain ⟨m, hm⟩ : ∃ m, m = xb.length := ⟨_, rfl⟩
      simp only at c0 c1
      rw [← hm] at c1 hW
      have HB := Lib.hid hB
      have Hgo := Lib.hid hgo
      have Hst := Lib.hid hst
      by_cases h0 : xn < 0
      · have hf := Lib.hid (hst (by rw [hW, decide_eq_true h0]; rfl))
        clear hP hW hgo hst hx hm hB
        go_wp2_with fail
        refine region_inb (by kernel_rfl) (by kernel_rfl) ?_
        have inbNe := InB.some
        have inbW := @wrap_small
        have inbU := IntKind.wrap_u8'
        repeat (refine wpQuiet_step (fun K hK => ?_); go_simp; first | (refine hK _ ?_; clear hK K) | (apply Exists.intro; refine ⟨?_, hK _ ?_⟩; (· (intro w' hw'; first | fail | (have hcw := hw'.cell; go_simp; exact rfl))); clear hK K))
        refine wpQuiet_nil ?_
        intro wq hq
        clear inbNe inbW inbU
        go_wp2
        go_ret
        exact ⟨by rw [hf.out]; rfl, bt bel hq.below⟩
      by_cases h1 : q ≤ xn
      · have hf := Lib.hid (hst (by rw [hW, decide_eq_true h1]; simp))
        clear hP hW hgo hst hx hm hB
        go_wp2_with fail
        refine region_inb (by kernel_rfl) (by kernel_rfl) ?_
        have inbNe := InB.some
        have inbW := @wrap_small
        have inbU := IntKind.wrap_u8'
        repeat (refine wpQuiet_step (fun K hK => ?_); go_simp; first | (refine hK _ ?_; clear hK K) | (apply Exists.intro; refine ⟨?_, hK _ ?_⟩; (· (intro w' hw'; first | (go_at_call 22; refine (HPg.out _).mono ?_; rintro e w1 ⟨rfl, b1⟩; exact ⟨rfl, hw'.on b1⟩) | (have hcw := hw'.cell; go_simp; exact rfl))); clear hK K))
        refine wpQuiet_nil ?_
        intro wq hq
        clear inbNe inbW inbU
        go_wp2
        go_ret
        exact ⟨by rw [hf.out]; rfl, bt bel hq.below⟩
      by_cases h2 : 473 < m
      · have hf := Lib.hid (hst (by rw [hW, decide_eq_true h2]; simp))
        have t2 : (473 : Int) < (m : Int) := by omega
        clear hP hW hgo hst hx hm hB h2
        go_wp2_with fail
        refine region_inb (by kernel_rfl) (by kernel_rfl) ?_
        have inbNe := InB.some
        have inbW := @wrap_small
        have inbU := IntKind.wrap_u8'
        repeat (refine wpQuiet_step (fun K hK => ?_); go_simp; first | (refine hK _ ?_; clear hK K) | (apply Exists.intro; refine ⟨?_, hK _ ?_⟩; (· (intro w' hw'; first | (go_at_call 22; refine (HPg.out _).mono ?_; rintro e w1 ⟨rfl, b1⟩; exact ⟨rfl, hw'.on b1⟩) | (have hcw := hw'.cell; go_simp; exact rfl))); clear hK K))
        refine wpQuiet_nil ?_
        intro wq hq
        clear inbNe inbW inbU
        go_wp2
        go_ret
        exact ⟨by rw [hf.out]; rfl, bt bel hq.below⟩
      · have hf := Lib.hid (hgo (by rw [hW, decide_eq_false h0, decide_eq_false h1, decide_eq_false h2]; rfl))
        have t2 : ¬ (473 : Int) < (m : Int) := by omega
        clear hP hW hgo hst hx hm hB h2
        go_wp2_with fail
        refine region_inb (by kernel_rfl) (by kernel_rfl) ?_
        have inbNe := InB.some
        have inbW := @wrap_small
        have inbU := IntKind.wrap_u8'
        repeat (refine wpQuiet_step (fun K hK => ?_); go_simp; first | (refine hK _ ?_; clear hK K) | (apply Exists.intro; refine ⟨?_, hK _ ?_⟩; (· (intro w' hw'; first | (go_at_call 22; refine (HPg.out _).mono ?_; rintro e w1 ⟨rfl, b1⟩; exact ⟨rfl, hw'.on b1⟩) | (have hcw := hw'.cell; go_simp; exact rfl))); clear hK K))
        refine wpQuiet_nil ?_
        intro wq hq
        clear inbNe inbW inbU
        go_wp2
        case roundEnd => exact ⟨⟨k + 1, by omega, by go_num, bt bel hq.below, HB.out.on hq.below, Lib.hid hf.out⟩, by simp only [intOf]; omega⟩
    · have hkm : k = N := by omega
      have hkn : ¬ (k : Int) < (N : Int) := by omega
      have Hk := Lib.hid hkm
      clear hkm
      go_wp2
      go_ret
      have hf : R = false := by
        rw [HRR.out]
        exact badB_no (fun j hj => hid.out j hj (by have := Hk.out; have := HN.out; omega))
      exact ⟨by rw [hf]; rfl, bel⟩
end Go.Proofs.YtchcmklelmlbgaaGreat.Wal

/- The log: the document's comparisons. No statement is proved here. -/
namespace Go.Proofs.YtchcmklelmlbgaaGreat.Wal
open Go.RowKit
set_option linter.unusedVariables false
set_option maxRecDepth 100000
attribute [local irreducible] wpQuiet
theorem take_all_eq {α : Type} {a b : List α} (hl : a.length = b.length) (h : a.take a.length = b.take a.length) : a = b := by
  rw [List.take_length, hl, List.take_length] at h; exact h
end Go.Proofs.YtchcmklelmlbgaaGreat.Wal

/- How a sector (a struct of five fields, one of them a slice of bytes) comes in as an argument. -/
namespace Go.Proofs.YtchcmklelmlbgaaGreat
open Go.ChangeShapes Go.WideShapes Go.ChangeAt Go.RowKit Go.Joins Go.Deep
set_option maxRecDepth 100000
set_option linter.unusedVariables false
theorem array5 {α : Type} {cs : Array α} (h : cs.size = 5) : ∃ c0 c1 c2 c3 c4, cs = #[c0, c1, c2, c3, c4] := by
  obtain ⟨l⟩ := cs
  match l, h with
  | [c0, c1, c2, c3, c4], _ => exact ⟨c0, c1, c2, c3, c4, rfl⟩
theorem open_agg5 {H : Type} {enc : TypeId × Value → H} {P : Program} {w : World} {base : Nat} {spare : Nat → Bool} {held : Bool} {r : Reach} {b0 : Nat} {t : TypeId} {f0 f1 f2 f3 f4 : Field} {v : Value} {d : DataW H} {p : List MemPlace}
    (hs : P.underlying t = some (.struct #[f0, f1, f2, f3, f4])) (hone : oneCellFields P #[f0, f1, f2, f3, f4] = true) (hC : P.cellsOf t = 5)
    (hv : Value.okWide P w r b0 t v) (h : DataW.Trod enc P w base spare held t v d p) :
    ∃ (v0 v1 v2 v3 v4 : Value) (y0 y1 y2 y3 y4 : DataW H × List MemPlace) (n : Nat), v = .agg #[v0, v1, v2, v3, v4] ∧
      DataW.trod enc P w base spare held n f0.type [v0] = some y0 ∧ DataW.trod enc P w base spare held n f1.type [v1] = some y1 ∧ DataW.trod enc P w base spare held n f2.type [v2] = some y2 ∧ DataW.trod enc P w base spare held n f3.type [v3] = some y3 ∧ DataW.trod enc P w base spare held n f4.type [v4] = some y4 := by
  obtain ⟨cs, rfl, hsz⟩ := okWide_struct hs hv
  obtain ⟨c0, c1, c2, c3, c4, rfl⟩ := array5 (hsz.trans hC)
  obtain ⟨fuel, hf⟩ := h
  obtain ⟨ys, n, _, hx, hl, hlen, hf⟩ := DataW.trod_struct hs hf
  obtain ⟨o0, k0⟩ := hone_of hone 0 f0 rfl
  obtain ⟨o1, k1⟩ := hone_of hone 1 f1 rfl
  obtain ⟨o2, k2⟩ := hone_of hone 2 f2 rfl
  obtain ⟨o3, k3⟩ := hone_of hone 3 f3 rfl
  obtain ⟨o4, k4⟩ := hone_of hone 4 f4 rfl
  match ys, hlen with
  | [y0, y1, y2, y3, y4], _ =>
    have e0 := hf 0 f0 rfl
    have e1 := hf 1 f1 rfl
    have e2 := hf 2 f2 rfl
    have e3 := hf 3 f3 rfl
    have e4 := hf 4 f4 rfl
    exact ⟨c0, c1, c2, c3, c4, y0, y1, y2, y3, y4, n, rfl, by simpa [Value.cells, o0, k0] using e0, by simpa [Value.cells, o1, k1] using e1, by simpa [Value.cells, o2, k2] using e2, by simpa [Value.cells, o3, k3] using e3, by simpa [Value.cells, o4, k4] using e4⟩













end Go.Proofs.YtchcmklelmlbgaaGreat

/- Rows of sectors ([]Sector): how they read, and how they come in as an argument. -/
namespace Go.Proofs.YtchcmklelmlbgaaGreat
open Go.RowKit
set_option linter.unusedVariables false
/-- a sector in five cells -/
structure SecAt (w : World) (B b o : Nat) (x : Sec.X) (Ai : Option Addr) (ci : Nat) : Prop where
  c0 : w.cell? ⟨b, o, none⟩ = some (.int .i64 x.kind)
  c1 : w.cell? ⟨b, o + 1, none⟩ = some (.int .u64 (x.life.toNat : Int))
  c2 : w.cell? ⟨b, o + 2, none⟩ = some (.int .i64 x.seq)
  c3 : w.cell? ⟨b, o + 3, none⟩ = some (.int .u64 (x.gen.toNat : Int))
  c4 : w.cell? ⟨b, o + 4, none⟩ = some (.slice Ai x.body.length ci)
  rd : Rd w B Ai (x.body.map e8)
  cap : x.body.length ≤ ci
  max : ci ≤ maxLen
/-- a slice of sectors -/
def Secs (w : World) (B : Nat) (A : Option Addr) (l : List Sec.X) : Prop :=
  l ≠ [] → ∃ b off, A = some ⟨b, off, none⟩ ∧ b < B ∧ ∀ i (h : i < l.length), ∃ Ai ci, SecAt w B b (off + i * 5) l[i] Ai ci
theorem Secs.get {w : World} {B : Nat} {A : Option Addr} {l : List Sec.X} (h : Secs w B A l) {i : Nat} (hi : i < l.length) :
    ∃ b off Ai ci, A = some ⟨b, off, none⟩ ∧ b < B ∧ SecAt w B b (off + i * 5) l[i] Ai ci := by
  obtain ⟨b, off, rfl, hb, hc⟩ := h (by intro e; rw [e] at hi; exact absurd hi (by simp))
  obtain ⟨Ai, ci, h1⟩ := hc i hi
  exact ⟨b, off, Ai, ci, rfl, hb, h1⟩
theorem SecAt.below {w w' : World} {B b o : Nat} {x : Sec.X} {Ai : Option Addr} {ci : Nat} (h : SecAt w B b o x Ai ci) (hb : Below B w w') (hlt : b < B) : SecAt w' B b o x Ai ci :=
  ⟨(hb.cell (p := ⟨b, _, none⟩) hlt).trans h.c0, (hb.cell (p := ⟨b, _, none⟩) hlt).trans h.c1, (hb.cell (p := ⟨b, _, none⟩) hlt).trans h.c2, (hb.cell (p := ⟨b, _, none⟩) hlt).trans h.c3, (hb.cell (p := ⟨b, _, none⟩) hlt).trans h.c4, h.rd.below hb, h.cap, h.max⟩
theorem Secs.below {w w' : World} {B : Nat} {A : Option Addr} {l : List Sec.X} (h : Secs w B A l) (hb : Below B w w') : Secs w' B A l := by
  intro hne
  obtain ⟨b, off, rfl, hlt, hc⟩ := h hne
  refine ⟨b, off, rfl, hlt, fun i hi => ?_⟩
  obtain ⟨Ai, ci, h1⟩ := hc i hi
  exact ⟨Ai, ci, h1.below hb hlt⟩
open Go.ChangeShapes Go.WideShapes Go.ChangeAt Go.Joins Go.Deep
set_option maxRecDepth 100000
end Go.Proofs.YtchcmklelmlbgaaGreat

/- The log: what the document scans, and the laws' turning of transactions. No statement is proved here. -/
namespace Go.Proofs.YtchcmklelmlbgaaGreat.Wal
open Go.RowKit
open Go.Proofs.YtchcmklelmlbgaaGreat.Sec (X X0)
set_option linter.unusedVariables false
set_option maxRecDepth 100000
attribute [local irreducible] wpQuiet
/-- a page whose bytes lie below -/
structure PfOk (w : World) (n : Nat) (p : Pr) : Prop where
  rd : RdQ w (fun j => j < n) p.A (p.body.map e8)
  cap : p.body.length ≤ p.c
  max : p.c ≤ maxLen
  lo : 0 ≤ p.n
  hi : p.n ≤ 1000000
theorem PfOk.keep {w w' : World} {n : Nat} {p : Pr} (h : PfOk w n p) (hk : ∀ j, j < n → j < w.heap.size → w'.heap[j]? = w.heap[j]?) (hs : w.heap.size ≤ w'.heap.size) : PfOk w' n p :=
  ⟨fun hne => by obtain ⟨b, off, e, hb, hq, hc⟩ := h.rd hne; exact ⟨b, off, e, by omega, hq, fun i hi => (World.cell?_of_block (hk b hq hb)).trans (hc i hi)⟩, h.cap, h.max, h.lo, h.hi⟩
structure TfOk (w : World) (n0 n : Nat) (now : Option Nat) (t : Tr) : Prop where
  row : w.ownsRow n0 53 2 t.sl t.ps.length (t.ps.flatMap Pr.cells)
  ne : ∀ g, t.sl.ownBlock = some g → now ≠ some g
  pages : ∀ p ∈ t.ps, PfOk w n p
theorem TfOk.keep {w w' : World} {n0 n : Nat} {now now' : Option Nat} {t : Tr} (h : TfOk w n0 n now t) (hu : ∀ j, j < n → j < w.heap.size → w'.heap[j]? = w.heap[j]?) (hs : w.heap.size ≤ w'.heap.size)
    (hp : ∀ (j : Nat) (cs : Array Value), now ≠ some j → n0 ≤ j → w.heap[j]? = some (Obj.cells cs 53 (0, 0)) → w'.heap[j]? = w.heap[j]?) (hn : ∀ g, t.sl.ownBlock = some g → now' ≠ some g) : TfOk w' n0 n now' t :=
  ⟨own_keep h.row (fun j cs e hb hh => hp j cs (h.ne j e) hb hh), hn, fun p hpm => (h.pages p hpm).keep hu hs⟩
end Go.Proofs.YtchcmklelmlbgaaGreat.Wal

/- The log: what the document scans. No statement is proved here. -/
namespace Go.Proofs.YtchcmklelmlbgaaGreat.Wal
open Go.RowKit
open Go.Proofs.YtchcmklelmlbgaaGreat.Sec (X X0)
set_option linter.unusedVariables false
set_option maxRecDepth 100000
attribute [local irreducible] wpQuiet
def goodR (life : UInt64) (l : List X) (k : Nat) : Bool := decide ((l.getD k X0).life = life) && decide ((l.getD k X0).seq = (k : Int))
/-- what the document scans -/
def rscanF (np : Int) (life : UInt64) (l : List X) : List Tx := (scanH np (fun k => l.getD k X0) (goodR life l) l.length 0 r00).all
/-- transactions come back -/
def RetTx (w : World) (R : List Tx) (e : Ending) (w' : World) : Prop := (∃ A c, e = .returned (.slice A R.length c) ∧ Txs w' (fun _ => True) A R ∧ R.length ≤ c ∧ c ≤ maxLen) ∧ Below w.heap.size w w'
theorem five5q {w : World} {g : Nat} {v0 v1 v2 v3 v4 : Value} (h : Blk w g [v0, v1, v2, v3, v4]) : w.cell? ⟨g, 0, none⟩ = some v0 ∧ w.cell? ⟨g, 1, none⟩ = some v1 ∧ w.cell? ⟨g, 2, none⟩ = some v2 ∧ w.cell? ⟨g, 3, none⟩ = some v3 ∧ w.cell? ⟨g, 4, none⟩ = some v4 :=
  ⟨h.cell (k := 0) (by simp), h.cell (k := 1) (by simp), h.cell (k := 2) (by simp), h.cell (k := 3) (by simp), h.cell (k := 4) (by simp)⟩
theorem two2q {w : World} {g : Nat} {v0 v1 : Value} (h : Blk w g [v0, v1]) : w.cell? ⟨g, 0, none⟩ = some v0 ∧ w.cell? ⟨g, 1, none⟩ = some v1 := ⟨h.cell (k := 0) (by simp), h.cell (k := 1) (by simp)⟩
end Go.Proofs.YtchcmklelmlbgaaGreat.Wal

/- The laws of the log: why a transaction is not appended; the document's sectors of one. No statement is proved here. -/
namespace Go.Proofs.YtchcmklelmlbgaaGreat.Wal
open Go.RowKit
open Go.Proofs.YtchcmklelmlbgaaGreat.Geom
open Go.Proofs.YtchcmklelmlbgaaGreat.Sup (Gb gv gcell gthree)
open Go.Proofs.YtchcmklelmlbgaaGreat.Num (putL putL_len)
open Go.Proofs.YtchcmklelmlbgaaGreat.Sec (X)
set_option linter.unusedVariables false
set_option maxRecDepth 100000
attribute [local irreducible] wpQuiet
/-- why a transaction is not appended -/
def whyF (ga gd gl : Int) (seq : Nat) (l : List Pg) : Int := if badB ga gd gl l = true then 2 else if fitsB ga gd gl l.length = false then 6 else if gl - (seq : Int) ≤ (l.length : Int) then 5 else 0
end Go.Proofs.YtchcmklelmlbgaaGreat.Wal
