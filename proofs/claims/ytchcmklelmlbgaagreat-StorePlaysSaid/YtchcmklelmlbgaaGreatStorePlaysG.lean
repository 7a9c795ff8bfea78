/- Texts of this claim, joined: StPlainQ, StCrashQ, StCrash2Q, StCrash3Q, StCrash4Q, WalRefQ, WalRfQ, WalRf2Q, WalRf4Q, StoFQ, Sto1Q, Sto2Q, Sto6Q, Sto7Q, Sto3Q, Sto4Q, Sto5Q, Sto8Q, SupL2Q, SnapRdQ, SnapL2Q, WalCallsQ, WalL2Q, Sto9Q, Sto10Q. -/
import Derived.Test.YtchcmklelmlbgaaGreatStorePlaysF
import Derived.Test.YtchcmklelmlbgaaGreatStorePlaysA
import Derived.Deep.RegionLaw
import Derived.Test.YtchcmklelmlbgaaGreatRows
import Derived.Outline
import Derived.Test.YtchcmklelmlbgaaGreatStorePlaysD
import Derived.Deep.RegionHeld3
import Derived.Deep.RegionWith
import Derived.Deep.DeepCutAuto
/- The store, in plain Lean: what its disk has while the power is there. No statement is proved here. -/
namespace Go.Proofs.YtchcmklelmlbgaaGreat.Sto
open Go.RowKit
open Go.Proofs.YtchcmklelmlbgaaGreat.Geom
open Go.Proofs.YtchcmklelmlbgaaGreat.Disk (St Wr write flush kept new zero512)
open Go.Proofs.YtchcmklelmlbgaaGreat.Sec (X X0 text rightF sumAfter)
open Go.Proofs.YtchcmklelmlbgaaGreat.Sup (UpN splace splace_ok splace_next sx sx_right sB sB_len sB_good sL wf atR best best_first best_later SV)
open Go.Proofs.YtchcmklelmlbgaaGreat.Snap (PagesOk px snapF snapR snapR_some rdAt_good area_eq area_inj area_apart)
open Go.Proofs.YtchcmklelmlbgaaGreat.Wal (Tx Lives allSecs allSecs_at allSecs_snoc tSecs tSecs_len tSecs_at pl pl_eq pl_inj pl_bd badB badB_of putF PutT putF_turn scanTx scan_all rdL goodL tSecs_right)
open Go.Proofs.YtchcmklelmlbgaaGreat.Enc (Enf More rd_good rd_zero kept_of)
set_option linter.unusedVariables false
/-- what a place of the log has: nothing, or a sector of an elder life -/
def Elder (sm : List (List UInt8)) (all : List Wr) (life : UInt64) (p : Int) : Prop := kept all p.toNat = zero512 ∨ ∃ y, Sup.Good sm p y (kept all p.toNat) ∧ y.life < life
/-- what the other super's place has -/
def Other (ga gd gl : Int) (sm : List (List UInt8)) (all : List Wr) (life : UInt64) : Prop := kept all (5 - splace life).toNat = zero512 ∨ ∃ (l' : UInt64) (b' : Int) (g' : UInt64), l' < life ∧ splace l' = 5 - splace life ∧ Sup.Good sm (splace l') (sx ga gd gl l' b' g') (kept all (splace l').toNat)
/-- a life may begin -/
structure PreN (ga gd gl : Int) (n : Nat) (sm : List (List UInt8)) (st : St) (life : UInt64) : Prop where
  up : UpN st n
  oth : Other ga gd gl sm st.all life
  log : ∀ p : Int, 4 ≤ p → p < 4 + gl → Elder sm st.all life p
/-- a life, and its transactions -/
structure InvN (ga gd gl : Int) (n : Nat) (sm : List (List UInt8)) (st : St) (life : UInt64) (base : Int) (gen0 : UInt64) (P0 : List (List UInt8)) (ts : List Tx) : Prop where
  up : UpN st n
  hb : 0 ≤ base ∧ base ≤ 1073741824
  pages : PagesOk ga gd gl n P0
  snap : ∀ k (hk : k < P0.length), Sup.Good sm (areaAt ga gd gl life.toNat k) (px life k P0[k]) (kept st.all (areaAt ga gd gl life.toNat k).toNat)
  sup : Sup.Good sm (splace life) (sx ga gd gl life base gen0) (kept st.all (splace life).toNat)
  oth : Other ga gd gl sm st.all life
  log : ∀ k (h : k < (allSecs life 0 ts).length), Sup.Good sm (pl ga gd gl base k) (allSecs life 0 ts)[k] (kept st.all (pl ga gd gl base k).toNat)
  rest : ∀ p : Int, 4 ≤ p → p < 4 + gl → (∃ k, k < (allSecs life 0 ts).length ∧ p = pl ga gd gl base k) ∨ Elder sm st.all life p
  len : ((allSecs life 0 ts).length : Int) ≤ gl
  bad : ∀ t ∈ ts, badB ga gd gl t.pages = false
theorem Elder.keep {sm sm' : List (List UInt8)} {all all' : List Wr} {life : UInt64} {p : Int} (h : Elder sm all life p) (m : More sm sm') (k : kept all' p.toNat = kept all p.toNat) : Elder sm' all' life p := by
  rcases h with h | ⟨y, h1, h2⟩
  · exact .inl (k.trans h)
  · exact .inr ⟨y, by rw [k]; exact m _ _ _ h1, h2⟩
theorem Other.keep {ga gd gl : Int} {sm sm' : List (List UInt8)} {all all' : List Wr} {life : UInt64} (h : Other ga gd gl sm all life) (m : More sm sm') (k : kept all' (5 - splace life).toNat = kept all (5 - splace life).toNat) : Other ga gd gl sm' all' life := by
  rcases h with h | ⟨l', b', g', h1, h2, h3⟩
  · exact .inl (k.trans h)
  · exact .inr ⟨l', b', g', h1, h2, by rw [h2, k, ← h2]; exact m _ _ _ h3⟩
theorem life_next {life : UInt64} (h : life.toNat ≠ 18446744073709551615) : life < life + 1 := by
  have h1 : (life + 1).toNat = (life.toNat + 1) % 18446744073709551616 := by simp [UInt64.toNat_add]
  have h2 : life.toNat < 18446744073709551616 := life.toNat_lt
  rw [UInt64.lt_iff_toNat_lt]; omega
/-- behind a life the next one may begin -/
theorem InvN.pre {ga gd gl : Int} {n : Nat} {sm : List (List UInt8)} {st : St} {life : UInt64} {base : Int} {gen0 : UInt64} {P0 : List (List UInt8)} {ts : List Tx} (h : InvN ga gd gl n sm st life base gen0 P0 ts) (hl : life.toNat ≠ 18446744073709551615) : PreN ga gd gl n sm st (life + 1) := by
  have hlt := life_next hl
  have hsn := splace_next life
  refine ⟨h.up, .inr ⟨life, base, gen0, hlt, by omega, h.sup⟩, fun p h0 h1 => ?_⟩
  rcases h.rest p h0 h1 with ⟨k, hk, rfl⟩ | h2 | ⟨y, h2, h3⟩
  · exact .inr ⟨_, h.log k hk, by rw [(allSecs_at life ts 0 k hk).1]; exact hlt⟩
  · exact .inl h2
  · exact .inr ⟨y, h2, by rw [UInt64.lt_iff_toNat_lt] at h3 hlt ⊢; omega⟩
/-- a life begins -/
theorem PreN.begin {ga gd gl : Int} {n : Nat} {sm : List (List UInt8)} {st : St} {life : UInt64} (h : PreN ga gd gl n sm st life) (hr : right ga gd gl = true) {P : List (List UInt8)} (hP : PagesOk ga gd gl n P) (base : Int) (gen : UInt64) (hb : 0 ≤ base ∧ base ≤ 1073741824) :
    (snapF ga gd gl life P sm st).2.2 = 0 ∧ (wf (snapF ga gd gl life P sm st).2.1 (splace life) (sB (snapF ga gd gl life P sm st).1 ga gd gl life base gen)).2 = 0 ∧
      InvN ga gd gl n (sL (snapF ga gd gl life P sm st).1 ga gd gl life base gen) (wf (snapF ga gd gl life P sm st).2.1 (splace life) (sB (snapF ga gd gl life P sm st).1 ga gd gl life base gen)).1 life base gen P [] := by
  obtain ⟨u1, u2, u3, u4, u5, _⟩ := hP.up life sm h.up
  obtain ⟨V, hV⟩ : ∃ V, V = snapF ga gd gl life P sm st := ⟨_, rfl⟩
  rw [← hV] at u1 u2 u3 u4 u5 ⊢
  have hy := right_yes hr
  have hsp := splace_ok life
  have hlz := Wal.log_size hr
  have hPl := hP.len
  have hn7 : 4 ≤ n := by have := hP.size; omega
  have hpl : ∀ k, k < P.length → 4 + gl ≤ areaAt ga gd gl life.toNat k := fun k hk => by
    rw [area_eq (by omega)]
    have hpb := pagesOf_bd ga gd gl
    have : 0 ≤ (life.toNat : Int) % 2 * pagesOf ga gd gl := Int.mul_nonneg (by omega) (by omega)
    omega
  obtain ⟨w1, w2, w3⟩ := u2.wf (p := splace life) (by omega) (by omega) (sB_len V.1 ga gd gl life base gen)
  have hm : More V.1 (sL V.1 ga gd gl life base gen) := More.after _ _
  -- what stands elsewhere
  have hk : ∀ p : Int, 0 ≤ p → p ≠ splace life → p < 4 + gl → kept (wf V.2.1 (splace life) (sB V.1 ga gd gl life base gen)).1.all p.toNat = kept st.all p.toNat := fun p h0 h1 h2 => by
    rw [w3, Sup.kept_beside _ _ (by omega)]
    exact u5 _ (fun k hk => by have := hpl k hk; omega)
  refine ⟨u1, w1, w2, hb, hP, fun k hk' => ?_, ?_, ?_, fun k hk' => absurd hk' (by simp [allSecs]), fun p h0 h1 => .inr ?_, by simp [allSecs]; omega, fun t ht => (by cases ht)⟩
  · rw [w3, Sup.kept_beside _ _ (by have := hpl k hk'; omega)]
    exact hm _ _ _ (u4 k hk')
  · rw [w3, Sup.kept_after]
    exact sB_good V.1 hb.1 hb.2
  · exact h.oth.keep (u3.trans hm) (hk _ (by omega) (by omega) (by omega))
  · exact (h.log p h0 h1).keep (u3.trans hm) (hk p (by omega) (by omega) h1)
/-- a transaction is appended -/
theorem InvN.append {ga gd gl : Int} {n : Nat} {sm : List (List UInt8)} {st : St} {life : UInt64} {base : Int} {gen0 : UInt64} {P0 : List (List UInt8)} {ts : List Tx} {t : Tx} (h : InvN ga gd gl n sm st life base gen0 P0 ts) (hr : right ga gd gl = true) (hl : ((allSecs life 0 ts).length : Int) + t.pages.length < gl) (hbd : badB ga gd gl t.pages = false) :
    (putF ga gd gl base life (allSecs life 0 ts).length t.gen t.pages sm st).2.2 = 0 ∧
      InvN ga gd gl n (putF ga gd gl base life (allSecs life 0 ts).length t.gen t.pages sm st).1 (putF ga gd gl base life (allSecs life 0 ts).length t.gen t.pages sm st).2.1 life base gen0 P0 (ts ++ [t]) := by
  have hn := h.pages.size
  have hV := putF_turn (life := life) (q := (allSecs life 0 ts).length) (t := t) (sm := sm) h.up.size h.up.pend h.up.down hr h.hb.1 hn hl hbd
  obtain ⟨V, hVe⟩ : ∃ V, V = putF ga gd gl base life (allSecs life 0 ts).length t.gen t.pages sm st := ⟨_, rfl⟩
  rw [← hVe] at hV ⊢
  rcases hV.res with ⟨_, _, h3, _⟩ | ⟨r1, r2, r3, r4, m, r5, r6, r7⟩
  · exact absurd h.up.fuse h3
  have hs := allSecs_snoc life ts 0 t
  rw [Nat.zero_add] at hs
  have htl := tSecs_len life (allSecs life 0 ts).length t
  have hlen : (allSecs life 0 (ts ++ [t])).length = (allSecs life 0 ts).length + (t.pages.length + 1) := by rw [hs, List.length_append, htl]
  have hat : ∀ k (h : k < m.length), ∃ h' : k < (tSecs life (allSecs life 0 ts).length t).length, m[k].1 = (pl ga gd gl base ((allSecs life 0 ts).length + k)).toNat := fun k h => ⟨by omega, (r7 k h (by omega)).1⟩
  have hkp : ∀ p : Int, 0 ≤ p → (∀ j, j < t.pages.length + 1 → p ≠ pl ga gd gl base ((allSecs life 0 ts).length + j)) → kept V.2.1.all p.toNat = kept st.all p.toNat := fun p h0 h1 => by
    rw [r5]
    refine Disk.kept_append _ _ _ (fun w hw he => ?_)
    obtain ⟨j, hj, rfl⟩ := List.mem_iff_getElem.1 hw
    obtain ⟨h', e⟩ := hat j hj
    have p1 := pl_bd (base := base) hr h.hb.1 hn ((allSecs life 0 ts).length + j)
    exact h1 j (by omega) (by omega)
  have hy := right_yes hr
  have hsp := splace_ok life
  have hplb : ∀ k, 4 ≤ pl ga gd gl base k ∧ pl ga gd gl base k < 4 + gl := fun k => by
    rw [pl_eq hr h.hb.1]
    have := Int.emod_nonneg (base + (k : Int)) (show gl ≠ 0 by omega)
    have := Int.emod_lt_of_pos (base + (k : Int)) (show 0 < gl by omega)
    omega
  have hPl := h.pages.len
  have hpl : ∀ k, k < P0.length → 4 + gl ≤ areaAt ga gd gl life.toNat k := fun k hk => by
    rw [area_eq (by omega)]
    have hpb := pagesOf_bd ga gd gl
    have : 0 ≤ (life.toNat : Int) % 2 * pagesOf ga gd gl := Int.mul_nonneg (by omega) (by omega)
    omega
  refine ⟨r1, ⟨hV.size, r3, r2, r4 h.up.fuse⟩, h.hb, h.pages, fun k hk => ?_, ?_, ?_, fun k hk => ?_, fun p h0 h1 => ?_, by rw [hlen]; omega, fun u hu => ?_⟩
  · rw [hkp _ (by have := hpl k hk; omega) (fun j hj => by have := hpl k hk; have := hplb ((allSecs life 0 ts).length + j); omega)]
    exact hV.more _ _ _ (h.snap k hk)
  · rw [hkp _ (by omega) (fun j hj => by have := hplb ((allSecs life 0 ts).length + j); omega)]
    exact hV.more _ _ _ h.sup
  · exact h.oth.keep hV.more (hkp _ (by omega) (fun j hj => by have := hplb ((allSecs life 0 ts).length + j); omega))
  · rw [hlen] at hk
    by_cases h1 : k < (allSecs life 0 ts).length
    · rw [hkp _ (by have := hplb k; omega) (fun j hj e => by
        have := pl_inj hr h.hb.1 (base := base) (j := k) (k := (allSecs life 0 ts).length + j) (by omega) (by omega) e
        omega)]
      have e : (allSecs life 0 (ts ++ [t]))[k]'(by rw [hlen]; omega) = (allSecs life 0 ts)[k] := by
        simp only [hs]; exact List.getElem_append_left h1
      rw [e]
      exact hV.more _ _ _ (h.log k h1)
    · have e : (allSecs life 0 (ts ++ [t]))[k]'(by rw [hlen]; omega) = (tSecs life (allSecs life 0 ts).length t)[k - (allSecs life 0 ts).length]'(by omega) := by
        simp only [hs]; exact List.getElem_append_right (by omega)
      obtain ⟨a1, a2⟩ := r7 (k - (allSecs life 0 ts).length) (by omega) (by omega)
      rw [show (allSecs life 0 ts).length + (k - (allSecs life 0 ts).length) = k by omega] at a1 a2
      rw [e, r5, ← a1, kept_of st.all m (k - (allSecs life 0 ts).length) (by omega) (fun a b ha hb' hab => ?_)]
      · exact a2
      · obtain ⟨ha', ea⟩ := hat a ha
        obtain ⟨hb'', eb⟩ := hat b hb'
        rw [ea, eb] at hab
        have p1 := hplb ((allSecs life 0 ts).length + a)
        have p2 := hplb ((allSecs life 0 ts).length + b)
        have := pl_inj hr h.hb.1 (base := base) (j := (allSecs life 0 ts).length + a) (k := (allSecs life 0 ts).length + b) (by omega) (by omega) (by omega)
        omega
  · by_cases hj : ∃ j, j < t.pages.length + 1 ∧ p = pl ga gd gl base ((allSecs life 0 ts).length + j)
    · obtain ⟨j, hj, rfl⟩ := hj
      exact .inl ⟨_, by rw [hlen]; omega, rfl⟩
    · rcases h.rest p h0 h1 with ⟨k, hk, e⟩ | h2
      · exact .inl ⟨k, by rw [hlen]; omega, e⟩
      · exact .inr (h2.keep hV.more (hkp p (by omega) (fun j hj' e => hj ⟨j, hj', e⟩)))
  · rcases List.mem_append.1 hu with hu | hu
    · exact h.bad u hu
    · rw [List.mem_singleton] at hu; rw [hu]; exact hbd
/-! what is read of it -/
theorem InvN.super {ga gd gl : Int} {n : Nat} {sm : List (List UInt8)} {st : St} {life : UInt64} {base : Int} {gen0 : UInt64} {P0 : List (List UInt8)} {ts : List Tx} (h : InvN ga gd gl n sm st life base gen0 P0 ts) (hn : 4 ≤ n) : best (best none (atR sm st ga gd gl 2)) (atR sm st ga gd gl 3) = some ⟨life, base, gen0⟩ := by
  have hsp := splace_ok life
  have a1 := h.up.at_own (by omega) h.sup
  rcases h.oth with h1 | ⟨l', b', g', h1, h2, h3⟩
  · exact best_first (f := atR sm st ga gd gl) hsp rfl a1 (h.up.at_zero (by omega) (by omega) h1)
  · have a2 := h.up.at_own (by omega) h3
    exact best_later (f := atR sm st ga gd gl) (p := splace l') (q := splace life) (splace_ok l') (by omega) a2 a1 h1
theorem InvN.read {ga gd gl : Int} {n : Nat} {sm : List (List UInt8)} {st : St} {life : UInt64} {base : Int} {gen0 : UInt64} {P0 : List (List UInt8)} {ts : List Tx} (h : InvN ga gd gl n sm st life base gen0 P0 ts) : snapR sm st ga gd gl life P0.length = some P0 :=
  (snapR_some (fun k hk => rdAt_good h.up h.pages hk (h.snap k hk))).1
theorem InvN.scan {ga gd gl : Int} {n : Nat} {sm : List (List UInt8)} {st : St} {life : UInt64} {base : Int} {gen0 : UInt64} {P0 : List (List UInt8)} {ts : List Tx} (h : InvN ga gd gl n sm st life base gen0 P0 ts) (hr : right ga gd gl = true) : scanTx sm st ga gd gl base life = ts := by
  have hy := right_yes hr
  have hp := pagesOf_bd ga gd gl
  have hn := h.pages.size
  have hrd : ∀ k (hk : k < (allSecs life 0 ts).length), rdL sm st ga gd gl base k = ((allSecs life 0 ts)[k], 0) := fun k hk => by
    have p := pl_bd (base := base) hr h.hb.1 hn k
    exact rd_good h.up p.1 p.2.1 (h.log k hk)
  have hlen := h.len
  unfold scanTx
  refine scan_all (life := life) (by omega) (by omega) (by omega) (fun t ht x hx => ?_) (fun k hk => ?_) ?_
  · obtain ⟨j, hj, rfl⟩ := List.mem_iff_getElem.1 hx
    have := badB_of (h.bad t ht) hj
    exact ⟨this.1, this.2.1⟩
  · have e := hrd k hk
    have a := allSecs_at life ts 0 k hk
    refine ⟨by rw [e], ?_⟩
    unfold goodL
    rw [e]
    simp only [a.1, a.2]
    simp
  · by_cases hN : (allSecs life 0 ts).length = gl.toNat
    · exact .inl hN
    · right
      have p := pl_bd (base := base) hr h.hb.1 hn (allSecs life 0 ts).length
      have hpe := pl_eq (base := base) hr h.hb.1 (allSecs life 0 ts).length
      have e1 := Int.emod_nonneg (base + ((allSecs life 0 ts).length : Int)) (show gl ≠ 0 by omega)
      have e2 := Int.emod_lt_of_pos (base + ((allSecs life 0 ts).length : Int)) (show 0 < gl by omega)
      rcases h.rest (pl ga gd gl base (allSecs life 0 ts).length) (by omega) (by omega) with ⟨k, hk, e⟩ | h1 | ⟨y, h1, h2⟩
      · have := pl_inj hr h.hb.1 (base := base) (by omega) (by omega) e
        omega
      · have e : rdL sm st ga gd gl base (allSecs life 0 ts).length = (X0, 7) := rd_zero h.up p.1 p.2.1 h1
        unfold goodL
        rw [e]
        simp
      · have e : rdL sm st ga gd gl base (allSecs life 0 ts).length = (y, 0) := rd_good h.up p.1 p.2.1 h1
        unfold goodL
        rw [e]
        have : ¬ y.life = life := fun e => by rw [e, UInt64.lt_iff_toNat_lt] at h2; omega
        simp [this]
/-! a log that is wiped -/
def wipeL : List Int → St → St × Int
  | [], s => (s, 0)
  | p :: r, s => if (write s p zero512).2 = 0 then wipeL r (write s p zero512).1 else write s p zero512
def wipeF (gl : Int) (s : St) : St × Int := if (wipeL ((List.range gl.toNat).map fun i : Nat => 4 + (i : Int)) s).2 = 0 then flush (wipeL ((List.range gl.toNat).map fun i : Nat => 4 + (i : Int)) s).1 else wipeL ((List.range gl.toNat).map fun i : Nat => 4 + (i : Int)) s
theorem wipeL_up {n : Nat} : ∀ (ps : List Int) (s : St), s.size = n → s.down = false → s.fuse < 0 → (∀ p ∈ ps, 0 ≤ p ∧ p < n) →
    (wipeL ps s).2 = 0 ∧ (wipeL ps s).1.size = n ∧ (wipeL ps s).1.down = false ∧ (wipeL ps s).1.fuse < 0 ∧ (wipeL ps s).1.all = s.all ∧ (wipeL ps s).1.pend = s.pend ++ ps.map fun p => (p.toNat, zero512)
  | [], s, h1, h2, h3, _ => ⟨rfl, h1, h2, h3, rfl, by simp [wipeL]⟩
  | p :: r, s, h1, h2, h3, hp => by
    obtain ⟨hp0, hp1⟩ := hp p (by simp)
    obtain ⟨w1, w2, w3, w4⟩ := Enc.write_cases h1 h2 hp0 hp1 Disk.zero512_len
    rcases w4 with ⟨_, _, w5⟩ | ⟨w4, w5, w6⟩
    · exact absurd h3 w5
    · obtain ⟨e1, e2, e3, e4, e5, e6⟩ := wipeL_up r (write s p zero512).1 w1 w5 (w6 h3) (fun q hq => hp q (by simp [hq]))
      have e : wipeL (p :: r) s = wipeL r (write s p zero512).1 := by show (if _ then _ else _) = _; rw [if_pos w4]
      rw [e]
      exact ⟨e1, e2, e3, e4, e5.trans w2, by rw [e6, w3]; simp⟩
theorem kept_zero (all : List Wr) (ps : List Int) {p : Int} (hp : p ∈ ps) (h0 : ∀ q ∈ ps, 0 ≤ q) : kept (all ++ ps.map fun p => (p.toNat, zero512)) p.toNat = zero512 := by
  have hz : ∀ (l : List Wr) (all : List Wr) (k : Nat), (∀ w ∈ l, w.2 = zero512) → (kept all k = zero512 ∨ ∃ w ∈ l, w.1 = k) → kept (all ++ l) k = zero512 := by
    intro l
    induction l with
    | nil =>
      intro all k _ h
      rcases h with h | ⟨w, hw, _⟩
      · simpa using h
      · cases hw
    | cons w l ih =>
      intro all k hw h
      have e : all ++ w :: l = (all ++ [w]) ++ l := by simp
      rw [e]
      refine ih _ _ (fun v hv => hw v (by simp [hv])) ?_
      obtain ⟨q, b⟩ := w
      have hb : b = zero512 := hw (q, b) (by simp)
      subst hb
      by_cases hq : q = k
      · subst hq; exact .inl (Sup.kept_after _ _ _)
      · rcases h with h | ⟨v, hv, e⟩
        · exact .inl ((Sup.kept_beside _ _ hq).trans h)
        · rcases List.mem_cons.1 hv with hv | hv
          · rw [hv] at e; exact absurd e hq
          · exact .inr ⟨v, hv, e⟩
  exact hz _ _ _ (fun w hw => by obtain ⟨q, _, rfl⟩ := List.mem_map.1 hw; rfl) (.inr ⟨_, List.mem_map.2 ⟨p, hp, rfl⟩, rfl⟩)
theorem wipe_up {n : Nat} {s : St} {gl : Int} (h : UpN s n) (h0 : 0 ≤ gl) (hn : 4 + gl ≤ n) : (wipeF gl s).2 = 0 ∧ UpN (wipeF gl s).1 n ∧ (∀ p : Int, 4 ≤ p → p < 4 + gl → kept (wipeF gl s).1.all p.toNat = zero512) ∧ ∀ p : Int, 0 ≤ p → (p < 4 ∨ 4 + gl ≤ p) → kept (wipeF gl s).1.all p.toNat = kept s.all p.toNat := by
  have hps : ∀ p ∈ (List.range gl.toNat).map (fun i : Nat => 4 + (i : Int)), 4 ≤ p ∧ p < 4 + gl := fun p hp => by
    obtain ⟨i, hi, rfl⟩ := List.mem_map.1 hp
    have := List.mem_range.1 hi
    omega
  obtain ⟨e1, e2, e3, e4, e5, e6⟩ := wipeL_up (n := n) ((List.range gl.toNat).map fun i : Nat => 4 + (i : Int)) s h.size h.down h.fuse (fun p hp => by have := hps p hp; omega)
  unfold wipeF
  rw [if_pos e1]
  obtain ⟨f1, f2⟩ := Enc.flush_cases e2 e3
  rcases f2 with ⟨_, _, _, _, f⟩ | ⟨f2, f3, f4, f5, f6⟩
  · exact absurd e4 f
  · have ha : (flush (wipeL ((List.range gl.toNat).map fun i : Nat => 4 + (i : Int)) s).1).1.all = s.all ++ ((List.range gl.toNat).map fun i : Nat => 4 + (i : Int)).map fun p => (p.toNat, zero512) := by rw [f4, e5, e6, h.pend, List.nil_append]
    refine ⟨f2, ⟨f1, f5, f3, f6 e4⟩, fun p h1 h2 => ?_, fun p h1 h2 => ?_⟩
    · rw [ha]
      exact kept_zero _ _ (List.mem_map.2 ⟨(p - 4).toNat, List.mem_range.2 (by omega), by omega⟩) (fun q hq => by have := hps q hq; omega)
    · rw [ha]
      refine Disk.kept_append _ _ _ (fun w hw he => ?_)
      obtain ⟨q, hq, rfl⟩ := List.mem_map.1 hw
      have := hps q hq
      simp only at he
      omega
/-- a disk that is made anew -/
theorem pre_first {ga gd gl : Int} {n : Nat} {s : St} (h : UpN s n) (hr : right ga gd gl = true) (hn : (n : Int) = Geom.sizeOf ga gd gl) (sm : List (List UInt8)) : (Sup.clr s).2 = 0 ∧ (wipeF gl (Sup.clr s).1).2 = 0 ∧ PreN ga gd gl n sm (wipeF gl (Sup.clr s).1).1 1 := by
  have hy := right_yes hr
  have hlz := Wal.log_size hr
  obtain ⟨c1, c2, c3, _⟩ := h.clr (by omega)
  obtain ⟨w1, w2, w3, w4⟩ := wipe_up (gl := gl) c2 (by omega) (by omega)
  refine ⟨c1, w1, w2, .inl ?_, fun p h0 h1 => .inl (w3 p h0 h1)⟩
  have h5 : 5 - splace (1 : UInt64) = 2 := by decide
  rw [h5, w4 2 (by omega) (by omega), c3]
  show kept (s.all ++ ([(2, zero512)] ++ [(3, zero512)])) 2 = zero512
  rw [← List.append_assoc, Sup.kept_beside _ _ (by decide), Sup.kept_after]
end Go.Proofs.YtchcmklelmlbgaaGreat.Sto

/- The store, in plain Lean: what its disk has wherever the power goes. No statement is proved here. -/
namespace Go.Proofs.YtchcmklelmlbgaaGreat.Sto
open Go.RowKit
open Go.Proofs.YtchcmklelmlbgaaGreat.Geom
open Go.Proofs.YtchcmklelmlbgaaGreat.Disk (St Wr write flush kept new zero512 restart)
open Go.Proofs.YtchcmklelmlbgaaGreat.Sec (X X0 text text_len rightF sumAfter ckS checkOf sumOf place_of)
open Go.Proofs.YtchcmklelmlbgaaGreat.Sup (UpN splace splace_ok splace_next sx sx_right sB sB_len sB_good sL wf wf_cases atR best best_first best_later SV text_inj isSup mem_after)
open Go.Proofs.YtchcmklelmlbgaaGreat.Snap (PagesOk px snapF snapR snapR_some rdAt_good area_eq area_inj area_apart next_odd)
open Go.Proofs.YtchcmklelmlbgaaGreat.Wal (Tx allSecs allSecs_at allSecs_snoc tSecs tSecs_len tSecs_at dSecs dSecs_len dSecs_get dSecs_take pl pl_eq pl_inj pl_bd badB badB_of putF PutT putF_turn scanTx scan_all rdL goodL tSecs_right LogC takes takes_all takes_data takes_append takes_fold okR_nil num num_append range_num scanH_done find_stop r00 scanH)
open Go.Proofs.YtchcmklelmlbgaaGreat.Enc (Enf More rd_good rd_zero kept_of encs enf encs_go encs_stop Itm restart_up)
set_option linter.unusedVariables false
/-! pages and transactions -/
def putP (P : List (List UInt8)) (l : List Pg) : List (List UInt8) := l.foldl (fun P x => P.set x.n.toNat x.body) P
def applyT (P : List (List UInt8)) (ts : List Tx) : List (List UInt8) := ts.foldl (fun P t => putP P t.pages) P
def genT (g : UInt64) (ts : List Tx) : UInt64 := ts.foldl (fun _ t => t.gen) g
theorem putP_len : ∀ (l : List Pg) (P : List (List UInt8)), (putP P l).length = P.length
  | [], P => rfl
  | x :: l, P => by show (putP (P.set x.n.toNat x.body) l).length = _; rw [putP_len l]; simp
theorem applyT_len : ∀ (ts : List Tx) (P : List (List UInt8)), (applyT P ts).length = P.length
  | [], P => rfl
  | t :: ts, P => by show (applyT (putP P t.pages) ts).length = _; rw [applyT_len ts, putP_len]
theorem applyT_snoc (P : List (List UInt8)) (ts : List Tx) (t : Tx) : applyT P (ts ++ [t]) = putP (applyT P ts) t.pages := by simp [applyT]
theorem genT_snoc (g : UInt64) (ts : List Tx) (t : Tx) : genT g (ts ++ [t]) = t.gen := by simp [genT]
theorem putP_ok {ga gd gl : Int} {n : Nat} : ∀ (l : List Pg) (P : List (List UInt8)), PagesOk ga gd gl n P → (∀ x ∈ l, x.body.length ≤ 479) → PagesOk ga gd gl n (putP P l)
  | [], P, h, _ => h
  | x :: l, P, h, hl => putP_ok l (P.set x.n.toNat x.body) ⟨h.size, by rw [List.length_set]; exact h.len, fun j hj => by
      rw [List.getElem_set]
      split
      · exact hl x (by simp)
      · exact h.short j (by simpa using hj)⟩ (fun y hy => hl y (by simp [hy]))
theorem bad_short {ga gd gl : Int} {l : List Pg} (h : badB ga gd gl l = false) : ∀ x ∈ l, x.body.length ≤ 473 := fun x hx => by
  obtain ⟨j, hj, rfl⟩ := List.mem_iff_getElem.1 hx
  exact (badB_of h hj).2.2
theorem bad_num {ga gd gl : Int} {l : List Pg} (h : badB ga gd gl l = false) : ∀ x ∈ l, 0 ≤ x.n ∧ x.n < pagesOf ga gd gl := fun x hx => by
  obtain ⟨j, hj, rfl⟩ := List.mem_iff_getElem.1 hx
  exact ⟨(badB_of h hj).1, (badB_of h hj).2.1⟩
theorem applyT_ok {ga gd gl : Int} {n : Nat} : ∀ (ts : List Tx) (P : List (List UInt8)), PagesOk ga gd gl n P → (∀ t ∈ ts, badB ga gd gl t.pages = false) → PagesOk ga gd gl n (applyT P ts)
  | [], P, h, _ => h
  | t :: ts, P, h, hb => applyT_ok ts (putP P t.pages) (putP_ok _ _ h (fun x hx => by have := bad_short (hb t (by simp)) x hx; omega)) (fun u hu => hb u (by simp [hu]))
/-! sums grow at their end -/
def Ext (l l' : List (List UInt8)) : Prop := ∃ e, l' = l ++ e
theorem Ext.refl (l : List (List UInt8)) : Ext l l := ⟨[], by simp⟩
theorem Ext.trans {a b c : List (List UInt8)} (h : Ext a b) (k : Ext b c) : Ext a c := by
  obtain ⟨e, rfl⟩ := h
  obtain ⟨f, rfl⟩ := k
  exact ⟨e ++ f, by simp⟩
theorem Ext.after (l : List (List UInt8)) (T : List UInt8) : Ext l (sumAfter l T) := by
  unfold sumAfter
  split
  · exact Ext.refl l
  · exact ⟨[T], rfl⟩
theorem encs_ext : ∀ (is : List Itm) (l : List (List UInt8)) (s : St), Ext l (encs is l s).1
  | [], l, s => Ext.refl l
  | i :: r, l, s => by
    by_cases h : (write s i.1 (Enc.xB l i.1 i.2)).2 = 0
    · rw [encs_go h]; exact (Ext.after _ _).trans (encs_ext r _ _)
    · rw [encs_stop h]; exact Ext.after _ _
theorem enf_ext (is : List Itm) (l : List (List UInt8)) (s : St) : Ext l (enf is l s).1 := by
  unfold enf
  split
  · exact encs_ext is l s
  · exact encs_ext is l s
theorem putF_ext (ga gd gl base : Int) (life : UInt64) (q : Nat) (gen : UInt64) (pages : List Pg) (l : List (List UInt8)) (s : St) : Ext l (putF ga gd gl base life q gen pages l s).1 := by
  unfold putF
  split
  · exact (enf_ext _ _ _).trans (enf_ext _ _ _)
  · exact enf_ext _ _ _
theorem Good.back {l l' : List (List UInt8)} {p : Int} {x : X} {b : List UInt8} (h : Sup.Good l' p x b) (e : Ext l l') (hT : text p x ∈ l) : Sup.Good l p x b := by
  obtain ⟨h1, h2, s, hs, rfl⟩ := h
  refine ⟨h1, ?_, s, hs, rfl⟩
  obtain ⟨f, rfl⟩ := e
  unfold ckS checkOf at h2 ⊢
  rw [List.take_left' (text_len p x), List.drop_left' (text_len p x)] at h2 ⊢
  rw [Bool.and_eq_true] at h2 ⊢
  refine ⟨decide_eq_true hT, ?_⟩
  have h3 := h2.2
  rw [List.idxOf_append, if_pos hT] at h3
  exact h3
theorem Good.text {l : List (List UInt8)} {p : Int} {x : X} {b : List UInt8} (h : Sup.Good l p x b) : rightF p x = 0 ∧ text p x ∈ l := Sup.dec_sound h.dec
theorem Good.uniq {l l' : List (List UInt8)} {p : Int} {x y : X} {b : List UInt8} (h : Sup.Good l p x b) (k : Sup.Good l' p y b) : x = y := by
  obtain ⟨h1, _, s, hs, rfl⟩ := h
  obtain ⟨k1, _, t, ht, e⟩ := k
  have := (List.append_inj e (by rw [text_len, text_len])).1
  exact text_inj h1 k1 this
theorem dec_good {l : List (List UInt8)} {p : Int} {b : List UInt8} {x : X} (h : Sec.decode (ckS l b) p b = (x, 0)) : Sup.Good l p x b := by
  have hs := Sup.dec_sound h
  have h0 := h
  unfold Sec.decode at h
  split at h
  · cases h
  · rename_i hl
    split at h
    · cases h
    · split at h
      · rename_i y hr
        split at h
        · rename_i hc
          injection h with h _
          subst h
          refine ⟨hs.1, hc, b.drop 504, by rw [List.length_drop]; omega, ?_⟩
          have ht : text p y = b.take 504 := by
            unfold Sec.reads at hr
            split at hr
            · rename_i hq
              injection hr with hr
              subst hr
              exact hq.2.2
            · cases hr
          rw [ht, List.take_append_drop]
        · cases h
      · cases h
end Go.Proofs.YtchcmklelmlbgaaGreat.Sto

/- The store, in plain Lean: its log and its lives wherever the power goes. No statement is proved here. -/
namespace Go.Proofs.YtchcmklelmlbgaaGreat.Sto
open Go.RowKit
open Go.Proofs.YtchcmklelmlbgaaGreat.Geom
open Go.Proofs.YtchcmklelmlbgaaGreat.Disk (St Wr write flush kept new zero512 restart)
open Go.Proofs.YtchcmklelmlbgaaGreat.Sec (X X0 text text_len rightF sumAfter ckS checkOf sumOf place_of)
open Go.Proofs.YtchcmklelmlbgaaGreat.Sup (UpN splace splace_ok splace_next sx sx_right sB sB_len sB_good sL wf wf_cases atR best best_first best_later SV text_inj isSup mem_after)
open Go.Proofs.YtchcmklelmlbgaaGreat.Snap (PagesOk px snapF snapR snapR_some rdAt_good area_eq area_inj area_apart next_odd)
open Go.Proofs.YtchcmklelmlbgaaGreat.Wal (Tx allSecs allSecs_at allSecs_snoc tSecs tSecs_len tSecs_at dSecs dSecs_len dSecs_get dSecs_take pl pl_eq pl_inj pl_bd badB badB_of putF PutT putF_turn scanTx scan_all rdL goodL tSecs_right LogC takes takes_all takes_data takes_append takes_fold okR_nil num num_append range_num scanH_done find_stop r00 scanH)
open Go.Proofs.YtchcmklelmlbgaaGreat.Enc (Enf More rd_good rd_zero kept_of encs enf encs_go encs_stop Itm restart_up)
set_option linter.unusedVariables false
/-- no sector of this kind is read at a place -/
def NoG (sm : List (List UInt8)) (all : List Wr) (p : Int) (Q : X → Prop) : Prop := ∀ y, Sup.Good sm p y (kept all p.toNat) → ¬ Q y
theorem NoG.keep {sm sm' : List (List UInt8)} {all all' : List Wr} {p : Int} {Q : X → Prop} (h : NoG sm all p Q) (e : Ext sm sm') (ht : ∀ y, rightF p y = 0 → text p y ∈ sm' → text p y ∈ sm ∨ ¬ Q y) (k : kept all' p.toNat = kept all p.toNat) : NoG sm' all' p Q := fun y hy hq => by
  rw [k] at hy
  obtain ⟨h1, h2⟩ := Good.text hy
  rcases ht y h1 h2 with h3 | h3
  · exact h y (Good.back hy e h3) hq
  · exact h3 hq
/-- the sectors that are read: those of the transactions, and perhaps pages of one more -/
def zsec (life : UInt64) (ts : List Tx) (gen : UInt64) (pgs : List Pg) : List X := allSecs life 0 ts ++ dSecs life (allSecs life 0 ts).length gen 0 pgs
theorem zsec_at (life : UInt64) (ts : List Tx) (gen : UInt64) (pgs : List Pg) (k : Nat) (h : k < (zsec life ts gen pgs).length) : (zsec life ts gen pgs)[k].life = life ∧ (zsec life ts gen pgs)[k].seq = (k : Int) := by
  have hl : (zsec life ts gen pgs).length = (allSecs life 0 ts).length + pgs.length := by simp [zsec, dSecs_len]
  have h0 : k < (allSecs life 0 ts ++ dSecs life (allSecs life 0 ts).length gen 0 pgs).length := h
  show ((allSecs life 0 ts ++ dSecs life (allSecs life 0 ts).length gen 0 pgs)[k]'h0).life = life ∧ ((allSecs life 0 ts ++ dSecs life (allSecs life 0 ts).length gen 0 pgs)[k]'h0).seq = (k : Int)
  by_cases h1 : k < (allSecs life 0 ts).length
  · rw [List.getElem_append_left h1]
    have := allSecs_at life ts 0 k h1
    rw [Nat.zero_add] at this
    exact this
  · rw [List.getElem_append_right (by omega), dSecs_get _ _ _ _ _ _ _ (by omega)]
    refine ⟨rfl, ?_⟩
    show ((((allSecs life 0 ts).length + (0 + (k - (allSecs life 0 ts).length)) : Nat) : Int)) = k
    omega
/-- what the log's places are read as -/
structure LogS (ga gd gl base : Int) (life : UInt64) (sm : List (List UInt8)) (all : List Wr) (ts : List Tx) : Prop where
  ex : ∃ (gen : UInt64) (pgs : List Pg), (∀ x ∈ pgs, 0 ≤ x.n ∧ x.n < pagesOf ga gd gl) ∧ ((zsec life ts gen pgs).length : Int) ≤ gl ∧ (∀ k (h : k < (zsec life ts gen pgs).length), Sup.Good sm (pl ga gd gl base k) (zsec life ts gen pgs)[k] (kept all (pl ga gd gl base k).toNat)) ∧
    (((zsec life ts gen pgs).length : Int) = gl ∨ NoG sm all (pl ga gd gl base (zsec life ts gen pgs).length) (fun y => y.life = life ∧ y.seq = ((zsec life ts gen pgs).length : Int)))
theorem LogS.keep {ga gd gl base : Int} {life : UInt64} {sm sm' : List (List UInt8)} {all all' : List Wr} {ts : List Tx} (h : LogS ga gd gl base life sm all ts) (e : Ext sm sm') (m : More sm sm') (ht : ∀ (k : Nat) y, (k : Int) < gl → rightF (pl ga gd gl base k) y = 0 → text (pl ga gd gl base k) y ∈ sm' → text (pl ga gd gl base k) y ∈ sm) (k : ∀ k : Nat, (k : Int) < gl → kept all' (pl ga gd gl base k).toNat = kept all (pl ga gd gl base k).toNat) : LogS ga gd gl base life sm' all' ts := by
  obtain ⟨gen, pgs, h1, h2, h3, h4⟩ := h.ex
  refine ⟨gen, pgs, h1, h2, fun j hj => by rw [k j (by omega)]; exact m _ _ _ (h3 j hj), ?_⟩
  rcases h4 with h4 | h4
  · exact .inl h4
  · by_cases hz : ((zsec life ts gen pgs).length : Int) = gl
    · exact .inl hz
    · exact .inr (h4.keep e (fun y a b => .inl (ht _ y (by omega) a b)) (k _ (by omega)))
theorem LogS.scan {ga gd gl base : Int} {n : Nat} {life : UInt64} {sm : List (List UInt8)} {st : St} {ts : List Tx} (h : LogS ga gd gl base life sm st.all ts) (hu : UpN st n) (hr : right ga gd gl = true) (hb : 0 ≤ base) (hn : (n : Int) = Geom.sizeOf ga gd gl) (hx : ∀ t ∈ ts, ∀ x ∈ t.pages, 0 ≤ x.n ∧ x.n < pagesOf ga gd gl) : scanTx sm st ga gd gl base life = ts := by
  have hy := right_yes hr
  have hp := pagesOf_bd ga gd gl
  obtain ⟨gen, pgs, h1, h2, h3, h4⟩ := h.ex
  obtain ⟨Z, hZ⟩ : ∃ Z, Z = zsec life ts gen pgs := ⟨_, rfl⟩
  have hzat := zsec_at life ts gen pgs
  rw [← hZ] at h2 h3 h4 hzat
  have hZl : Z.length = (allSecs life 0 ts).length + pgs.length := by rw [hZ]; simp [zsec, dSecs_len]
  have hrd : ∀ k (hk : k < Z.length), rdL sm st ga gd gl base k = (Z[k], 0) := fun k hk => by
    have p := pl_bd (base := base) hr hb hn k
    exact rd_good hu p.1 p.2.1 (h3 k hk)
  have hg : ∀ k, k < Z.length → goodL sm st ga gd gl base life k = true := fun k hk => by
    have a := hzat k hk
    unfold goodL
    rw [hrd k hk]
    simp only [a.1, a.2]
    simp
  have he : Z.length = gl.toNat ∨ goodL sm st ga gd gl base life Z.length = false := by
    rcases h4 with h4 | h4
    · exact .inl (by omega)
    · right
      cases hgz : goodL sm st ga gd gl base life Z.length with
      | false => rfl
      | true =>
        unfold goodL at hgz
        simp only [Bool.and_eq_true, decide_eq_true_eq] at hgz
        have p := pl_bd (base := base) hr hb hn Z.length
        have hd : Sec.decode (ckS sm (kept st.all (pl ga gd gl base Z.length).toNat)) (pl ga gd gl base Z.length) (kept st.all (pl ga gd gl base Z.length).toNat) = ((rdL sm st ga gd gl base Z.length).1, 0) := by
          have e1 := hgz.1
          unfold rdL Enc.rd at e1 ⊢
          rw [hu.read p.1 p.2.1] at e1 ⊢
          simp only [] at e1 ⊢
          generalize Sec.decode (ckS sm (kept st.all (pl ga gd gl base Z.length).toNat)) (pl ga gd gl base Z.length) (kept st.all (pl ga gd gl base Z.length).toNat) = d at e1
          obtain ⟨x, f⟩ := d
          simp only at e1
          rw [e1]
        exact absurd hgz.2 (h4 _ (dec_good hd))
  have hm := range_num (rdf := fun k => (rdL sm st ga gd gl base k).1) (S := Z) (K := Z.length) (Nat.le_refl _) (fun k hk => by rw [List.getElem?_eq_getElem hk, hrd k hk])
  rw [List.take_length] at hm
  obtain ⟨g', e⟩ := takes_all (life := life) (np := pagesOf ga gd gl) (by omega) ts 0 [] 0 (by omega) hx
  obtain ⟨g2, f1, f2⟩ := takes_data (life := life) (gen := gen) (q := (allSecs life 0 ts).length) (np := pagesOf ga gd gl) (by omega) (by omega) pgs 0 ⟨[] ++ ts, [], g', 0 + (allSecs life 0 ts).length⟩ h1 (Nat.zero_add _) (fun h => absurd rfl h)
  have e3 := takes_append (pagesOf ga gd gl) (num 0 (allSecs life 0 ts)) (num (0 + (allSecs life 0 ts).length) (dSecs life (allSecs life 0 ts).length gen 0 pgs)) _ _ e
  rw [← num_append] at e3
  rw [Nat.add_zero] at f1
  rw [show 0 + (allSecs life 0 ts).length = (allSecs life 0 ts).length from Nat.zero_add _] at e3 f1
  rw [f1] at e3
  rw [show allSecs life 0 ts ++ dSecs life (allSecs life 0 ts).length gen 0 pgs = Z from hZ.symm] at e3
  obtain ⟨e1, e2⟩ := takes_fold (pagesOf ga gd gl) _ _ [] (okR_nil _) e3
  rw [List.nil_append] at e1 e2
  unfold scanTx
  rw [scanH_done (by omega) hg (by rw [hm]; exact e1) he, hm, e2]
  simp
/-- behind an append in which the power went -/
theorem LogS.crash {ga gd gl base : Int} {n : Nat} {life : UInt64} {sm : List (List UInt8)} {st : St} {ts : List Tx} {t : Tx} (h : LogC ga gd gl base n life sm st.all (allSecs life 0 ts) (allSecs life 0 ts ++ tSecs life (allSecs life 0 ts).length t)) (hu : UpN st n) (hr : right ga gd gl = true) (hb : 0 ≤ base) (hn : (n : Int) = Geom.sizeOf ga gd gl) (hl : ((allSecs life 0 ts).length : Int) + t.pages.length < gl) (hx : ∀ x ∈ t.pages, 0 ≤ x.n ∧ x.n < pagesOf ga gd gl) :
    LogS ga gd gl base life sm st.all ts ∨ LogS ga gd gl base life sm st.all (ts ++ [t]) := by
  obtain ⟨K, hK, hg, he⟩ := find_stop (goodL sm st ga gd gl base life) gl.toNat
  have hs := allSecs_snoc life ts 0 t
  rw [Nat.zero_add] at hs
  have htl := tSecs_len life (allSecs life 0 ts).length t
  obtain ⟨S, hS⟩ : ∃ S, S = allSecs life 0 ts ++ tSecs life (allSecs life 0 ts).length t := ⟨_, rfl⟩
  rw [← hS] at h hs
  have hSl : S.length = (allSecs life 0 ts).length + (t.pages.length + 1) := by rw [hS, List.length_append, htl]
  have hrd : ∀ k : Nat, (k : Int) < gl → goodL sm st ga gd gl base life k = true → Sup.Good sm (pl ga gd gl base k) (rdL sm st ga gd gl base k).1 (kept st.all (pl ga gd gl base k).toNat) ∧ S[k]? = some (rdL sm st ga gd gl base k).1 := fun k hk hgk => by
    refine ⟨?_, h.sound hk hgk⟩
    unfold goodL at hgk
    simp only [Bool.and_eq_true, decide_eq_true_eq] at hgk
    have p := pl_bd (base := base) hr hb hn k
    apply dec_good
    have e1 := hgk.1
    unfold rdL Enc.rd at e1 ⊢
    rw [hu.read p.1 p.2.1] at e1 ⊢
    simp only [] at e1 ⊢
    generalize Sec.decode (ckS sm (kept st.all (pl ga gd gl base k).toNat)) (pl ga gd gl base k) (kept st.all (pl ga gd gl base k).toNat) = d at e1
    obtain ⟨x, f⟩ := d
    simp only at e1
    rw [e1]
  have hKS : K ≤ S.length := by
    rcases Nat.lt_or_ge S.length K with h5 | h5
    · have := (hrd S.length (by omega) (hg _ h5)).2
      rw [List.getElem?_eq_none (Nat.le_refl _)] at this; cases this
    · exact h5
  have hMK : (allSecs life 0 ts).length ≤ K := by
    rcases Nat.lt_or_ge K (allSecs life 0 ts).length with h5 | h5
    · have := h.isgood hu hr hb hn h5
      rcases he with e | e
      · omega
      · rw [this] at e; cases e
    · exact h5
  have hgood : ∀ k (hk : k < K), Sup.Good sm (pl ga gd gl base k) (S[k]'(by omega)) (kept st.all (pl ga gd gl base k).toNat) := fun k hk => by
    obtain ⟨h5, h6⟩ := hrd k (by omega) (hg k hk)
    rw [List.getElem?_eq_getElem (by omega)] at h6
    rw [Option.some.inj h6]; exact h5
  have hstop : (K : Int) = gl ∨ NoG sm st.all (pl ga gd gl base K) (fun y => y.life = life ∧ y.seq = (K : Int)) := by
    have hy := right_yes hr
    rcases he with e | e
    · exact .inl (by omega)
    · right
      intro y hy' hq
      have p := pl_bd (base := base) hr hb hn K
      have e1 : rdL sm st ga gd gl base K = (y, 0) := rd_good hu p.1 p.2.1 hy'
      unfold goodL at e
      rw [e1] at e
      simp [hq.1, hq.2] at e
  by_cases hKe : K = S.length
  · right
    have hz : zsec life (ts ++ [t]) 0 [] = S := by rw [← hs]; simp [zsec, dSecs]
    refine ⟨0, [], fun x hx => (by cases hx), ?_⟩
    rw [hz]
    subst hKe
    exact ⟨by omega, fun k hk => hgood k hk, hstop⟩
  · left
    obtain ⟨j, hj⟩ : ∃ j, K = (allSecs life 0 ts).length + j := ⟨K - (allSecs life 0 ts).length, by omega⟩
    have hjl : j ≤ t.pages.length := by omega
    have htake : zsec life ts t.gen (t.pages.take j) = S.take K := by
      have hR : (allSecs life 0 ts ++ tSecs life (allSecs life 0 ts).length t).take ((allSecs life 0 ts).length + j) = allSecs life 0 ts ++ (tSecs life (allSecs life 0 ts).length t).take j := by
        rw [List.take_append, List.take_of_length_le (by omega), Nat.add_sub_cancel_left]
      rw [hS, hj, hR]
      unfold tSecs zsec
      rw [List.take_append_of_le_length (by rw [dSecs_len]; exact hjl), dSecs_take]
    have hln : (zsec life ts t.gen (t.pages.take j)).length = K := by rw [htake, List.length_take]; omega
    refine ⟨t.gen, t.pages.take j, fun x hx' => hx x (List.mem_of_mem_take hx'), by rw [hln]; omega, fun k hk => ?_, by rw [hln]; exact hstop⟩
    have hk' : k < K := by omega
    have e : (zsec life ts t.gen (t.pages.take j))[k] = S[k]'(by omega) := by
      have : (zsec life ts t.gen (t.pages.take j))[k]? = (S.take K)[k]? := by rw [htake]
      rw [List.getElem?_eq_getElem hk, List.getElem?_take_of_lt hk', List.getElem?_eq_getElem (by omega)] at this
      exact Option.some.inj this
    rw [e]
    exact hgood k hk'
theorem LogS.of_C {ga gd gl base : Int} {n : Nat} {life : UInt64} {sm : List (List UInt8)} {all : List Wr} {ts : List Tx} (h : LogC ga gd gl base n life sm all (allSecs life 0 ts) (allSecs life 0 ts)) (hl : ((allSecs life 0 ts).length : Int) ≤ gl) : LogS ga gd gl base life sm all ts := by
  have hz : zsec life ts 0 [] = allSecs life 0 ts := by simp [zsec, dSecs]
  refine ⟨0, [], fun x hx => (by cases hx), ?_⟩
  rw [hz]
  refine ⟨hl, h.good, ?_⟩
  by_cases e : ((allSecs life 0 ts).length : Int) = gl
  · exact .inl e
  · right
    intro y hy hq
    obtain ⟨h1, h2⟩ := Good.text hy
    have := h.only (allSecs life 0 ts).length y (by omega) h1 h2 hq.1
    rw [List.getElem?_eq_none (Nat.le_refl _)] at this; cases this
end Go.Proofs.YtchcmklelmlbgaaGreat.Sto

/- The store, in plain Lean: its lives wherever the power goes. No statement is proved here. -/
namespace Go.Proofs.YtchcmklelmlbgaaGreat.Sto
open Go.RowKit
open Go.Proofs.YtchcmklelmlbgaaGreat.Geom
open Go.Proofs.YtchcmklelmlbgaaGreat.Disk (St Wr write flush kept new zero512 restart)
open Go.Proofs.YtchcmklelmlbgaaGreat.Sec (X X0 text text_len rightF sumAfter ckS checkOf sumOf place_of)
open Go.Proofs.YtchcmklelmlbgaaGreat.Sup (UpN splace splace_ok splace_next sx sx_right sB sB_len sB_good sL wf wf_cases atR best best_first best_later SV text_inj isSup mem_after)
open Go.Proofs.YtchcmklelmlbgaaGreat.Snap (PagesOk px snapF snapR snapR_some rdAt_good area_eq area_inj area_apart next_odd)
open Go.Proofs.YtchcmklelmlbgaaGreat.Wal (Tx allSecs allSecs_at allSecs_snoc tSecs tSecs_len tSecs_at pl pl_eq pl_inj pl_bd badB badB_of putF PutT putF_turn scanTx tSecs_right LogC)
open Go.Proofs.YtchcmklelmlbgaaGreat.Enc (Enf More kept_of restart_up)
set_option linter.unusedVariables false
def nextB (gl base : Int) (life : UInt64) (ts : List Tx) : Int := (base + ((allSecs life 0 ts).length : Int)) % gl
/-- a sector of the next life, as it would begin -/
def NextAt (ga gd gl : Int) (life : UInt64) (base : Int) (gen0 : UInt64) (P0 : List (List UInt8)) (ts : List Tx) (p : Int) (y : X) : Prop :=
  (∃ k, ∃ h : k < (applyT P0 ts).length, p = areaAt ga gd gl (life + 1).toNat k ∧ y = px (life + 1) k (applyT P0 ts)[k]) ∨ (p = splace (life + 1) ∧ y = sx ga gd gl (life + 1) (nextB gl base life ts) (genT gen0 ts))
/-- a life on a disk, whatever stands of the next one -/
structure KB (ga gd gl : Int) (n : Nat) (sm : List (List UInt8)) (all : List Wr) (life : UInt64) (base : Int) (gen0 : UInt64) (P0 : List (List UInt8)) (ts : List Tx) : Prop where
  hb : 0 ≤ base ∧ base ≤ 1073741824
  pages : PagesOk ga gd gl n P0
  snap : ∀ k (hk : k < P0.length), Sup.Good sm (areaAt ga gd gl life.toNat k) (px life k P0[k]) (kept all (areaAt ga gd gl life.toNat k).toNat)
  sup : Sup.Good sm (splace life) (sx ga gd gl life base gen0) (kept all (splace life).toNat)
  log : LogS ga gd gl base life sm all ts
  len : ((allSecs life 0 ts).length : Int) ≤ gl
  bad : ∀ t ∈ ts, badB ga gd gl t.pages = false
  texts : ∀ (p : Int) (y : X), rightF p y = 0 → text p y ∈ sm → y.life.toNat ≤ life.toNat ∨ (y.life = life + 1 ∧ NextAt ga gd gl life base gen0 P0 ts p y)
/-- it counts -/
structure KC (ga gd gl : Int) (n : Nat) (sm : List (List UInt8)) (all : List Wr) (life : UInt64) (base : Int) (gen0 : UInt64) (P0 : List (List UInt8)) (ts : List Tx) : Prop where
  kb : KB ga gd gl n sm all life base gen0 P0 ts
  oth : NoG sm all (5 - splace life) (fun y => y.kind = 2 ∧ splace y.life = 5 - splace life ∧ ¬ y.life < life)
/-- its store may be turned -/
structure KA (ga gd gl : Int) (n : Nat) (sm : List (List UInt8)) (st : St) (life : UInt64) (base : Int) (gen0 : UInt64) (P0 : List (List UInt8)) (ts : List Tx) : Prop where
  kc : KC ga gd gl n sm st.all life base gen0 P0 ts
  size : st.size = n
  pend : st.pend = []
  down : st.down = false
  logc : LogC ga gd gl base n life sm st.all (allSecs life 0 ts) (allSecs life 0 ts)
  nonext : ∀ (p : Int) (y : X), rightF p y = 0 → text p y ∈ sm → y.life.toNat ≤ life.toNat
theorem pl_log {ga gd gl base : Int} (hr : right ga gd gl = true) (hb : 0 ≤ base) (k : Nat) : 4 ≤ pl ga gd gl base k ∧ pl ga gd gl base k < 4 + gl := by
  have hy := right_yes hr
  rw [pl_eq hr hb]
  have := Int.emod_nonneg (base + (k : Int)) (show gl ≠ 0 by omega)
  have := Int.emod_lt_of_pos (base + (k : Int)) (show 0 < gl by omega)
  omega
theorem area_high {ga gd gl : Int} {m k : Nat} (h : (k : Int) < pagesOf ga gd gl) : 4 + gl ≤ areaAt ga gd gl m k := by
  rw [area_eq h]
  have : 0 ≤ (m : Int) % 2 * pagesOf ga gd gl := Int.mul_nonneg (by omega) (by omega)
  omega
theorem NextAt.place {ga gd gl : Int} {n : Nat} {life : UInt64} {base : Int} {gen0 : UInt64} {P0 : List (List UInt8)} {ts : List Tx} {p : Int} {y : X} (h : NextAt ga gd gl life base gen0 P0 ts p y) (hP : PagesOk ga gd gl n P0) : p = splace (life + 1) ∨ 4 + gl ≤ p := by
  rcases h with ⟨k, hk, e, _⟩ | ⟨e, _⟩
  · right
    rw [applyT_len] at hk
    rw [e]
    exact area_high (by have := hP.len; omega)
  · exact .inl e
theorem life1 {life : UInt64} (h : life.toNat ≠ 18446744073709551615) : (life + 1).toNat = life.toNat + 1 := by
  have h1 : (life + 1).toNat = (life.toNat + 1) % 18446744073709551616 := by simp [UInt64.toNat_add]
  have h2 : life.toNat < 18446744073709551616 := life.toNat_lt
  omega
/-- elsewhere something is written -/
theorem KB.keep {ga gd gl : Int} {n : Nat} {sm sm' : List (List UInt8)} {all all' : List Wr} {life : UInt64} {base : Int} {gen0 : UInt64} {P0 : List (List UInt8)} {ts : List Tx} (h : KB ga gd gl n sm all life base gen0 P0 ts) (hr : right ga gd gl = true) (e : Ext sm sm') (m : More sm sm')
    (hs : ∀ k, k < P0.length → kept all' (areaAt ga gd gl life.toNat k).toNat = kept all (areaAt ga gd gl life.toNat k).toNat) (hp : kept all' (splace life).toNat = kept all (splace life).toNat) (hl : ∀ p : Int, 4 ≤ p → p < 4 + gl → kept all' p.toNat = kept all p.toNat)
    (ht : ∀ (p : Int) (y : X), rightF p y = 0 → text p y ∈ sm' → text p y ∈ sm ∨ (y.life = life + 1 ∧ NextAt ga gd gl life base gen0 P0 ts p y)) : KB ga gd gl n sm' all' life base gen0 P0 ts := by
  refine ⟨h.hb, h.pages, fun k hk => by rw [hs k hk]; exact m _ _ _ (h.snap k hk), by rw [hp]; exact m _ _ _ h.sup, h.log.keep e m (fun k y hk hy hT => ?_) (fun k hk => ?_), h.len, h.bad, fun p y hy hT => ?_⟩
  · rcases ht _ y hy hT with h1 | ⟨_, h1⟩
    · exact h1
    · have := pl_log (k := k) hr h.hb.1
      have := h1.place h.pages
      have := splace_ok (life + 1)
      omega
  · have := pl_log (k := k) hr h.hb.1
    exact hl _ this.1 this.2
  · rcases ht p y hy hT with h1 | h1
    · exact h.texts p y hy h1
    · exact .inr h1
/-- the next life has come to be -/
theorem KB.next {ga gd gl : Int} {n : Nat} {sm : List (List UInt8)} {all : List Wr} {life : UInt64} {base : Int} {gen0 : UInt64} {P0 : List (List UInt8)} {ts : List Tx} (h : KB ga gd gl n sm all life base gen0 P0 ts) (hr : right ga gd gl = true) (hL : life.toNat ≠ 18446744073709551615)
    (hg : ∀ k (hk : k < (applyT P0 ts).length), Sup.Good sm (areaAt ga gd gl (life + 1).toNat k) (px (life + 1) k (applyT P0 ts)[k]) (kept all (areaAt ga gd gl (life + 1).toNat k).toNat))
    (hs : Sup.Good sm (splace (life + 1)) (sx ga gd gl (life + 1) (nextB gl base life ts) (genT gen0 ts)) (kept all (splace (life + 1)).toNat)) :
    KC ga gd gl n sm all (life + 1) (nextB gl base life ts) (genT gen0 ts) (applyT P0 ts) [] ∧ LogC ga gd gl (nextB gl base life ts) n (life + 1) sm all [] [] ∧ ∀ (p : Int) (y : X), rightF p y = 0 → text p y ∈ sm → y.life.toNat ≤ (life + 1).toNat := by
  have hy := right_yes hr
  have hl1 := life1 hL
  have hnb : 0 ≤ nextB gl base life ts ∧ nextB gl base life ts ≤ 1073741824 := by
    unfold nextB
    have := Int.emod_nonneg (base + ((allSecs life 0 ts).length : Int)) (show gl ≠ 0 by omega)
    have := Int.emod_lt_of_pos (base + ((allSecs life 0 ts).length : Int)) (show 0 < gl by omega)
    omega
  have hall : ∀ (p : Int) (y : X), rightF p y = 0 → text p y ∈ sm → y.life.toNat ≤ (life + 1).toNat := fun p y h1 h2 => by
    rcases h.texts p y h1 h2 with h3 | ⟨h3, _⟩
    · omega
    · rw [h3]; exact Nat.le_refl _
  have hlc : LogC ga gd gl (nextB gl base life ts) n (life + 1) sm all [] [] := ⟨fun k hk => absurd hk (by simp), fun k x hk h1 h2 h3 => by
    rcases h.texts _ x h1 h2 with h4 | ⟨_, h4⟩
    · rw [h3] at h4; omega
    · have := pl_log (k := k) hr hnb.1
      have := h4.place h.pages
      have := splace_ok (life + 1)
      omega⟩
  refine ⟨⟨⟨hnb, applyT_ok _ _ h.pages h.bad, hg, hs, LogS.of_C (n := n) (by simpa [allSecs] using hlc) (by simp [allSecs]; omega), by simp [allSecs]; omega, fun t ht => (by cases ht), fun p y h1 h2 => .inl (hall p y h1 h2)⟩, fun y hy' hq => ?_⟩, hlc, hall⟩
  have hsn := splace_next life
  have e1 : 5 - splace (life + 1) = splace life := by omega
  rw [e1] at hy'
  have e2 := Good.uniq hy' h.sup
  refine hq.2.2 ?_
  rw [e2]
  exact life_next hL
end Go.Proofs.YtchcmklelmlbgaaGreat.Sto

/- The store, in plain Lean: appends, what is read, and how it begins, wherever the power goes. No statement is proved here. -/
namespace Go.Proofs.YtchcmklelmlbgaaGreat.Sto
open Go.RowKit
open Go.Proofs.YtchcmklelmlbgaaGreat.Geom
open Go.Proofs.YtchcmklelmlbgaaGreat.Disk (St Wr write flush kept new zero512 restart)
open Go.Proofs.YtchcmklelmlbgaaGreat.Sec (X X0 text text_len rightF sumAfter ckS checkOf sumOf place_of)
open Go.Proofs.YtchcmklelmlbgaaGreat.Sup (UpN splace splace_ok splace_next sx sx_right sB sB_len sB_good sL wf wf_cases atR best best_first best_later SV text_inj isSup mem_after)
open Go.Proofs.YtchcmklelmlbgaaGreat.Snap (PagesOk px snapF snapR snapR_some rdAt_good area_eq area_inj area_apart next_odd)
open Go.Proofs.YtchcmklelmlbgaaGreat.Wal (Tx allSecs allSecs_at allSecs_snoc tSecs tSecs_len tSecs_at pl pl_eq pl_inj pl_bd badB badB_of putF PutT putF_turn scanTx tSecs_right LogC)
open Go.Proofs.YtchcmklelmlbgaaGreat.Enc (Enf More kept_of restart_up)
set_option linter.unusedVariables false
theorem KC.wrote {ga gd gl : Int} {n : Nat} {sm sm' : List (List UInt8)} {all all' : List Wr} {life : UInt64} {base : Int} {gen0 : UInt64} {P0 : List (List UInt8)} {ts ts' : List Tx} (h : KC ga gd gl n sm all life base gen0 P0 ts) (hr : right ga gd gl = true) (e : Ext sm sm') (m : More sm sm') (hk : ∀ p : Int, 0 ≤ p → (p < 4 ∨ 4 + gl ≤ p) → kept all' p.toNat = kept all p.toNat)
    (ht : ∀ (p : Int) (y : X), rightF p y = 0 → text p y ∈ sm' → text p y ∈ sm ∨ (4 ≤ p ∧ p < 4 + gl)) (hn : ∀ (p : Int) (y : X), rightF p y = 0 → text p y ∈ sm' → y.life.toNat ≤ life.toNat) (hlog : LogS ga gd gl base life sm' all' ts') (hlen : ((allSecs life 0 ts').length : Int) ≤ gl) (hbad : ∀ t ∈ ts', badB ga gd gl t.pages = false) : KC ga gd gl n sm' all' life base gen0 P0 ts' := by
  have hsp := splace_ok life
  have hpl := h.kb.pages.len
  refine ⟨⟨h.kb.hb, h.kb.pages, fun k hk' => ?_, ?_, hlog, hlen, hbad, fun p y h1 h2 => .inl (hn p y h1 h2)⟩, ?_⟩
  · rw [hk _ (h.kb.pages.place life hk').1 (.inr (area_high (by omega)))]
    exact m _ _ _ (h.kb.snap k hk')
  · rw [hk _ (by omega) (.inl (by omega))]
    exact m _ _ _ h.kb.sup
  · refine h.oth.keep e (fun y h1 h2 => ?_) (hk _ (by omega) (.inl (by omega)))
    rcases ht _ y h1 h2 with h3 | h3
    · exact .inl h3
    · omega
/-- a transaction is appended, or the power goes in it -/
theorem KA.append {ga gd gl : Int} {n : Nat} {sm : List (List UInt8)} {st : St} {life : UInt64} {base : Int} {gen0 : UInt64} {P0 : List (List UInt8)} {ts : List Tx} {t : Tx} (h : KA ga gd gl n sm st life base gen0 P0 ts) (hr : right ga gd gl = true) (hl : ((allSecs life 0 ts).length : Int) + t.pages.length < gl) (hbd : badB ga gd gl t.pages = false) {V : List (List UInt8) × St × Int} (hV : V = putF ga gd gl base life (allSecs life 0 ts).length t.gen t.pages sm st) :
    (V.2.2 = 0 ∧ KA ga gd gl n V.1 V.2.1 life base gen0 P0 (ts ++ [t])) ∨
      (V.2.2 = 12 ∧ V.2.1.down = true ∧ ∀ keep torn a, UpN (restart V.2.1 keep torn a) n ∧ (KC ga gd gl n V.1 (restart V.2.1 keep torn a).all life base gen0 P0 ts ∨ KC ga gd gl n V.1 (restart V.2.1 keep torn a).all life base gen0 P0 (ts ++ [t]))) := by
  have hn := h.kc.kb.pages.size
  have hb := h.kc.kb.hb.1
  have hT := putF_turn (life := life) (q := (allSecs life 0 ts).length) (t := t) (sm := sm) h.size h.pend h.down hr hb hn hl hbd
  have hext : Ext sm V.1 := by rw [hV]; exact putF_ext _ _ _ _ _ _ _ _ _ _
  rw [← hV] at hT
  have hy := right_yes hr
  have hs := allSecs_snoc life ts 0 t
  rw [Nat.zero_add] at hs
  have htl := tSecs_len life (allSecs life 0 ts).length t
  have hlen : (allSecs life 0 (ts ++ [t])).length = (allSecs life 0 ts).length + (t.pages.length + 1) := by rw [hs, List.length_append, htl]
  have hbad : ∀ u ∈ ts ++ [t], badB ga gd gl u.pages = false := fun u hu => by
    rcases List.mem_append.1 hu with hu | hu
    · exact h.kc.kb.bad u hu
    · rw [List.mem_singleton] at hu; rw [hu]; exact hbd
  have htx : ∀ (p : Int) (y : X), rightF p y = 0 → text p y ∈ V.1 → text p y ∈ sm ∨ ((4 ≤ p ∧ p < 4 + gl) ∧ y.life = life) := fun p y h1 h2 => by
    rcases hT.text _ h2 with h3 | ⟨j, hj, h3⟩
    · exact .inl h3
    · have hR := tSecs_right (base := base) (life := life) hr hb hn hl hbd j hj
      have e1 := text_inj h1 hR h3
      subst e1
      have e2 := place_of h1 hR h3.symm
      have := pl_log (k := (allSecs life 0 ts).length + j) hr hb
      exact .inr ⟨by omega, (tSecs_at life _ t j hj).1⟩
  have hno : ∀ (p : Int) (y : X), rightF p y = 0 → text p y ∈ V.1 → y.life.toNat ≤ life.toNat := fun p y h1 h2 => by
    rcases htx p y h1 h2 with h3 | ⟨_, h3⟩
    · exact h.nonext p y h1 h3
    · rw [h3]; exact Nat.le_refl _
  have hkp : ∀ (all' m : List Wr), all' = st.all ++ m → (∀ w ∈ m, ∃ j : Nat, j < (tSecs life (allSecs life 0 ts).length t).length ∧ w.1 = (pl ga gd gl base ((allSecs life 0 ts).length + j)).toNat) → ∀ p : Int, 0 ≤ p → (p < 4 ∨ 4 + gl ≤ p) → kept all' p.toNat = kept st.all p.toNat := fun all' m ea hm p h0 hp => by
    rw [ea]
    refine Disk.kept_append _ _ _ (fun w hw he => ?_)
    obtain ⟨j, hj, e⟩ := hm w hw
    have := pl_log (k := (allSecs life 0 ts).length + j) hr hb
    omega
  rcases hT.res with ⟨r1, r2, _, m, r3, r4⟩ | ⟨r1, r2, r3, _, m, r5, r6, r7⟩
  · right
    refine ⟨r1, r2, fun keep torn a => ?_⟩
    obtain ⟨u, hc⟩ := h.logc.crash hr hb hn hl hbd hT (by rw [r1]; decide) keep torn a
    obtain ⟨_, _, m', e1, e2⟩ := restart_up hT.size keep torn a
    have hk := hkp (restart V.2.1 keep torn a).all (m ++ m') (by rw [e1, r3, List.append_assoc]) (fun w hw => by
      rcases List.mem_append.1 hw with hw | hw
      · exact r4 w (List.mem_append.2 (.inl hw))
      · obtain ⟨v, hv, ev⟩ := e2 w hw
        obtain ⟨j, hj, ej⟩ := r4 v (List.mem_append.2 (.inr hv))
        exact ⟨j, hj, ev.trans ej⟩)
    refine ⟨u, ?_⟩
    rcases LogS.crash hc u hr hb hn hl (bad_num hbd) with hc | hc
    · exact .inl (h.kc.wrote hr hext hT.more hk (fun p y h1 h2 => (htx p y h1 h2).imp id (fun h => h.1)) hno hc h.kc.kb.len h.kc.kb.bad)
    · exact .inr (h.kc.wrote hr hext hT.more hk (fun p y h1 h2 => (htx p y h1 h2).imp id (fun h => h.1)) hno hc (by rw [hlen]; omega) hbad)
  · left
    have hlc := h.logc.append hr hb hn hl hbd hT r1
    rw [← hs] at hlc
    have hk := hkp V.2.1.all m r5 (fun w hw => by
      obtain ⟨j, hj, rfl⟩ := List.mem_iff_getElem.1 hw
      exact ⟨j, by omega, (r7 j hj (by omega)).1⟩)
    exact ⟨r1, h.kc.wrote hr hext hT.more hk (fun p y h1 h2 => (htx p y h1 h2).imp id (fun h => h.1)) hno (LogS.of_C hlc (by rw [hlen]; omega)) (by rw [hlen]; omega) hbad, hT.size, r3, r2, hlc, hno⟩
/-! what is read -/
theorem KC.super {ga gd gl : Int} {n : Nat} {sm : List (List UInt8)} {st : St} {life : UInt64} {base : Int} {gen0 : UInt64} {P0 : List (List UInt8)} {ts : List Tx} (h : KC ga gd gl n sm st.all life base gen0 P0 ts) (hu : UpN st n) (hn : 4 ≤ n) : best (best none (atR sm st ga gd gl 2)) (atR sm st ga gd gl 3) = some ⟨life, base, gen0⟩ := by
  have hsp := splace_ok life
  have a1 := hu.at_own (by omega) h.kb.sup
  cases ha : atR sm st ga gd gl (5 - splace life) with
  | none => exact best_first (f := atR sm st ga gd gl) hsp rfl a1 ha
  | some x =>
    have hx : x.life < life := by
      unfold atR at ha
      split at ha
      · rename_i hs
        injection ha with ha
        unfold isSup at hs
        simp only [Bool.and_eq_true, decide_eq_true_eq] at hs
        obtain ⟨⟨⟨s1, s2⟩, s3⟩, _⟩ := hs
        unfold Sup.dec at s1 s2 s3 ha
        rw [hu.read (by omega) (by omega)] at s1 s2 s3 ha
        simp only [] at s1 s2 s3 ha
        have hd : Sec.decode (ckS sm (kept st.all (5 - splace life).toNat)) (5 - splace life) (kept st.all (5 - splace life).toNat) = ((Sec.decode (ckS sm (kept st.all (5 - splace life).toNat)) (5 - splace life) (kept st.all (5 - splace life).toNat)).1, 0) := by
          generalize Sec.decode (ckS sm (kept st.all (5 - splace life).toNat)) (5 - splace life) (kept st.all (5 - splace life).toNat) = d at s1
          obtain ⟨y, f⟩ := d
          simp only at s1
          rw [s1]
        have hg := dec_good hd
        have hno := h.oth _ hg
        rw [← ha]
        exact Decidable.byContradiction fun hc => hno ⟨s2, s3, hc⟩
      · cases ha
    exact best_later (f := atR sm st ga gd gl) (p := 5 - splace life) (q := splace life) (by omega) (by omega) ha a1 hx
theorem KC.read {ga gd gl : Int} {n : Nat} {sm : List (List UInt8)} {st : St} {life : UInt64} {base : Int} {gen0 : UInt64} {P0 : List (List UInt8)} {ts : List Tx} (h : KC ga gd gl n sm st.all life base gen0 P0 ts) (hu : UpN st n) : snapR sm st ga gd gl life P0.length = some P0 :=
  (snapR_some (fun k hk => rdAt_good hu h.kb.pages hk (h.kb.snap k hk))).1
theorem KC.scan {ga gd gl : Int} {n : Nat} {sm : List (List UInt8)} {st : St} {life : UInt64} {base : Int} {gen0 : UInt64} {P0 : List (List UInt8)} {ts : List Tx} (h : KC ga gd gl n sm st.all life base gen0 P0 ts) (hu : UpN st n) (hr : right ga gd gl = true) : scanTx sm st ga gd gl base life = ts :=
  h.kb.log.scan hu hr h.kb.hb.1 h.kb.pages.size (fun t ht => bad_num (h.kb.bad t ht))
/-! how it begins -/
end Go.Proofs.YtchcmklelmlbgaaGreat.Sto

/- The log: the document's comparisons. No statement is proved here. -/
namespace Go.Proofs.YtchcmklelmlbgaaGreat.Wal
open Go.RowKit
set_option linter.unusedVariables false
set_option maxRecDepth 100000
attribute [local irreducible] wpQuiet
end Go.Proofs.YtchcmklelmlbgaaGreat.Wal

/- The log: what the document scans, and the laws' turning of transactions. No statement is proved here. -/
namespace Go.Proofs.YtchcmklelmlbgaaGreat.Wal
open Go.RowKit
open Go.Proofs.YtchcmklelmlbgaaGreat.Sec (X X0)
set_option linter.unusedVariables false
set_option maxRecDepth 100000
attribute [local irreducible] wpQuiet
/-- a page whose bytes lie below -/
structure PfOk (w : World) (n : Nat) (p : Pr) : Prop where
  rd : RdQ w (fun j => j < n) p.A (p.body.map e8)
  cap : p.body.length ≤ p.c
  max : p.c ≤ maxLen
  lo : 0 ≤ p.n
  hi : p.n ≤ 1000000
theorem PfOk.keep {w w' : World} {n : Nat} {p : Pr} (h : PfOk w n p) (hk : ∀ j, j < n → j < w.heap.size → w'.heap[j]? = w.heap[j]?) (hs : w.heap.size ≤ w'.heap.size) : PfOk w' n p :=
  ⟨fun hne => by obtain ⟨b, off, e, hb, hq, hc⟩ := h.rd hne; exact ⟨b, off, e, by omega, hq, fun i hi => (World.cell?_of_block (hk b hq hb)).trans (hc i hi)⟩, h.cap, h.max, h.lo, h.hi⟩
structure TfOk (w : World) (n0 n : Nat) (now : Option Nat) (t : Tr) : Prop where
  row : w.ownsRow n0 53 2 t.sl t.ps.length (t.ps.flatMap Pr.cells)
  ne : ∀ g, t.sl.ownBlock = some g → now ≠ some g
  pages : ∀ p ∈ t.ps, PfOk w n p
theorem TfOk.keep {w w' : World} {n0 n : Nat} {now now' : Option Nat} {t : Tr} (h : TfOk w n0 n now t) (hu : ∀ j, j < n → j < w.heap.size → w'.heap[j]? = w.heap[j]?) (hs : w.heap.size ≤ w'.heap.size)
    (hp : ∀ (j : Nat) (cs : Array Value), now ≠ some j → n0 ≤ j → w.heap[j]? = some (Obj.cells cs 53 (0, 0)) → w'.heap[j]? = w.heap[j]?) (hn : ∀ g, t.sl.ownBlock = some g → now' ≠ some g) : TfOk w' n0 n now' t :=
  ⟨own_keep h.row (fun j cs e hb hh => hp j cs (h.ne j e) hb hh), hn, fun p hpm => (h.pages p hpm).keep hu hs⟩
end Go.Proofs.YtchcmklelmlbgaaGreat.Wal

/- The log: what the document scans. No statement is proved here. -/
namespace Go.Proofs.YtchcmklelmlbgaaGreat.Wal
open Go.RowKit
open Go.Proofs.YtchcmklelmlbgaaGreat.Sec (X X0)
set_option linter.unusedVariables false
set_option maxRecDepth 100000
attribute [local irreducible] wpQuiet
end Go.Proofs.YtchcmklelmlbgaaGreat.Wal

/- The laws of the log: why a transaction is not appended; the document's sectors of one. No statement is proved here. -/
namespace Go.Proofs.YtchcmklelmlbgaaGreat.Wal
open Go.RowKit
open Go.Proofs.YtchcmklelmlbgaaGreat.Geom
open Go.Proofs.YtchcmklelmlbgaaGreat.Sup (Gb gv gcell gthree)
open Go.Proofs.YtchcmklelmlbgaaGreat.Num (putL putL_len)
open Go.Proofs.YtchcmklelmlbgaaGreat.Sec (X)
set_option linter.unusedVariables false
set_option maxRecDepth 100000
attribute [local irreducible] wpQuiet
/-- why a transaction is not appended -/
def whyF (ga gd gl : Int) (seq : Nat) (l : List Pg) : Int := if badB ga gd gl l = true then 2 else if fitsB ga gd gl l.length = false then 6 else if gl - (seq : Int) ≤ (l.length : Int) then 5 else 0
end Go.Proofs.YtchcmklelmlbgaaGreat.Wal

/- The store's functions, in plain Lean: what becomes of its mind, its disk and the sums. No statement is proved here. -/
namespace Go.Proofs.YtchcmklelmlbgaaGreat.Sto
open Go.RowKit
open Go.Proofs.YtchcmklelmlbgaaGreat.Geom
open Go.Proofs.YtchcmklelmlbgaaGreat.Disk (St Wr write flush kept new zero512)
open Go.Proofs.YtchcmklelmlbgaaGreat.Sup (splace sB sL wf)
open Go.Proofs.YtchcmklelmlbgaaGreat.Snap (snapF)
open Go.Proofs.YtchcmklelmlbgaaGreat.Wal (Tx badB putF whyF fitsB)
open Go.Proofs.YtchcmklelmlbgaaGreat.Enc (enf enf_lim)
set_option linter.unusedVariables false
/-- what a store has in mind -/
structure Z where
  life : UInt64
  base : Int
  gen : UInt64
  next : Int
  pages : List (List UInt8)
  due : Bool
  dead : Bool
  seq : Nat
  has : Bool
abbrev Out := List (List UInt8) × St × Int
/-- a life begins -/
def begF (ga gd gl : Int) (life : UInt64) (base : Int) (gen : UInt64) (P : List (List UInt8)) (l : List (List UInt8)) (s : St) : Out :=
  if (snapF ga gd gl life P l s).2.2 = 0 then
    (sL (snapF ga gd gl life P l s).1 ga gd gl life base gen, wf (snapF ga gd gl life P l s).2.1 (splace life) (sB (snapF ga gd gl life P l s).1 ga gd gl life base gen))
  else snapF ga gd gl life P l s
def baseN (gl : Int) (z : Z) : Int := if z.due = true then z.next else (z.base + (z.seq : Int)) % gl
def renO (ga gd gl : Int) (z : Z) (l : List (List UInt8)) (s : St) : Out := begF ga gd gl (z.life + 1) (baseN gl z) z.gen z.pages l s
def Z.begun (z : Z) (life : UInt64) (base : Int) (gen : UInt64) : Z := { z with life := life, base := base, gen := gen, due := false, seq := 0, has := true }
def Z.told (z : Z) (f : Int) : Z := { z with dead := z.dead || decide (f = 12) }
def Z.renew (gl : Int) (z : Z) (f : Int) : Z := if f = 0 then z.begun (z.life + 1) (baseN gl z) z.gen else z.told f
/-- a renewal, of a store that lives -/
def renF (ga gd gl : Int) (z : Z) (l : List (List UInt8)) (s : St) : Z × Out := (z.renew gl (renO ga gd gl z l s).2.2, renO ga gd gl z l s)
def appO (ga gd gl : Int) (z : Z) (pages : List Pg) (gen : UInt64) (l : List (List UInt8)) (s : St) : Out := putF ga gd gl z.base z.life z.seq gen pages l s
def Z.append (z : Z) (pages : List Pg) (gen : UInt64) (f : Int) : Z := if f = 0 then { z with pages := putP z.pages pages, gen := gen, seq := z.seq + (pages.length + 1) } else z.told f
def appF (ga gd gl : Int) (z : Z) (pages : List Pg) (gen : UInt64) (l : List (List UInt8)) (s : St) : Z × Out := (z.append pages gen (appO ga gd gl z pages gen l s).2.2, appO ga gd gl z pages gen l s)
/-- a commit, of a store that lives and is not to be renewed -/
def comF (ga gd gl : Int) (z : Z) (pages : List Pg) (gen : UInt64) (l : List (List UInt8)) (s : St) : Z × Out :=
  if whyF ga gd gl z.seq pages = 0 then appF ga gd gl z pages gen l s
  else if whyF ga gd gl z.seq pages = 5 then
    if (renO ga gd gl z l s).2.2 = 0 then appF ga gd gl (renF ga gd gl z l s).1 pages gen (renO ga gd gl z l s).1 (renO ga gd gl z l s).2.1
    else renF ga gd gl z l s
  else (z, l, s, whyF ga gd gl z.seq pages)
theorem begF_lim (ga gd gl : Int) (life : UInt64) (base : Int) (gen : UInt64) (P : List (List UInt8)) (l : List (List UInt8)) (s : St) : (begF ga gd gl life base gen P l s).1.length ≤ l.length + (P.length + 1) ∧ (begF ga gd gl life base gen P l s).2.1.sz ≤ s.sz + 2 * (P.length + 2) := by
  obtain ⟨h1, h2⟩ := enf_lim (Snap.pItems ga gd gl life 0 P) l s
  rw [Snap.pItems_len] at h1 h2
  unfold begF snapF
  split
  · have h3 := Enc.sumAfter_len (enf (Snap.pItems ga gd gl life 0 P) l s).1 (Sec.text (splace life) (Sup.sx ga gd gl life base gen))
    have h4 := Sup.wf_sz (enf (Snap.pItems ga gd gl life 0 P) l s).2.1 (splace life) (sB (enf (Snap.pItems ga gd gl life 0 P) l s).1 ga gd gl life base gen)
    refine ⟨?_, ?_⟩
    · show (Sec.sumAfter _ _).length ≤ _; omega
    · show (wf _ _ _).1.sz ≤ _; omega
  · omega
theorem why_cases (ga gd gl : Int) (seq : Nat) (l : List Pg) : whyF ga gd gl seq l = 0 ∨ whyF ga gd gl seq l = 2 ∨ whyF ga gd gl seq l = 5 ∨ whyF ga gd gl seq l = 6 := by
  unfold whyF
  split
  · exact .inr (.inl rfl)
  · split
    · exact .inr (.inr (.inr rfl))
    · split
      · exact .inr (.inr (.inl rfl))
      · exact .inl rfl
theorem why_full {ga gd gl : Int} {seq : Nat} {l : List Pg} (h : whyF ga gd gl seq l = 5) : badB ga gd gl l = false ∧ fitsB ga gd gl l.length = true ∧ gl - (seq : Int) ≤ (l.length : Int) := by
  unfold whyF at h
  split at h
  · cases h
  · rename_i h1
    split at h
    · cases h
    · rename_i h2
      split at h
      · rename_i h3
        exact ⟨by simpa using h1, by simpa using h2, h3⟩
      · cases h
theorem why_first {ga gd gl : Int} {seq : Nat} {l : List Pg} (h : whyF ga gd gl seq l = 5) : whyF ga gd gl 0 l = 0 := by
  obtain ⟨h1, h2, _⟩ := why_full h
  have h3 : (l.length : Int) < gl := by
    unfold fitsB at h2
    simp only [Bool.and_eq_true, decide_eq_true_eq] at h2
    exact h2.2.2
  unfold whyF
  rw [if_neg (by rw [h1]; decide), if_neg (by rw [h2]; decide), if_neg (by omega)]
theorem comF_lim (ga gd gl : Int) (z : Z) (pages : List Pg) (gen : UInt64) (l : List (List UInt8)) (s : St) : (comF ga gd gl z pages gen l s).2.1.length ≤ l.length + (z.pages.length + pages.length + 2) ∧ (comF ga gd gl z pages gen l s).2.2.1.sz ≤ s.sz + 2 * (z.pages.length + pages.length + 4) := by
  obtain ⟨b1, b2⟩ := begF_lim ga gd gl (z.life + 1) (baseN gl z) z.gen z.pages l s
  have ha := fun (z' : Z) (l' : List (List UInt8)) (s' : St) => Wal.putF_lim ga gd gl z'.base z'.life z'.seq ⟨pages, gen⟩ l' s'
  unfold comF
  split
  · have := ha z l s
    show (putF _ _ _ _ _ _ _ _ _ _).1.length ≤ _ ∧ (putF _ _ _ _ _ _ _ _ _ _).2.1.sz ≤ _
    simp only at this
    omega
  · split
    · split
      · have := ha (renF ga gd gl z l s).1 (renO ga gd gl z l s).1 (renO ga gd gl z l s).2.1
        show (putF _ _ _ _ _ _ _ _ _ _).1.length ≤ _ ∧ (putF _ _ _ _ _ _ _ _ _ _).2.1.sz ≤ _
        simp only at this
        unfold renO at this ⊢
        omega
      · show (begF _ _ _ _ _ _ _ _ _).1.length ≤ _ ∧ (begF _ _ _ _ _ _ _ _ _).2.1.sz ≤ _
        omega
    · show l.length ≤ _ ∧ s.sz ≤ _
      omega
theorem write_size (s : St) (p : Int) (b : List UInt8) : (write s p b).1.size = s.size := by
  unfold write
  split
  · rfl
  · split
    · rfl
    · split
      · rfl
      · exact (Disk.burn_lists _).2.2
theorem flush_size (s : St) : (flush s).1.size = s.size := by
  unfold flush
  split
  · rfl
  · split
    · exact (Disk.burn_lists _).2.2
    · exact (Disk.burn_lists _).2.2
theorem encs_size : ∀ (is : List Enc.Itm) (l : List (List UInt8)) (s : St), (Enc.encs is l s).2.1.size = s.size
  | [], l, s => rfl
  | i :: r, l, s => by
    by_cases h : (write s i.1 (Enc.xB l i.1 i.2)).2 = 0
    · rw [Enc.encs_go h, encs_size r]; exact write_size _ _ _
    · rw [Enc.encs_stop h]; exact write_size _ _ _
theorem enf_size (is : List Enc.Itm) (l : List (List UInt8)) (s : St) : (enf is l s).2.1.size = s.size := by
  unfold enf
  split
  · exact (flush_size _).trans (encs_size is l s)
  · exact encs_size is l s
theorem wf_size (s : St) (p : Int) (b : List UInt8) : (wf s p b).1.size = s.size := by
  unfold wf
  split
  · exact (flush_size _).trans (write_size _ _ _)
  · exact write_size _ _ _
theorem snapF_size (ga gd gl : Int) (life : UInt64) (P : List (List UInt8)) (l : List (List UInt8)) (s : St) : (snapF ga gd gl life P l s).2.1.size = s.size := enf_size _ _ _
theorem begF_size (ga gd gl : Int) (life : UInt64) (base : Int) (gen : UInt64) (P : List (List UInt8)) (l : List (List UInt8)) (s : St) : (begF ga gd gl life base gen P l s).2.1.size = s.size := by
  unfold begF
  split
  · exact (wf_size _ _ _).trans (snapF_size _ _ _ _ _ _ _)
  · exact snapF_size _ _ _ _ _ _ _
theorem sright_of {s s' : St} {ga gd gl : Int} (h : Sup.srightF s ga gd gl = 0) (e : s'.size = s.size) : Sup.srightF s' ga gd gl = 0 := by
  unfold Sup.srightF at h ⊢
  rw [e]; exact h
theorem wright_of {s : St} {ga gd gl base : Int} (h : Sup.srightF s ga gd gl = 0) (h0 : 0 ≤ base) (h1 : base ≤ 1073741824) : Wal.wrightF s ga gd gl base = 0 := by
  unfold Sup.srightF at h
  unfold Wal.wrightF
  split at h
  · rename_i h2
    rw [if_pos ⟨h2.1, h2.2, h0, h1⟩]
  · cases h
end Go.Proofs.YtchcmklelmlbgaaGreat.Sto

/- The store's steps: one of several that are done one behind the other, whatever they are. No statement is proved here. -/
namespace Go.Proofs.YtchcmklelmlbgaaGreat.Sto
open Go.RowKit
set_option linter.unusedVariables false
set_option maxRecDepth 100000
set_option maxHeartbeats 1000000 in
theorem steps_any (n c : Nat) (b off : Nat) (ks : Nat → FuncId) (rs cs : Nat → Array Value) (In : Nat → World → Prop) (Out : Int → World → Prop) (w : World) (hn : n ≤ 1000) (h0 : In 0 w)
    (hcell : ∀ i, i < n → ∀ W, In i W → W.cell? ⟨b, off + i, none⟩ = some (.func (.func (ks i)) (rs i) (cs i)))
    (hm : ∀ i, i < n → ∀ (x : Array Value) (W : World), Sem.run Tryz.prog (callFunc (ks i) x) W = .ok (.enter (ks i) x) W)
    (hcall : ∀ i, i < n → ∀ W, In i W → Calls Tryz.prog (ks i) (rs i ++ cs i) W fun e W' => ∃ f : Int, e = .returned (.int .i64 f) ∧ (f = 0 → In (i + 1) W') ∧ (f ≠ 0 → Out f W')) :
    Calls Tryz.prog 38 #[.slice (some ⟨b, off, none⟩) n c] w fun e w' => ∃ f : Int, e = .returned (.int .i64 f) ∧ (f = 0 → In n w') ∧ (f ≠ 0 → Out f w') := by
  go_enter Tryz.func38, Tryz.ntmps38
  go_wp2
  go_step3
  go_wp2
  go_step3
  go_wp2
  go_loopw [8] (fun i wr => ∃ k : Nat, k ≤ n ∧ i = .int .i64 k ∧ In k wr) (fun i _ => n - (intOf i).toNat)
  case atStart => exact ⟨0, by omega, rfl, h0⟩
  case round =>
    obtain ⟨k, hk, rfl, hI⟩ := hrel
    by_cases hlt : k < n
    · have hkn : (k : Int) < (n : Int) := by omega
      have z0 := hcell k hlt wr hI
      have hmk := hm k hlt
      have HC := Lib.hid (hcall k hlt wr hI)
      obtain ⟨kf, hkf⟩ : ∃ q, q = ks k := ⟨_, rfl⟩
      obtain ⟨rk, hrk⟩ : ∃ q, q = rs k := ⟨_, rfl⟩
      obtain ⟨ck, hck⟩ : ∃ q, q = cs k := ⟨_, rfl⟩
      rw [← hkf, ← hrk, ← hck] at z0 HC
      rw [← hkf] at hmk
      clear hkf hrk hck hcell hm hcall
      go_wp2_with fail
      refine HC.out.mono ?_
      rintro e w1 ⟨f, rfl, h1, h2⟩
      by_cases hf : f = 0
      · have hI1 := h1 hf
        have t0 := bne_no hf
        clear h1 h2
        go_wp2_with fail
        case roundEnd => exact ⟨⟨k + 1, by omega, rfl, hI1⟩, by simp only [intOf]; omega⟩
      · have hO := h2 hf
        have t0 := bne_yes hf
        clear h1 h2
        go_wp2_with fail
        try rw [Exit.noGoto_ret]
        go_ret
        exact ⟨f, rfl, fun e => absurd e hf, fun _ => hO⟩
    · obtain rfl : k = n := by omega
      clear hcell hm hcall
      go_wp2_with fail
      try rw [Exit.noGoto_ret]
      go_ret
      exact ⟨0, rfl, fun _ => hI, fun e => absurd rfl e⟩
end Go.Proofs.YtchcmklelmlbgaaGreat.Sto

/- A store in memory: its block, its row of pages, its log, beside its disk and its suite. No statement is proved here. -/
namespace Go.Proofs.YtchcmklelmlbgaaGreat.Sto
open Go.RowKit
open Go.Proofs.YtchcmklelmlbgaaGreat.Geom
open Go.Proofs.YtchcmklelmlbgaaGreat.Disk (St DAt Did)
open Go.Proofs.YtchcmklelmlbgaaGreat.Sup (Gb gv)
open Go.Proofs.YtchcmklelmlbgaaGreat.Wal (LAt lcell)
set_option linter.unusedVariables false
/-! a row of pages -/
def SRow (w : World) (R c : Nat) (P : List (List UInt8)) (Q : Nat → Prop) : Prop :=
  ∃ xs : List Value, w.ownsRow 0 51 1 (.slice (some ⟨R, 0, none⟩) P.length c) P.length xs ∧ ∀ i (h : i < P.length), ∃ Ai ci, xs[i]? = some (.slice Ai P[i].length ci) ∧ RdQ w Q Ai (P[i].map e8) ∧ P[i].length ≤ ci ∧ ci ≤ maxLen
theorem SRow.keep {w w' : World} {R c : Nat} {P : List (List UInt8)} {Q : Nat → Prop} {fp : List Nat} (h : SRow w R c P Q) (k : Keep fp w w') (hR : R ∉ fp) (hf : ∀ j, Q j → j < w.heap.size → j ∉ fp) : SRow w' R c P Q := by
  obtain ⟨xs, h1, h2⟩ := h
  refine ⟨xs, own_keep h1 k (fun g hg => by simp [Value.ownBlock] at hg; rw [← hg]; exact hR), fun i hi => ?_⟩
  obtain ⟨Ai, ci, a, b, d⟩ := h2 i hi
  exact ⟨Ai, ci, a, b.keep k hf, d⟩
theorem _root_.Go.Proofs.YtchcmklelmlbgaaGreat.RdQ.move {w w' : World} {Q Q' : Nat → Prop} {A : Option Addr} {xs : List Value} {fp : List Nat} (h : RdQ w Q A xs) (k : Keep fp w w') (hf : ∀ j, Q j → j < w.heap.size → j ∉ fp ∧ Q' j) : RdQ w' Q' A xs :=
  RdQ.keep (h.imp (Q' := fun j => Q j ∧ Q' j) (fun j hj hq => ⟨hq, (hf j hq hj).2⟩)) k (fun j hj hlt => (hf j hj.1 hlt).1) |>.imp (fun j _ h => h.2)
theorem SRow.move {w w' : World} {R c : Nat} {P : List (List UInt8)} {Q Q' : Nat → Prop} {fp : List Nat} (h : SRow w R c P Q) (k : Keep fp w w') (hR : R ∉ fp) (hf : ∀ j, Q j → j < w.heap.size → j ∉ fp ∧ Q' j) : SRow w' R c P Q' := by
  obtain ⟨xs, h1, h2⟩ := h
  refine ⟨xs, own_keep h1 k (fun g hg => by simp [Value.ownBlock] at hg; rw [← hg]; exact hR), fun i hi => ?_⟩
  obtain ⟨Ai, ci, a, b, d⟩ := h2 i hi
  exact ⟨Ai, ci, a, b.move k hf, d⟩
theorem SRow.on {w w' : World} {R c : Nat} {P : List (List UInt8)} {Q : Nat → Prop} (h : SRow w R c P Q) (b : Below w.heap.size w w') : SRow w' R c P Q := h.keep (Keep.of_below b []) (by simp) (fun _ _ _ => by simp)
theorem SRow.imp {w : World} {R c : Nat} {P : List (List UInt8)} {Q Q' : Nat → Prop} (h : SRow w R c P Q) (hq : ∀ j, j < w.heap.size → Q j → Q' j) : SRow w R c P Q' := by
  obtain ⟨xs, h1, h2⟩ := h
  refine ⟨xs, h1, fun i hi => ?_⟩
  obtain ⟨Ai, ci, a, b, d⟩ := h2 i hi
  exact ⟨Ai, ci, a, b.imp hq, d⟩
theorem SRow.lt {w : World} {R c : Nat} {P : List (List UInt8)} {Q : Nat → Prop} (h : SRow w R c P Q) : R < w.heap.size := by
  obtain ⟨xs, h1, _⟩ := h
  exact (h1.lt R rfl).2
theorem SRow.cap {w : World} {R c : Nat} {P : List (List UInt8)} {Q : Nat → Prop} (h : SRow w R c P Q) : P.length ≤ c ∧ c ≤ maxLen := by
  obtain ⟨xs, h1, _⟩ := h
  exact own_cap h1
theorem SRow.get {w : World} {R c : Nat} {P : List (List UInt8)} {Q : Nat → Prop} (h : SRow w R c P Q) {i : Nat} (hi : i < P.length) : ∃ Ai ci, w.cell? ⟨R, i, none⟩ = some (.slice Ai P[i].length ci) ∧ RdQ w Q Ai (P[i].map e8) ∧ P[i].length ≤ ci ∧ ci ≤ maxLen := by
  obtain ⟨xs, h1, h2⟩ := h
  obtain ⟨Ai, ci, a, b, d⟩ := h2 i hi
  exact ⟨Ai, ci, (World.ownsRow.cellAt (j := i) h1 (by omega)).trans a, b, d⟩
theorem SRow.free {w : World} {R c : Nat} {P : List (List UInt8)} {Q : Nat → Prop} (h : SRow w R c P Q) (i : Nat) : w.frozen? ⟨R, i, none⟩ = false := by
  obtain ⟨xs, h1, _⟩ := h
  exact h1.frozenAt i
theorem SRow.rw {w : World} {R c : Nat} {P : List (List UInt8)} {Q Q' : Nat → Prop} (h : SRow w R c P Q) (hq : ∀ j, j < w.heap.size → Q j → Q' j) (hR : Q' R) : Rw w Q' (some ⟨R, 0, none⟩) P := fun hne =>
  ⟨R, 0, rfl, h.lt, hR, fun i hi => by
    obtain ⟨Ai, ci, a, b, d⟩ := h.get hi
    exact ⟨Ai, ci, by rw [Nat.zero_add]; exact a, b.imp hq, d⟩⟩
theorem _root_.Go.Proofs.YtchcmklelmlbgaaGreat.RdQ.set {w : World} {Q : Nat → Prop} {A : Option Addr} {xs : List Value} {R i : Nat} (h : RdQ w Q A xs) (hR : ¬ Q R) (v : Value) : RdQ (w.setCell ⟨R, i, none⟩ v) Q A xs :=
  h.keep (fp := [R]) ((Keep.refl _ _).set (.inl (by simp)) _) (fun j hj _ e => hR (by rw [List.mem_singleton] at e; exact e ▸ hj))
theorem SRow.set {w : World} {R c : Nat} {P : List (List UInt8)} {Q : Nat → Prop} (h : SRow w R c P Q) (hR : ¬ Q R) (k : Nat) {m : List UInt8} {A : Option Addr} {ci : Nat} (hm : RdQ w Q A (m.map e8)) (h1 : m.length ≤ ci) (h2 : ci ≤ maxLen) :
    SRow (w.setCell ⟨R, k, none⟩ (.slice A m.length ci)) R c (P.set k m) Q := by
  obtain ⟨xs, o, hx⟩ := h
  have hxl : xs.length = P.length := by have := o.1; omega
  refine ⟨xs.set k (.slice A m.length ci), by rw [List.length_set]; exact (o.stored k _).1, fun i hi => ?_⟩
  rw [List.length_set] at hi
  by_cases e : k = i
  · subst e
    refine ⟨A, ci, ?_, ?_⟩
    · rw [List.getElem_set_self]; exact List.getElem?_set_self (by omega)
    · rw [List.getElem_set_self]; exact ⟨hm.set hR _, h1, h2⟩
  · obtain ⟨Ai, cj, a, b, d⟩ := hx i hi
    refine ⟨Ai, cj, ?_, ?_⟩
    · rw [List.getElem?_set_ne e, List.getElem_set_ne e]; exact a
    · rw [List.getElem_set_ne e]; exact ⟨b.set hR _, d⟩
/-! the store's block -/
abbrev xc (g gS : Nat) (ga gd gl : Int) (z : Z) (lv pv : Value) : List Value :=
  [.pointer (some ⟨g, 0, none⟩), .pointer (some ⟨gS, 0, none⟩), .int .i64 ga, .int .i64 gd, .int .i64 gl, .int .u64 (z.life.toNat : Int), .int .i64 z.base, .int .u64 (z.gen.toNat : Int), lv, .int .i64 z.next, pv, .bool z.due, .bool z.dead]
theorem thirteen {w : World} {X : Nat} {a0 a1 a2 a3 a4 a5 a6 a7 a8 a9 a10 a11 a12 : Value} (h : Blk w X [a0, a1, a2, a3, a4, a5, a6, a7, a8, a9, a10, a11, a12]) :
    w.cell? ⟨X, 0, none⟩ = some a0 ∧ w.cell? ⟨X, 1, none⟩ = some a1 ∧ w.cell? ⟨X, 2, none⟩ = some a2 ∧ w.cell? ⟨X, 3, none⟩ = some a3 ∧ w.cell? ⟨X, 4, none⟩ = some a4 ∧ w.cell? ⟨X, 5, none⟩ = some a5 ∧ w.cell? ⟨X, 6, none⟩ = some a6 ∧ w.cell? ⟨X, 7, none⟩ = some a7 ∧ w.cell? ⟨X, 8, none⟩ = some a8 ∧ w.cell? ⟨X, 9, none⟩ = some a9 ∧ w.cell? ⟨X, 10, none⟩ = some a10 ∧ w.cell? ⟨X, 11, none⟩ = some a11 ∧ w.cell? ⟨X, 12, none⟩ = some a12 :=
  ⟨h.cell (k := 0) (by simp), h.cell (k := 1) (by simp), h.cell (k := 2) (by simp), h.cell (k := 3) (by simp), h.cell (k := 4) (by simp), h.cell (k := 5) (by simp), h.cell (k := 6) (by simp), h.cell (k := 7) (by simp), h.cell (k := 8) (by simp), h.cell (k := 9) (by simp), h.cell (k := 10) (by simp), h.cell (k := 11) (by simp), h.cell (k := 12) (by simp)⟩
/-- what lies apart from a store -/
def Off (X R L bS gS : Nat) (fp : List Nat) (j : Nat) : Prop := j ≠ X ∧ j ≠ R ∧ j ≠ L ∧ j ≠ bS ∧ j ≠ gS ∧ j ∉ fp
/-- a store: X its block, R its row of pages, L its log (X, where it has none that counts) -/
structure SAt (w : World) (X R L g : Nat) (fp : List Nat) (gS bS : Nat) (ga gd gl : Int) (z : Z) (s : St) (l : List (List UInt8)) : Prop where
  both : Both w g fp s gS bS l
  blk : ∃ lv c, Blk w X (xc g gS ga gd gl z lv (.slice (some ⟨R, 0, none⟩) z.pages.length c)) ∧ (z.has = true → lv = .pointer (some ⟨L, 0, none⟩)) ∧ SRow w R c z.pages (Off X R L bS gS fp)
  log : z.has = true → LAt w L g gS ga gd gl z.life z.base z.seq ∧ L ≠ X
  nX : X ≠ R ∧ X ≠ bS ∧ X ≠ gS ∧ X ∉ fp
  nR : R ≠ L ∧ R ≠ bS ∧ R ≠ gS ∧ R ∉ fp
  nL : L ≠ bS ∧ L ≠ gS ∧ L ∉ fp
  lt : L < w.heap.size
/-- a footprint that has grown by new blocks alone, and a log that stays or is new -/
def FreshL (w : World) (L : Nat) (fp : List Nat) (L' : Nat) (fp' : List Nat) : Prop := Fresh w fp fp' ∧ (L' = L ∨ w.heap.size ≤ L')
theorem FreshL.refl (w : World) (L : Nat) (fp : List Nat) : FreshL w L fp L fp := ⟨Fresh.refl _ _, .inl rfl⟩
theorem FreshL.trans {w w1 : World} {L L1 L2 : Nat} {fp fp1 fp2 : List Nat} (h : FreshL w L fp L1 fp1) (hs : w.heap.size ≤ w1.heap.size) (k : FreshL w1 L1 fp1 L2 fp2) : FreshL w L fp L2 fp2 := by
  refine ⟨h.1.trans hs k.1, ?_⟩
  rcases k.2 with e | e
  · rw [e]; exact h.2
  · exact .inr (Nat.le_trans hs e)
theorem FreshL.all {w : World} {L L' : Nat} {fp fp' : List Nat} (h : FreshL w L fp L' fp') : Fresh w (L :: fp) (L' :: fp') := fun j hj => by
  rcases List.mem_cons.1 hj with e | e
  · rcases h.2 with e2 | e2
    · exact .inl (by simp [e, e2])
    · exact .inr (by rw [e]; exact e2)
  · exact (h.1 j e).imp (fun h => List.mem_cons_of_mem _ h) id
/-- turned by a call -/
def STurn (w : World) (X R L g : Nat) (fp : List Nat) (gS bS : Nat) (ga gd gl : Int) (z' : Z) (s' : St) (l' : List (List UInt8)) (w' : World) : Prop :=
  ∃ L' fp', SAt w' X R L' g fp' gS bS ga gd gl z' s' l' ∧ Keep (X :: R :: L :: bS :: fp) w w' ∧ FreshL w L fp L' fp'
theorem SAt.ltX {w : World} {X R L g : Nat} {fp : List Nat} {gS bS : Nat} {ga gd gl : Int} {z : Z} {s : St} {l : List (List UInt8)} (h : SAt w X R L g fp gS bS ga gd gl z s l) : X < w.heap.size ∧ R < w.heap.size := by
  obtain ⟨lv, c, h1, _, h2⟩ := h.blk
  exact ⟨h1.lt, h2.lt⟩
theorem SAt.on {w w' : World} {X R L g : Nat} {fp : List Nat} {gS bS : Nat} {ga gd gl : Int} {z : Z} {s : St} {l : List (List UInt8)} (h : SAt w X R L g fp gS bS ga gd gl z s l) (b : Below w.heap.size w w') : SAt w' X R L g fp gS bS ga gd gl z s l := by
  obtain ⟨lv, c, h1, h2, h3⟩ := h.blk
  exact ⟨h.both.on b, ⟨lv, c, h1.on b, h2, h3.on b⟩, fun hd => ⟨(h.log hd).1.on b, (h.log hd).2⟩, h.nX, h.nR, h.nL, Nat.lt_of_lt_of_le h.lt b.size⟩
theorem STurn.same {w w' : World} {X R L g : Nat} {fp : List Nat} {gS bS : Nat} {ga gd gl : Int} {z : Z} {s : St} {l : List (List UInt8)} (h : SAt w X R L g fp gS bS ga gd gl z s l) (b : Below w.heap.size w w') : STurn w X R L g fp gS bS ga gd gl z s l w' :=
  ⟨L, fp, h.on b, Keep.of_below b _, FreshL.refl _ _ _⟩
theorem freshAll {w : World} {X R L L' bS : Nat} {fp fp' : List Nat} (f : Fresh w (L :: fp) (L' :: fp')) : Fresh w (X :: R :: L :: bS :: fp) (X :: R :: L' :: bS :: fp') := fun j hj => by
  simp only [List.mem_cons] at hj ⊢
  rcases hj with e | e | e | e | e
  · exact .inl (.inl e)
  · exact .inl (.inr (.inl e))
  · rcases f j (by simp [e]) with h | h
    · rcases List.mem_cons.1 h with h | h
      · exact .inl (.inr (.inr (.inl h)))
      · exact .inl (.inr (.inr (.inr (.inr h))))
    · exact .inr h
  · exact .inl (.inr (.inr (.inr (.inl e))))
  · rcases f j (by simp [e]) with h | h
    · rcases List.mem_cons.1 h with h | h
      · exact .inl (.inr (.inr (.inl h)))
      · exact .inl (.inr (.inr (.inr (.inr h))))
    · exact .inr h
theorem STurn.trans {w w1 w2 : World} {X R L L1 g : Nat} {fp fp1 : List Nat} {gS bS : Nat} {ga gd gl : Int} {z2 : Z} {s2 : St} {l2 : List (List UInt8)} (k : Keep (X :: R :: L :: bS :: fp) w w1) (f : FreshL w L fp L1 fp1) (h : STurn w1 X R L1 g fp1 gS bS ga gd gl z2 s2 l2 w2) : STurn w X R L g fp gS bS ga gd gl z2 s2 l2 w2 := by
  obtain ⟨L2, fp2, b2, k2, f2⟩ := h
  exact ⟨L2, fp2, b2, k.trans k2 (freshAll f.all), f.trans k.size f2⟩
theorem STurn.first {w w1 w2 : World} {X R L g : Nat} {fp : List Nat} {gS bS : Nat} {ga gd gl : Int} {z2 : Z} {s2 : St} {l2 : List (List UInt8)} (b : Below w.heap.size w w1) (h : STurn w1 X R L g fp gS bS ga gd gl z2 s2 l2 w2) : STurn w X R L g fp gS bS ga gd gl z2 s2 l2 w2 :=
  STurn.trans (Keep.of_below b _) (FreshL.refl _ _ _) h
theorem Off.fresh {w : World} {X R L bS gS : Nat} {fp fp' : List Nat} {j : Nat} (h : Off X R L bS gS fp j) (hj : j < w.heap.size) (f : Fresh w fp fp') : Off X R L bS gS fp' j :=
  ⟨h.1, h.2.1, h.2.2.1, h.2.2.2.1, h.2.2.2.2.1, f.out hj h.2.2.2.2.2⟩
/-- its disk and its sums are turned by a call, not itself -/
theorem SAt.turned {w w' : World} {X R L g : Nat} {fp fp' : List Nat} {gS bS : Nat} {ga gd gl : Int} {z : Z} {s s' : St} {l l' : List (List UInt8)} (h : SAt w X R L g fp gS bS ga gd gl z s l) (b : Both w' g fp' s' gS bS l') (k : Keep (bS :: fp) w w') (f : Fresh w fp fp') :
    SAt w' X R L g fp' gS bS ga gd gl z s' l' := by
  obtain ⟨lv, c, h1, h2, h3⟩ := h.blk
  have hX := h.ltX
  obtain ⟨x1, x2, x3, x4⟩ := h.nX
  obtain ⟨r1, r2, r3, r4⟩ := h.nR
  obtain ⟨l1, l2, l3⟩ := h.nL
  refine ⟨b, ⟨lv, c, h1.keepK k (by simp [x2, x4]), h2, h3.move k (by simp [r2, r4]) (fun j hj hlt => ⟨by simp [hj.2.2.2.1, hj.2.2.2.2.2], hj.fresh hlt f⟩)⟩, fun hd => ⟨(h.log hd).1.keepK k (by simp [l1, l3]), (h.log hd).2⟩, ⟨x1, x2, x3, f.out hX.1 x4⟩, ⟨r1, r2, r3, f.out hX.2 r4⟩, ⟨l1, l2, f.out h.lt l3⟩, Nat.lt_of_lt_of_le h.lt k.size⟩
end Go.Proofs.YtchcmklelmlbgaaGreat.Sto

/- The store: ready, told, Gen, Life, Room, Dead. No statement is proved here. -/
namespace Go.Proofs.YtchcmklelmlbgaaGreat.Sto
open Go.RowKit
open Go.Proofs.YtchcmklelmlbgaaGreat.Geom
open Go.Proofs.YtchcmklelmlbgaaGreat.Disk (St DAt Did)
open Go.Proofs.YtchcmklelmlbgaaGreat.Sup (Gb gv)
open Go.Proofs.YtchcmklelmlbgaaGreat.Wal (LAt lcell)
set_option linter.unusedVariables false
set_option maxRecDepth 100000
theorem ready_any (X R L g : Nat) (fp : List Nat) (gS bS : Nat) (ga gd gl : Int) (z : Z) (s : St) (l : List (List UInt8)) (w : World) (h : SAt w X R L g fp gS bS ga gd gl z s l) :
    Calls Tryz.prog 44 #[.pointer (some ⟨X, 0, none⟩)] w fun e w' => e = .returned (.int .i64 (if z.dead = true then 12 else 0)) ∧ w = w' := by
  obtain ⟨lv, c, h1, _, h3⟩ := h.blk
  obtain ⟨z0, z1, z2, z3, z4, z5, z6, z7, z8, z9, z10, z11, z12⟩ := thirteen h1
  clear h h1 h3
  cases hd : z.dead with
  | true =>
    rw [hd] at z12
    rw [if_pos rfl]
    go_enter Tryz.func44, Tryz.ntmps44
    go_wp2
    go_ret
    exact ⟨rfl, rfl⟩
  | false =>
    rw [hd] at z12
    rw [if_neg (by simp)]
    go_enter Tryz.func44, Tryz.ntmps44
    go_wp2
    go_ret
    exact ⟨rfl, rfl⟩
theorem SAt.tell {w : World} {X R L g : Nat} {fp : List Nat} {gS bS : Nat} {ga gd gl : Int} {z : Z} {s : St} {l : List (List UInt8)} (h : SAt w X R L g fp gS bS ga gd gl z s l) {b : Bool} {f : Int} (hb : b = (z.dead || decide (f = 12))) : SAt (w.setCell ⟨X, 12, none⟩ (.bool b)) X R L g fp gS bS ga gd gl (z.told f) s l ∧ Keep [X] w (w.setCell ⟨X, 12, none⟩ (.bool b)) := by
  subst hb
  obtain ⟨lv, c, h1, h2, h3⟩ := h.blk
  obtain ⟨x1, x2, x3, x4⟩ := h.nX
  obtain ⟨r1, r2, r3, r4⟩ := h.nR
  have hk : Keep [X] w (w.setCell ⟨X, 12, none⟩ (.bool (z.dead || decide (f = 12)))) := (Keep.refl _ _).set (.inl (by simp)) _
  refine ⟨⟨⟨h.both.disk.keep hk (fun j hj e => x4 (by rw [List.mem_singleton] at e; exact e ▸ hj)), h.both.sym.keepK hk (by simp; exact fun e => x3 e.symm) (by simp; exact fun e => x2 e.symm), h.both.nS, h.both.nB⟩, ⟨lv, c, (h1.set (k := 12) _ : Blk _ X (xc g gS ga gd gl (z.told f) lv (.slice (some ⟨R, 0, none⟩) z.pages.length c))), h2, h3.move hk (by simp; exact fun e => x1 e.symm) (fun j hj hlt => ⟨by simp; exact hj.1, hj⟩)⟩,
    fun hd => ⟨Blk.other (h.log hd).1 _ (h.log hd).2, (h.log hd).2⟩, h.nX, h.nR, h.nL, Nat.lt_of_lt_of_le h.lt hk.size⟩, hk⟩
theorem STurn.tell {w w1 : World} {X R L g : Nat} {fp : List Nat} {gS bS : Nat} {ga gd gl : Int} {z : Z} {s : St} {l : List (List UInt8)} (h : STurn w X R L g fp gS bS ga gd gl z s l w1) {b : Bool} {f : Int} (hb : b = (z.dead || decide (f = 12))) : STurn w X R L g fp gS bS ga gd gl (z.told f) s l (w1.setCell ⟨X, 12, none⟩ (.bool b)) := by
  obtain ⟨L2, fp2, b2, k2, f2⟩ := h
  obtain ⟨t1, t2⟩ := b2.tell hb
  exact ⟨L2, fp2, t1, k2.trans (t2.more (fp' := X :: R :: L :: bS :: fp) (fun j hj => by simp only [List.mem_cons, List.not_mem_nil, or_false] at hj ⊢; exact .inl hj)) (Fresh.refl _ _), f2⟩
theorem told_any (X R L g : Nat) (fp : List Nat) (gS bS : Nat) (ga gd gl : Int) (z : Z) (s : St) (l : List (List UInt8)) (f : Int) (w : World) (h : SAt w X R L g fp gS bS ga gd gl z s l) :
    Calls Tryz.prog 47 #[.pointer (some ⟨X, 0, none⟩), .int .i64 f] w fun e w' => e = .returned (.int .i64 f) ∧ STurn w X R L g fp gS bS ga gd gl (z.told f) s l w' := by
  have HT := Lib.hid (fun b hb => (STurn.same h (Below.refl _ _)).tell (b := b) (f := f) hb)
  obtain ⟨lv, c, h1, _, h3⟩ := h.blk
  obtain ⟨z0, z1, z2, z3, z4, z5, z6, z7, z8, z9, z10, z11, z12⟩ := thirteen h1
  have fX := h1.free
  have hlX := h1.lt
  clear h h1 h3
  cases hd : z.dead with
  | true =>
    rw [hd] at z12
    have HD := Lib.hid hd
    clear hd
    go_enter Tryz.func47, Tryz.ntmps47
    go_wp2_with fail
    go_ret
    exact ⟨rfl, HT.out true (by rw [HD.out]; rfl)⟩
  | false =>
    rw [hd] at z12
    have HD := Lib.hid hd
    clear hd
    by_cases hf : f = 12
    · have t0 := beq_yes hf
      have HF := Lib.hid hf
      clear hf
      go_enter Tryz.func47, Tryz.ntmps47
      go_wp2_with fail
      go_ret
      exact ⟨rfl, HT.out true (by rw [HD.out, HF.out]; rfl)⟩
    · have t0 := beq_no hf
      have HF := Lib.hid hf
      clear hf
      go_enter Tryz.func47, Tryz.ntmps47
      go_wp2_with fail
      go_ret
      exact ⟨rfl, HT.out false (by rw [HD.out, decide_eq_false HF.out]; rfl)⟩
/-! what a store tells of itself -/
theorem gen_any (X R L g : Nat) (fp : List Nat) (gS bS : Nat) (ga gd gl : Int) (z : Z) (s : St) (l : List (List UInt8)) (w : World) (h : SAt w X R L g fp gS bS ga gd gl z s l) :
    Calls Tryz.prog 20 #[.pointer (some ⟨X, 0, none⟩)] w fun e w' => e = .returned (.int .u64 (z.gen.toNat : Int)) ∧ w = w' := by
  obtain ⟨lv, c, h1, _, h3⟩ := h.blk
  obtain ⟨z0, z1, z2, z3, z4, z5, z6, z7, z8, z9, z10, z11, z12⟩ := thirteen h1
  clear h h1 h3
  go_enter Tryz.func20, Tryz.ntmps20
  go_wp2
  go_ret
  exact ⟨rfl, rfl⟩
theorem life_any (X R L g : Nat) (fp : List Nat) (gS bS : Nat) (ga gd gl : Int) (z : Z) (s : St) (l : List (List UInt8)) (w : World) (h : SAt w X R L g fp gS bS ga gd gl z s l) :
    Calls Tryz.prog 21 #[.pointer (some ⟨X, 0, none⟩)] w fun e w' => e = .returned (.int .u64 (z.life.toNat : Int)) ∧ w = w' := by
  obtain ⟨lv, c, h1, _, h3⟩ := h.blk
  obtain ⟨z0, z1, z2, z3, z4, z5, z6, z7, z8, z9, z10, z11, z12⟩ := thirteen h1
  clear h h1 h3
  go_enter Tryz.func21, Tryz.ntmps21
  go_wp2
  go_ret
  exact ⟨rfl, rfl⟩
theorem dead_any (X R L g : Nat) (fp : List Nat) (gS bS : Nat) (ga gd gl : Int) (z : Z) (s : St) (l : List (List UInt8)) (w : World) (h : SAt w X R L g fp gS bS ga gd gl z s l) :
    Calls Tryz.prog 29 #[.pointer (some ⟨X, 0, none⟩)] w fun e w' => e = .returned (.bool z.dead) ∧ w = w' := by
  obtain ⟨lv, c, h1, _, h3⟩ := h.blk
  obtain ⟨z0, z1, z2, z3, z4, z5, z6, z7, z8, z9, z10, z11, z12⟩ := thirteen h1
  clear h h1 h3
  go_enter Tryz.func29, Tryz.ntmps29
  go_wp2
  go_ret
  exact ⟨rfl, rfl⟩
theorem room_any (X R L g : Nat) (fp : List Nat) (gS bS : Nat) (ga gd gl : Int) (z : Z) (s : St) (l : List (List UInt8)) (w : World) (h : SAt w X R L g fp gS bS ga gd gl z s l) (hs : z.seq ≤ 100000) (hg : 0 ≤ gl) (hg1 : gl ≤ 100000) (hh : z.due = false → z.has = true) :
    Calls Tryz.prog 28 #[.pointer (some ⟨X, 0, none⟩)] w fun e w' => e = .returned (.int .i64 (if z.due = true then 0 else gl - z.seq)) ∧ Below w.heap.size w w' := by
  obtain ⟨lv, c, h1, h2, h3⟩ := h.blk
  obtain ⟨z0, z1, z2, z3, z4, z5, z6, z7, z8, z9, z10, z11, z12⟩ := thirteen h1
  cases hd : z.due with
  | true =>
    rw [if_pos rfl]
    rw [hd] at z11
    clear h h1 h2 h3 hh
    go_enter Tryz.func28, Tryz.ntmps28
    go_wp2
    go_ret
    exact ⟨rfl, Below.refl _ _⟩
  | false =>
    rw [if_neg (by simp)]
    rw [hd] at z11
    rw [h2 (hh hd)] at z8
    have HR := Lib.hid (Wal.room_any L g gS ga gd gl z.life z.base z.seq w (h.log (hh hd)).1 hs hg hg1)
    clear h h1 h2 h3 hh
    go_enter Tryz.func28, Tryz.ntmps28
    go_wp2_with (go_at_call 64; refine HR.out.mono ?_; rintro e w1 ⟨rfl, b1⟩)
    go_ret
    exact ⟨rfl, b1⟩
end Go.Proofs.YtchcmklelmlbgaaGreat.Sto

/- The store: put. No statement is proved here. -/
namespace Go.Proofs.YtchcmklelmlbgaaGreat.Sto
open Go.RowKit
open Go.Proofs.YtchcmklelmlbgaaGreat.Geom
open Go.Proofs.YtchcmklelmlbgaaGreat.Disk (St DAt Did)
open Go.Proofs.YtchcmklelmlbgaaGreat.Sup (Gb gv)
open Go.Proofs.YtchcmklelmlbgaaGreat.Wal (LAt lcell)
set_option linter.unusedVariables false
set_option maxRecDepth 100000
def Z.put (z : Z) (pages : List Pg) : Z := { z with pages := putP z.pages pages }
theorem putP_snoc (P : List (List UInt8)) (l : List Pg) (x : Pg) : putP P (l ++ [x]) = (putP P l).set x.n.toNat x.body := by simp [putP]
/-- one page is put -/
theorem SAt.put1 {w w1 : World} {X R L g : Nat} {fp : List Nat} {gS bS : Nat} {ga gd gl : Int} {z : Z} {s : St} {l : List (List UInt8)} (h : SAt w X R L g fp gS bS ga gd gl z s l) (b1 : Below w.heap.size w w1) {A : Option Addr} {c : Nat} {x : Pg} {m : Int} (hm : m = x.n) (hm0 : 0 ≤ m) (o : w1.ownsRow w.heap.size 5 1 (.slice A x.body.length c) x.body.length (x.body.map e8)) :
    SAt (w1.setCell ⟨R, m.toNat, none⟩ (.slice A x.body.length c)) X R L g fp gS bS ga gd gl (z.put [x]) s l ∧ Keep [R] w (w1.setCell ⟨R, m.toNat, none⟩ (.slice A x.body.length c)) := by
  subst hm
  have h1 := h.on b1
  obtain ⟨lv, c', a1, a2, a3⟩ := h1.blk
  obtain ⟨x1, x2, x3, x4⟩ := h.nX
  obtain ⟨r1, r2, r3, r4⟩ := h.nR
  have hk : Keep [R] w1 (w1.setCell ⟨R, x.n.toNat, none⟩ (.slice A x.body.length c)) := (Keep.refl _ _).set (.inl (by simp)) _
  have hlt := h.both.disk.lt
  have hls := h.both.sym.lt
  have hX := h.ltX
  have hL := h.lt
  have hcap := own_cap o
  have hq : RdQ w1 (Off X R L bS gS fp) A (x.body.map e8) := (RdQ.own o).imp (fun j _ hj => ⟨by omega, by omega, by omega, by omega, by omega, fun e => by have := hlt _ e; omega⟩)
  have hs := a3.set (fun e => e.2.1 rfl) x.n.toNat hq hcap.1 hcap.2
  refine ⟨⟨⟨h1.both.disk.keep hk (fun j hj e => r4 (by rw [List.mem_singleton] at e; exact e ▸ hj)), h1.both.sym.keepK hk (by simp; exact fun e => r3 e.symm) (by simp; exact fun e => r2 e.symm), h.both.nS, h.both.nB⟩, ⟨lv, c', ?_, a2, hs⟩,
    fun hd => ⟨Blk.other (h1.log hd).1 _ (fun e => r1 e.symm), (h.log hd).2⟩, h.nX, h.nR, h.nL, by rw [World.setCell]; simpa using h1.lt⟩, (Keep.of_below b1 [R]).trans hk (Fresh.refl _ _)⟩
  have := a1.keepK hk (by simpa using x1)
  show Blk _ X (xc g gS ga gd gl (z.put [x]) lv (.slice (some ⟨R, 0, none⟩) (z.pages.set x.n.toNat x.body).length c'))
  rw [List.length_set]
  exact this
set_option maxHeartbeats 1000000 in
theorem put_any (X R L g : Nat) (fp : List Nat) (gS bS : Nat) (ga gd gl : Int) (z : Z) (s : St) (l : List (List UInt8)) (Q : Nat → Prop) (A : Option Addr) (pages : List Pg) (c : Nat) (w : World) (h : SAt w X R L g fp gS bS ga gd gl z s l) (hr : Pgs w Q A pages) (hQ : ∀ j, Q j → j < w.heap.size → j ≠ R)
    (hcl : pages.length ≤ 1000000) (hp : ∀ k (hk : k < pages.length), 0 ≤ pages[k].n ∧ pages[k].n < z.pages.length ∧ pages[k].body.length ≤ 1000000) (hzl : z.pages.length ≤ 1000000) :
    Calls Tryz.prog 48 #[.pointer (some ⟨X, 0, none⟩), .slice A pages.length c] w fun e w' => e = .returned (.tuple #[]) ∧ SAt w' X R L g fp gS bS ga gd gl (z.put pages) s l ∧ Keep [R] w w' := by
  have HP := Lib.hid hp
  have HR := Lib.hid hr
  have HQ := Lib.hid hQ
  have HH := Lib.hid h
  have hzl' : ∀ k, (z.put (pages.take k)).pages.length = z.pages.length := fun k => putP_len _ _
  have HZ := Lib.hid hzl'
  clear hp hr hQ h hzl'
  go_enter Tryz.func48, Tryz.ntmps48
  go_wp2_with fail
  go_loopw [8] (fun i wr => ∃ k : Nat, k ≤ pages.length ∧ i = .int .i64 (k : Int) ∧ Keep [R] w wr ∧ SAt wr X R L g fp gS bS ga gd gl (z.put (pages.take k)) s l) (fun i _ => pages.length - (intOf i).toNat)
  case atStart => exact ⟨0, by omega, rfl, Keep.refl _ _, HH.out⟩
  case round =>
    obtain ⟨k, hk, rfl, kr, hS⟩ := hrel
    by_cases hlt : k < pages.length
    · have hkn : (k : Int) < (pages.length : Int) := by omega
      obtain ⟨p1, p2, p3⟩ := HP.out k hlt
      obtain ⟨b, off, Ai, ci, rfl, hb, hx⟩ := (HR.out.keep kr (fun j hj hlt' e => HQ.out j hj hlt' (by simpa using e))).get hlt
      obtain ⟨x, hx0⟩ : ∃ x, x = pages[k] := ⟨_, rfl⟩
      rw [← hx0] at p1 p2 p3 hx
      obtain ⟨m, hm⟩ : ∃ m : Nat, m = x.n.toNat := ⟨_, rfl⟩
      have hxn : x.n = (m : Int) := by omega
      have htk : z.put (pages.take (k + 1)) = (z.put (pages.take k)).put [x] := by
        unfold Z.put
        rw [List.take_succ_eq_append_getElem hlt, ← hx0, putP_snoc]; rfl
      have c0 := hx.c0
      have c1 := hx.c1
      have hci := hx.cap
      rw [hxn] at c0
      have hzz := HZ.out k
      obtain ⟨zz, hzz0⟩ : ∃ zz, zz = z.put (pages.take k) := ⟨_, rfl⟩
      rw [← hzz0] at hS hzz htk
      obtain ⟨lv, c', a1, _, a3⟩ := hS.blk
      obtain ⟨z0, z1, z2, z3, z4, z5, z6, z7, z8, z9, z10, z11, z12⟩ := thirteen a1
      have hcap := a3.cap
      obtain ⟨vR, r0⟩ : ∃ v, wr.cell? ⟨R, m, none⟩ = some v := by obtain ⟨AR, cR, r, _⟩ := a3.get (i := m) (by omega); exact ⟨_, r⟩
      have fR := a3.free m
      have hlR := a3.lt
      have hlX := a1.lt
      have hmi : (m : Int) < (zz.pages.length : Int) := by omega
      obtain ⟨w2, hw2⟩ : ∃ w2, w2 = wr.alloc (.cells #[.int .i64 (m : Int), .slice Ai x.body.length ci] 53) := ⟨_, rfl⟩
      have b2 : Below wr.heap.size wr w2 := by rw [hw2]; exact b1alloc _ _
      have FP : Blk w2 wr.heap.size [.int .i64 (m : Int), .slice Ai x.body.length ci] := by rw [hw2]; exact Blk.new wr [.int .i64 (m : Int), .slice Ai x.body.length ci] 53
      have FX := a1.on b2
      have hlP := FP.lt
      have HS2 := Lib.hid (fun W (bW : Below w2.heap.size w2 W) => show W.cell? ⟨X, 10, none⟩ = some (.slice (some ⟨R, 0, none⟩) zz.pages.length c') ∧ W.cell? ⟨wr.heap.size, 0, none⟩ = some (.int .i64 (m : Int)) ∧ W.cell? ⟨wr.heap.size, 1, none⟩ = some (.slice Ai x.body.length ci) from
        ⟨(FX.on bW).cell (k := 10) (by simp), (FP.on bW).cell (k := 0) (by simp), (FP.on bW).cell (k := 1) (by simp)⟩)
      have HS3 := Lib.hid (fun W (bW : Below w2.heap.size w2 W) (v : Value) => show (W.setCell ⟨R, m, none⟩ v).cell? ⟨X, 10, none⟩ = some (.slice (some ⟨R, 0, none⟩) zz.pages.length c') ∧ (W.setCell ⟨R, m, none⟩ v).cell? ⟨wr.heap.size, 0, none⟩ = some (.int .i64 (m : Int)) ∧ (W.setCell ⟨R, m, none⟩ v).cell? ⟨wr.heap.size, 1, none⟩ = some (.slice Ai x.body.length ci) from
        ⟨((FX.on bW).other v hS.nX.1).cell (k := 10) (by simp), ((FP.on bW).other v (by omega)).cell (k := 0) (by simp), ((FP.on bW).other v (by omega)).cell (k := 1) (by simp)⟩)
      have HC := Lib.hid (fun W (bW : Below w2.heap.size w2 W) => Sl.clone_any Ai x.body _ ci W rfl ((hx.rd.rd.on b2).on bW) (by omega))
      have HFR := Lib.hid (fun W (bW : Below w2.heap.size w2 W) => show W.cell? ⟨R, m, none⟩ = some vR ∧ W.frozen? ⟨R, m, none⟩ = false from
        ⟨(World.cell?_of_block ((bt b2 bW).block _ hlR)).trans r0, (World.frozen?_of_block ((bt b2 bW).block _ hlR)).trans fR⟩)
      have cz : Below w2.heap.size w2 w2.drew := (Below.refl _ _).drew
      have HW2 := Lib.hid hw2
      have HB2 := Lib.hid b2
      have HSS := Lib.hid hS
      have Htk := Lib.hid htk
      have Hx0 := Lib.hid hxn
      have Hkr := Lib.hid kr
      clear hw2 FP FX a1 a3 hS htk hx0 hx hxn p1 p2 p3 hm kr z0 z1 z2 z3 z4 z5 z6 z7 z8 z9 z11 z12 hzz0 hzz hzl b2
      go_upto_region 3 with (fail)
      rw [← HW2.out]
      go_region_held3 (fun W => W.cell? ⟨X, 10, none⟩ = some (.slice (some ⟨R, 0, none⟩) zz.pages.length c') ∧ W.cell? ⟨wr.heap.size, 0, none⟩ = some (.int .i64 (m : Int)) ∧ W.cell? ⟨wr.heap.size, 1, none⟩ = some (.slice Ai x.body.length ci)) (first | exact HS2.out _ cz | exact HS2.out _ bt1 | exact HS3.out _ bt1 _) ((go_at_call 57; refine (HC.out _ cz).mono ?_; rintro e w3 ⟨A3, c3, rfl, o3, b3⟩; have bt1 := bt cz b3; obtain ⟨y0, y1⟩ := HFR.out w3 bt1; have o4 := Lib.hid o3; clear o3))
      obtain ⟨s1, s2⟩ := SAt.put1 HSS.out (bt HB2.out bt1) (A := A3) (c := c3) (x := x) (m := (m : Int)) Hx0.out.symm (by omega) (own_base o4.out (by have := HB2.out.size; have := cz.size; omega))
      have S1 := Lib.hid s1
      have S2 := Lib.hid s2
      clear s1 s2 y0 y1
      go_wp2_with fail
      case roundEnd =>
        refine ⟨⟨k + 1, by omega, by go_num, Hkr.out.trans S2.out (Fresh.refl _ _), by rw [Htk.out]; exact S1.out⟩, by simp only [intOf]; omega⟩
    · obtain rfl : k = pages.length := by omega
      have hkn : ¬ (pages.length : Int) < (pages.length : Int) := by omega
      rw [List.take_length] at hS
      have HSS := Lib.hid hS
      have HK := Lib.hid kr
      clear hS kr
      go_wp2_with fail
      go_end0
      exact ⟨rfl, HSS.out, HK.out⟩
end Go.Proofs.YtchcmklelmlbgaaGreat.Sto

/- The store: right, and what a life that begins does. No statement is proved here. -/
namespace Go.Proofs.YtchcmklelmlbgaaGreat.Sto
open Go.RowKit
open Go.Proofs.YtchcmklelmlbgaaGreat.Geom
open Go.Proofs.YtchcmklelmlbgaaGreat.Disk (St DAt Did)
open Go.Proofs.YtchcmklelmlbgaaGreat.Sup (Gb gv gcell gthree srightF splace sB sL wf sv scell)
open Go.Proofs.YtchcmklelmlbgaaGreat.Snap (snapF)
open Go.Proofs.YtchcmklelmlbgaaGreat.Wal (LAt lcell wrightF)
set_option linter.unusedVariables false
set_option maxRecDepth 100000
theorem rightD_nil (v : Value) (ga gd gl : Int) (w : World) : Calls Tryz.prog 36 #[.pointer none, v, gv ga gd gl] w fun e w' => e = .returned (.int .i64 1) ∧ Below w.heap.size w w' := by
  have b0 := b1alloc w (.cells (gcell ga gd gl).toArray 23)
  obtain ⟨z0, z1, z2⟩ := gthree (Blk.new w (gcell ga gd gl) 23)
  go_enter Tryz.func36, Tryz.ntmps36
  go_wp2_with fail
  go_ret
  exact ⟨rfl, b0⟩
theorem rightS_nil (g : Nat) (ga gd gl : Int) (w : World) : Calls Tryz.prog 36 #[.pointer (some ⟨g, 0, none⟩), .pointer none, gv ga gd gl] w fun e w' => e = .returned (.int .i64 1) ∧ Below w.heap.size w w' := by
  have b0 := b1alloc w (.cells (gcell ga gd gl).toArray 23)
  obtain ⟨z0, z1, z2⟩ := gthree (Blk.new w (gcell ga gd gl) 23)
  go_enter Tryz.func36, Tryz.ntmps36
  go_wp2_with fail
  go_ret
  exact ⟨rfl, b0⟩
theorem right_any (g : Nat) (fp : List Nat) (s : St) (gS : Nat) (ga gd gl : Int) (w : World) (hG : Gb ga gd gl) (h : DAt w g fp s) : Calls Tryz.prog 36 #[.pointer (some ⟨g, 0, none⟩), .pointer (some ⟨gS, 0, none⟩), gv ga gd gl] w fun e w' => e = .returned (.int .i64 (srightF s ga gd gl)) ∧ Below w.heap.size w w' := by
  have F := Blk.new w (gcell ga gd gl) 23
  have b0 := b1alloc w (.cells (gcell ga gd gl).toArray 23)
  obtain ⟨z0, z1, z2⟩ := gthree F
  have HR := Lib.hid (fun W => Geom.right_any ga gd gl W hG.a0 hG.a1 hG.d0 hG.d1 hG.g0 hG.g1)
  have HZ := Lib.hid (fun W => Geom.size_any ga gd gl W hG.a0 hG.a1 hG.d0 hG.d1 hG.g0 hG.g1)
  have HD := Lib.hid (fun W (bW : Below w.heap.size w W) => Disk.size_any g fp s W (h.on bW))
  unfold srightF
  obtain ⟨q, hq⟩ : ∃ q, q = right ga gd gl := ⟨_, rfl⟩
  obtain ⟨z, hz⟩ : ∃ z, z = Geom.sizeOf ga gd gl := ⟨_, rfl⟩
  rw [← hq] at HR ⊢
  rw [← hz] at HZ ⊢
  clear hq hz
  cases q with
  | false =>
    rw [if_neg (by simp)]
    go_enter Tryz.func36, Tryz.ntmps36
    go_wp2_with fail
    refine region_inb (by kernel_rfl) (by kernel_rfl) ?_
    have inbNe := InB.some
    have inbW := @wrap_small
    have inbU := IntKind.wrap_u8'
    repeat (refine wpQuiet_step (fun K hK => ?_); go_simp; first | (refine hK _ ?_; clear hK K) | (apply Exists.intro; refine ⟨?_, hK _ ?_⟩; (· (intro w' hw'; first | (go_at_call 67; refine (HR.out _).mono ?_; rintro e w1 ⟨rfl, b1⟩; exact ⟨rfl, hw'.on b1⟩) | (have hcw := hw'.cell; go_simp; exact rfl))); clear hK K))
    refine wpQuiet_nil ?_
    intro wq hq
    clear inbNe inbW inbU
    go_wp2
    go_ret
    exact ⟨rfl, bt b0 hq.below⟩
  | true =>
    by_cases hs : (s.size : Int) = z
    · rw [if_pos ⟨rfl, hs⟩]
      have t0 := bne_no hs
      have Hs := Lib.hid hs
      clear hs
      go_enter Tryz.func36, Tryz.ntmps36
      go_wp2_with fail
      refine region_inb (by kernel_rfl) (by kernel_rfl) ?_
      have inbNe := InB.some
      have inbW := @wrap_small
      have inbU := IntKind.wrap_u8'
      repeat (refine wpQuiet_step (fun K hK => ?_); go_simp; first | (refine hK _ ?_; clear hK K) | (apply Exists.intro; refine ⟨?_, hK _ ?_⟩; (· (intro w' hw'; first | (go_at_call 67; refine (HR.out _).mono ?_; rintro e w1 ⟨rfl, b1⟩; exact ⟨rfl, hw'.on b1⟩) | (go_at_call 68; refine (HD.out _ (bt b0 hw'.below)).mono ?_; rintro e w1 ⟨rfl, rfl⟩; exact ⟨rfl, hw'⟩) | (go_at_call 69; refine (HZ.out _).mono ?_; rintro e w1 ⟨rfl, b1⟩; exact ⟨rfl, hw'.on b1⟩) | (have hcw := hw'.cell; go_simp; exact rfl))); clear hK K))
      refine wpQuiet_nil ?_
      intro wq hq
      clear inbNe inbW inbU
      go_wp2
      go_ret
      exact ⟨rfl, bt b0 hq.below⟩
    · rw [if_neg (fun e => hs e.2)]
      have t0 := bne_yes hs
      have Hs := Lib.hid hs
      clear hs
      go_enter Tryz.func36, Tryz.ntmps36
      go_wp2_with fail
      refine region_inb (by kernel_rfl) (by kernel_rfl) ?_
      have inbNe := InB.some
      have inbW := @wrap_small
      have inbU := IntKind.wrap_u8'
      repeat (refine wpQuiet_step (fun K hK => ?_); go_simp; first | (refine hK _ ?_; clear hK K) | (apply Exists.intro; refine ⟨?_, hK _ ?_⟩; (· (intro w' hw'; first | (go_at_call 67; refine (HR.out _).mono ?_; rintro e w1 ⟨rfl, b1⟩; exact ⟨rfl, hw'.on b1⟩) | (go_at_call 68; refine (HD.out _ (bt b0 hw'.below)).mono ?_; rintro e w1 ⟨rfl, rfl⟩; exact ⟨rfl, hw'⟩) | (go_at_call 69; refine (HZ.out _).mono ?_; rintro e w1 ⟨rfl, b1⟩; exact ⟨rfl, hw'.on b1⟩) | (have hcw := hw'.cell; go_simp; exact rfl))); clear hK K))
      refine wpQuiet_nil ?_
      intro wq hq
      clear inbNe inbW inbU
      go_wp2
      go_ret
      exact ⟨rfl, bt b0 hq.below⟩
/-! a life begins: its three steps -/
set_option maxHeartbeats 1000000 in
theorem begin1_any (X R L g : Nat) (fp : List Nat) (gS bS : Nat) (ga gd gl : Int) (z : Z) (s : St) (l : List (List UInt8)) (life : UInt64) (base : Int) (gen : UInt64) (bX bA : Nat) (w : World) (hG : Gb ga gd gl) (h : SAt w X R L g fp gS bS ga gd gl z s l) (hX : Box w bX (.pointer (some ⟨X, 0, none⟩))) (hA : Blk w bA (scell life base gen))
    (hl : l.length ≤ 900000) (hs : s.sz ≤ 80000000) (hf : srightF s ga gd gl = 0) (hn : (z.pages.length : Int) = pagesOf ga gd gl) (hlong : Snap.longB z.pages = false) :
    Calls Tryz.prog 77 #[.pointer (some ⟨bX, 0, none⟩), .pointer (some ⟨bA, 0, none⟩)] w fun e w' => e = .returned (.int .i64 (snapF ga gd gl life z.pages l s).2.2) ∧ Turn w g fp gS bS (snapF ga gd gl life z.pages l s).2.1 (snapF ga gd gl life z.pages l s).1 w' := by
  obtain ⟨lv, c, h1, _, h3⟩ := h.blk
  obtain ⟨z0, z1, z2, z3, z4, z5, z6, z7, z8, z9, z10, z11, z12⟩ := thirteen h1
  obtain ⟨a0, a1, a2⟩ := gthree hA
  have q0 := hX.cell
  have HW := Lib.hid (fun W (bW : Below w.heap.size w W) => Snap.write_any g fp s gS bS l ga gd gl life (fun j => j ∉ bS :: fp) (some ⟨R, 0, none⟩) z.pages c W hG (h.both.on bW) hl hs hf ((h3.rw (fun j _ hj => by simp [hj.2.2.2.1, hj.2.2.2.2.2]) (by simp [h.nR])).on bW) (fun j hj _ => hj) hn hlong)
  obtain ⟨V, hV⟩ : ∃ V, V = snapF ga gd gl life z.pages l s := ⟨_, rfl⟩
  rw [← hV] at HW ⊢
  have hlX := h1.lt
  have hlA := hA.lt
  have hlB := hX.lt
  clear hV h1 h3 h hX hA hl hs hf hn hlong hG
  go_enter Tryz.func77, Tryz.ntmps77
  go_wp2_with fail
  refine region_inb_tail 18 (by kernel_rfl) (by kernel_rfl) ?_
  simp only [List.take_succ_cons, List.take_zero, List.drop_succ_cons, List.drop_zero]
  have inbNe := InB.some
  have inbW := @wrap_small
  have inbU := IntKind.wrap_u8'
  repeat (refine wpQuiet_step (fun K hK => ?_); go_simp; first | (refine hK _ ?_; clear hK K) | (apply Exists.intro; refine ⟨?_, hK _ ?_⟩; (· (intro w' hw'; first | (have hcw := hw'.cell; go_simp; exact rfl))); clear hK K))
  refine wpQuiet_nil ?_
  intro wq hq
  clear inbNe inbW inbU
  go_wp2_with (go_at_call 78; refine (HW.out _ hq.below).mono ?_; rintro e w1 ⟨rfl, t1⟩)
  go_ret
  exact ⟨rfl, Turn.trans (Keep.of_below hq.below _) (Fresh.refl _ _) t1⟩
set_option maxHeartbeats 1000000 in
theorem begin2_any (X R L g : Nat) (fp : List Nat) (gS bS : Nat) (ga gd gl : Int) (z : Z) (s : St) (l : List (List UInt8)) (life : UInt64) (base : Int) (gen : UInt64) (bX bA : Nat) (w : World) (hG : Gb ga gd gl) (h : SAt w X R L g fp gS bS ga gd gl z s l) (hX : Box w bX (.pointer (some ⟨X, 0, none⟩))) (hA : Blk w bA (scell life base gen))
    (hl : l.length ≤ 1000000) (hs : s.sz ≤ 90000000) (hf : srightF s ga gd gl = 0) (hb0 : 0 ≤ base) (hb1 : base ≤ 1073741824) :
    Calls Tryz.prog 79 #[.pointer (some ⟨bX, 0, none⟩), .pointer (some ⟨bA, 0, none⟩)] w fun e w' => e = .returned (.int .i64 (wf s (splace life) (sB l ga gd gl life base gen)).2) ∧ Turn w g fp gS bS (wf s (splace life) (sB l ga gd gl life base gen)).1 (sL l ga gd gl life base gen) w' := by
  obtain ⟨lv, c, h1, _, h3⟩ := h.blk
  obtain ⟨z0, z1, z2, z3, z4, z5, z6, z7, z8, z9, z10, z11, z12⟩ := thirteen h1
  obtain ⟨a0, a1, a2⟩ := gthree hA
  have q0 := hX.cell
  have HW := Lib.hid (fun W (bW : Below w.heap.size w W) => Sup.write_any g fp s gS bS l ga gd gl life base gen W hG (h.both.on bW) hl hs hf hb0 hb1)
  obtain ⟨V, hV⟩ : ∃ V, V = wf s (splace life) (sB l ga gd gl life base gen) := ⟨_, rfl⟩
  obtain ⟨U, hU⟩ : ∃ V, V = sL l ga gd gl life base gen := ⟨_, rfl⟩
  rw [← hV, ← hU] at HW ⊢
  have hlX := h1.lt
  have hlA := hA.lt
  have hlB := hX.lt
  clear hV hU h1 h3 h hX hA hl hs hf hb0 hb1 hG
  go_enter Tryz.func79, Tryz.ntmps79
  go_wp2_with fail
  refine region_inb_tail 13 (by kernel_rfl) (by kernel_rfl) ?_
  simp only [List.take_succ_cons, List.take_zero, List.drop_succ_cons, List.drop_zero]
  have inbNe := InB.some
  have inbW := @wrap_small
  have inbU := IntKind.wrap_u8'
  repeat (refine wpQuiet_step (fun K hK => ?_); go_simp; first | (refine hK _ ?_; clear hK K) | (apply Exists.intro; refine ⟨?_, hK _ ?_⟩; (· (intro w' hw'; first | (have hcw := hw'.cell; go_simp; exact rfl))); clear hK K))
  refine wpQuiet_nil ?_
  intro wq hq
  clear inbNe inbW inbU
  go_wp2_with (go_at_call 80; refine (HW.out _ hq.below).mono ?_; rintro e w1 ⟨rfl, t1⟩)
  go_ret
  exact ⟨rfl, Turn.trans (Keep.of_below hq.below _) (Fresh.refl _ _) t1⟩
end Go.Proofs.YtchcmklelmlbgaaGreat.Sto

/- The store: the last step of a life that begins, and begin itself. No statement is proved here. -/
namespace Go.Proofs.YtchcmklelmlbgaaGreat.Sto
open Go.RowKit
open Go.Proofs.YtchcmklelmlbgaaGreat.Geom
open Go.Proofs.YtchcmklelmlbgaaGreat.Disk (St DAt Did)
open Go.Proofs.YtchcmklelmlbgaaGreat.Sup (Gb gv gcell gthree srightF splace sB sL wf sv scell)
open Go.Proofs.YtchcmklelmlbgaaGreat.Snap (snapF)
open Go.Proofs.YtchcmklelmlbgaaGreat.Wal (LAt lcell wrightF)
set_option linter.unusedVariables false
set_option maxRecDepth 100000
theorem SAt.begun {w wc w1 : World} {X R L L' g : Nat} {fp : List Nat} {gS bS : Nat} {ga gd gl : Int} {z : Z} {s : St} {l : List (List UInt8)} {life : UInt64} {base : Int} {gen : UInt64} {lv : Value} {c : Nat} (h : SAt w X R L g fp gS bS ga gd gl z s l) (h3 : SRow w R c z.pages (Off X R L bS gS fp)) (kc : Keep [X] w wc) (fc : Blk wc X (xc g gS ga gd gl (z.begun life base gen) lv (.slice (some ⟨R, 0, none⟩) z.pages.length c)))
    (b1 : Below wc.heap.size wc w1) (hL : LAt w1 L' g gS ga gd gl life base 0) (hL' : wc.heap.size ≤ L') :
    SAt (w1.setCell ⟨X, 8, none⟩ (.pointer (some ⟨L', 0, none⟩))) X R L' g fp gS bS ga gd gl (z.begun life base gen) s l ∧ Keep [X] w (w1.setCell ⟨X, 8, none⟩ (.pointer (some ⟨L', 0, none⟩))) ∧ w.heap.size ≤ L' := by
  obtain ⟨x1, x2, x3, x4⟩ := h.nX
  obtain ⟨r1, r2, r3, r4⟩ := h.nR
  have hX := h.ltX
  have hs := kc.size
  have hb1 : Keep [X] w w1 := kc.trans (Keep.of_below b1 [X]) (Fresh.refl _ _)
  have hk := hb1.set (p := ⟨X, 8, none⟩) (.inl (by simp)) (.pointer (some ⟨L', 0, none⟩))
  have hlt := h.both.disk.lt
  have hls := h.both.sym.lt
  have hLx : L' ≠ X := by have := hX.1; omega
  refine ⟨⟨⟨h.both.disk.keep hk (fun j hj e => x4 (by rw [List.mem_singleton] at e; exact e ▸ hj)), h.both.sym.keepK hk (by simp; exact fun e => x3 e.symm) (by simp; exact fun e => x2 e.symm), h.both.nS, h.both.nB⟩, ⟨_, c, ((fc.on b1).set (k := 8) _ : Blk _ X (xc g gS ga gd gl (z.begun life base gen) (.pointer (some ⟨L', 0, none⟩)) (.slice (some ⟨R, 0, none⟩) z.pages.length c))), fun _ => rfl, h3.move hk (by simp; exact fun e => x1 e.symm) (fun j hj hlt => ⟨by simp; exact hj.1, hj.1, hj.2.1, by omega, hj.2.2.2⟩)⟩,
    fun _ => ⟨Blk.other hL _ hLx, hLx⟩, ⟨x1, x2, x3, x4⟩, ⟨by have := hX.2; omega, r2, r3, r4⟩, ⟨by have := hls.2; omega, by have := hls.1; omega, fun e => by have := hlt _ e; omega⟩, ?_⟩, hk, by omega⟩
  have := hL.lt
  simpa [World.setCell] using this
def BMid (w : World) (X g gS : Nat) (ga gd gl : Int) (z : Z) (lv pv : Value) (wx : World) : Prop := Keep [X] w wx ∧ Blk wx X (xc g gS ga gd gl z lv pv)
set_option maxHeartbeats 1000000 in
theorem begin3_any (X R L g : Nat) (fp : List Nat) (gS bS : Nat) (ga gd gl : Int) (z : Z) (s : St) (l : List (List UInt8)) (life : UInt64) (base : Int) (gen : UInt64) (bX bA : Nat) (w : World) (hG : Gb ga gd gl) (h : SAt w X R L g fp gS bS ga gd gl z s l) (hX : Box w bX (.pointer (some ⟨X, 0, none⟩))) (hA : Blk w bA (scell life base gen)) (nX : bX ≠ X) (nA : bA ≠ X) (nXA : bX ≠ bA)
    (hf : wrightF s ga gd gl base = 0) :
    Calls Tryz.prog 81 #[.pointer (some ⟨bA, 0, none⟩), .pointer (some ⟨bX, 0, none⟩)] w fun e w' => e = .returned (.int .i64 0) ∧ ∃ L', SAt w' X R L' g fp gS bS ga gd gl (z.begun life base gen) s l ∧ Keep [X] w w' ∧ w.heap.size ≤ L' := by
  obtain ⟨lv, c, h1, _, h3⟩ := h.blk
  have H3 := Lib.hid h3
  obtain ⟨z0, z1, z2, z3, z4, z5, z6, z7, z8, z9, z10, z11, z12⟩ := thirteen h1
  obtain ⟨a0, a1, a2⟩ := gthree hA
  have q0 := hX.cell
  have fX := h1.free
  have hlX := h1.lt
  have hlA := hA.lt
  have hlB := hX.lt
  have HN := Lib.hid (fun W hD => Wal.new_any g fp s gS ga gd gl life base W hG hD hf)
  have HH := Lib.hid h
  have HB := Lib.hid h1
  have HX := Lib.hid hX
  have HA := Lib.hid hA
  clear h1 h3 h hX hA hf hG
  go_enter Tryz.func81, Tryz.ntmps81
  go_wp2_with fail
  have HS := Lib.hid (fun (W : World) (hW : Keep [X] w W) => show W.cell? ⟨bX, 0, none⟩ = some (.pointer (some ⟨X, 0, none⟩)) ∧ W.cell? ⟨bA, 0, none⟩ = some (.int .u64 (life.toNat : Int)) ∧ W.cell? ⟨bA, 1, none⟩ = some (.int .i64 base) ∧ W.cell? ⟨bA, 2, none⟩ = some (.int .u64 (gen.toNat : Int)) from ⟨(HX.out.keep hW (by simpa using nX)).cell, gthree (HA.out.keepK hW (by simpa using nA))⟩)
  have k0 : Keep [X] w w := Keep.refl _ _
  have k1 := ((k0.set (p := ⟨X, 5, none⟩) (.inl (by simp)) (.int .u64 (life.toNat : Int))).set (p := ⟨X, 6, none⟩) (.inl (by simp)) (.int .i64 base)).set (p := ⟨X, 7, none⟩) (.inl (by simp)) (.int .u64 (gen.toNat : Int))
  have k2 := k0.set (p := ⟨X, 11, none⟩) (.inl (by simp)) (.bool false)
  have k3 := k1.set (p := ⟨X, 11, none⟩) (.inl (by simp)) (.bool false)
  have k4 := ((k2.set (p := ⟨X, 5, none⟩) (.inl (by simp)) (.int .u64 (life.toNat : Int))).set (p := ⟨X, 6, none⟩) (.inl (by simp)) (.int .i64 base)).set (p := ⟨X, 7, none⟩) (.inl (by simp)) (.int .u64 (gen.toNat : Int))
  clear nX nA nXA z0 z1 z2 z3 z4 z8 z9 z10 z12
  go_cut [] (fun wx => BMid w X g gS ga gd gl (z.begun life base gen) lv (.slice (some ⟨R, 0, none⟩) z.pages.length c) wx)
  case first =>
    go_region_held3 (fun w' => w'.cell? ⟨bX, 0, none⟩ = some (.pointer (some ⟨X, 0, none⟩)) ∧ w'.cell? ⟨bA, 0, none⟩ = some (.int .u64 (life.toNat : Int)) ∧ w'.cell? ⟨bA, 1, none⟩ = some (.int .i64 base) ∧ w'.cell? ⟨bA, 2, none⟩ = some (.int .u64 (gen.toNat : Int))) (first | exact ⟨q0, a0, a1, a2⟩ | exact HS.out _ k1 | exact HS.out _ k2 | exact HS.out _ k3 | exact HS.out _ k4 | exact HS.out _ k0) (fail)
    go_wp2_with fail
    go_meet
    case rel => exact ⟨⟨k3.1, k3.2.1, k3.2.2.1, k3.2.2.2.1, k3.2.2.2.2⟩, ((((HB.out.set (k := 5) (.int .u64 (life.toNat : Int))).set (k := 6) (.int .i64 base)).set (k := 7) (.int .u64 (gen.toNat : Int))).set (k := 11) (.bool false) : Blk _ X _)⟩
  case rest =>
    clear k1 k2 k3 k4 z5 z6 z7 z11 q0 a0 a1 a2
    obtain ⟨kc, fc⟩ := hcut
    obtain ⟨q0, a0, a1, a2⟩ := HS.out wc kc
    obtain ⟨y0, y1, y2, y3, y4, y5, y6, y7, y8, y9, y10, y11, y12⟩ := thirteen fc
    have hlX := fc.lt
    have hD := Lib.hid (fun W (bW : Below wc.heap.size wc W) => show DAt W g fp s from (HH.out.both.disk.keep kc (fun j hj e => HH.out.nX.2.2.2 (by rw [List.mem_singleton] at e; exact e ▸ hj))).on bW)
    have HS2 := Lib.hid (fun W (bW : Below wc.heap.size wc W) => show W.cell? ⟨bX, 0, none⟩ = some (.pointer (some ⟨X, 0, none⟩)) ∧ W.cell? ⟨bA, 0, none⟩ = some (.int .u64 (life.toNat : Int)) ∧ W.cell? ⟨bA, 1, none⟩ = some (.int .i64 base) ∧ W.cell? ⟨X, 0, none⟩ = some (.pointer (some ⟨g, 0, none⟩)) ∧ W.cell? ⟨X, 1, none⟩ = some (.pointer (some ⟨gS, 0, none⟩)) ∧ W.cell? ⟨X, 2, none⟩ = some (.int .i64 ga) ∧ W.cell? ⟨X, 3, none⟩ = some (.int .i64 gd) ∧ W.cell? ⟨X, 4, none⟩ = some (.int .i64 gl) from by
      obtain ⟨u0, u1, u2, _⟩ := HS.out W (kc.trans (Keep.of_below bW [X]) (Fresh.refl _ _))
      obtain ⟨v0, v1, v2, v3, v4, _⟩ := thirteen (fc.on bW)
      exact ⟨u0, u1, u2, v0, v1, v2, v3, v4⟩)
    have HS3 := Lib.hid (fun W (bW : Below wc.heap.size wc W) (v : Value) => show (W.setCell ⟨X, 8, none⟩ v).cell? ⟨bX, 0, none⟩ = some (.pointer (some ⟨X, 0, none⟩)) ∧ (W.setCell ⟨X, 8, none⟩ v).cell? ⟨bA, 0, none⟩ = some (.int .u64 (life.toNat : Int)) ∧ (W.setCell ⟨X, 8, none⟩ v).cell? ⟨bA, 1, none⟩ = some (.int .i64 base) ∧ (W.setCell ⟨X, 8, none⟩ v).cell? ⟨X, 0, none⟩ = some (.pointer (some ⟨g, 0, none⟩)) ∧ (W.setCell ⟨X, 8, none⟩ v).cell? ⟨X, 1, none⟩ = some (.pointer (some ⟨gS, 0, none⟩)) ∧ (W.setCell ⟨X, 8, none⟩ v).cell? ⟨X, 2, none⟩ = some (.int .i64 ga) ∧ (W.setCell ⟨X, 8, none⟩ v).cell? ⟨X, 3, none⟩ = some (.int .i64 gd) ∧ (W.setCell ⟨X, 8, none⟩ v).cell? ⟨X, 4, none⟩ = some (.int .i64 gl) from by
      obtain ⟨u0, u1, u2, _⟩ := HS.out _ ((kc.trans (Keep.of_below bW [X]) (Fresh.refl _ _)).set (p := ⟨X, 8, none⟩) (.inl (by simp)) v)
      obtain ⟨v0, v1, v2, v3, v4, _⟩ := thirteen (show Blk (W.setCell ⟨X, 8, none⟩ v) X (xc g gS ga gd gl (z.begun life base gen) v (.slice (some ⟨R, 0, none⟩) z.pages.length c)) from (fc.on bW).set (k := 8) v)
      exact ⟨u0, u1, u2, v0, v1, v2, v3, v4⟩)
    have cz : Below wc.heap.size wc wc.drew := (Below.refl _ _).drew
    have fX := fc.free
    have FC := Lib.hid fc
    have KC := Lib.hid kc
    clear kc fc
    go_upto_region 2 with (fail)
    go_region_held3 (fun W => W.cell? ⟨bX, 0, none⟩ = some (.pointer (some ⟨X, 0, none⟩)) ∧ W.cell? ⟨bA, 0, none⟩ = some (.int .u64 (life.toNat : Int)) ∧ W.cell? ⟨bA, 1, none⟩ = some (.int .i64 base) ∧ W.cell? ⟨X, 0, none⟩ = some (.pointer (some ⟨g, 0, none⟩)) ∧ W.cell? ⟨X, 1, none⟩ = some (.pointer (some ⟨gS, 0, none⟩)) ∧ W.cell? ⟨X, 2, none⟩ = some (.int .i64 ga) ∧ W.cell? ⟨X, 3, none⟩ = some (.int .i64 gd) ∧ W.cell? ⟨X, 4, none⟩ = some (.int .i64 gl)) (first | exact HS2.out _ cz | exact HS2.out _ bt1 | exact HS3.out _ bt1 _) ((go_at_call 82; refine (HN.out _ (hD.out _ cz)).mono ?_; rintro e w1 ⟨rfl, hL1, b1⟩; have bt1 := bt cz b1; have y8' := (World.cell?_of_block (bt1.block _ hlX)).trans y8; have fx8 := (World.frozen?_of_block (bt1.block _ hlX)).trans (fX 8)))
    have fin := Lib.hid (SAt.begun HH.out H3.out KC.out FC.out bt1 hL1 (by simp))
    clear y0 y1 y2 y3 y4 y5 y6 y7 y8 y9 y10 y11 y12 fX fx8 y8'
    go_wp2_with fail
    go_ret
    exact ⟨rfl, _, fin.out⟩
end Go.Proofs.YtchcmklelmlbgaaGreat.Sto

/- The store: begin. No statement is proved here. -/
namespace Go.Proofs.YtchcmklelmlbgaaGreat.Sto
open Go.RowKit
open Go.Proofs.YtchcmklelmlbgaaGreat.Geom
open Go.Proofs.YtchcmklelmlbgaaGreat.Disk (St DAt Did)
open Go.Proofs.YtchcmklelmlbgaaGreat.Sup (Gb gv gcell gthree srightF splace sB sL wf sv scell)
open Go.Proofs.YtchcmklelmlbgaaGreat.Snap (snapF)
open Go.Proofs.YtchcmklelmlbgaaGreat.Wal (LAt lcell wrightF)
set_option linter.unusedVariables false
set_option maxRecDepth 100000
theorem begF_no {ga gd gl : Int} {life : UInt64} {base : Int} {gen : UInt64} {P : List (List UInt8)} {l : List (List UInt8)} {s : St} (h : (snapF ga gd gl life P l s).2.2 ≠ 0) : begF ga gd gl life base gen P l s = snapF ga gd gl life P l s := if_neg h
theorem begF_yes {ga gd gl : Int} {life : UInt64} {base : Int} {gen : UInt64} {P : List (List UInt8)} {l : List (List UInt8)} {s : St} (h : (snapF ga gd gl life P l s).2.2 = 0) : begF ga gd gl life base gen P l s = (sL (snapF ga gd gl life P l s).1 ga gd gl life base gen, wf (snapF ga gd gl life P l s).2.1 (splace life) (sB (snapF ga gd gl life P l s).1 ga gd gl life base gen)) := if_pos h
/-- where begin's steps stand -/
def BIn (w3 : World) (X R L g : Nat) (fp : List Nat) (gS bS : Nat) (ga gd gl : Int) (z' : Z) (V B : Out) : Nat → World → Prop
  | 0, W => W = w3
  | 1, W => V.2.2 = 0 ∧ Turn w3 g fp gS bS V.2.1 V.1 W
  | 2, W => B.2.2 = 0 ∧ Turn w3 g fp gS bS B.2.1 B.1 W
  | _, W => B.2.2 = 0 ∧ STurn w3 X R L g fp gS bS ga gd gl z' B.2.1 B.1 W
def BOut (w3 : World) (g : Nat) (fp : List Nat) (gS bS : Nat) (B : Out) (f : Int) (W : World) : Prop := f = B.2.2 ∧ Turn w3 g fp gS bS B.2.1 B.1 W
def bks : Nat → FuncId
  | 0 => 77
  | 1 => 79
  | _ => 81
def bcs (bX bA : Nat) : Nat → Array Value
  | 0 => #[.pointer (some ⟨bX, 0, none⟩), .pointer (some ⟨bA, 0, none⟩)]
  | 1 => #[.pointer (some ⟨bX, 0, none⟩), .pointer (some ⟨bA, 0, none⟩)]
  | _ => #[.pointer (some ⟨bA, 0, none⟩), .pointer (some ⟨bX, 0, none⟩)]
theorem _root_.Go.Proofs.YtchcmklelmlbgaaGreat.Turn.keepOf {w w' : World} {g : Nat} {fp : List Nat} {gS bS : Nat} {s : St} {l : List (List UInt8)} (h : Turn w g fp gS bS s l w') : Keep (bS :: fp) w w' := by obtain ⟨_, _, k, _⟩ := h; exact k
/-- begin's steps, at the world behind its boxes -/
theorem begin_steps (X R L g : Nat) (fp : List Nat) (gS bS : Nat) (ga gd gl : Int) (z : Z) (s : St) (l : List (List UInt8)) (life : UInt64) (base : Int) (gen : UInt64) (bX bA bL : Nat) (w : World) (hG : Gb ga gd gl) (h : SAt w X R L g fp gS bS ga gd gl z s l) (hX : Box w bX (.pointer (some ⟨X, 0, none⟩))) (hA : Blk w bA (scell life base gen))
    (hF : Blk w bL [.func (.func 77) #[] (bcs bX bA 0), .func (.func 79) #[] (bcs bX bA 1), .func (.func 81) #[] (bcs bX bA 2)])
    (nX : bX ∉ X :: bS :: fp) (nA : bA ∉ X :: bS :: fp) (nXA : bX ≠ bA) (nF : bL ∉ bS :: fp)
    (hl : l.length ≤ 800000) (hs : s.sz ≤ 70000000) (hf : srightF s ga gd gl = 0) (hn : (z.pages.length : Int) = pagesOf ga gd gl) (hlong : Snap.longB z.pages = false) (hb0 : 0 ≤ base) (hb1 : base ≤ 1073741824) :
    Calls Tryz.prog 38 #[.slice (some ⟨bL, 0, none⟩) 3 3] w fun e w' => ∃ f : Int, e = .returned (.int .i64 f) ∧ (f = 0 → BIn w X R L g fp gS bS ga gd gl (z.begun life base gen) (snapF ga gd gl life z.pages l s) (begF ga gd gl life base gen z.pages l s) 3 w') ∧ (f ≠ 0 → BOut w g fp gS bS (begF ga gd gl life base gen z.pages l s) f w') := by
  have hpb := pagesOf_bd ga gd gl
  have lim : (snapF ga gd gl life z.pages l s).1.length ≤ l.length + z.pages.length ∧ (snapF ga gd gl life z.pages l s).2.1.sz ≤ s.sz + 2 * z.pages.length + 1 := by
    have := Enc.enf_lim (Snap.pItems ga gd gl life 0 z.pages) l s
    rw [Snap.pItems_len] at this
    exact this
  obtain ⟨V, hV⟩ : ∃ V, V = snapF ga gd gl life z.pages l s := ⟨_, rfl⟩
  obtain ⟨B, hB⟩ : ∃ B, B = begF ga gd gl life base gen z.pages l s := ⟨_, rfl⟩
  have hBn : V.2.2 ≠ 0 → B = V := fun e => by rw [hB, hV]; exact begF_no (by rw [← hV]; exact e)
  have hBy : V.2.2 = 0 → B = (sL V.1 ga gd gl life base gen, wf V.2.1 (splace life) (sB V.1 ga gd gl life base gen)) := fun e => by rw [hB, hV]; exact begF_yes (by rw [← hV]; exact e)
  have hVs : V.2.1.size = s.size := by rw [hV]; exact snapF_size _ _ _ _ _ _ _
  have hBs : B.2.1.size = s.size := by rw [hB]; exact begF_size _ _ _ _ _ _ _ _ _
  rw [← hV] at lim ⊢
  rw [← hB]
  have noXb : ∀ {j : Nat}, j ∉ X :: bS :: fp → j ∉ bS :: fp := fun hj e => hj (List.mem_cons_of_mem _ e)
  refine steps_any 3 3 bL 0 bks (fun _ => #[]) (bcs bX bA) (BIn w X R L g fp gS bS ga gd gl (z.begun life base gen) V B) (BOut w g fp gS bS B) w (by omega) rfl ?_ ?_ ?_
  · intro i hi W hI
    have hk : Keep (bS :: fp) w W := by
      match i, hI with
      | 0, hI => rw [show W = w from hI]; exact Keep.refl _ _
      | 1, hI => exact hI.2.keepOf
      | 2, hI => exact hI.2.keepOf
    have hF' := hF.keepK hk nF
    match i, hi with
    | 0, _ => exact hF'.cell (k := 0) (by simp)
    | 1, _ => exact hF'.cell (k := 1) (by simp)
    | 2, _ => exact hF'.cell (k := 2) (by simp)
  · intro i hi x W
    match i, hi with
    | 0, _ => simp [go_sem, bks]
    | 1, _ => simp [go_sem, bks]
    | 2, _ => simp [go_sem, bks]
  · intro i hi W hI
    match i, hi, hI with
    | 0, _, hI =>
      have hw : W = w := hI
      subst hw
      have hc := begin1_any X R L g fp gS bS ga gd gl z s l life base gen bX bA W hG h hX hA (by omega) (by omega) hf hn hlong
      rw [← hV] at hc
      rw [show (#[] : Array Value) ++ bcs bX bA 0 = #[.pointer (some ⟨bX, 0, none⟩), .pointer (some ⟨bA, 0, none⟩)] from by simp [bcs]]
      refine Calls.mono hc ?_
      rintro e w' ⟨rfl, t⟩
      exact ⟨_, rfl, fun e => ⟨e, t⟩, fun e => by rw [hBn e]; exact ⟨rfl, t⟩⟩
    | 1, _, hI =>
      obtain ⟨h0, fp1, hB1, k1, f1⟩ := hI
      have hc := begin2_any X R L g fp1 gS bS ga gd gl z V.2.1 V.1 life base gen bX bA W hG (h.turned hB1 k1 f1) (hX.keep k1 (noXb nX)) (hA.keepK k1 (noXb nA)) (by omega) (by omega) (sright_of hf hVs) hb0 hb1
      rw [show (#[] : Array Value) ++ bcs bX bA 1 = #[.pointer (some ⟨bX, 0, none⟩), .pointer (some ⟨bA, 0, none⟩)] from by simp [bcs]]
      refine Calls.mono hc ?_
      rintro e w' ⟨rfl, t⟩
      have e1 := hBy h0
      have t2 : Turn w g fp gS bS B.2.1 B.1 w' := by rw [e1]; exact Turn.trans k1 f1 t
      exact ⟨_, rfl, fun e => ⟨by rw [e1]; exact e, t2⟩, fun e => ⟨by rw [e1], t2⟩⟩
    | 2, _, hI =>
      obtain ⟨h0, fp1, hB1, k1, f1⟩ := hI
      have hc := begin3_any X R L g fp1 gS bS ga gd gl z B.2.1 B.1 life base gen bX bA W hG (h.turned hB1 k1 f1) (hX.keep k1 (noXb nX)) (hA.keepK k1 (noXb nA)) (fun e => nX (by simp [e])) (fun e => nA (by simp [e])) nXA (wright_of (sright_of hf hBs) hb0 hb1)
      rw [show (#[] : Array Value) ++ bcs bX bA 2 = #[.pointer (some ⟨bA, 0, none⟩), .pointer (some ⟨bX, 0, none⟩)] from by simp [bcs]]
      refine Calls.mono hc ?_
      rintro e w' ⟨rfl, L', hs', k2, hL'⟩
      refine ⟨0, rfl, fun _ => ⟨h0, L', fp1, hs', ?_, f1, .inr (Nat.le_trans k1.size hL')⟩, fun e => absurd rfl e⟩
      · refine (k1.more (fp' := X :: R :: L :: bS :: fp) (fun j hj => by simp only [List.mem_cons] at hj ⊢; rcases hj with e | e <;> simp [e])).trans (k2.more (fp' := X :: R :: L :: bS :: fp) (fun j hj => by simp only [List.mem_cons, List.not_mem_nil, or_false] at hj ⊢; exact .inl hj)) (Fresh.refl _ _)
theorem begin_any (X R L g : Nat) (fp : List Nat) (gS bS : Nat) (ga gd gl : Int) (z : Z) (s : St) (l : List (List UInt8)) (life : UInt64) (base : Int) (gen : UInt64) (w : World) (hG : Gb ga gd gl) (h : SAt w X R L g fp gS bS ga gd gl z s l)
    (hl : l.length ≤ 800000) (hs : s.sz ≤ 70000000) (hf : srightF s ga gd gl = 0) (hn : (z.pages.length : Int) = pagesOf ga gd gl) (hlong : Snap.longB z.pages = false) (hb0 : 0 ≤ base) (hb1 : base ≤ 1073741824) :
    Calls Tryz.prog 43 #[.pointer (some ⟨X, 0, none⟩), sv life base gen] w fun e w' => e = .returned (.int .i64 (begF ga gd gl life base gen z.pages l s).2.2) ∧
      STurn w X R L g fp gS bS ga gd gl (if (begF ga gd gl life base gen z.pages l s).2.2 = 0 then z.begun life base gen else z) (begF ga gd gl life base gen z.pages l s).2.1 (begF ga gd gl life base gen z.pages l s).1 w' := by
  have hlt := h.both.disk.lt
  have hls := h.both.sym.lt
  have hX := h.ltX
  obtain ⟨w3, hw3⟩ : ∃ w3, w3 = ((w.alloc (.cells #[.pointer (some ⟨X, 0, none⟩)] 35)).alloc (.cells #[.int .u64 (life.toNat : Int), .int .i64 base, .int .u64 (gen.toNat : Int)] 90)).alloc (.cells #[.func (.func 77) #[] #[.pointer (some ⟨w.heap.size, 0, none⟩), .pointer (some ⟨w.heap.size + 1, 0, none⟩)], .func (.func 79) #[] #[.pointer (some ⟨w.heap.size, 0, none⟩), .pointer (some ⟨w.heap.size + 1, 0, none⟩)], .func (.func 81) #[] #[.pointer (some ⟨w.heap.size + 1, 0, none⟩), .pointer (some ⟨w.heap.size, 0, none⟩)]] 122) := ⟨_, rfl⟩
  have b3 : Below w.heap.size w w3 := by rw [hw3]; exact b3alloc _ _ _ _
  have q0 : Box w3 w.heap.size (.pointer (some ⟨X, 0, none⟩)) := by rw [hw3]; exact ((Box.new w _ _).alloc _).alloc _
  have q1 : Blk w3 (w.heap.size + 1) (scell life base gen) := by rw [hw3]; simpa using (Blk.new (w.alloc (.cells #[.pointer (some ⟨X, 0, none⟩)] 35)) (scell life base gen) 90).alloc _
  have q2 : Blk w3 (w.heap.size + 1 + 1) [.func (.func 77) #[] (bcs w.heap.size (w.heap.size + 1) 0), .func (.func 79) #[] (bcs w.heap.size (w.heap.size + 1) 1), .func (.func 81) #[] (bcs w.heap.size (w.heap.size + 1) 2)] := by
    have e : ((w.alloc (.cells #[.pointer (some ⟨X, 0, none⟩)] 35)).alloc (.cells #[.int .u64 (life.toNat : Int), .int .i64 base, .int .u64 (gen.toNat : Int)] 90)).heap.size = w.heap.size + 1 + 1 := by simp
    rw [hw3, ← e]
    exact Blk.new _ _ _
  have nn : ∀ j, w.heap.size ≤ j → j ∉ X :: bS :: fp := fun j hj e => by
    rcases List.mem_cons.1 e with e | e
    · omega
    · rcases List.mem_cons.1 e with e | e
      · omega
      · have := hlt _ e; omega
  have HS := Lib.hid (begin_steps X R L g fp gS bS ga gd gl z s l life base gen w.heap.size (w.heap.size + 1) (w.heap.size + 1 + 1) w3 hG (h.on b3) q0 q1 q2 (nn _ (Nat.le_refl _)) (nn _ (by omega)) (by omega) (fun e => nn (w.heap.size + 1 + 1) (by omega) (List.mem_cons_of_mem _ e)) hl hs hf hn hlong hb0 hb1)
  obtain ⟨V, hV⟩ : ∃ V, V = snapF ga gd gl life z.pages l s := ⟨_, rfl⟩
  obtain ⟨B, hB⟩ : ∃ B, B = begF ga gd gl life base gen z.pages l s := ⟨_, rfl⟩
  rw [← hV, ← hB] at HS
  rw [← hB]
  obtain ⟨z', hz'⟩ : ∃ z', z' = if B.2.2 = 0 then z.begun life base gen else z := ⟨_, rfl⟩
  rw [← hz']
  have HZ := Lib.hid hz'
  have HH := Lib.hid h
  have HB3 := Lib.hid b3
  have HW := Lib.hid hw3
  clear hz' hV hB h q0 q1 q2 nn hl hs hf hn hlong hb0 hb1 hlt hls hX b3 hw3 hG
  go_enter Tryz.func43, Tryz.ntmps43
  go_wp2_with (go_at_call 38; rw [← HW.out]; refine HS.out.mono ?_; rintro e w1 ⟨f, rfl, h1, h2⟩)
  go_ret
  by_cases hf : f = 0
  · obtain ⟨g1, g2⟩ := h1 hf
    subst hf
    rw [HZ.out, if_pos g1, g1]
    exact ⟨rfl, g2.first HB3.out⟩
  · obtain ⟨g1, g2⟩ := h2 hf
    subst g1
    rw [HZ.out, if_neg hf]
    obtain ⟨fp1, hB1, k1, f1⟩ := g2
    exact ⟨rfl, STurn.first HB3.out ⟨L, fp1, (HH.out.on HB3.out).turned hB1 k1 f1, k1.more (fun j hj => by simp only [List.mem_cons] at hj ⊢; rcases hj with e | e <;> simp [e]), f1, .inl rfl⟩⟩
end Go.Proofs.YtchcmklelmlbgaaGreat.Sto

/- The store: Renew. No statement is proved here. -/
namespace Go.Proofs.YtchcmklelmlbgaaGreat.Sto
open Go.RowKit
open Go.Proofs.YtchcmklelmlbgaaGreat.Geom
open Go.Proofs.YtchcmklelmlbgaaGreat.Disk (St DAt Did)
open Go.Proofs.YtchcmklelmlbgaaGreat.Sup (Gb gv gcell gthree srightF splace sB sL wf sv scell)
open Go.Proofs.YtchcmklelmlbgaaGreat.Snap (snapF PagesOk)
open Go.Proofs.YtchcmklelmlbgaaGreat.Wal (LAt lcell wrightF)
set_option linter.unusedVariables false
set_option maxRecDepth 100000
theorem Z.told_zero (z : Z) : z.told 0 = z := by
  unfold Z.told
  rw [show decide ((0 : Int) = 12) = false by decide, Bool.or_false]
theorem Z.told_twice (z : Z) (f : Int) : (z.told f).told f = z.told f := by
  unfold Z.told
  simp only [Bool.or_assoc, Bool.or_self]
theorem Z.renew_told (gl : Int) (z : Z) (f : Int) : (if f = 0 then z.begun (z.life + 1) (baseN gl z) z.gen else z).told f = z.renew gl f := by
  unfold Z.renew
  by_cases h : f = 0
  · subst h; rw [if_pos rfl, if_pos rfl, Z.told_zero]
  · rw [if_neg h, if_neg h]
theorem life_wrap {life : UInt64} (h : life.toNat < 4611686018427387904) : IntKind.u64.wrap ((life.toNat : Int) + 1) = ((life + 1).toNat : Int) := by
  have h1 : (life + 1).toNat = life.toNat + 1 := by simp [UInt64.toNat_add]; omega
  rw [h1]
  simp [IntKind.wrap, IntKind.signed, IntKind.bits]
  omega
/-- the pages may be written -/
structure ZOk (ga gd gl : Int) (z : Z) : Prop where
  len : (z.pages.length : Int) = pagesOf ga gd gl
  short : Snap.longB z.pages = false
set_option maxHeartbeats 1000000 in
theorem renew_any (X R L g : Nat) (fp : List Nat) (gS bS : Nat) (ga gd gl : Int) (z : Z) (s : St) (l : List (List UInt8)) (w : World) (hG : Gb ga gd gl) (h : SAt w X R L g fp gS bS ga gd gl z s l)
    (hl : l.length ≤ 800000) (hs : s.sz ≤ 70000000) (hf : srightF s ga gd gl = 0) (hz : ZOk ga gd gl z) (hd : z.dead = false) (hlife : z.life.toNat < 4611686018427387904) (hb : 0 ≤ z.base ∧ z.base ≤ 1073741824) (hq : z.due = false → z.seq ≤ 100000) (hnx : z.due = true → 0 ≤ z.next ∧ z.next ≤ 1073741824) (hh : z.due = false → z.has = true) :
    Calls Tryz.prog 16 #[.pointer (some ⟨X, 0, none⟩)] w fun e w' => e = .returned (.int .i64 (renO ga gd gl z l s).2.2) ∧ STurn w X R L g fp gS bS ga gd gl (renF ga gd gl z l s).1 (renO ga gd gl z l s).2.1 (renO ga gd gl z l s).1 w' := by
  have hy := right_yes (Sup.srightF_yes hf).1
  have hbn : 0 ≤ baseN gl z ∧ baseN gl z ≤ 1073741824 := by
    unfold baseN
    split
    · rename_i h1; exact hnx h1
    · have := Int.emod_nonneg (z.base + (z.seq : Int)) (show gl ≠ 0 by omega)
      have := Int.emod_lt_of_pos (z.base + (z.seq : Int)) (show 0 < gl by omega)
      omega
  have HR := ready_any X R L g fp gS bS ga gd gl z s l w h
  rw [if_neg (by rw [hd]; simp)] at HR
  have hlw := life_wrap hlife
  have HBe := Lib.hid (fun W (bW : Below w.heap.size w W) => begin_any X R L g fp gS bS ga gd gl z s l (z.life + 1) (baseN gl z) z.gen W hG (h.on bW) hl hs hf hz.len hz.short hbn.1 hbn.2)
  obtain ⟨lv, c, h1, h2, h3⟩ := h.blk
  obtain ⟨z0, z1, z2, z3, z4, z5, z6, z7, z8, z9, z10, z11, z12⟩ := thirteen h1
  obtain ⟨B, hB⟩ : ∃ B, B = renO ga gd gl z l s := ⟨_, rfl⟩
  have hB2 : begF ga gd gl (z.life + 1) (baseN gl z) z.gen z.pages l s = B := hB.symm
  rw [hB2] at HBe
  have hF : (renF ga gd gl z l s).1 = z.renew gl B.2.2 := by rw [hB]; rfl
  rw [hF, ← hB]
  obtain ⟨zf, hzf⟩ : ∃ q, q = (if B.2.2 = 0 then z.begun (z.life + 1) (baseN gl z) z.gen else z) := ⟨_, rfl⟩
  rw [← hzf] at HBe
  have HZ := Lib.hid (show z.renew gl B.2.2 = zf.told B.2.2 by rw [hzf, Z.renew_told])
  have HT := Lib.hid (fun W L' fp' hS => told_any X R L' g fp' gS bS ga gd gl zf B.2.1 B.1 B.2.2 W hS)
  obtain ⟨bn, hbn0⟩ : ∃ q, q = baseN gl z := ⟨_, rfl⟩
  obtain ⟨lf, hlf⟩ : ∃ q, q = z.life + 1 := ⟨_, rfl⟩
  rw [← hbn0, ← hlf] at HBe
  rw [← hlf] at hlw
  have hlX := h1.lt
  have hgt : decide ((4611686018427387904 : Int) ≤ (z.life.toNat : Int)) = false := decide_eq_false (by omega)
  obtain ⟨lz, hlz⟩ : ∃ q : Int, q = (z.life.toNat : Int) := ⟨_, rfl⟩
  rw [← hlz] at hgt hlw z5
  rw [HZ.out]
  clear hzf hB hB2 hF HZ hlf hlz
  cases hdu : z.due with
  | true =>
    rw [hdu] at z11
    have hbe : z.next = bn := by rw [hbn0]; unfold baseN; rw [if_pos hdu]
    rw [hbe] at z9
    clear h h1 h2 h3 hbe hbn0 hdu hl hs hf hz hd hlife hb hq hnx hbn hy hG hh
    go_enter Tryz.func16, Tryz.ntmps16
    go_upto_region 9 with (go_at_call 44; refine (HR).mono ?_; rintro e w' ⟨rfl, rfl⟩)
    refine region_three [0] [1, 2, 3, 4, 5, 6, 7, 8, 9, 10, 11, 12, 13, 14] 15 (by kernel_rfl) (by kernel_rfl) (fun c d v a w h => by cases d <;> exact h) ?_
    simp only [preAct, preOne, opsAt, List.foldl_cons, List.foldl_nil, List.getElem?_cons_zero, List.getElem?_cons_succ, List.getD_cons_zero, List.getD_cons_succ, List.drop_succ_cons, List.drop_zero]
    have inbNe := InB.some
    have inbW := @wrap_small
    have inbU := IntKind.wrap_u8'
    repeat (refine wpQuiet_step (fun K hK => ?_); go_simp; first | (refine hK _ ?_; clear hK K) | (apply Exists.intro; refine ⟨?_, hK _ ?_⟩; (· (intro w' hw'; first | (have hcw := hw'.cell; go_simp; exact rfl))); clear hK K))
    refine wpQuiet_nil ?_
    intro wq hq
    clear inbNe inbW inbU
    go_wp2_with (first
      | (go_at_call 43; refine (HBe.out _ hq.below).mono ?_; rintro e w1 ⟨rfl, L1, fp1, hS1, k1, f1⟩)
      | (go_at_call 47; refine (HT.out _ L1 fp1 hS1).mono ?_; rintro e w2 ⟨rfl, t2⟩))
    go_ret
    exact ⟨rfl, STurn.first hq.below (STurn.trans k1 f1 t2)⟩
  | false =>
    rw [hdu] at z11
    rw [h2 (hh hdu)] at z8
    have hbe : (z.base + (z.seq : Int)) % gl = bn := by rw [hbn0]; unfold baseN; rw [if_neg (by rw [hdu]; simp)]
    have HN := Wal.next_any L g gS ga gd gl z.life z.base z.seq w (h.log (hh hdu)).1 (hq hdu) hb.1 hb.2 (by omega) (by omega)
    rw [hbe] at HN
    have HNx := Lib.hid HN
    clear HN h h1 h2 h3 hbe hbn0 hdu hl hs hf hz hd hlife hb hq hnx hbn hy hG hh
    go_enter Tryz.func16, Tryz.ntmps16
    go_upto_region 9 with (first
      | (go_at_call 44; refine (HR).mono ?_; rintro e w' ⟨rfl, rfl⟩)
      | (go_at_call 49; refine HNx.out.mono ?_; rintro e w0 ⟨rfl, b0⟩; have y5 := (World.cell?_of_block (b0.block _ hlX)).trans z5; have y7 := (World.cell?_of_block (b0.block _ hlX)).trans z7; have hlX0 := Nat.lt_of_lt_of_le hlX b0.size))
    refine region_three [0] [1, 2, 3, 4, 5, 6, 7, 8, 9, 10, 11, 12, 13, 14] 15 (by kernel_rfl) (by kernel_rfl) (fun c d v a w h => by cases d <;> exact h) ?_
    simp only [preAct, preOne, opsAt, List.foldl_cons, List.foldl_nil, List.getElem?_cons_zero, List.getElem?_cons_succ, List.getD_cons_zero, List.getD_cons_succ, List.drop_succ_cons, List.drop_zero]
    have inbNe := InB.some
    have inbW := @wrap_small
    have inbU := IntKind.wrap_u8'
    repeat (refine wpQuiet_step (fun K hK => ?_); go_simp; first | (refine hK _ ?_; clear hK K) | (apply Exists.intro; refine ⟨?_, hK _ ?_⟩; (· (intro w' hw'; first | (have hcw := hw'.cell; go_simp; exact rfl))); clear hK K))
    refine wpQuiet_nil ?_
    intro wq hq
    clear inbNe inbW inbU
    go_wp2_with (first
      | (go_at_call 43; refine (HBe.out _ (bt b0 hq.below)).mono ?_; rintro e w1 ⟨rfl, L1, fp1, hS1, k1, f1⟩)
      | (go_at_call 47; refine (HT.out _ L1 fp1 hS1).mono ?_; rintro e w2 ⟨rfl, t2⟩))
    go_ret
    exact ⟨rfl, STurn.first (bt b0 hq.below) (STurn.trans k1 f1 t2)⟩
end Go.Proofs.YtchcmklelmlbgaaGreat.Sto

/- What the law on reading supers needs of the reference: Of, and the law's best. -/
namespace Go.Proofs.YtchcmklelmlbgaaGreat.Sup
open Go.RowKit
open Go.Proofs.YtchcmklelmlbgaaGreat.Geom
open Go.Proofs.YtchcmklelmlbgaaGreat.Disk (St DAt Did New8 Told8 new)
open Go.Proofs.YtchcmklelmlbgaaGreat.Sec (X SymAt text sumOf sumAfter ckS blankB rightF xv RetX X0 five5x symbolic_any bset5)
set_option linter.unusedVariables false
set_option maxRecDepth 100000
/-! the two places, one behind the other -/
def bytesAt (q : List (List UInt8) × St) (p : Int) (x : X) : List UInt8 := text p x ++ sumOf q.1 (text p x)
theorem bytesAt_len (q : List (List UInt8) × St) (p : Int) (x : X) : (bytesAt q p x).length = 512 := by unfold bytesAt; rw [List.length_append, Sec.text_len, Sec.sumOf_len]
def stp (q : List (List UInt8) × St) (p : Int) (x : X) : List (List UInt8) × St := if rightF p x = 0 then (sumAfter q.1 (text p x), (Disk.put q.2 p (bytesAt q p x)).1) else q
theorem stp_yes {q : List (List UInt8) × St} {p : Int} {x : X} (h : rightF p x = 0) : stp q p x = (sumAfter q.1 (text p x), (Disk.put q.2 p (bytesAt q p x)).1) := if_pos h
theorem stp_no {q : List (List UInt8) × St} {p : Int} {x : X} (h : rightF p x ≠ 0) : stp q p x = q := if_neg h
theorem UpN.put {s : St} {n : Nat} (h : UpN s n) {p : Int} (h0 : 0 ≤ p) (h1 : p < n) {b : List UInt8} (hb : b.length = 512) : UpN (Disk.put s p b).1 n ∧ (Disk.put s p b).1.all = s.all ++ [(p.toNat, b)] ∧ (Disk.put s p b).1.sz ≤ s.sz + 1 := by
  refine ⟨?_, ?_, Disk.sz_put _ _ _⟩ <;> unfold Disk.put <;> rw [if_neg (by rw [h.size]; omega), if_neg (by omega)]
  exact ⟨h.size, h.pend, h.down, h.fuse⟩
theorem sumAfter_len (l : List (List UInt8)) (T : List UInt8) : (sumAfter l T).length ≤ l.length + 1 := by unfold sumAfter; split <;> simp
structure One (n : Nat) (ga gd gl : Int) (q : List (List UInt8) × St) (a : X) : Prop where
  up : UpN q.2 n
  len : q.1.length ≤ 1
  sz : q.2.sz ≤ 1
  good : rightF 2 a = 0 → Good q.1 2 a (Disk.kept q.2.all 2)
  zero2 : rightF 2 a ≠ 0 → Disk.kept q.2.all 2 = Disk.zero512
  zero3 : Disk.kept q.2.all 3 = Disk.zero512
theorem one {n : Nat} (hn : 4 ≤ n) (ga gd gl : Int) (a : X) : One n ga gd gl (stp ([], new n) 2 a) a := by
  by_cases h : rightF 2 a = 0
  · rw [stp_yes h]
    obtain ⟨u, e, z⟩ := (up_new n).put (p := 2) (by omega) (by omega) (bytesAt_len ([], new n) 2 a)
    exact ⟨u, sumAfter_len [] (text 2 a), z, fun _ => by rw [e, show ((2 : Int).toNat) = 2 from rfl, kept_after]; exact Good.made [] h, fun h2 => absurd h h2, by rw [e, kept_beside _ _ (by decide)]; rfl⟩
  · rw [stp_no h]
    exact ⟨up_new n, by simp, Nat.zero_le _, fun h2 => absurd h2 h, fun _ => rfl, rfl⟩
end Go.Proofs.YtchcmklelmlbgaaGreat.Sup

/- The pages of a life, in plain Lean: what is read of any sectors in their places. -/
namespace Go.Proofs.YtchcmklelmlbgaaGreat.Snap
open Go.RowKit
open Go.Proofs.YtchcmklelmlbgaaGreat.Geom
open Go.Proofs.YtchcmklelmlbgaaGreat.Disk (St Wr read kept new zero512)
open Go.Proofs.YtchcmklelmlbgaaGreat.Sec (X text text_len sumAfter rightF X0)
open Go.Proofs.YtchcmklelmlbgaaGreat.Sup (UpN stp stp_yes stp_no bytesAt bytesAt_len)
open Go.Proofs.YtchcmklelmlbgaaGreat.Enc (rd rd_good rd_zero)
set_option linter.unusedVariables false
/-- was a sector put there? -/
def putB (ga gd gl : Int) (life : UInt64) (l : List X) (j : Nat) : Bool := if h : j < l.length then decide (rightF (areaAt ga gd gl life.toNat j) l[j] = 0) else false
/-- is it the page? -/
def isL (ga gd gl : Int) (life : UInt64) (l : List X) (j : Nat) : Bool := if h : j < l.length then decide (rightF (areaAt ga gd gl life.toNat j) l[j] = 0) && isX life j l[j] else false
structure QInv (ga gd gl : Int) (life : UInt64) (l : List X) (n N k : Nat) (q : List (List UInt8) × St) : Prop where
  up : UpN q.2 n
  len : q.1.length ≤ k
  sz : q.2.sz ≤ k
  good : ∀ j (h : j < l.length), j < k → rightF (areaAt ga gd gl life.toNat j) l[j] = 0 → Sup.Good q.1 (areaAt ga gd gl life.toNat j) l[j] (kept q.2.all (areaAt ga gd gl life.toNat j).toNat)
  zero : ∀ j, j < N → ¬ (j < k ∧ putB ga gd gl life l j = true) → kept q.2.all (areaAt ga gd gl life.toNat j).toNat = zero512
theorem area_bd {ga gd gl : Int} {n N : Nat} (hn : (n : Int) = Geom.sizeOf ga gd gl) (hN : (N : Int) = pagesOf ga gd gl) (life : UInt64) {k : Nat} (hk : k < N) : 0 ≤ areaAt ga gd gl life.toNat k ∧ areaAt ga gd gl life.toNat k < n := by
  have := area_ok (ga := ga) (gd := gd) (gl := gl) (life := life) (k := k) (by omega)
  omega
theorem QInv.isPg {ga gd gl : Int} {n N : Nat} (hn : (n : Int) = Geom.sizeOf ga gd gl) (hN : (N : Int) = pagesOf ga gd gl) {life : UInt64} {l : List X} {q : List (List UInt8) × St} (h : QInv ga gd gl life l n N N q) {j : Nat} (hj : j < N) : isPg q.1 q.2 ga gd gl life j = isL ga gd gl life l j := by
  have hp := area_bd hn hN life hj
  unfold Snap.isPg rdAt isL
  by_cases h1 : j < l.length
  · rw [dif_pos h1]
    by_cases h2 : rightF (areaAt ga gd gl life.toNat j) l[j] = 0
    · rw [rd_good h.up hp.1 hp.2 (h.good j h1 hj h2)]
      simp [h2]
    · rw [rd_zero h.up hp.1 hp.2 (h.zero j hj (fun hh => by have := hh.2; unfold putB at this; rw [dif_pos h1] at this; exact h2 (of_decide_eq_true this)))]
      simp [h2]
  · rw [dif_neg h1, rd_zero h.up hp.1 hp.2 (h.zero j hj (fun hh => by have := hh.2; unfold putB at this; rw [dif_neg h1] at this; cases this))]
    simp
/-- the numbers of the pages that are not there, up to the k-th -/
def wants (ga gd gl : Int) (life : UInt64) (l : List X) (k : Nat) : List Int := ((List.range k).filter (fun j => !isL ga gd gl life l j)).map (fun j : Nat => (j : Int))
theorem QInv.badL {ga gd gl : Int} {n N : Nat} (hn : (n : Int) = Geom.sizeOf ga gd gl) (hN : (N : Int) = pagesOf ga gd gl) {life : UInt64} {l : List X} {q : List (List UInt8) × St} (h : QInv ga gd gl life l n N N q) : Snap.badL q.1 q.2 ga gd gl life N = wants ga gd gl life l N := by
  unfold Snap.badL wants
  congr 1
  apply List.filter_congr
  intro j hj
  rw [h.isPg hn hN (List.mem_range.1 hj)]
theorem QInv.snapR {ga gd gl : Int} {n N : Nat} (hn : (n : Int) = Geom.sizeOf ga gd gl) (hN : (N : Int) = pagesOf ga gd gl) {life : UInt64} {l : List X} {q : List (List UInt8) × St} (h : QInv ga gd gl life l n N N q) :
    ((wants ga gd gl life l N).length = 0 ∧ ∃ r, Snap.snapR q.1 q.2 ga gd gl life N = some r ∧ r.length = N) ∨ (0 < (wants ga gd gl life l N).length ∧ Snap.snapR q.1 q.2 ga gd gl life N = none) := by
  rw [← h.badL hn hN]
  unfold Snap.snapR
  by_cases ha : allPg q.1 q.2 ga gd gl life N = true
  · left
    rw [if_pos ha]
    refine ⟨?_, _, rfl, bodies_len _ _ _ _ _ _ _⟩
    unfold Snap.badL
    unfold allPg at ha
    rw [List.all_eq_true] at ha
    rw [List.filter_eq_nil_iff.2 (fun k hk => by rw [ha k hk]; simp)]
    rfl
  · right
    rw [if_neg ha]
    refine ⟨?_, rfl⟩
    have ha' : allPg q.1 q.2 ga gd gl life N = false := by simpa using ha
    unfold allPg at ha'
    rw [List.all_eq_false] at ha'
    obtain ⟨k, hk, hp⟩ := ha'
    unfold Snap.badL
    rw [List.length_map]
    exact List.length_pos_of_mem (List.mem_filter.2 ⟨hk, by simpa using hp⟩)
end Go.Proofs.YtchcmklelmlbgaaGreat.Snap

/- For the law on what is read of any sectors: the reference's test, a row that grows beside a disk. -/
namespace Go.Proofs.YtchcmklelmlbgaaGreat
open Go.RowKit
set_option linter.unusedVariables false
theorem Here.row {w0 w w' : World} {g : Nat} {fp : List Nat} {s : Disk.St} {gS bS : Nat} {l : List (List UInt8)} {row : Option Nat} (h : Here w0 w g fp s gS bS l) (hg : w.grownBy w' row) (hr : ∀ r, row = some r → w0.heap.size ≤ r ∧ r ∉ gS :: bS :: fp) : Here w0 w' g fp s gS bS l := by
  have k : Keep row.toList w w' := Keep.of_grown hg (fun g e => by simp [e])
  have hn : ∀ r ∈ row.toList, w0.heap.size ≤ r ∧ r ∉ gS :: bS :: fp := fun r hr' => hr r (by simpa using hr')
  refine ⟨⟨h.both.disk.keep k (fun j hj e => (hn j e).2 (by simp [hj])), h.both.sym.keepK k (fun e => (hn _ e).2 (by simp)) (fun e => (hn _ e).2 (by simp)), h.both.nS, h.both.nB⟩, h.bel.grown hg h.bel.size (fun g e => (hr g e).1), h.own⟩
theorem Blk.row {w w' : World} {b : Nat} {xs : List Value} {row : Option Nat} (h : Blk w b xs) (hg : w.grownBy w' row) (hr : ∀ r, row = some r → r ≠ b) : Blk w' b xs := h.elim fun t hh => ⟨t, (hg.block b (lt_of_block hh) (fun e => hr b e.symm rfl)).trans hh⟩
end Go.Proofs.YtchcmklelmlbgaaGreat
namespace Go.Proofs.YtchcmklelmlbgaaGreat.Snap
open Go.RowKit
open Go.Proofs.YtchcmklelmlbgaaGreat.Sec (X five5x)
set_option linter.unusedVariables false
set_option maxRecDepth 100000
end Go.Proofs.YtchcmklelmlbgaaGreat.Snap

/- The log, in plain Lean: how many calls an append takes, and how much the sums and the disk grow. No statement is proved here. -/
namespace Go.Proofs.YtchcmklelmlbgaaGreat.Wal
open Go.RowKit
open Go.Proofs.YtchcmklelmlbgaaGreat.Geom
open Go.Proofs.YtchcmklelmlbgaaGreat.Disk (St Wr write flush burn)
open Go.Proofs.YtchcmklelmlbgaaGreat.Sec (X text rightF)
open Go.Proofs.YtchcmklelmlbgaaGreat.Sup (UpN)
open Go.Proofs.YtchcmklelmlbgaaGreat.Enc (Itm xB xB_len encs enf encs_nil encs_go encs_stop enf_lim)
set_option linter.unusedVariables false
theorem write_calls {s : St} {n : Nat} (h2 : s.size = n) (hd : s.down = false) {p : Int} (h0 : 0 ≤ p) (h1 : p < n) {b : List UInt8} (hb : b.length = 512) : (write s p b).1.calls = s.calls + 1 ∧ (write s p b).1.size = n := by
  subst h2
  have hw : write s p b = burn { s with pend := s.pend ++ [(p.toNat, b)] } := by
    unfold write; rw [if_neg (by simp [hd]), if_neg (by omega), if_neg (by simpa using hb)]
  rw [hw]
  exact ⟨Disk.burn_calls _, (Disk.burn_lists _).2.2⟩
theorem flush_calls {s : St} (hd : s.down = false) : (flush s).1.calls = s.calls + 1 := by
  unfold flush
  rw [if_neg (by simp [hd])]
  have := Disk.burn_calls s
  split <;> simpa using this
theorem encs_calls {n : Nat} : ∀ (is : List Itm) (l : List (List UInt8)) (s : St), s.size = n → s.down = false → (∀ i ∈ is, 0 ≤ i.1 ∧ i.1 < n) → (encs is l s).2.2 = 0 → (encs is l s).2.1.calls = s.calls + is.length ∧ (encs is l s).2.1.down = false
  | [], l, s, h2, hd, _, _ => ⟨rfl, hd⟩
  | i :: r, l, s, h2, hd, hi, hz => by
    obtain ⟨h0, h1⟩ := hi i (by simp)
    obtain ⟨w1, w2⟩ := write_calls h2 hd h0 h1 (xB_len l i.1 i.2)
    obtain ⟨_, _, _, w4⟩ := Enc.write_cases h2 hd h0 h1 (xB_len l i.1 i.2)
    by_cases h : (write s i.1 (xB l i.1 i.2)).2 = 0
    · rw [encs_go h] at hz ⊢
      have hdn : (write s i.1 (xB l i.1 i.2)).1.down = false := by
        rcases w4 with ⟨e, _⟩ | ⟨_, e, _⟩
        · rw [e] at h; cases h
        · exact e
      obtain ⟨e1, e2⟩ := encs_calls r _ _ w2 hdn (fun j hj => hi j (by simp [hj])) hz
      exact ⟨by rw [e1, w1, List.length_cons]; omega, e2⟩
    · rw [encs_stop h] at hz
      exact absurd hz h
theorem enf_calls {n : Nat} {is : List Itm} {l : List (List UInt8)} {s : St} (h2 : s.size = n) (hd : s.down = false) (hi : ∀ i ∈ is, 0 ≤ i.1 ∧ i.1 < n) (hz : (enf is l s).2.2 = 0) : (enf is l s).2.1.calls = s.calls + (is.length + 1) := by
  unfold enf at hz ⊢
  by_cases h : (encs is l s).2.2 = 0
  · rw [if_pos h] at hz ⊢
    obtain ⟨e1, e2⟩ := encs_calls is l s h2 hd hi h
    show (flush (encs is l s).2.1).1.calls = _
    rw [flush_calls e2, e1]; omega
  · rw [if_neg h] at hz; exact absurd hz h
theorem items_bd {ga gd gl base : Int} {n : Nat} (hr : right ga gd gl = true) (hb : 0 ≤ base) (hn : (n : Int) = Geom.sizeOf ga gd gl) (xs : List X) (q : Nat) : ∀ i ∈ items ga gd gl base q xs, 0 ≤ i.1 ∧ i.1 < n := by
  intro i hi
  obtain ⟨k, hk, rfl⟩ := List.mem_iff_getElem.1 hi
  rw [items_len] at hk
  rw [items_get ga gd gl base xs q k (by rw [items_len]; exact hk) hk]
  have := pl_bd hr hb hn (q + k)
  exact ⟨this.1, this.2.1⟩
/-- an append's calls, and what it adds -/
theorem LogIs.calls {ga gd gl base : Int} {n : Nat} {l : List (List UInt8)} {s : St} {xs : List X} {t : Tx} {life : UInt64} (h : LogIs ga gd gl base n l s xs) (hr : right ga gd gl = true) (hb : 0 ≤ base) (hn : (n : Int) = Geom.sizeOf ga gd gl) (hl : (xs.length : Int) + t.pages.length < gl) (hbd : badB ga gd gl t.pages = false) :
    (putF ga gd gl base life xs.length t.gen t.pages l s).2.1.calls = s.calls + (t.pages.length + 3) ∧ (putF ga gd gl base life xs.length t.gen t.pages l s).1.length ≤ l.length + (t.pages.length + 1) ∧ (putF ga gd gl base life xs.length t.gen t.pages l s).2.1.sz ≤ s.sz + 2 * (t.pages.length + 2) := by
  have hy64 := right_yes hr
  have hd := items_data ga gd gl base life xs.length t.gen t.pages 0
  rw [Nat.add_zero] at hd
  obtain ⟨r1, h1⟩ := h.more (ys := dSecs life xs.length t.gen 0 t.pages) hr hb hn (by rw [dSecs_len]; omega) (fun k hk => by
    rw [dSecs_len] at hk
    rw [dSecs_get _ _ _ _ _ _ _ hk, Nat.zero_add]
    have hp := pl_bd hr hb hn (xs.length + k)
    exact dX_right hp.1 hp.2.2 (by decide) (by omega) (badB_of hbd hk).2.2)
  have c1 := enf_calls (l := l) h.up.size h.up.down (items_bd hr hb hn (dSecs life xs.length t.gen 0 t.pages) xs.length) r1
  obtain ⟨r2, h2⟩ := h1.more (ys := [dX 5 life xs.length t.pages.length t.gen t.pages.length []]) hr hb hn (by simp only [List.length_append, dSecs_len, List.length_singleton]; omega) (fun k hk => by
    obtain rfl : k = 0 := by simp at hk; exact hk
    have hp := pl_bd hr hb hn ((xs ++ dSecs life xs.length t.gen 0 t.pages).length + 0)
    exact dX_right hp.1 hp.2.2 (by decide) (by omega) (by simp))
  have c2 := enf_calls h1.up.size h1.up.down (items_bd hr hb hn [dX 5 life xs.length t.pages.length t.gen t.pages.length []] (xs ++ dSecs life xs.length t.gen 0 t.pages).length) r2
  have l1 := enf_lim (items ga gd gl base xs.length (dSecs life xs.length t.gen 0 t.pages)) l s
  have l2 := enf_lim (items ga gd gl base (xs ++ dSecs life xs.length t.gen 0 t.pages).length [dX 5 life xs.length t.pages.length t.gen t.pages.length []]) (enf (items ga gd gl base xs.length (dSecs life xs.length t.gen 0 t.pages)) l s).1 (enf (items ga gd gl base xs.length (dSecs life xs.length t.gen 0 t.pages)) l s).2.1
  rw [items_len, dSecs_len] at c1 l1
  rw [items_len, List.length_singleton] at c2 l2
  rw [List.length_append, dSecs_len] at c2 l2
  rw [hd] at r1 c1 c2 l1 l2
  unfold putF
  rw [if_pos r1]
  have hit : items ga gd gl base (xs.length + t.pages.length) [dX 5 life xs.length t.pages.length t.gen t.pages.length []] = [(logAt ga gd gl (base + ((xs.length + t.pages.length : Nat) : Int)), dX 5 life xs.length t.pages.length t.gen t.pages.length [])] := rfl
  rw [hit] at c2 l2
  refine ⟨?_, ?_, ?_⟩
  · rw [c2, c1]; omega
  · omega
  · omega
end Go.Proofs.YtchcmklelmlbgaaGreat.Wal

/- The laws of the log: what a log beside a disk keeps. No statement is proved here. -/
namespace Go.Proofs.YtchcmklelmlbgaaGreat.Wal
open Go.RowKit
open Go.Proofs.YtchcmklelmlbgaaGreat.Geom
open Go.Proofs.YtchcmklelmlbgaaGreat.Sup (Gb gv gcell gthree UpN)
open Go.Proofs.YtchcmklelmlbgaaGreat.Disk (St DAt)
open Go.Proofs.YtchcmklelmlbgaaGreat.Sec (X)
set_option linter.unusedVariables false
theorem HereL.row {w0 w w' : World} {g : Nat} {fp : List Nat} {s : St} {gS bS : Nat} {l : List (List UInt8)} {L : Nat} {ga gd gl : Int} {life : UInt64} {base : Int} {seq : Nat} {row : Option Nat} (h : HereL w0 w g fp s gS bS l L ga gd gl life base seq) (hg : w.grownBy w' row) (hr : ∀ r, row = some r → w0.heap.size ≤ r ∧ r ∉ gS :: bS :: fp ∧ r ≠ L) : HereL w0 w' g fp s gS bS l L ga gd gl life base seq := by
  have h1 := h.here.row hg (fun r e => ⟨(hr r e).1, (hr r e).2.1⟩)
  exact ⟨h1.both, h1.bel, h.own, h.lat.grown hg (fun e => (hr L e.symm).2.2 rfl), h.nL⟩
theorem append_no (L g gS : Nat) (ga gd gl : Int) (life : UInt64) (base : Int) (seq : Nat) (Q : Nat → Prop) (A : Option Addr) (l : List Pg) (c : Nat) (gen : UInt64) (w : World) (hG : Gb ga gd gl) (hL : LAt w L g gS ga gd gl life base seq) (hr : Pgs w Q A l) (hcl : l.length ≤ 1000000) (hs : seq ≤ 100000) (hg : 0 ≤ gl) (hg1 : gl ≤ 100000) (hf : whyF ga gd gl seq l ≠ 0) :
    Calls Tryz.prog 45 #[.pointer (some ⟨L, 0, none⟩), .slice A l.length c, .int .u64 (gen.toNat : Int)] w fun e w' => e = .returned (.int .i64 (whyF ga gd gl seq l)) ∧ Below w.heap.size w w' := by
  unfold whyF at hf ⊢
  by_cases hb : badB ga gd gl l = true
  · rw [if_pos hb]; exact append_bad L g gS ga gd gl life base seq Q A l c gen w hG hL hr hcl hb
  · have hb' : badB ga gd gl l = false := by simpa using hb
    rw [if_neg hb] at hf ⊢
    by_cases h1 : fitsB ga gd gl l.length = false
    · rw [if_pos h1]; exact append_big L g gS ga gd gl life base seq Q A l c gen w hG hL hr hcl hb' h1
    · have h1' : fitsB ga gd gl l.length = true := by simpa using h1
      rw [if_neg h1] at hf ⊢
      by_cases h2 : gl - (seq : Int) ≤ (l.length : Int)
      · rw [if_pos h2]; exact append_full L g gS ga gd gl life base seq Q A l c gen w hG hL hr hcl hb' h1' hs hg hg1 h2
      · rw [if_neg h2] at hf; exact absurd rfl hf
theorem whyF_zero {ga gd gl : Int} {seq : Nat} {l : List Pg} (h : whyF ga gd gl seq l = 0) : badB ga gd gl l = false ∧ fitsB ga gd gl l.length = true ∧ (seq : Int) + l.length < gl := by
  unfold whyF at h
  split at h
  · cases h
  · rename_i hb
    split at h
    · cases h
    · rename_i hf
      split at h
      · cases h
      · exact ⟨by simpa using hb, by simpa using hf, by omega⟩
/-- what the laws know of a log between two appends -/
structure AInv (ga gd gl base : Int) (life : UInt64) (n : Nat) (l : List Tx) (k : Nat) (ts : List Tx) (sm : List (List UInt8)) (st : St) : Prop where
  log : LogIs ga gd gl base n sm st (allSecs life 0 ts)
  len : ((allSecs life 0 ts).length : Int) ≤ gl
  bad : ∀ t ∈ ts, badB ga gd gl t.pages = false
  of_ : ∀ t ∈ ts, t ∈ l
  num : ts.length ≤ k
  sums : sm.length ≤ 100 * k
  size : st.sz ≤ 1000 * k
theorem AInv.start (ga gd gl base : Int) (life : UInt64) (n : Nat) (l : List Tx) (hg : 0 ≤ gl) : AInv ga gd gl base life n l 0 [] [] (Disk.new n) :=
  ⟨LogIs.new ga gd gl base n, by simpa [allSecs] using hg, fun t h => (by cases h), fun t h => (by cases h), Nat.le_refl _, by simp, Nat.le_refl _⟩
theorem AInv.more {ga gd gl base : Int} {life : UInt64} {n : Nat} {l : List Tx} {k : Nat} {ts : List Tx} {sm : List (List UInt8)} {st : St} (h : AInv ga gd gl base life n l k ts sm st) : AInv ga gd gl base life n l (k + 1) ts sm st :=
  ⟨h.log, h.len, h.bad, h.of_, by have := h.num; omega, by have := h.sums; omega, by have := h.size; omega⟩
theorem AInv.append {ga gd gl base : Int} {life : UInt64} {n : Nat} {l : List Tx} {k : Nat} {ts : List Tx} {sm : List (List UInt8)} {st : St} {t : Tx} (h : AInv ga gd gl base life n l k ts sm st) (hr : right ga gd gl = true) (hb : 0 ≤ base) (hn : (n : Int) = Geom.sizeOf ga gd gl) (hw : whyF ga gd gl (allSecs life 0 ts).length t.pages = 0) (ht : t ∈ l) :
    (putF ga gd gl base life (allSecs life 0 ts).length t.gen t.pages sm st).2.2 = 0 ∧
      AInv ga gd gl base life n l (k + 1) (ts ++ [t]) (putF ga gd gl base life (allSecs life 0 ts).length t.gen t.pages sm st).1 (putF ga gd gl base life (allSecs life 0 ts).length t.gen t.pages sm st).2.1 ∧
      (allSecs life 0 (ts ++ [t])).length = (allSecs life 0 ts).length + (t.pages.length + 1) ∧
      (putF ga gd gl base life (allSecs life 0 ts).length t.gen t.pages sm st).2.1.calls = st.calls + (t.pages.length + 3) := by
  obtain ⟨w1, w2, w3⟩ := whyF_zero hw
  obtain ⟨r, hl⟩ := h.log.append (t := t) (life := life) hr hb hn w3 w1
  obtain ⟨c1, c2, c3⟩ := h.log.calls (t := t) (life := life) hr hb hn w3 w1
  have hy := right_yes hr
  have hs := allSecs_snoc life ts 0 t
  rw [Nat.zero_add] at hs
  have hlen : (allSecs life 0 (ts ++ [t])).length = (allSecs life 0 ts).length + (t.pages.length + 1) := by rw [hs, List.length_append, tSecs_len]
  refine ⟨r, ⟨by rw [hs]; exact hl, by rw [hlen]; omega, fun u hu => ?_, fun u hu => ?_, by have := h.num; simp; omega, by have := h.sums; omega, by have := h.size; omega⟩, hlen, c1⟩
  · rcases List.mem_append.1 hu with hu | hu
    · exact h.bad u hu
    · rw [List.mem_singleton] at hu; rw [hu]; exact w1
  · rcases List.mem_append.1 hu with hu | hu
    · exact h.of_ u hu
    · rw [List.mem_singleton] at hu; rw [hu]; exact ht
/-- what is read back at a place of the log -/
theorem AInv.dec {ga gd gl base : Int} {life : UInt64} {n : Nat} {l : List Tx} {k : Nat} {ts : List Tx} {sm : List (List UInt8)} {st : St} (h : AInv ga gd gl base life n l k ts sm st) (hr : right ga gd gl = true) (hb : 0 ≤ base) (hn : (n : Int) = Geom.sizeOf ga gd gl) (j : Nat) (hj : j < (allSecs life 0 ts).length) :
    (Disk.keptAt st (pl ga gd gl base j)).length = 512 ∧ Sec.decode (Sec.ckS sm (Disk.keptAt st (pl ga gd gl base j))) (pl ga gd gl base j) (Disk.keptAt st (pl ga gd gl base j)) = ((allSecs life 0 ts)[j], 0) := by
  have p := pl_bd hr hb hn j
  have hk : Disk.keptAt st (pl ga gd gl base j) = Disk.kept st.all (pl ga gd gl base j).toNat := by unfold Disk.keptAt; rw [if_neg (by rw [h.log.up.size]; omega)]
  have hg := h.log.good j hj
  rw [hk]
  exact ⟨hg.len, hg.dec⟩
theorem AInv.scan {ga gd gl base : Int} {life : UInt64} {n : Nat} {l : List Tx} {k : Nat} {ts : List Tx} {sm : List (List UInt8)} {st : St} (h : AInv ga gd gl base life n l k ts sm st) (hr : right ga gd gl = true) (hb : 0 ≤ base) (hn : (n : Int) = Geom.sizeOf ga gd gl) : scanTx sm st ga gd gl base life = ts :=
  h.log.scan hr hb hn h.len (fun t ht x hx => by
    obtain ⟨j, hj, rfl⟩ := List.mem_iff_getElem.1 hx
    have := badB_of (h.bad t ht) hj
    exact ⟨this.1, this.2.1⟩)
end Go.Proofs.YtchcmklelmlbgaaGreat.Wal

/- The store: what an append does to it, and Commit's closure. No statement is proved here. -/
namespace Go.Proofs.YtchcmklelmlbgaaGreat.Sto
open Go.RowKit
open Go.Proofs.YtchcmklelmlbgaaGreat.Geom
open Go.Proofs.YtchcmklelmlbgaaGreat.Disk (St DAt Did)
open Go.Proofs.YtchcmklelmlbgaaGreat.Sup (Gb gv gcell gthree srightF splace sB sL wf sv scell)
open Go.Proofs.YtchcmklelmlbgaaGreat.Snap (snapF PagesOk)
open Go.Proofs.YtchcmklelmlbgaaGreat.Wal (LAt lcell wrightF WTurn putF whyF whyF_zero badB fitsB)
set_option linter.unusedVariables false
set_option maxRecDepth 100000
def Z.seqUp (z : Z) (n : Nat) (f : Int) : Z := if f = 0 then { z with seq := z.seq + (n + 1) } else z
def Z.setGen (z : Z) (gen : UInt64) : Z := { z with gen := gen }
theorem Z.append_yes (z : Z) (pages : List Pg) (gen : UInt64) : ((z.seqUp pages.length 0).put pages).setGen gen = z.append pages gen 0 := rfl
theorem Z.append_no (z : Z) (pages : List Pg) (gen : UInt64) {f : Int} (hf : f ≠ 0) : (z.seqUp pages.length f).told f = z.append pages gen f := by
  unfold Z.seqUp Z.append
  rw [if_neg hf, if_neg hf]
theorem SAt.appended {w w' : World} {X R L g : Nat} {fp : List Nat} {gS bS : Nat} {ga gd gl : Int} {z : Z} {s s' : St} {l l' : List (List UInt8)} {n : Nat} {f : Int} (h : SAt w X R L g fp gS bS ga gd gl z s l) (hdu : z.has = true) (t : WTurn w g fp gS bS L ga gd gl z.life z.base s' l' (if f = 0 then z.seq + (n + 1) else z.seq) w') :
    STurn w X R L g fp gS bS ga gd gl (z.seqUp n f) s' l' w' := by
  obtain ⟨fp', hb, k, fr, hL⟩ := t
  obtain ⟨lv, c, h1, h2, h3⟩ := h.blk
  have hX := h.ltX
  obtain ⟨x1, x2, x3, x4⟩ := h.nX
  obtain ⟨r1, r2, r3, r4⟩ := h.nR
  obtain ⟨l1, l2, l3⟩ := h.nL
  have hLx := (h.log hdu).2
  have e : z.seqUp n f = { z with seq := if f = 0 then z.seq + (n + 1) else z.seq } := by
    unfold Z.seqUp
    split <;> rfl
  rw [e]
  refine ⟨L, fp', ⟨hb, ⟨lv, c, h1.keepK k (by simp only [List.mem_cons, not_or]; exact ⟨fun e => hLx e.symm, x2, x4⟩), h2, h3.move k (by simp only [List.mem_cons, not_or]; exact ⟨r1, r2, r4⟩) (fun j hj hlt => ⟨by simp only [List.mem_cons, not_or]; exact ⟨hj.2.2.1, hj.2.2.2.1, hj.2.2.2.2.2⟩, hj.fresh hlt fr⟩)⟩, fun _ => ⟨hL, hLx⟩, ⟨x1, x2, x3, fr.out hX.1 x4⟩, ⟨r1, r2, r3, fr.out hX.2 r4⟩, ⟨l1, l2, fr.out h.lt l3⟩, Nat.lt_of_lt_of_le h.lt k.size⟩,
    k.more (fun j hj => by simp only [List.mem_cons] at hj ⊢; rcases hj with e | e | e <;> simp [e]), fr, .inl rfl⟩
theorem SAt.gen {w : World} {X R L g : Nat} {fp : List Nat} {gS bS : Nat} {ga gd gl : Int} {z : Z} {s : St} {l : List (List UInt8)} (h : SAt w X R L g fp gS bS ga gd gl z s l) (gen : UInt64) : SAt (w.setCell ⟨X, 7, none⟩ (.int .u64 (gen.toNat : Int))) X R L g fp gS bS ga gd gl (z.setGen gen) s l ∧ Keep [X] w (w.setCell ⟨X, 7, none⟩ (.int .u64 (gen.toNat : Int))) := by
  obtain ⟨lv, c, h1, h2, h3⟩ := h.blk
  obtain ⟨x1, x2, x3, x4⟩ := h.nX
  obtain ⟨r1, r2, r3, r4⟩ := h.nR
  have hk : Keep [X] w (w.setCell ⟨X, 7, none⟩ (.int .u64 (gen.toNat : Int))) := (Keep.refl _ _).set (.inl (by simp)) _
  refine ⟨⟨⟨h.both.disk.keep hk (fun j hj e => x4 (by rw [List.mem_singleton] at e; exact e ▸ hj)), h.both.sym.keepK hk (by simp; exact fun e => x3 e.symm) (by simp; exact fun e => x2 e.symm), h.both.nS, h.both.nB⟩, ⟨lv, c, (h1.set (k := 7) _ : Blk _ X (xc g gS ga gd gl (z.setGen gen) lv (.slice (some ⟨R, 0, none⟩) z.pages.length c))), h2, h3.move hk (by simp; exact fun e => x1 e.symm) (fun j hj hlt => ⟨by simp; exact hj.1, hj⟩)⟩,
    fun hd => ⟨Blk.other (h.log hd).1 _ (h.log hd).2, (h.log hd).2⟩, h.nX, h.nR, h.nL, Nat.lt_of_lt_of_le h.lt hk.size⟩, hk⟩
theorem app_any (X R L g : Nat) (fp : List Nat) (gS bS : Nat) (ga gd gl : Int) (z : Z) (s : St) (l : List (List UInt8)) (Q : Nat → Prop) (A : Option Addr) (pages : List Pg) (c : Nat) (gen : UInt64) (w : World) (hG : Gb ga gd gl) (h : SAt w X R L g fp gS bS ga gd gl z s l) (hdu : z.has = true)
    (hr : Pgs w Q A pages) (hQ : ∀ j, Q j → j < w.heap.size → Off X R L bS gS fp j) (hw : whyF ga gd gl z.seq pages = 0) (hl : l.length ≤ 900000) (hs : s.sz ≤ 80000000) (hb : 0 ≤ z.base ∧ z.base ≤ 1073741824) :
    Calls Tryz.prog 45 #[.pointer (some ⟨L, 0, none⟩), .slice A pages.length c, .int .u64 (gen.toNat : Int)] w fun e w' => e = .returned (.int .i64 (appO ga gd gl z pages gen l s).2.2) ∧
      STurn w X R L g fp gS bS ga gd gl (z.seqUp pages.length (appO ga gd gl z pages gen l s).2.2) (appO ga gd gl z pages gen l s).2.1 (appO ga gd gl z pages gen l s).1 w' := by
  obtain ⟨w1, w2, w3⟩ := whyF_zero hw
  obtain ⟨l1, l2, l3⟩ := h.nL
  refine (Wal.append_any g fp s gS bS l L ga gd gl z.life z.base z.seq Q A pages c gen w hG h.both (h.log hdu).1 (by simp only [List.mem_cons, not_or]; exact ⟨l1, l2, l3⟩) hl hs hb.1 hb.2 hr (fun j hj hlt => by have := hQ j hj hlt; simp only [List.mem_cons, not_or]; exact ⟨this.2.2.1, this.2.2.2.1, this.2.2.2.2.2⟩) w1 w2 w3).mono ?_
  rintro e w' ⟨rfl, t⟩
  exact ⟨rfl, h.appended hdu t⟩
theorem app_no (X R L g : Nat) (fp : List Nat) (gS bS : Nat) (ga gd gl : Int) (z : Z) (s : St) (l : List (List UInt8)) (Q : Nat → Prop) (A : Option Addr) (pages : List Pg) (c : Nat) (gen : UInt64) (w : World) (hG : Gb ga gd gl) (h : SAt w X R L g fp gS bS ga gd gl z s l) (hdu : z.has = true)
    (hr : Pgs w Q A pages) (hcl : pages.length ≤ 1000000) (hq : z.seq ≤ 100000) (hg : 0 ≤ gl) (hg1 : gl ≤ 100000) (hw : whyF ga gd gl z.seq pages ≠ 0) :
    Calls Tryz.prog 45 #[.pointer (some ⟨L, 0, none⟩), .slice A pages.length c, .int .u64 (gen.toNat : Int)] w fun e w' => e = .returned (.int .i64 (whyF ga gd gl z.seq pages)) ∧ Below w.heap.size w w' :=
  Wal.append_no L g gS ga gd gl z.life z.base z.seq Q A pages c gen w hG (h.log hdu).1 hr hcl hq hg hg1 hw
set_option maxHeartbeats 1000000 in
theorem commit1_any (X R L g : Nat) (fp : List Nat) (gS bS : Nat) (ga gd gl : Int) (z : Z) (s : St) (l : List (List UInt8)) (Q : Nat → Prop) (A : Option Addr) (pages : List Pg) (c : Nat) (gen : UInt64) (bX bL bG : Nat) (w : World) (hG : Gb ga gd gl) (h : SAt w X R L g fp gS bS ga gd gl z s l) (hdu : z.has = true)
    (hX : Box w bX (.pointer (some ⟨X, 0, none⟩))) (hL : Box w bL (.slice A pages.length c)) (hE : Box w bG (.int .u64 (gen.toNat : Int)))
    (hr : Pgs w Q A pages) (hQ : ∀ j, Q j → j < w.heap.size → Off X R L bS gS fp j) (hw : whyF ga gd gl z.seq pages = 0) (hl : l.length ≤ 900000) (hs : s.sz ≤ 80000000) (hb : 0 ≤ z.base ∧ z.base ≤ 1073741824) :
    Calls Tryz.prog 46 #[.pointer (some ⟨bX, 0, none⟩), .pointer (some ⟨bL, 0, none⟩), .pointer (some ⟨bG, 0, none⟩)] w fun e w' => e = .returned (.int .i64 (appO ga gd gl z pages gen l s).2.2) ∧
      STurn w X R L g fp gS bS ga gd gl (z.seqUp pages.length (appO ga gd gl z pages gen l s).2.2) (appO ga gd gl z pages gen l s).2.1 (appO ga gd gl z pages gen l s).1 w' := by
  obtain ⟨lv, c', h1, h2, h3⟩ := h.blk
  obtain ⟨z0, z1, z2, z3, z4, z5, z6, z7, z8, z9, z10, z11, z12⟩ := thirteen h1
  rw [h2 hdu] at z8
  have q0 := hX.cell
  have q1 := hL.cell
  have q2 := hE.cell
  have e0 := hX.lt
  have e1 := hL.lt
  have e2 := hE.lt
  have hlX := h1.lt
  have HA := Lib.hid (fun W (bW : Below w.heap.size w W) => app_any X R L g fp gS bS ga gd gl z s l (fun j => Q j ∧ j < w.heap.size) A pages c gen W hG (h.on bW) hdu ((hr.imp (fun j hj hq => ⟨hq, hj⟩)).on bW) (fun j hj _ => hQ j hj.1 hj.2) hw hl hs hb)
  obtain ⟨V, hV⟩ : ∃ V, V = appO ga gd gl z pages gen l s := ⟨_, rfl⟩
  rw [← hV] at HA ⊢
  obtain ⟨zf, hzf⟩ : ∃ q, q = z.seqUp pages.length V.2.2 := ⟨_, rfl⟩
  rw [← hzf] at HA ⊢
  clear hzf hV h h1 h2 h3 hX hL hE hr hQ hw hl hs hb hG hdu
  go_enter Tryz.func46, Tryz.ntmps46
  go_wp2_with fail
  refine region_inb_tail 6 (by kernel_rfl) (by kernel_rfl) ?_
  simp only [List.take_succ_cons, List.take_zero, List.drop_succ_cons, List.drop_zero]
  have inbNe := InB.some
  have inbW := @wrap_small
  have inbU := IntKind.wrap_u8'
  repeat (refine wpQuiet_step (fun K hK => ?_); go_simp; first | (refine hK _ ?_; clear hK K) | (apply Exists.intro; refine ⟨?_, hK _ ?_⟩; (· (intro w' hw'; first | (have hcw := hw'.cell; go_simp; exact rfl))); clear hK K))
  refine wpQuiet_nil ?_
  intro wq hq
  clear inbNe inbW inbU
  go_wp2_with (go_at_call 45; refine (HA.out _ hq.below).mono ?_; rintro e w1 ⟨rfl, t1⟩)
  go_ret
  exact ⟨rfl, STurn.first hq.below t1⟩
end Go.Proofs.YtchcmklelmlbgaaGreat.Sto

/- The store: Commit. No statement is proved here. -/
namespace Go.Proofs.YtchcmklelmlbgaaGreat.Sto
open Go.RowKit
open Go.Proofs.YtchcmklelmlbgaaGreat.Geom
open Go.Proofs.YtchcmklelmlbgaaGreat.Disk (St DAt Did)
open Go.Proofs.YtchcmklelmlbgaaGreat.Sup (Gb gv gcell gthree srightF splace sB sL wf sv scell)
open Go.Proofs.YtchcmklelmlbgaaGreat.Snap (snapF PagesOk)
open Go.Proofs.YtchcmklelmlbgaaGreat.Wal (LAt lcell wrightF WTurn putF whyF whyF_zero badB fitsB)
set_option linter.unusedVariables false
set_option maxRecDepth 100000
theorem STurn.keepOf {w w' : World} {X R L g : Nat} {fp : List Nat} {gS bS : Nat} {ga gd gl : Int} {z : Z} {s : St} {l : List (List UInt8)} (h : STurn w X R L g fp gS bS ga gd gl z s l w') : Keep (X :: R :: L :: bS :: fp) w w' := by obtain ⟨_, _, _, k, _⟩ := h; exact k
/-- where the two steps stand: a renewal, an append -/
def CIn (w3 : World) (X R L g : Nat) (fp : List Nat) (gS bS : Nat) (ga gd gl : Int) (z1 z2 : Z) (V B : Out) : Nat → World → Prop
  | 0, W => W = w3
  | 1, W => V.2.2 = 0 ∧ STurn w3 X R L g fp gS bS ga gd gl z1 V.2.1 V.1 W
  | _, W => V.2.2 = 0 ∧ B.2.2 = 0 ∧ STurn w3 X R L g fp gS bS ga gd gl z2 B.2.1 B.1 W
def COut (w3 : World) (X R L g : Nat) (fp : List Nat) (gS bS : Nat) (ga gd gl : Int) (z1 z2 : Z) (V B : Out) (f : Int) (W : World) : Prop :=
  (f = V.2.2 ∧ STurn w3 X R L g fp gS bS ga gd gl z1 V.2.1 V.1 W) ∨ (V.2.2 = 0 ∧ f = B.2.2 ∧ STurn w3 X R L g fp gS bS ga gd gl z2 B.2.1 B.1 W)
def cks : Nat → FuncId
  | 0 => 16
  | _ => 46
def crs (X : Nat) : Nat → Array Value
  | 0 => #[.pointer (some ⟨X, 0, none⟩)]
  | _ => #[]
def ccs (bX bL bG : Nat) : Nat → Array Value
  | 0 => #[]
  | _ => #[.pointer (some ⟨bX, 0, none⟩), .pointer (some ⟨bL, 0, none⟩), .pointer (some ⟨bG, 0, none⟩)]
theorem offKeep {X R L bS gS : Nat} {fp : List Nat} {j : Nat} (h : Off X R L bS gS fp j) : j ∉ X :: R :: L :: bS :: fp := by
  simp only [List.mem_cons, not_or]; exact ⟨h.1, h.2.1, h.2.2.1, h.2.2.2.1, h.2.2.2.2.2⟩
theorem offFresh {w : World} {X R L L' bS gS : Nat} {fp fp' : List Nat} {j : Nat} (h : Off X R L bS gS fp j) (hj : j < w.heap.size) (f : Fresh w (L :: fp) (L' :: fp')) : Off X R L' bS gS fp' j := by
  have h1 : j ∉ L' :: fp' := f.out hj (by simp only [List.mem_cons, not_or]; exact ⟨h.2.2.1, h.2.2.2.2.2⟩)
  simp only [List.mem_cons, not_or] at h1
  exact ⟨h.1, h.2.1, h1.1, h.2.2.2.1, h.2.2.2.2.1, h1.2⟩
theorem commit_steps (X R L g : Nat) (fp : List Nat) (gS bS : Nat) (ga gd gl : Int) (z : Z) (s : St) (l : List (List UInt8)) (Q : Nat → Prop) (A : Option Addr) (pages : List Pg) (c : Nat) (gen : UInt64) (bX bL bG bF : Nat) (w : World) (hG : Gb ga gd gl) (h : SAt w X R L g fp gS bS ga gd gl z s l)
    (hX : Box w bX (.pointer (some ⟨X, 0, none⟩))) (hL : Box w bL (.slice A pages.length c)) (hE : Box w bG (.int .u64 (gen.toNat : Int)))
    (hF : Blk w bF [.func (.func 16) (crs X 0) #[], .func (.func 46) #[] (ccs bX bL bG 1)])
    (nX : bX ∉ X :: R :: L :: bS :: fp) (nL : bL ∉ X :: R :: L :: bS :: fp) (nG : bG ∉ X :: R :: L :: bS :: fp) (nF : bF ∉ X :: R :: L :: bS :: fp)
    (hr : Pgs w Q A pages) (hQ : ∀ j, Q j → j < w.heap.size → Off X R L bS gS fp j) (hw : whyF ga gd gl z.seq pages = 5)
    (hl : l.length ≤ 800000) (hs : s.sz ≤ 70000000) (hf : srightF s ga gd gl = 0) (hz : ZOk ga gd gl z) (hd : z.dead = false) (hdu : z.due = false) (hh : z.has = true) (hlife : z.life.toNat < 4611686018427387904) (hb : 0 ≤ z.base ∧ z.base ≤ 1073741824) (hq : z.seq ≤ 100000) :
    Calls Tryz.prog 38 #[.slice (some ⟨bF, 0, none⟩) 2 2] w fun e w' => ∃ f : Int, e = .returned (.int .i64 f) ∧
      (f = 0 → CIn w X R L g fp gS bS ga gd gl (renF ga gd gl z l s).1 ((renF ga gd gl z l s).1.seqUp pages.length (appO ga gd gl (renF ga gd gl z l s).1 pages gen (renO ga gd gl z l s).1 (renO ga gd gl z l s).2.1).2.2) (renO ga gd gl z l s) (appO ga gd gl (renF ga gd gl z l s).1 pages gen (renO ga gd gl z l s).1 (renO ga gd gl z l s).2.1) 2 w') ∧
      (f ≠ 0 → COut w X R L g fp gS bS ga gd gl (renF ga gd gl z l s).1 ((renF ga gd gl z l s).1.seqUp pages.length (appO ga gd gl (renF ga gd gl z l s).1 pages gen (renO ga gd gl z l s).1 (renO ga gd gl z l s).2.1).2.2) (renO ga gd gl z l s) (appO ga gd gl (renF ga gd gl z l s).1 pages gen (renO ga gd gl z l s).1 (renO ga gd gl z l s).2.1) f w') := by
  have hpb := pagesOf_bd ga gd gl
  have hy := right_yes (Sup.srightF_yes hf).1
  have hbn : 0 ≤ baseN gl z ∧ baseN gl z ≤ 1073741824 := by
    unfold baseN
    rw [if_neg (by rw [hdu]; simp)]
    have := Int.emod_nonneg (z.base + (z.seq : Int)) (show gl ≠ 0 by omega)
    have := Int.emod_lt_of_pos (z.base + (z.seq : Int)) (show 0 < gl by omega)
    omega
  have hzl := hz.len
  have lim : (renO ga gd gl z l s).1.length ≤ l.length + (z.pages.length + 1) ∧ (renO ga gd gl z l s).2.1.sz ≤ s.sz + 2 * (z.pages.length + 2) := begF_lim _ _ _ _ _ _ _ _ _
  have h1 : (renO ga gd gl z l s).2.2 = 0 → (renF ga gd gl z l s).1.has = true ∧ (renF ga gd gl z l s).1.seq = 0 ∧ (renF ga gd gl z l s).1.base = baseN gl z := fun e => by
    unfold renF Z.renew
    simp only
    rw [if_pos e]
    exact ⟨rfl, rfl, rfl⟩
  have hw0 := why_first hw
  have hR := fun (W : World) (hW : W = w) => by
    subst hW
    exact renew_any X R L g fp gS bS ga gd gl z s l W hG h hl hs hf hz hd hlife hb (fun _ => hq) (fun e => by rw [hdu] at e; cases e) (fun _ => hh)
  obtain ⟨V, hV⟩ : ∃ V, V = renO ga gd gl z l s := ⟨_, rfl⟩
  obtain ⟨z1, hz1⟩ : ∃ q, q = (renF ga gd gl z l s).1 := ⟨_, rfl⟩
  rw [← hV] at lim h1 hR ⊢
  rw [← hz1] at h1 hR ⊢
  refine steps_any 2 2 bF 0 cks (crs X) (ccs bX bL bG) (CIn w X R L g fp gS bS ga gd gl z1 _ V _) (COut w X R L g fp gS bS ga gd gl z1 _ V _) w (by omega) rfl ?_ ?_ ?_
  · intro i hi W hI
    have hk : Keep (X :: R :: L :: bS :: fp) w W := by
      match i, hi, hI with
      | 0, _, hI => rw [show W = w from hI]; exact Keep.refl _ _
      | 1, _, hI => exact hI.2.keepOf
    have hF' := hF.keepK hk nF
    match i, hi with
    | 0, _ => exact hF'.cell (k := 0) (by simp)
    | 1, _ => exact hF'.cell (k := 1) (by simp)
  · intro i hi x W
    match i, hi with
    | 0, _ => simp [go_sem, cks]
    | 1, _ => simp [go_sem, cks]
  · intro i hi W hI
    match i, hi, hI with
    | 0, _, hI =>
      rw [show crs X 0 ++ ccs bX bL bG 0 = #[.pointer (some ⟨X, 0, none⟩)] from by simp [crs, ccs]]
      have hw' : W = w := hI
      rw [hw']
      refine Calls.mono (hR w rfl) ?_
      rintro e w' ⟨rfl, t⟩
      exact ⟨_, rfl, fun e => ⟨e, t⟩, fun e => .inl ⟨rfl, t⟩⟩
    | 1, _, hI =>
      obtain ⟨h0, L1, fp1, hS1, k1, f1⟩ := hI
      obtain ⟨g1, g2, g3⟩ := h1 h0
      have hc := commit1_any X R L1 g fp1 gS bS ga gd gl z1 V.2.1 V.1 (fun j => Q j ∧ j < w.heap.size) A pages c gen bX bL bG W hG hS1 g1 (hX.keep k1 nX) (hL.keep k1 nL) (hE.keep k1 nG)
        ((hr.imp (fun j hj hq => ⟨hq, hj⟩)).keep k1 (fun j hj _ => offKeep (hQ j hj.1 hj.2))) (fun j hj _ => offFresh (hQ j hj.1 hj.2) hj.2 f1.all) (by rw [g2]; exact hw0) (by omega) (by omega) (by rw [g3]; exact hbn)
      rw [show crs X 1 ++ ccs bX bL bG 1 = #[.pointer (some ⟨bX, 0, none⟩), .pointer (some ⟨bL, 0, none⟩), .pointer (some ⟨bG, 0, none⟩)] from by simp [crs, ccs]]
      refine Calls.mono hc ?_
      rintro e w' ⟨rfl, t⟩
      have t2 := STurn.trans k1 f1 t
      exact ⟨_, rfl, fun e => ⟨h0, e, t2⟩, fun e => .inr ⟨h0, rfl, t2⟩⟩
end Go.Proofs.YtchcmklelmlbgaaGreat.Sto
