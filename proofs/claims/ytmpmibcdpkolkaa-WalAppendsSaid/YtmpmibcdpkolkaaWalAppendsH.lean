/- Texts of this claim, joined: WalRf2, WalRf4, WalRf5, WalCalls, SupL2, SnapRd, SnapL2, WalL2, Wal11, OpenTxns. -/
import Derived.Test.YtmpmibcdpkolkaaWalAppendsG
import Derived.Deep.RegionLaw
import Derived.Test.YtmpmibcdpkolkaaWalAppendsF
/- The log: what the document scans. No statement is proved here. -/
namespace Go.Proofs.Ytmpmibcdpkolkaa.Wal
open Go.RowKit
open Go.Proofs.Ytmpmibcdpkolkaa.Sec (X X0)
set_option linter.unusedVariables false
set_option maxRecDepth 100000
attribute [local irreducible] wpQuiet
def goodR (life : UInt64) (l : List X) (k : Nat) : Bool := decide ((l.getD k X0).life = life) && decide ((l.getD k X0).seq = (k : Int))
/-- what the document scans -/
def rscanF (np : Int) (life : UInt64) (l : List X) : List Tx := (scanH np (fun k => l.getD k X0) (goodR life l) l.length 0 r00).all
/-- transactions come back -/
def RetTx (w : World) (R : List Tx) (e : Ending) (w' : World) : Prop := (∃ A c, e = .returned (.slice A R.length c) ∧ Txs w' (fun _ => True) A R ∧ R.length ≤ c ∧ c ≤ maxLen) ∧ Below w.heap.size w w'
theorem five5q {w : World} {g : Nat} {v0 v1 v2 v3 v4 : Value} (h : Blk w g [v0, v1, v2, v3, v4]) : w.cell? ⟨g, 0, none⟩ = some v0 ∧ w.cell? ⟨g, 1, none⟩ = some v1 ∧ w.cell? ⟨g, 2, none⟩ = some v2 ∧ w.cell? ⟨g, 3, none⟩ = some v3 ∧ w.cell? ⟨g, 4, none⟩ = some v4 :=
  ⟨h.cell (k := 0) (by simp), h.cell (k := 1) (by simp), h.cell (k := 2) (by simp), h.cell (k := 3) (by simp), h.cell (k := 4) (by simp)⟩
theorem two2q {w : World} {g : Nat} {v0 v1 : Value} (h : Blk w g [v0, v1]) : w.cell? ⟨g, 0, none⟩ = some v0 ∧ w.cell? ⟨g, 1, none⟩ = some v1 := ⟨h.cell (k := 0) (by simp), h.cell (k := 1) (by simp)⟩
theorem infoRT : (Try.prog.info? 104).map (fun i => (i.zero, i.size, i.bytes)) = some (some (.agg #[.slice none 0 0, .int .u64 0]), 2, 32) := by kernel_rfl
theorem infoPg2 : (Try.prog.info? 157).map (fun i => (i.zero, i.size, i.bytes)) = some (some (.agg #[.int .i64 0, .slice none 0 0]), 2, 32) := by kernel_rfl
theorem bt' {n : Nat} {a b c : World} (h : Below n a b) (k : Below n b c) : Below n a c := h.trans k
theorem alloc_drew2 (w : World) (o : Obj) : Below w.heap.size w (w.alloc o).drew := ⟨(b1alloc w o).os, (b1alloc w o).tape, (b1alloc w o).output, (b1alloc w o).size, (b1alloc w o).block⟩
theorem rf_fin {w W : World} {n0 T : Nat} {r : Rg} {A : Option Addr} {n c : Nat} {nowv : Value} {trs : List Tr} {prs : List Pr} {R : List Tx} (h : RfAt W n0 T r (.slice A n c) nowv trs prs) (hR : R = r.all) (b : Below w.heap.size w W) : RetTx w R (.returned (.slice A n c)) W := by
  obtain ⟨e1, e2, e3, e4⟩ := h.txs
  subst hR e1
  exact ⟨⟨A, c, rfl, e2, e3, e4⟩, b⟩
theorem PfOk.tail {w : World} {T b o len ci : Nat} {m : Int} {l : List UInt8} (hr : Rd w T (some ⟨b, o, none⟩) (l.map e8)) (hT : T ≤ w.heap.size) (hn : len = l.length) (hc : len ≤ ci) (hm : ci ≤ maxLen) (h6 : 6 ≤ l.length) (h0 : 0 ≤ m) (h1 : m ≤ 1000000) : PfOk w T ⟨m, if ci = 6 then some ⟨b, o, none⟩ else some ⟨b, o + 6, none⟩, ci - 6, l.drop 6⟩ := by
  subst hn
  refine ⟨?_, by simp; omega, by simp only; omega, h0, h1⟩
  by_cases h : ci = 6
  · have : l.drop 6 = [] := List.drop_eq_nil_of_le (by omega)
    intro hne
    exact absurd (by simp [this]) hne
  · rw [if_neg h]
    have h2 := hr.drop 6
    rw [← List.map_drop] at h2
    exact h2.q hT
set_option maxHeartbeats 4000000 in
theorem rscan_any (A : Option Addr) (l : List X) (c : Nat) (life : UInt64) (np : Int) (w : World) (hr : Secs w w.heap.size A l) (hl : l.length ≤ 1000) (hbl : ∀ x ∈ l, x.body.length ≤ 1000000) (hn0 : 0 ≤ np) (hn1 : np ≤ 100) :
    Calls Try.prog 53 #[.slice A l.length c, .int .u64 (life.toNat : Int), .int .i64 np] w fun e w' => RetTx w (rscanF np life l) e w' := by
  obtain ⟨rd, hrd⟩ : ∃ rd : Nat → X, rd = fun k => l.getD k X0 := ⟨_, rfl⟩
  obtain ⟨good, hgd⟩ : ∃ good, good = goodR life l := ⟨_, rfl⟩
  obtain ⟨N, hN⟩ : ∃ N, N = l.length := ⟨_, rfl⟩
  obtain ⟨R, hR⟩ : ∃ R, R = rscanF np life l := ⟨_, rfl⟩
  rw [← hR]
  have hRR : R = (scanH np rd good N 0 r00).all := by rw [hR, hrd, hgd, hN]; rfl
  have hrdk : ∀ k (h : k < l.length), rd k = l[k] := fun k h => by rw [hrd]; simp [List.getD, h]
  have hgk : ∀ k, good k = (decide ((rd k).life = life) && decide ((rd k).seq = (k : Int))) := fun k => by rw [hgd, hrd]; rfl
  rw [← hN]
  have HRR := Lib.hid hRR
  have Hrk := Lib.hid hrdk
  have Hgk := Lib.hid hgk
  have HN := Lib.hid hN
  have hl' : N ≤ 1000 := by omega
  have HR0 := Lib.hid hr
  have Hbl := Lib.hid hbl
  have hB0 := Blk.new w [.slice none 0 0, .int .u64 0] 104
  have b0 := b1alloc w (.cells ([.slice none 0 0, .int .u64 0] : List Value).toArray 104)
  have h0 : RfAt (w.alloc (.cells #[.slice none 0 0, .int .u64 0] 104)) (w.heap.size + 1) w.heap.size r00 (.slice none 0 0) (.slice none 0 0) [] [] :=
    ⟨hB0, own_nil _ _ _ _, own_nil _ _ _ _, fun t ht => (by cases ht), fun t ht => (by cases ht), rfl, rfl, by omega, by simp⟩
  clear hrd hgd hN hR hRR hrdk hgk hl hr hbl hB0
  go_enter Try.func53, Try.ntmps53
  go_wp2_with fail
  go_loopw [7, 9, 10, 11, 12] (fun o f i v11 v12 wr => ∃ k : Nat, k ≤ N ∧ i = .int .i64 (k : Int) ∧ Below w.heap.size w wr ∧ ∃ r nowv trs prs, f = .int .i64 (r.frm : Int) ∧ RfAt wr (w.heap.size + 1) w.heap.size r o nowv trs prs ∧ trs.length + prs.length ≤ k ∧ r.frm ≤ k ∧ Hid (R = (scanH np rd good (N - k) k r).all)) (fun _ _ i _ _ _ => N - (intOf i).toNat)
  case atStart => exact ⟨0, by omega, rfl, b0, r00, _, [], [], rfl, h0, by simp, Nat.le_refl _, Lib.hid HRR.out⟩
  case round =>
    obtain ⟨k, hk, rfl, bel, r, nowv, trs, prs, rfl, hA, hlen, hfrm, hRk⟩ := hrel
    clear h0 b0
    obtain ⟨Ao, co, rfl⟩ := own_form hA.all
    obtain ⟨An, cn, rfl⟩ := own_form hA.now
    by_cases hlt : k < N
    rotate_left
    · have hkN : k = N := by omega
      have hfin := Lib.hid (show R = r.all by rw [hRk.out, hkN, Nat.sub_self]; rfl)
      have HA := Lib.hid hA
      have hkn : ¬ (k : Int) < (N : Int) := by omega
      clear hkN hA
      go_wp2
      go_ret
      exact rf_fin HA.out hfin.out bel
    have hkm : (k : Int) < (N : Int) := by omega
    have hge : ¬ (N : Int) ≤ (k : Int) := by omega
    have hll : k < l.length := by have := HN.out; omega
    obtain ⟨m1, hm1⟩ : ∃ m1, N - k = m1 + 1 := ⟨N - k - 1, by omega⟩
    have hst : R = (if good k = true then (if (takeF np r k (rd k)).2 = true then scanH np rd good m1 (k + 1) (takeF np r k (rd k)).1 else (takeF np r k (rd k)).1) else r).all := by rw [hRk.out, hm1]; rfl
    have hm2 : N - (k + 1) = m1 := by omega
    obtain ⟨b, off, Ai, ci, rfl, hb, hS⟩ := (HR0.out.below bel).get hll
    have hbx : (rd k).body.length ≤ 1000000 := by rw [Hrk.out k hll]; exact Hbl.out _ (List.getElem_mem hll)
    rw [← Hrk.out k hll] at hS
    have hgk := Hgk.out k
    obtain ⟨x, hx⟩ : ∃ x, x = rd k := ⟨_, rfl⟩
    rw [← hx] at hS hst hbx hgk
    obtain ⟨c0, c1, c2, c3, c4, hrd, hcap, hmax⟩ := hS
    have hbl2 : b < wr.heap.size := by have := bel.size; omega
    have hW := b1alloc wr (.cells #[.int .i64 x.kind, .int .u64 (x.life.toNat : Int), .int .i64 x.seq, .int .u64 (x.gen.toNat : Int), .slice Ai x.body.length ci] 49)
    have hX : Blk (wr.alloc (.cells #[.int .i64 x.kind, .int .u64 (x.life.toNat : Int), .int .i64 x.seq, .int .u64 (x.gen.toNat : Int), .slice Ai x.body.length ci] 49)) wr.heap.size [.int .i64 x.kind, .int .u64 (x.life.toNat : Int), .int .i64 x.seq, .int .u64 (x.gen.toNat : Int), .slice Ai x.body.length ci] := Blk.new wr _ _
    obtain ⟨x0, x1, x2, x3, x4⟩ := five5q hX
    have hA1 := hA.on hW
    obtain ⟨y0, y1⟩ := two2q hA1.blk
    have f0 := hA1.blk.free 0
    have f1 := hA1.blk.free 1
    have hTl := hA1.blk.lt
    have hXl := hX.lt
    have bel1 := bt bel hW
    have HA := Lib.hid hA
    have Hst := Lib.hid hst
    have HX := Lib.hid hX
    have Hm2 := Lib.hid hm2
    have hnl : r.now.length = prs.length := by rw [hA.eN]; simp
    have hnow : r.now ≠ [] ↔ 0 < prs.length := by rw [hA.eN]; simp [List.length_pos_iff]
    have Hb1 := Lib.hid (show trs.length + 1 ≤ maxLen ∧ prs.length + 1 ≤ maxLen ∧ (trs.length + 1) * 32 ≤ 140737488355328 ∧ (prs.length + 1) * 32 ≤ 140737488355328 from ⟨by simp only [maxLen]; omega, by simp only [maxLen]; omega, by omega, by omega⟩)
    clear hA hX hst hm1 hm2 hx hA1
    -- the life
    by_cases e1 : x.life = life
    rotate_left
    · have hfin := Lib.hid (show R = r.all by rw [Hst.out, if_neg (by rw [hgk, decide_eq_false e1]; simp)])
      have t1 := bne_yes (show (x.life.toNat : Int) ≠ (life.toNat : Int) from fun e => e1 (UInt64.toNat_inj.1 (by omega)))
      clear e1 hgk
      go_wp2
      go_ret
      exact rf_fin (HA.out.on hW) hfin.out bel1
    have t1 := bne_no (show (x.life.toNat : Int) = (life.toNat : Int) by rw [e1])
    by_cases e2 : x.seq = (k : Int)
    rotate_left
    · have hfin := Lib.hid (show R = r.all by rw [Hst.out, if_neg (by rw [hgk, decide_eq_false e2]; simp)])
      have t2 := bne_yes e2
      clear e1 e2 hgk
      go_wp2
      go_ret
      exact rf_fin (HA.out.on hW) hfin.out bel1
    have t2 := bne_no e2
    have hst2 : R = (if (takeF np r k x).2 = true then scanH np rd good m1 (k + 1) (takeF np r k x).1 else (takeF np r k x).1).all := by rw [Hst.out, if_pos (by rw [hgk, decide_eq_true e1, decide_eq_true e2]; rfl)]
    have HS2 := Lib.hid hst2
    clear e1 e2 hgk hst2 Hst
    by_cases e3 : x.body.length < 6
    · have hte : takeF np r k x = (r, false) := by unfold takeF; rw [if_pos (.inl e3)]
      have hfin := Lib.hid (show R = r.all by rw [HS2.out, hte]; rfl)
      have t3 : (x.body.length : Int) < 6 := by omega
      clear e3 hte
      go_wp2
      go_ret
      exact rf_fin (HA.out.on hW) hfin.out bel1
    have t3 : ¬ (x.body.length : Int) < 6 := by omega
    obtain ⟨bb, oo, rfl, hbb, _⟩ := hrd (by intro e; rw [List.map_eq_nil_iff] at e; rw [e] at e3; simp at e3)
    have hrd1 : ∀ W, Below wr.heap.size wr W → Rd W w.heap.size (some ⟨bb, oo, none⟩) (x.body.map e8) := fun W bW => hrd.below (bW.mono bel.size)
    have hG1 := fun W (bW : Below wr.heap.size wr W) => number_any (some ⟨bb, oo, none⟩) (x.body.take 4) 4 ci w.heap.size W (by rw [List.length_take]; omega) (by rw [List.map_take]; exact (hrd1 W bW).take 4) (by rw [List.length_take]; omega) (by rw [List.length_take]; omega)
    have hG2 := fun W (bW : Below wr.heap.size wr W) => number_any (some ⟨bb, oo + 4, none⟩) ((x.body.drop 4).take 2) 2 (ci - 4) w.heap.size W (by rw [List.length_take, List.length_drop]; omega) (by rw [List.map_take, List.map_drop]; exact ((hrd1 W bW).drop 4).take 2) (by rw [List.length_take, List.length_drop]; omega) (by rw [List.length_take, List.length_drop]; omega)
    have hF : ∀ l, Num.getN (l.take 4) = fstN l := fun _ => rfl
    have hSn : ∀ l, Num.getN ((l.drop 4).take 2) = sndN l := fun _ => rfl
    rw [hF] at hG1
    rw [hSn] at hG2
    have hs16 : sndN x.body < 65536 := by have := Num.getN_lt ((x.body.drop 4).take 2) _ (Nat.le_refl _); rw [List.take_length] at this; exact Nat.lt_of_lt_of_le this (by rw [show (65536 : Nat) = 256 ^ 2 from rfl]; exact Nat.pow_le_pow_right (by omega) (by rw [List.length_take]; omega))
    have hT : takeF np r k x = if r.now ≠ [] ∧ x.gen ≠ r.gen then (r, false) else if fstN x.body ≠ r.frm then (r, false)
        else if x.kind = 4 ∧ (sndN x.body : Int) < np then ({ r with gen := x.gen, now := r.now ++ [⟨(sndN x.body : Int), x.body.drop 6⟩] }, true)
        else if x.kind = 5 ∧ sndN x.body = r.now.length ∧ x.body.length = 6 then (⟨r.all ++ [⟨r.now, x.gen⟩], [], 0, k + 1⟩, true)
        else ({ r with gen := x.gen }, false) := by
      unfold takeF
      by_cases h : r.now ≠ [] ∧ x.gen ≠ r.gen
      · rw [if_pos (.inr h), if_pos h]
      · rw [if_neg (fun e => e.elim e3 h), if_neg h]
    rw [hnl] at hT
    have hPf := fun (m : Nat) (hm : m ≤ 65536) W (bW : Below wr.heap.size wr W) => PfOk.tail (m := (m : Int)) (hrd1 W bW) (by have := bel.size; have := bW.size; omega) rfl hcap hmax (by omega) (by omega) (by omega)
    obtain ⟨f, hf⟩ : ∃ f, f = fstN x.body := ⟨_, rfl⟩
    obtain ⟨m, hm⟩ : ∃ m, m = sndN x.body := ⟨_, rfl⟩
    rw [← hf] at hT hG1
    rw [← hm] at hT hG2 hs16
    have HT := Lib.hid hT
    have HG1 := Lib.hid hG1
    have HG2 := Lib.hid hG2
    have HPf := Lib.hid (hPf m (by omega))
    have Hnow := Lib.hid hnow
    have h6i : (6 : Int) ≤ (x.body.length : Int) := by omega
    have h6c : 6 ≤ ci := by omega
    have c4n : ¬ ci = 4 := by omega
    have c4i : ¬ (ci : Int) = 4 := by omega
    clear hF hSn hG1 hG2 hf hm hT hrd hrd1 hPf hnow hnl e3 hcap hmax
    by_cases e5 : f = r.frm
    rotate_left
    · have hte : takeF np r k x = (r, false) := by rw [HT.out]; split <;> (first | rfl | rw [if_pos e5])
      have hfin := Lib.hid (show R = r.all by rw [HS2.out, hte]; rfl)
      have t5 := bne_yes (show (f : Int) ≠ (r.frm : Int) by omega)
      clear e5 hte
      go_wp2_with (first
          | (go_at_call 104; (with_reducible show Calls _ _ #[.slice (some ⟨bb, oo, none⟩) 4 _] _ _); refine (HG1.out _ hW).mono ?_; rintro e w1 ⟨rfl, rfl⟩)
          | (go_at_call 104; (with_reducible show Calls _ _ #[.slice (some ⟨bb, oo + 4, none⟩) 2 _] _ _); refine (HG2.out _ hW).mono ?_; rintro e w1 ⟨rfl, rfl⟩))
      go_ret
      exact rf_fin (HA.out.on hW) hfin.out bel1
    have t5 := bne_no (show (f : Int) = (r.frm : Int) by omega)
    have HE5 := Lib.hid e5
    clear e5
    by_cases e6 : 0 < prs.length
    · have t6 := decide_eq_true e6
      by_cases e7 : x.gen = r.gen
      rotate_left
      · have hte : takeF np r k x = (r, false) := by rw [HT.out, if_pos ⟨Hnow.out.2 e6, e7⟩]
        have hfin := Lib.hid (show R = r.all by rw [HS2.out, hte]; rfl)
        have t7 := bne_yes (show (x.gen.toNat : Int) ≠ (r.gen.toNat : Int) from fun e => e7 (UInt64.toNat_inj.1 (by omega)))
        clear e6 e7 hte
        go_wp2_with (first
          | (go_at_call 104; (with_reducible show Calls _ _ #[.slice (some ⟨bb, oo, none⟩) 4 _] _ _); refine (HG1.out _ hW).mono ?_; rintro e w1 ⟨rfl, rfl⟩)
          | (go_at_call 104; (with_reducible show Calls _ _ #[.slice (some ⟨bb, oo + 4, none⟩) 2 _] _ _); refine (HG2.out _ hW).mono ?_; rintro e w1 ⟨rfl, rfl⟩))
        go_ret
        exact rf_fin (HA.out.on hW) hfin.out bel1
      have t7 := bne_no (show (x.gen.toNat : Int) = (r.gen.toNat : Int) by rw [e7])
      have HNN := Lib.hid (show ¬ (r.now ≠ [] ∧ x.gen ≠ r.gen) from fun h => h.2 e7)
      clear e6 e7
      have HT2 := Lib.hid (show takeF np r k x = if x.kind = 4 ∧ (m : Int) < np then ({ r with gen := x.gen, now := r.now ++ [⟨(m : Int), x.body.drop 6⟩] }, true)
          else if x.kind = 5 ∧ m = prs.length ∧ x.body.length = 6 then (⟨r.all ++ [⟨r.now, x.gen⟩], [], 0, k + 1⟩, true)
          else ({ r with gen := x.gen }, false) by rw [HT.out, if_neg HNN.out, if_neg (fun h => h HE5.out)])
      by_cases k4 : x.kind = 4
      · have s4 := beq_yes k4
        have k5 : ¬ x.kind = 5 := by omega
        by_cases hmn : (m : Int) < np
        · have hte : takeF np r k x = ({ r with gen := x.gen, now := r.now ++ [⟨(m : Int), x.body.drop 6⟩] }, true) := by rw [HT2.out, if_pos ⟨k4, hmn⟩]
          have hnx := Lib.hid (show R = (scanH np rd good m1 (k + 1) { r with gen := x.gen, now := r.now ++ [⟨(m : Int), x.body.drop 6⟩] }).all by rw [HS2.out, hte]; rfl)
          have smn := decide_eq_true hmn
          clear k4 k5 hte
          go_upto_region 13 with (first
          | (go_at_call 104; (with_reducible show Calls _ _ #[.slice (some ⟨bb, oo, none⟩) 4 _] _ _); refine (HG1.out _ hW).mono ?_; rintro e w1 ⟨rfl, rfl⟩)
          | (go_at_call 104; (with_reducible show Calls _ _ #[.slice (some ⟨bb, oo + 4, none⟩) 2 _] _ _); refine (HG2.out _ hW).mono ?_; rintro e w1 ⟨rfl, rfl⟩))
          obtain ⟨wg, hwg⟩ : ∃ q, q = (wr.alloc (.cells #[.int .i64 x.kind, .int .u64 (x.life.toNat : Int), .int .i64 x.seq, .int .u64 (x.gen.toNat : Int), .slice (some ⟨bb, oo, none⟩) x.body.length ci] 49)).setCell ⟨w.heap.size, 1, none⟩ (.int .u64 (x.gen.toNat : Int)) := ⟨_, rfl⟩
          have hAg : RfAt wg (w.heap.size + 1) w.heap.size { r with gen := x.gen } (.slice Ao trs.length co) (.slice An prs.length cn) trs prs := by
            rw [hwg]
            exact (HA.out.on hW).move (fun j hj _ => Below.heap_setCell _ ⟨w.heap.size, 1, none⟩ _ j (fun e => hj (by simpa using e))) (by simp [World.setCell]) { r with gen := x.gen } ((HA.out.on hW).blk.set (k := 1) _) rfl rfl
          have belg : Below w.heap.size w wg := by rw [hwg]; exact bset bel1 (Nat.le_refl _) _
          have hXg := HX.out.other (.int .u64 (x.gen.toNat : Int)) (k := 1) (b := w.heap.size) (fun e => by have := HA.out.blk.lt; omega)
          have hPg := Lib.hid (HPf.out (wr.alloc (.cells #[.int .i64 x.kind, .int .u64 (x.life.toNat : Int), .int .i64 x.seq, .int .u64 (x.gen.toNat : Int), .slice (some ⟨bb, oo, none⟩) x.body.length ci] 49)) hW |>.keep (w' := wg) (fun j hj _ => by rw [hwg]; exact Below.heap_setCell _ ⟨w.heap.size, 1, none⟩ _ j (fun e => by simp at e; omega)) (by rw [hwg]; simp [World.setCell]))
          rw [← hwg] at hXg ⊢
          obtain ⟨p0, p1, p2, p3, p4⟩ := five5q hXg
          obtain ⟨q0, q1⟩ := two2q hAg.blk
          have lXg := hXg.lt
          have lTg := hAg.blk.lt
          have HAg := Lib.hid hAg
          have Hbg := Lib.hid belg
          obtain ⟨i0, hi0, hz0, hz1, hz2⟩ := info_parts infoPg2
          have hnb : some w.heap.size ≠ (Value.slice An prs.length cn).ownBlock := fun e => by have := (hAg.now.lt _ e.symm).1; omega
          obtain ⟨tb, htb⟩ := hAg.blk
          clear x0 x1 x2 x3 x4 y0 y1 f0 f1 hAg belg hXg hwg
          go_region_law ((refine Disk.step_append_rd _ (by rfl) _ _ _ (by rfl) (w.heap.size + 1) 157 i0 _ 2 32 Try.underlying102 hi0 hz0 hz1 hz2 rfl (by omega) (.slice An prs.length cn) prs.length (prs.flatMap Pr.cells) (by rfl) ?_ _ 1 1 [.int .i64 (m : Int), .slice (if ci = 6 then some ⟨bb, oo, none⟩ else some ⟨bb, oo + 6, none⟩) (x.body.length - 6) (ci - 6)] (by rfl) (by rfl) ?_ (by simp [Value.oneCell']) Hb1.out.2.1 Hb1.out.2.2.2 (Nat.le_trans HAg.out.lN (b1alloc wg _).size) ?_); (· exact HAg.out.now.alloc _); (· exact Rd.lit _ _ _ _ _ rfl (by simp)); intro v3 w3 own3 hg3 hat3; have e3 := (hg3.block w.heap.size (Nat.lt_of_lt_of_le lTg (b1alloc wg _).size) hnb).trans ((Below.heap_alloc _ _ w.heap.size lTg).trans htb); obtain ⟨d0, d1⟩ := two2q ⟨_, e3⟩; have d8 := Blk.free (⟨_, e3⟩ : Blk w3 w.heap.size _) 0; obtain ⟨A3, c3, rfl⟩ := own_form own3)
          all_goals
            have fin := Lib.hid (HAg.out.data _ hPg.out (alloc_drew2 wg _) hg3 (by simpa [Pr.cells] using own3) hat3)
            have hfb := Lib.hid (show Below w.heap.size w (w3.setCell ⟨w.heap.size, 0, none⟩ (.slice A3 (prs.length + 1) c3)) from bt' Hbg.out fin.out.2)
            clear own3 hat3 hg3
            go_wp2
            all_goals (refine ⟨⟨k + 1, by omega, by go_num, hfb.out, { r with gen := x.gen, now := r.now ++ [⟨(m : Int), x.body.drop 6⟩] }, _, trs, prs ++ [_], rfl, fin.out.1, by rw [List.length_append, List.length_singleton]; omega, Nat.le_succ_of_le hfrm, Lib.hid (by rw [Hm2.out]; exact hnx.out)⟩, by simp only [intOf]; omega⟩)
        · have hte : takeF np r k x = ({ r with gen := x.gen }, false) := by rw [HT2.out, if_neg (fun h => hmn h.2), if_neg (fun h => k5 h.1)]
          have hfin := Lib.hid (show R = r.all by rw [HS2.out, hte]; rfl)
          have s5 := beq_no k5
          have smn := decide_eq_false hmn
          clear k4 k5 hte
          go_wp2_with (first
          | (go_at_call 104; (with_reducible show Calls _ _ #[.slice (some ⟨bb, oo, none⟩) 4 _] _ _); refine (HG1.out _ hW).mono ?_; rintro e w1 ⟨rfl, rfl⟩)
          | (go_at_call 104; (with_reducible show Calls _ _ #[.slice (some ⟨bb, oo + 4, none⟩) 2 _] _ _); refine (HG2.out _ hW).mono ?_; rintro e w1 ⟨rfl, rfl⟩))
          go_ret
          exact rf_fin (HA.out.on hW) hfin.out bel1
      · have s4 := beq_no k4
        by_cases k5 : x.kind = 5
        rotate_left
        · have hte : takeF np r k x = ({ r with gen := x.gen }, false) := by rw [HT2.out, if_neg (fun h => k4 h.1), if_neg (fun h => k5 h.1)]
          have hfin := Lib.hid (show R = r.all by rw [HS2.out, hte]; rfl)
          have s5 := beq_no k5
          clear k4 k5 hte
          go_wp2_with (first
          | (go_at_call 104; (with_reducible show Calls _ _ #[.slice (some ⟨bb, oo, none⟩) 4 _] _ _); refine (HG1.out _ hW).mono ?_; rintro e w1 ⟨rfl, rfl⟩)
          | (go_at_call 104; (with_reducible show Calls _ _ #[.slice (some ⟨bb, oo + 4, none⟩) 2 _] _ _); refine (HG2.out _ hW).mono ?_; rintro e w1 ⟨rfl, rfl⟩))
          go_ret
          exact rf_fin (HA.out.on hW) hfin.out bel1
        have s5 := beq_yes k5
        by_cases em : m = prs.length
        rotate_left
        · have hte : takeF np r k x = ({ r with gen := x.gen }, false) := by rw [HT2.out, if_neg (fun h => k4 h.1), if_neg (fun h => em h.2.1)]
          have hfin := Lib.hid (show R = r.all by rw [HS2.out, hte]; rfl)
          have s6 := beq_no (show (m : Int) ≠ (prs.length : Int) by omega)
          clear k4 k5 em hte
          go_wp2_with (first
          | (go_at_call 104; (with_reducible show Calls _ _ #[.slice (some ⟨bb, oo, none⟩) 4 _] _ _); refine (HG1.out _ hW).mono ?_; rintro e w1 ⟨rfl, rfl⟩)
          | (go_at_call 104; (with_reducible show Calls _ _ #[.slice (some ⟨bb, oo + 4, none⟩) 2 _] _ _); refine (HG2.out _ hW).mono ?_; rintro e w1 ⟨rfl, rfl⟩))
          go_ret
          exact rf_fin (HA.out.on hW) hfin.out bel1
        have s6 := beq_yes (show (m : Int) = (prs.length : Int) by omega)
        by_cases el : x.body.length = 6
        rotate_left
        · have hte : takeF np r k x = ({ r with gen := x.gen }, false) := by rw [HT2.out, if_neg (fun h => k4 h.1), if_neg (fun h => el h.2.2)]
          have hfin := Lib.hid (show R = r.all by rw [HS2.out, hte]; rfl)
          have s7 := beq_no (show (x.body.length : Int) ≠ 6 by omega)
          clear k4 k5 em el hte
          go_wp2_with (first
          | (go_at_call 104; (with_reducible show Calls _ _ #[.slice (some ⟨bb, oo, none⟩) 4 _] _ _); refine (HG1.out _ hW).mono ?_; rintro e w1 ⟨rfl, rfl⟩)
          | (go_at_call 104; (with_reducible show Calls _ _ #[.slice (some ⟨bb, oo + 4, none⟩) 2 _] _ _); refine (HG2.out _ hW).mono ?_; rintro e w1 ⟨rfl, rfl⟩))
          go_ret
          exact rf_fin (HA.out.on hW) hfin.out bel1
        have s7 := beq_yes (show (x.body.length : Int) = 6 by omega)
        have hte : takeF np r k x = (⟨r.all ++ [⟨r.now, x.gen⟩], [], 0, k + 1⟩, true) := by rw [HT2.out, if_neg (fun h => k4 h.1), if_pos ⟨k5, em, el⟩]
        have hnx := Lib.hid (show R = (scanH np rd good m1 (k + 1) ⟨r.all ++ [⟨r.now, x.gen⟩], [], 0, k + 1⟩).all by rw [HS2.out, hte]; rfl)
        have Hlx := Lib.hid (show prs.length ≤ 65535 by omega)
        clear k4 k5 em el hte
        go_upto_region 16 with (first
          | (go_at_call 104; (with_reducible show Calls _ _ #[.slice (some ⟨bb, oo, none⟩) 4 _] _ _); refine (HG1.out _ hW).mono ?_; rintro e w1 ⟨rfl, rfl⟩)
          | (go_at_call 104; (with_reducible show Calls _ _ #[.slice (some ⟨bb, oo + 4, none⟩) 2 _] _ _); refine (HG2.out _ hW).mono ?_; rintro e w1 ⟨rfl, rfl⟩))
        obtain ⟨wg, hwg⟩ : ∃ q, q = (wr.alloc (.cells #[.int .i64 x.kind, .int .u64 (x.life.toNat : Int), .int .i64 x.seq, .int .u64 (x.gen.toNat : Int), .slice (some ⟨bb, oo, none⟩) x.body.length ci] 49)).setCell ⟨w.heap.size, 1, none⟩ (.int .u64 (x.gen.toNat : Int)) := ⟨_, rfl⟩
        have hAg : RfAt wg (w.heap.size + 1) w.heap.size { r with gen := x.gen } (.slice Ao trs.length co) (.slice An prs.length cn) trs prs := by
          rw [hwg]
          exact (HA.out.on hW).move (fun j hj _ => Below.heap_setCell _ ⟨w.heap.size, 1, none⟩ _ j (fun e => hj (by simpa using e))) (by simp [World.setCell]) { r with gen := x.gen } ((HA.out.on hW).blk.set (k := 1) _) rfl rfl
        have belg : Below w.heap.size w wg := by rw [hwg]; exact bset bel1 (Nat.le_refl _) _
        rw [← hwg]
        obtain ⟨q0, q1⟩ := two2q hAg.blk
        have lTg := hAg.blk.lt
        have HAg := Lib.hid hAg
        have Hbg := Lib.hid belg
        obtain ⟨i0, hi0, hz0, hz1, hz2⟩ := info_parts infoRT
        have hnb : some w.heap.size ≠ (Value.slice Ao trs.length co).ownBlock := fun e => by have := (hAg.all.lt _ e.symm).1; omega
        obtain ⟨tb, htb⟩ := hAg.blk
        clear x0 x1 x2 x3 x4 y0 y1 f0 f1 hAg belg hwg
        go_wp2_with (at_builtin; refine wpList_append_rd _ rfl _ _ _ rfl (w.heap.size + 1) 104 i0 _ 2 32 Try.underlying92 hi0 hz0 hz1 hz2 rfl (by omega) _ trs.length (trs.flatMap Tr.cells) rfl (HAg.out.all.alloc _) (wg.heap.size + 1) (some ⟨wg.heap.size, 0, none⟩) 1 1 [.slice An prs.length cn, .int .u64 (x.gen.toNat : Int)] rfl rfl (Rd.lit wg _ _ _ _ rfl (Nat.lt_succ_self _)) (by simp [Value.oneCell']) Hb1.out.1 Hb1.out.2.2.1 (Nat.le_trans HAg.out.lN (b1alloc wg _).size) ?_; intro v3 w3 own3 hg3 hat3; have e3 := (hg3.block w.heap.size (Nat.lt_of_lt_of_le lTg (b1alloc wg _).size) hnb).trans ((Below.heap_alloc _ _ w.heap.size lTg).trans htb); obtain ⟨d0, d1⟩ := two2q ⟨_, e3⟩; have d8 := Blk.free (⟨_, e3⟩ : Blk w3 w.heap.size _); have d80 := d8 0; have d81 := d8 1)
        have fin := Lib.hid (HAg.out.commit (b1alloc wg _) hg3 own3 (k + 1))
        have hfb := Lib.hid (bt' Hbg.out fin.out.2)
        refine ⟨⟨k + 1, by omega, by go_num, hfb.out, _, _, _, [], by go_num, fin.out.1, by simp; omega, by simp only; omega, Lib.hid (by rw [Hm2.out]; exact hnx.out)⟩, by simp only [intOf]; omega⟩
    · have t6 := decide_eq_false e6
      have HNN := Lib.hid (show ¬ (r.now ≠ [] ∧ x.gen ≠ r.gen) from fun h => e6 (Hnow.out.1 h.1))
      clear e6
      have HT2 := Lib.hid (show takeF np r k x = if x.kind = 4 ∧ (m : Int) < np then ({ r with gen := x.gen, now := r.now ++ [⟨(m : Int), x.body.drop 6⟩] }, true)
          else if x.kind = 5 ∧ m = prs.length ∧ x.body.length = 6 then (⟨r.all ++ [⟨r.now, x.gen⟩], [], 0, k + 1⟩, true)
          else ({ r with gen := x.gen }, false) by rw [HT.out, if_neg HNN.out, if_neg (fun h => h HE5.out)])
      by_cases k4 : x.kind = 4
      · have s4 := beq_yes k4
        have k5 : ¬ x.kind = 5 := by omega
        by_cases hmn : (m : Int) < np
        · have hte : takeF np r k x = ({ r with gen := x.gen, now := r.now ++ [⟨(m : Int), x.body.drop 6⟩] }, true) := by rw [HT2.out, if_pos ⟨k4, hmn⟩]
          have hnx := Lib.hid (show R = (scanH np rd good m1 (k + 1) { r with gen := x.gen, now := r.now ++ [⟨(m : Int), x.body.drop 6⟩] }).all by rw [HS2.out, hte]; rfl)
          have smn := decide_eq_true hmn
          clear k4 k5 hte
          go_upto_region 13 with (first
          | (go_at_call 104; (with_reducible show Calls _ _ #[.slice (some ⟨bb, oo, none⟩) 4 _] _ _); refine (HG1.out _ hW).mono ?_; rintro e w1 ⟨rfl, rfl⟩)
          | (go_at_call 104; (with_reducible show Calls _ _ #[.slice (some ⟨bb, oo + 4, none⟩) 2 _] _ _); refine (HG2.out _ hW).mono ?_; rintro e w1 ⟨rfl, rfl⟩))
          obtain ⟨wg, hwg⟩ : ∃ q, q = (wr.alloc (.cells #[.int .i64 x.kind, .int .u64 (x.life.toNat : Int), .int .i64 x.seq, .int .u64 (x.gen.toNat : Int), .slice (some ⟨bb, oo, none⟩) x.body.length ci] 49)).setCell ⟨w.heap.size, 1, none⟩ (.int .u64 (x.gen.toNat : Int)) := ⟨_, rfl⟩
          have hAg : RfAt wg (w.heap.size + 1) w.heap.size { r with gen := x.gen } (.slice Ao trs.length co) (.slice An prs.length cn) trs prs := by
            rw [hwg]
            exact (HA.out.on hW).move (fun j hj _ => Below.heap_setCell _ ⟨w.heap.size, 1, none⟩ _ j (fun e => hj (by simpa using e))) (by simp [World.setCell]) { r with gen := x.gen } ((HA.out.on hW).blk.set (k := 1) _) rfl rfl
          have belg : Below w.heap.size w wg := by rw [hwg]; exact bset bel1 (Nat.le_refl _) _
          have hXg := HX.out.other (.int .u64 (x.gen.toNat : Int)) (k := 1) (b := w.heap.size) (fun e => by have := HA.out.blk.lt; omega)
          have hPg := Lib.hid (HPf.out (wr.alloc (.cells #[.int .i64 x.kind, .int .u64 (x.life.toNat : Int), .int .i64 x.seq, .int .u64 (x.gen.toNat : Int), .slice (some ⟨bb, oo, none⟩) x.body.length ci] 49)) hW |>.keep (w' := wg) (fun j hj _ => by rw [hwg]; exact Below.heap_setCell _ ⟨w.heap.size, 1, none⟩ _ j (fun e => by simp at e; omega)) (by rw [hwg]; simp [World.setCell]))
          rw [← hwg] at hXg ⊢
          obtain ⟨p0, p1, p2, p3, p4⟩ := five5q hXg
          obtain ⟨q0, q1⟩ := two2q hAg.blk
          have lXg := hXg.lt
          have lTg := hAg.blk.lt
          have HAg := Lib.hid hAg
          have Hbg := Lib.hid belg
          obtain ⟨i0, hi0, hz0, hz1, hz2⟩ := info_parts infoPg2
          have hnb : some w.heap.size ≠ (Value.slice An prs.length cn).ownBlock := fun e => by have := (hAg.now.lt _ e.symm).1; omega
          obtain ⟨tb, htb⟩ := hAg.blk
          clear x0 x1 x2 x3 x4 y0 y1 f0 f1 hAg belg hXg hwg
          go_region_law ((refine Disk.step_append_rd _ (by rfl) _ _ _ (by rfl) (w.heap.size + 1) 157 i0 _ 2 32 Try.underlying102 hi0 hz0 hz1 hz2 rfl (by omega) (.slice An prs.length cn) prs.length (prs.flatMap Pr.cells) (by rfl) ?_ _ 1 1 [.int .i64 (m : Int), .slice (if ci = 6 then some ⟨bb, oo, none⟩ else some ⟨bb, oo + 6, none⟩) (x.body.length - 6) (ci - 6)] (by rfl) (by rfl) ?_ (by simp [Value.oneCell']) Hb1.out.2.1 Hb1.out.2.2.2 (Nat.le_trans HAg.out.lN (b1alloc wg _).size) ?_); (· exact HAg.out.now.alloc _); (· exact Rd.lit _ _ _ _ _ rfl (by simp)); intro v3 w3 own3 hg3 hat3; have e3 := (hg3.block w.heap.size (Nat.lt_of_lt_of_le lTg (b1alloc wg _).size) hnb).trans ((Below.heap_alloc _ _ w.heap.size lTg).trans htb); obtain ⟨d0, d1⟩ := two2q ⟨_, e3⟩; have d8 := Blk.free (⟨_, e3⟩ : Blk w3 w.heap.size _) 0; obtain ⟨A3, c3, rfl⟩ := own_form own3)
          all_goals
            have fin := Lib.hid (HAg.out.data _ hPg.out (alloc_drew2 wg _) hg3 (by simpa [Pr.cells] using own3) hat3)
            have hfb := Lib.hid (show Below w.heap.size w (w3.setCell ⟨w.heap.size, 0, none⟩ (.slice A3 (prs.length + 1) c3)) from bt' Hbg.out fin.out.2)
            clear own3 hat3 hg3
            go_wp2
            all_goals (refine ⟨⟨k + 1, by omega, by go_num, hfb.out, { r with gen := x.gen, now := r.now ++ [⟨(m : Int), x.body.drop 6⟩] }, _, trs, prs ++ [_], rfl, fin.out.1, by rw [List.length_append, List.length_singleton]; omega, Nat.le_succ_of_le hfrm, Lib.hid (by rw [Hm2.out]; exact hnx.out)⟩, by simp only [intOf]; omega⟩)
        · have hte : takeF np r k x = ({ r with gen := x.gen }, false) := by rw [HT2.out, if_neg (fun h => hmn h.2), if_neg (fun h => k5 h.1)]
          have hfin := Lib.hid (show R = r.all by rw [HS2.out, hte]; rfl)
          have s5 := beq_no k5
          have smn := decide_eq_false hmn
          clear k4 k5 hte
          go_wp2_with (first
          | (go_at_call 104; (with_reducible show Calls _ _ #[.slice (some ⟨bb, oo, none⟩) 4 _] _ _); refine (HG1.out _ hW).mono ?_; rintro e w1 ⟨rfl, rfl⟩)
          | (go_at_call 104; (with_reducible show Calls _ _ #[.slice (some ⟨bb, oo + 4, none⟩) 2 _] _ _); refine (HG2.out _ hW).mono ?_; rintro e w1 ⟨rfl, rfl⟩))
          go_ret
          exact rf_fin (HA.out.on hW) hfin.out bel1
      · have s4 := beq_no k4
        by_cases k5 : x.kind = 5
        rotate_left
        · have hte : takeF np r k x = ({ r with gen := x.gen }, false) := by rw [HT2.out, if_neg (fun h => k4 h.1), if_neg (fun h => k5 h.1)]
          have hfin := Lib.hid (show R = r.all by rw [HS2.out, hte]; rfl)
          have s5 := beq_no k5
          clear k4 k5 hte
          go_wp2_with (first
          | (go_at_call 104; (with_reducible show Calls _ _ #[.slice (some ⟨bb, oo, none⟩) 4 _] _ _); refine (HG1.out _ hW).mono ?_; rintro e w1 ⟨rfl, rfl⟩)
          | (go_at_call 104; (with_reducible show Calls _ _ #[.slice (some ⟨bb, oo + 4, none⟩) 2 _] _ _); refine (HG2.out _ hW).mono ?_; rintro e w1 ⟨rfl, rfl⟩))
          go_ret
          exact rf_fin (HA.out.on hW) hfin.out bel1
        have s5 := beq_yes k5
        by_cases em : m = prs.length
        rotate_left
        · have hte : takeF np r k x = ({ r with gen := x.gen }, false) := by rw [HT2.out, if_neg (fun h => k4 h.1), if_neg (fun h => em h.2.1)]
          have hfin := Lib.hid (show R = r.all by rw [HS2.out, hte]; rfl)
          have s6 := beq_no (show (m : Int) ≠ (prs.length : Int) by omega)
          clear k4 k5 em hte
          go_wp2_with (first
          | (go_at_call 104; (with_reducible show Calls _ _ #[.slice (some ⟨bb, oo, none⟩) 4 _] _ _); refine (HG1.out _ hW).mono ?_; rintro e w1 ⟨rfl, rfl⟩)
          | (go_at_call 104; (with_reducible show Calls _ _ #[.slice (some ⟨bb, oo + 4, none⟩) 2 _] _ _); refine (HG2.out _ hW).mono ?_; rintro e w1 ⟨rfl, rfl⟩))
          go_ret
          exact rf_fin (HA.out.on hW) hfin.out bel1
        have s6 := beq_yes (show (m : Int) = (prs.length : Int) by omega)
        by_cases el : x.body.length = 6
        rotate_left
        · have hte : takeF np r k x = ({ r with gen := x.gen }, false) := by rw [HT2.out, if_neg (fun h => k4 h.1), if_neg (fun h => el h.2.2)]
          have hfin := Lib.hid (show R = r.all by rw [HS2.out, hte]; rfl)
          have s7 := beq_no (show (x.body.length : Int) ≠ 6 by omega)
          clear k4 k5 em el hte
          go_wp2_with (first
          | (go_at_call 104; (with_reducible show Calls _ _ #[.slice (some ⟨bb, oo, none⟩) 4 _] _ _); refine (HG1.out _ hW).mono ?_; rintro e w1 ⟨rfl, rfl⟩)
          | (go_at_call 104; (with_reducible show Calls _ _ #[.slice (some ⟨bb, oo + 4, none⟩) 2 _] _ _); refine (HG2.out _ hW).mono ?_; rintro e w1 ⟨rfl, rfl⟩))
          go_ret
          exact rf_fin (HA.out.on hW) hfin.out bel1
        have s7 := beq_yes (show (x.body.length : Int) = 6 by omega)
        have hte : takeF np r k x = (⟨r.all ++ [⟨r.now, x.gen⟩], [], 0, k + 1⟩, true) := by rw [HT2.out, if_neg (fun h => k4 h.1), if_pos ⟨k5, em, el⟩]
        have hnx := Lib.hid (show R = (scanH np rd good m1 (k + 1) ⟨r.all ++ [⟨r.now, x.gen⟩], [], 0, k + 1⟩).all by rw [HS2.out, hte]; rfl)
        have Hlx := Lib.hid (show prs.length ≤ 65535 by omega)
        clear k4 k5 em el hte
        go_upto_region 16 with (first
          | (go_at_call 104; (with_reducible show Calls _ _ #[.slice (some ⟨bb, oo, none⟩) 4 _] _ _); refine (HG1.out _ hW).mono ?_; rintro e w1 ⟨rfl, rfl⟩)
          | (go_at_call 104; (with_reducible show Calls _ _ #[.slice (some ⟨bb, oo + 4, none⟩) 2 _] _ _); refine (HG2.out _ hW).mono ?_; rintro e w1 ⟨rfl, rfl⟩))
        obtain ⟨wg, hwg⟩ : ∃ q, q = (wr.alloc (.cells #[.int .i64 x.kind, .int .u64 (x.life.toNat : Int), .int .i64 x.seq, .int .u64 (x.gen.toNat : Int), .slice (some ⟨bb, oo, none⟩) x.body.length ci] 49)).setCell ⟨w.heap.size, 1, none⟩ (.int .u64 (x.gen.toNat : Int)) := ⟨_, rfl⟩
        have hAg : RfAt wg (w.heap.size + 1) w.heap.size { r with gen := x.gen } (.slice Ao trs.length co) (.slice An prs.length cn) trs prs := by
          rw [hwg]
          exact (HA.out.on hW).move (fun j hj _ => Below.heap_setCell _ ⟨w.heap.size, 1, none⟩ _ j (fun e => hj (by simpa using e))) (by simp [World.setCell]) { r with gen := x.gen } ((HA.out.on hW).blk.set (k := 1) _) rfl rfl
        have belg : Below w.heap.size w wg := by rw [hwg]; exact bset bel1 (Nat.le_refl _) _
        rw [← hwg]
        obtain ⟨q0, q1⟩ := two2q hAg.blk
        have lTg := hAg.blk.lt
        have HAg := Lib.hid hAg
        have Hbg := Lib.hid belg
        obtain ⟨i0, hi0, hz0, hz1, hz2⟩ := info_parts infoRT
        have hnb : some w.heap.size ≠ (Value.slice Ao trs.length co).ownBlock := fun e => by have := (hAg.all.lt _ e.symm).1; omega
        obtain ⟨tb, htb⟩ := hAg.blk
        clear x0 x1 x2 x3 x4 y0 y1 f0 f1 hAg belg hwg
        go_wp2_with (at_builtin; refine wpList_append_rd _ rfl _ _ _ rfl (w.heap.size + 1) 104 i0 _ 2 32 Try.underlying92 hi0 hz0 hz1 hz2 rfl (by omega) _ trs.length (trs.flatMap Tr.cells) rfl (HAg.out.all.alloc _) (wg.heap.size + 1) (some ⟨wg.heap.size, 0, none⟩) 1 1 [.slice An prs.length cn, .int .u64 (x.gen.toNat : Int)] rfl rfl (Rd.lit wg _ _ _ _ rfl (Nat.lt_succ_self _)) (by simp [Value.oneCell']) Hb1.out.1 Hb1.out.2.2.1 (Nat.le_trans HAg.out.lN (b1alloc wg _).size) ?_; intro v3 w3 own3 hg3 hat3; have e3 := (hg3.block w.heap.size (Nat.lt_of_lt_of_le lTg (b1alloc wg _).size) hnb).trans ((Below.heap_alloc _ _ w.heap.size lTg).trans htb); obtain ⟨d0, d1⟩ := two2q ⟨_, e3⟩; have d8 := Blk.free (⟨_, e3⟩ : Blk w3 w.heap.size _); have d80 := d8 0; have d81 := d8 1)
        have fin := Lib.hid (HAg.out.commit (b1alloc wg _) hg3 own3 (k + 1))
        have hfb := Lib.hid (bt' Hbg.out fin.out.2)
        refine ⟨⟨k + 1, by omega, by go_num, hfb.out, _, _, _, [], by go_num, fin.out.1, by simp; omega, by simp only; omega, Lib.hid (by rw [Hm2.out]; exact hnx.out)⟩, by simp only [intOf]; omega⟩
end Go.Proofs.Ytmpmibcdpkolkaa.Wal

/- The laws of the log: why a transaction is not appended; the document's sectors of one. No statement is proved here. -/
namespace Go.Proofs.Ytmpmibcdpkolkaa.Wal
open Go.RowKit
open Go.Proofs.Ytmpmibcdpkolkaa.Geom
open Go.Proofs.Ytmpmibcdpkolkaa.Sup (Gb gv gcell gthree)
open Go.Proofs.Ytmpmibcdpkolkaa.Num (putL putL_len)
open Go.Proofs.Ytmpmibcdpkolkaa.Sec (X)
set_option linter.unusedVariables false
set_option maxRecDepth 100000
attribute [local irreducible] wpQuiet
/-- why a transaction is not appended -/
def whyF (ga gd gl : Int) (seq : Nat) (l : List Pg) : Int := if badB ga gd gl l = true then 2 else if fitsB ga gd gl l.length = false then 6 else if gl - (seq : Int) ≤ (l.length : Int) then 5 else 0
set_option maxHeartbeats 1000000 in
theorem why_any (Q : Nat → Prop) (A : Option Addr) (t : Tx) (c : Nat) (ga gd gl : Int) (seq : Nat) (w : World) (hG : Gb ga gd gl) (hr : Pgs w Q A t.pages) (hl : t.pages.length ≤ 1000000) (hs : seq ≤ 100000) (hg0 : 0 ≤ gl) (hg1 : gl ≤ 100000) :
    Calls Try.prog 58 #[gv ga gd gl, .agg #[.slice A t.pages.length c, .int .u64 (t.gen.toNat : Int)], .int .i64 (seq : Int)] w fun e w' => e = .returned (.int .i64 (whyF ga gd gl seq t.pages)) ∧ Below w.heap.size w w' := by
  obtain ⟨W0, hW0⟩ : ∃ W, W = (w.alloc (.cells #[.int .i64 ga, .int .i64 gd, .int .i64 gl] 23)).alloc (.cells #[.slice A t.pages.length c, .int .u64 (t.gen.toNat : Int)] 104) := ⟨_, rfl⟩
  have hB1 : Blk W0 w.heap.size (gcell ga gd gl) := by rw [hW0]; exact (Blk.new w (gcell ga gd gl) 23).alloc _
  have hB2 : Blk W0 (w.heap.size + 1) [.slice A t.pages.length c, .int .u64 (t.gen.toNat : Int)] := by
    rw [hW0]
    have := Blk.new (w.alloc (.cells #[.int .i64 ga, .int .i64 gd, .int .i64 gl] 23)) [.slice A t.pages.length c, .int .u64 (t.gen.toNat : Int)] 104
    simpa using this
  have b0 : Below w.heap.size w W0 := by rw [hW0]; exact b2alloc _ _ _
  have HB1 := Lib.hid hB1
  have HB2 := Lib.hid hB2
  have HP := Lib.hid (fun W (b : Below w.heap.size w W) => rpagesOk_any Q A t.pages c ga gd gl W hG (hr.on b) hl)
  have HF := Lib.hid (fun W => rfits_any ga gd gl t.pages.length W hG)
  have hW : whyF ga gd gl seq t.pages = if badB ga gd gl t.pages = true then 2 else if fitsB ga gd gl t.pages.length = false then 6 else if gl - (seq : Int) ≤ (t.pages.length : Int) then 5 else 0 := rfl
  obtain ⟨F, hF⟩ : ∃ F, F = whyF ga gd gl seq t.pages := ⟨_, rfl⟩
  rw [← hF] at hW ⊢
  obtain ⟨n, hn⟩ : ∃ n, n = t.pages.length := ⟨_, rfl⟩
  rw [← hn] at HP HF hW hW0 HB2 ⊢
  have hl' : n ≤ 1000000 := by omega
  have hw1 : IntKind.i64.wrap ((n : Int) + 1) = (n : Int) + 1 := wrap_small (by omega) (by omega)
  have hw2 : IntKind.i64.wrap (gl - (seq : Int)) = gl - seq := wrap_small (by omega) (by omega)
  obtain ⟨x0, x1, x2⟩ := gthree HB1.out
  obtain ⟨y0, y1⟩ := two2q HB2.out
  have HW0 := Lib.hid hW0
  clear hF hn hB1 hB2 hr hl
  cases hb : badB ga gd gl t.pages with
  | true =>
    rw [hb] at HP hW
    rw [if_pos rfl] at hW
    subst hW
    clear hb
    rw [hW0] at x0 x1 x2 y0 y1
    go_enter Try.func58, Try.ntmps58
    go_wp2_with (first
      | (go_at_call 105; refine (HP.out _ (by rw [← HW0.out]; exact b0)).mono ?_; rintro e w1 ⟨rfl, b1⟩; rw [← HW0.out] at b1))
    go_ret
    exact ⟨rfl, bt b0 b1⟩
  | false =>
    rw [hb] at HP hW
    rw [if_neg (by simp)] at hW
    clear hb
    cases hf : fitsB ga gd gl n with
    | false =>
      rw [hf] at HF hW
      rw [if_pos rfl] at hW
      subst hW
      clear hf
      rw [hW0] at x0 x1 x2 y0 y1
      go_enter Try.func58, Try.ntmps58
      go_wp2_with (first
        | (go_at_call 105; refine (HP.out _ (by rw [← HW0.out]; exact b0)).mono ?_; rintro e w1 ⟨rfl, b1⟩; rw [← HW0.out] at b1; obtain ⟨u0, u1, u2⟩ := gthree (HB1.out.on b1); obtain ⟨v0, v1⟩ := two2q (HB2.out.on b1))
        | (go_at_call 57; refine (HF.out _).mono ?_; rintro e w2 ⟨rfl, b2⟩))
      go_ret
      exact ⟨rfl, bt b0 (bt b1 b2)⟩
    | true =>
      rw [hf] at HF hW
      rw [if_neg (by simp)] at hW
      clear hf
      by_cases hn : gl - (seq : Int) ≤ (n : Int)
      · rw [if_pos hn] at hW
        subst hW
        have t1 : gl - (seq : Int) < (n : Int) + 1 := by omega
        rw [hW0] at x0 x1 x2 y0 y1
        clear hn
        go_enter Try.func58, Try.ntmps58
        go_wp2_with (first
          | (go_at_call 105; refine (HP.out _ (by rw [← HW0.out]; exact b0)).mono ?_; rintro e w1 ⟨rfl, b1⟩; rw [← HW0.out] at b1; obtain ⟨u0, u1, u2⟩ := gthree (HB1.out.on b1); obtain ⟨v0, v1⟩ := two2q (HB2.out.on b1))
          | (go_at_call 57; refine (HF.out _).mono ?_; rintro e w2 ⟨rfl, b2⟩; obtain ⟨p0, p1, p2⟩ := gthree ((HB1.out.on b1).on b2); obtain ⟨q0, q1⟩ := two2q ((HB2.out.on b1).on b2)))
        go_ret
        exact ⟨rfl, bt b0 (bt b1 b2)⟩
      · rw [if_neg hn] at hW
        subst hW
        have t1 : ¬ gl - (seq : Int) < (n : Int) + 1 := by omega
        rw [hW0] at x0 x1 x2 y0 y1
        clear hn
        go_enter Try.func58, Try.ntmps58
        go_wp2_with (first
          | (go_at_call 105; refine (HP.out _ (by rw [← HW0.out]; exact b0)).mono ?_; rintro e w1 ⟨rfl, b1⟩; rw [← HW0.out] at b1; obtain ⟨u0, u1, u2⟩ := gthree (HB1.out.on b1); obtain ⟨v0, v1⟩ := two2q (HB2.out.on b1))
          | (go_at_call 57; refine (HF.out _).mono ?_; rintro e w2 ⟨rfl, b2⟩; obtain ⟨p0, p1, p2⟩ := gthree ((HB1.out.on b1).on b2); obtain ⟨q0, q1⟩ := two2q ((HB2.out.on b1).on b2)))
        go_ret
        exact ⟨rfl, bt b0 (bt b1 b2)⟩
end Go.Proofs.Ytmpmibcdpkolkaa.Wal

/- The laws of the log: the document's sectors of a transaction. No statement is proved here. -/
namespace Go.Proofs.Ytmpmibcdpkolkaa.Wal
open Go.RowKit
open Go.Proofs.Ytmpmibcdpkolkaa.Num (putL putL_len)
open Go.Proofs.Ytmpmibcdpkolkaa.Sec (X X0)
set_option linter.unusedVariables false
set_option maxRecDepth 100000
attribute [local irreducible] wpQuiet
/-- a sector of the call's own: where its bytes lie -/
structure Ec where
  A : Option Addr
  c : Nat
  x : X
def Ec.cells (e : Ec) : List Value := [.int .i64 e.x.kind, .int .u64 (e.x.life.toNat : Int), .int .i64 e.x.seq, .int .u64 (e.x.gen.toNat : Int), .slice e.A e.x.body.length e.c]
def Ec.Ok (w : World) (base : Nat) (e : Ec) : Prop := PrOk w base ⟨0, e.A, e.c, e.x.body⟩
theorem flat5c {α : Type} {f : α → List Value} (hf : ∀ x, (f x).length = 5) : ∀ (l : List α) (i : Nat) (h : i < l.length) (k : Nat), k < 5 → (l.flatMap f)[i * 5 + k]? = (f l[i])[k]?
  | [], i, h, _, _ => by cases h
  | x :: l, 0, _, k, hk => by rw [List.flatMap_cons, List.getElem?_append_left (by rw [hf]; omega)]; simp
  | x :: l, i + 1, h, k, hk => by
    rw [List.flatMap_cons, List.getElem?_append_right (by rw [hf]; omega), hf, show (i + 1) * 5 + k - 5 = i * 5 + k by omega]
    simpa using flat5c hf l i (by simpa using h) k hk
theorem own_cell5c {w : World} {base n c g : Nat} {e : TypeId} {l : List Ec} (h : w.ownsRow base e 5 (.slice (some ⟨g, 0, none⟩) n c) n (l.flatMap Ec.cells)) (i : Nat) (hi : i < l.length) (k : Nat) (hk : k < 5) : w.cell? ⟨g, i * 5 + k, none⟩ = (l[i].cells)[k]? := by
  have hl := h.1
  have h2 : ∀ l : List Ec, (l.flatMap Ec.cells).length = l.length * 5 := fun l => by
    induction l with
    | nil => rfl
    | cons x l ih => rw [List.flatMap_cons, List.length_append, ih, List.length_cons]; simp [Ec.cells]; omega
  have h3 := h2 l
  have := World.ownsRow.cellAt (j := i * 5 + k) h (by omega)
  rw [this]
  exact flat5c (fun _ => rfl) l i hi k hk
theorem ec_secs {w : World} {base : Nat} {e : TypeId} {A : Option Addr} {l : List X} {n c : Nat} {es : List Ec} (hr : w.ownsRow base e 5 (.slice A n c) n (es.flatMap Ec.cells)) (hn : n = l.length) (he : es.map Ec.x = l) (hok : ∀ e ∈ es, Ec.Ok w base e) : Secs w w.heap.size A l := by
  subst hn
  have hll : es.length = l.length := by rw [← he]; simp
  intro hne
  have hp : 0 < l.length := by cases l; exact absurd rfl hne; simp
  obtain ⟨g, c', e', hg⟩ := own_some hr (by omega)
  injection e' with e1 e2 e3
  subst e1
  obtain ⟨cs, hcs⟩ := Disk.own_blk hr
  refine ⟨g, 0, rfl, lt_of_block hcs, fun i hi => ?_⟩
  have hi' : i < es.length := by omega
  have hk := hok _ (List.getElem_mem hi')
  have c0 := own_cell5c hr i hi' 0 (by omega)
  have c1 := own_cell5c hr i hi' 1 (by omega)
  have c2 := own_cell5c hr i hi' 2 (by omega)
  have c3 := own_cell5c hr i hi' 3 (by omega)
  have c4 := own_cell5c hr i hi' 4 (by omega)
  have hx : l[i] = es[i].x := by
    have : l[i]? = (es.map Ec.x)[i]? := by rw [he]
    rw [List.getElem?_map, List.getElem?_eq_getElem hi, List.getElem?_eq_getElem hi'] at this
    simpa using this
  refine ⟨es[i].A, es[i].c, ?_⟩
  rw [Nat.zero_add, hx]
  exact ⟨by simpa [Ec.cells] using c0, by simpa [Ec.cells] using c1, by simpa [Ec.cells] using c2, by simpa [Ec.cells] using c3, by simpa [Ec.cells] using c4, (PrOk.rdQ hk).rd, hk.cap, hk.max⟩
theorem infoS5c : (Try.prog.info? 49).map (fun i => (i.zero, i.size, i.bytes)) = some (some (.agg #[.int .i64 0, .int .u64 0, .int .i64 0, .int .u64 0, .slice none 0 0]), 5, 56) := by kernel_rfl
theorem ec_made {w : World} {base : Nat} {A : Option Addr} {c : Nat} {x : X} {n : Nat} (h : w.ownsRow base 5 1 (.slice A n c) n (x.body.map e8)) (hn : n = x.body.length) (hp : 0 < x.body.length) (hl : x.body.length ≤ 1000) : Ec.Ok w base ⟨A, c, x⟩ := by
  subst hn
  obtain ⟨g, c', e, hg⟩ := own_some h (by omega)
  injection e with e1 e2 e3
  subst e1 e3
  have := PrOk.tail (m := 0) (k := 0) (off := 0) h (.inl rfl) hl (by decide) (by decide)
  simpa [Ec.Ok] using this
theorem ofNat_toNat {n : Nat} (h : n ≤ 1000000) : (UInt64.ofNat n).toNat = n := by
  rw [UInt64.toNat_ofNat']; exact Nat.mod_eq_of_lt (by omega)
theorem wrap_u64n {n : Nat} (h : n ≤ 1000000) : IntKind.u64.wrap (n : Int) = (n : Int) := by
  simp [IntKind.wrap, IntKind.bits]; omega
set_option maxHeartbeats 2000000 in
theorem rsectors_any (Q : Nat → Prop) (A : Option Addr) (t : Tx) (c : Nat) (life : UInt64) (q : Nat) (w : World) (hr : Pgs w Q A t.pages) (hl : t.pages.length ≤ 1000) (hq : q ≤ 100000) (hx : ∀ x ∈ t.pages, 0 ≤ x.n ∧ x.n ≤ 1000 ∧ x.body.length ≤ 900) :
    Calls Try.prog 60 #[.agg #[.slice A t.pages.length c, .int .u64 (t.gen.toNat : Int)], .int .u64 (life.toNat : Int), .int .i64 (q : Int)] w fun e w' => (∃ A' c', e = .returned (.slice A' (t.pages.length + 1) c') ∧ Secs w' w'.heap.size A' (tSecs life q t)) ∧ Below w.heap.size w w' := by
  obtain ⟨i0, hi0, hz0, hz1, hz2⟩ := info_parts infoS5c
  obtain ⟨N, hN⟩ : ∃ N, N = t.pages.length := ⟨_, rfl⟩
  obtain ⟨gen, hgen⟩ : ∃ g, g = t.gen := ⟨_, rfl⟩
  have htS : tSecs life q t = dSecs life q gen 0 t.pages ++ [dX 5 life q N gen N []] := by rw [hN, hgen]; rfl
  rw [← hN, ← hgen, htS]
  have hdl := dSecs_len life q gen t.pages 0
  have hdg := fun (k : Nat) (h : k < t.pages.length) => dSecs_get life q gen t.pages 0 k (by rw [dSecs_len]; exact h) h
  have HN := Lib.hid hN
  have HR := Lib.hid hr
  have HX := Lib.hid hx
  have Hdl := Lib.hid hdl
  have Hdg := Lib.hid hdg
  have hl' : N ≤ 1000 := by omega
  have hB0 := Blk.new w [.slice A N c, .int .u64 (gen.toNat : Int)] 104
  have b0 := b1alloc w (.cells #[.slice A N c, .int .u64 (gen.toNat : Int)] 104)
  have HB0 := Lib.hid hB0
  obtain ⟨z0, z1⟩ := two2q hB0
  have hwq := wrap_u64n (n := q) (by omega)
  have hqn : ((UInt64.ofNat q).toNat : Int) = (q : Int) := by rw [ofNat_toNat (by omega)]
  have hPq := fun W => Num.rput_any (UInt64.ofNat q) (q : Int) hqn.symm 4 4 rfl (by omega) (by omega) W
  rw [ofNat_toNat (show q ≤ 1000000 by omega)] at hPq
  have HPq := Lib.hid hPq
  have h4 := Num.putL_len q 4
  have hP2 := fun (n : Nat) (hn : n ≤ 1000000) W => Num.rput_any (UInt64.ofNat n) (n : Int) (by rw [ofNat_toNat hn]) 2 2 rfl (by omega) (by omega) W
  have HP2 := Lib.hid hP2
  obtain ⟨P4, hP4⟩ : ∃ P4, P4 = putL q 4 := ⟨_, rfl⟩
  rw [← hP4] at HPq h4
  have HP4 := Lib.hid hP4
  have Hh4 := Lib.hid h4
  clear hN hr hx hB0 hl hqn hPq hP2 htS hgen hdl hdg hP4 h4
  go_enter Try.func60, Try.ntmps60
  go_wp2_with (first
    | (go_at_call 109; refine (HPq.out _).mono ?_; rintro e w1 ⟨A1, c1A, rfl, own1, b1⟩; have bel1 := bt b0 b1; have hB1 := HB0.out.on b1; clear z0 z1))
  rw [Hh4.out]
  have HBl := Lib.hid hB1.lt
  have hr1 : ∀ W, Below w1.heap.size w1 W → Rd W W.heap.size A1 (P4.map e8) := fun W bW => (Rd.own own1).on bW
  have HR1 := Lib.hid hr1
  go_loopw [7, 9, 10] (fun o i v10 wr => ∃ k : Nat, k ≤ N ∧ i = .int .i64 (k : Int) ∧ Below w.heap.size w wr ∧ Below w1.heap.size w1 wr ∧ Blk wr w.heap.size [.slice A N c, .int .u64 (gen.toNat : Int)] ∧ ∃ es : List Ec, wr.ownsRow w1.heap.size 49 5 o k (es.flatMap Ec.cells) ∧ Hid (es.map Ec.x = (dSecs life q gen 0 t.pages).take k ∧ ∀ e ∈ es, Ec.Ok wr w.heap.size e)) (fun _ i _ _ => N - (intOf i).toNat)
  case atStart => exact ⟨0, Nat.zero_le _, rfl, bel1, Below.refl _ _, hB1, [], own_nil _ _ _ _, Lib.hid ⟨by simp, fun e h => (by cases h)⟩⟩
  case round =>
    obtain ⟨k, hk, rfl, bel, bw1, hB, es, hown, hid⟩ := hrel
    clear b0 bel1 hB1
    obtain ⟨z0, z1⟩ := two2q hB
    have lB := hB.lt
    obtain ⟨Ao, co, rfl⟩ := own_form hown
    by_cases hlt : k < N
    · have hkm : (k : Int) < (N : Int) := by omega
      have hge : ¬ (N : Int) ≤ (k : Int) := by omega
      have hll : k < t.pages.length := by have := HN.out; omega
      have htk : (dSecs life q gen 0 t.pages).take (k + 1) = (dSecs life q gen 0 t.pages).take k ++ [(dSecs life q gen 0 t.pages)[k]'(by rw [Hdl.out]; exact hll)] := List.take_succ_eq_append_getElem _
      rw [Hdg.out k hll] at htk
      obtain ⟨b, off, Ai, ci, rfl, hb, hP⟩ := HR.out.get hll
      have hx := HX.out _ (List.getElem_mem hll)
      obtain ⟨⟨xn, xb⟩, hxe⟩ : ∃ x, x = t.pages[k] := ⟨_, rfl⟩
      rw [← hxe] at hP hx htk
      simp only at hx htk
      obtain ⟨n, rfl⟩ : ∃ n : Nat, xn = (n : Int) := ⟨_, (Int.toNat_of_nonneg hx.1).symm⟩
      simp only [Int.toNat_natCast, Nat.zero_add] at htk
      have hP2n := HP2.out n (by omega)
      rw [ofNat_toNat (show n ≤ 1000000 by omega)] at hP2n
      have hl2 := Num.putL_len n 2
      obtain ⟨P2, hP2⟩ : ∃ P2, P2 = putL n 2 := ⟨_, rfl⟩
      have hdX : dX 4 life q k gen n xb = ⟨4, life, ((q + k : Nat) : Int), gen, P4 ++ P2 ++ xb⟩ := by rw [HP4.out, hP2]; rfl
      rw [hdX] at htk
      rw [← hP2] at hP2n hl2
      have c0 := (bel.cell (p := ⟨b, off + k * 2, none⟩) hb).trans hP.c0
      have c1 := (bel.cell (p := ⟨b, off + k * 2 + 1, none⟩) hb).trans hP.c1
      simp only at c0 c1
      have hb1 : b < wr.heap.size := by have := bel.size; omega
      have hwn := wrap_u64n (n := n) (by omega)
      have hwqk : IntKind.i64.wrap ((q : Int) + (k : Int)) = ((q + k : Nat) : Int) := by rw [wrap_small (by omega) (by omega)]; omega
      have HP2n := Lib.hid hP2n
      have Hl2 := Lib.hid hl2
      have Hrb := Lib.hid (show ∀ W, Below w.heap.size w W → Rd W W.heap.size Ai (xb.map e8) from fun W bW => hP.rd.rd.on bW)
      have Htk := Lib.hid htk
      have HB := Lib.hid hB
      have Hlen := Lib.hid (show (P4 ++ P2).length = 6 ∧ 0 < (P4 ++ P2 ++ xb).length ∧ (P4 ++ P2 ++ xb).length ≤ 1000 from by have := Hh4.out; have := Hl2.out; simp only [List.length_append]; omega)
      have Hb1 := Lib.hid (show k + 1 ≤ maxLen ∧ (k + 1) * 56 ≤ 140737488355328 from ⟨by simp only [maxLen]; omega, by omega⟩)
      have HJ := Lib.hid (fun A2 c2 W (bW : Below w1.heap.size w1 W) (h2 : Rd W W.heap.size A2 (P2.map e8)) => R1.join_any A1 A2 P4 P2 4 P2.length c1A c2 W Hh4.out.symm rfl (HR1.out W bW) h2 (by have := Hh4.out; have := Hl2.out; omega))
      have Hlt := Lib.hid (show w.heap.size < w1.heap.size by have := HBl.out; omega)
      clear htk hP hx hxe hP2n hl2 hP2 hdX hB
      go_upto_region 7 with (first
        | (go_at_call 109; refine (HP2n.out _).mono ?_; rintro e w2 ⟨A2, c2, rfl, own2, b2⟩; clear z0 z1)
        | (go_at_call 110; refine (HJ.out _ _ _ (bt bw1 b2) (Rd.own own2)).mono ?_; rintro e w3 ⟨A3, c3, rfl, own3, b3⟩))
      have b23 := bt b2 b3
      have HB3 := Lib.hid (HB.out.on b23)
      have lB3 := HB3.out.lt
      have bel3 := bt bel b23
      have bw3 := bt bw1 b23
      have d1 := (b23.cell (p := ⟨b, off + k * 2 + 1, none⟩) hb1).trans c1
      have sz1 := bw1.size
      have sz13 := bw3.size
      have slB : w.heap.size < w1.heap.size := Hlt.out
      have hS : ∀ W', Below w1.heap.size w3 W' → (W'.cell? ⟨w.heap.size, 0, none⟩ = some (.slice (some ⟨b, off, none⟩) N c) ∧ W'.cell? ⟨w.heap.size, 1, none⟩ = some (.int .u64 (gen.toNat : Int)) ∧ W'.cell? ⟨b, off + k * 2 + 1, none⟩ = some (.slice Ai xb.length ci)) := fun W' b' =>
        ⟨(b'.cell (p := ⟨w.heap.size, 0, none⟩) slB).trans (two2q HB3.out).1, (b'.cell (p := ⟨w.heap.size, 1, none⟩) slB).trans (two2q HB3.out).2, (b'.cell (p := ⟨b, off + k * 2 + 1, none⟩) (show b < w1.heap.size by omega)).trans d1⟩
      have own3' := own_on hown b23
      have cz : Below w3.heap.size w3 w3.drew := (Below.refl _ _).drew
      have HJ2 := Lib.hid (fun W (bW : Below w3.heap.size w3 W) => R1.join_any A3 Ai (P4 ++ P2) xb (P4.length + P2.length) xb.length c3 ci W (by rw [List.length_append]) rfl ((Rd.own own3).on bW) (Hrb.out W (bt bel3 bW)) (by have := Hlen.out.2.2; simp only [List.length_append] at this ⊢; omega))
      have m3 : ∀ W', Below w3.heap.size w3 W' → Below w1.heap.size w3 W' := fun W' b' => b'.mono sz13
      clear c0 c1 hwn HP2n
      go_region_held3 (fun W' => W'.cell? ⟨w.heap.size, 0, none⟩ = some (.slice (some ⟨b, off, none⟩) N c) ∧ W'.cell? ⟨w.heap.size, 1, none⟩ = some (.int .u64 (gen.toNat : Int)) ∧ W'.cell? ⟨b, off + k * 2 + 1, none⟩ = some (.slice Ai xb.length ci)) (first | with_reducible exact hS _ (m3 _ cz) | with_reducible exact e5 | with_reducible exact e6 | with_reducible exact e8) (first
        | (go_at_call 110; refine (HJ2.out _ cz).mono ?_; rintro e w5 ⟨A5, c5, rfl, own5, b5⟩; have bJ := bt cz b5; have e5 := hS _ (m3 _ bJ); have bK := bt bJ (b1alloc w5 (.cells #[.int .i64 4, .int .u64 (life.toNat : Int), .int .i64 ((q : Int) + (k : Int)), .int .u64 (gen.toNat : Int), .slice A5 (P4.length + (P2.length + xb.length)) c5] 49)); have e6 := hS _ (m3 _ bK); have own5' := own_on own3' bJ)
        | ((refine Disk.step_append_rd _ (by rfl) _ _ _ (by rfl) w1.heap.size 49 i0 _ 5 56 Try.underlying71 hi0 hz0 hz1 hz2 rfl (by omega) (.slice Ao k co) k (es.flatMap Ec.cells) (by rfl) ?_ _ 1 1 [.int .i64 4, .int .u64 (life.toNat : Int), .int .i64 ((q : Int) + (k : Int)), .int .u64 (gen.toNat : Int), .slice A5 (P4.length + (P2.length + xb.length)) c5] (by rfl) (by rfl) ?_ (by simp [Value.oneCell']) Hb1.out.1 Hb1.out.2 (Nat.le_trans sz13 bK.size) ?_); (· exact own5'.alloc _); (· exact Rd.lit _ _ _ _ _ rfl (by simp)); intro v8 w8 own8 hg8 hat8; have b8 := (m3 _ bK).grown hg8 (Nat.le_trans sz13 bK.size) (fun g hg => own_block hown hg); have e8 := hS _ b8))
      all_goals
        have hku := fun (j : Nat) (cs : Array Value) (_ : w.heap.size ≤ j) (hj : wr.heap[j]? = some (Obj.cells cs 5 (0, 0))) => (((hg8.block j (Nat.lt_of_lt_of_le (lt_of_block hj) (bt b23 bK).size) (own_bt hown hj (by decide))).trans ((bt b23 bK).block j (lt_of_block hj)) : w8.heap[j]? = wr.heap[j]?))
        have hkv := fun (j : Nat) (cs : Array Value) (_ : w.heap.size ≤ j) (hj : w5.heap[j]? = some (Obj.cells cs 5 (0, 0))) => (((hg8.block j (Nat.lt_of_lt_of_le (lt_of_block hj) (b1alloc w5 _).size) (own_bt own5' hj (by decide))).trans ((b1alloc w5 _).block j (lt_of_block hj)) : w8.heap[j]? = w5.heap[j]?))
        have hnew : Ec.Ok w8 w.heap.size ⟨A5, c5, ⟨4, life, ((q + k : Nat) : Int), gen, P4 ++ P2 ++ xb⟩⟩ := PrOk.keepU (ec_made (x := ⟨4, life, ((q + k : Nat) : Int), gen, P4 ++ P2 ++ xb⟩) (own_base own5 (Nat.le_trans bel3.size cz.size)) (by simp) Hlen.out.2.1 Hlen.out.2.2) hkv
        have hfin := Lib.hid (show (es ++ [(⟨A5, c5, ⟨4, life, ((q + k : Nat) : Int), gen, P4 ++ P2 ++ xb⟩⟩ : Ec)]).map Ec.x = (dSecs life q gen 0 t.pages).take (k + 1) ∧ ∀ e ∈ es ++ [(⟨A5, c5, ⟨4, life, ((q + k : Nat) : Int), gen, P4 ++ P2 ++ xb⟩⟩ : Ec)], Ec.Ok w8 w.heap.size e from ⟨by rw [List.map_append, hid.out.1, Htk.out]; rfl, fun e he => (List.mem_append.1 he).elim (fun he => PrOk.keepU (hid.out.2 e he) hku) (fun he => by rw [List.mem_singleton] at he; rw [he]; exact hnew)⟩)
        have hrow := Lib.hid (show w8.ownsRow w1.heap.size 49 5 v8 (k + 1) ((es ++ [(⟨A5, c5, ⟨4, life, ((q + k : Nat) : Int), gen, P4 ++ P2 ++ xb⟩⟩ : Ec)]).flatMap Ec.cells) by simpa [Ec.cells] using own8)
        have hbw := Lib.hid (show Below w1.heap.size w1 w8 from bw3.trans b8)
        have hbl := Lib.hid (show Below w.heap.size w w8 from bel3.trans (b8.mono (by omega)))
        have hBx := Lib.hid (show Blk w8 w.heap.size [.slice (some ⟨b, off, none⟩) N c, .int .u64 (gen.toNat : Int)] from HB3.out.below b8 slB)
        clear hku hkv hnew own8 hg8 hat8 e8 e6 e5
        go_wp2
        exact ⟨⟨k + 1, by omega, by go_num, hbl.out, hbw.out, hBx.out, _, hrow.out, Lib.hid hfin.out⟩, by simp only [intOf]; omega⟩
    · have hkm : k = N := by omega
      have hkn : ¬ (k : Int) < (N : Int) := by omega
      have Hk := Lib.hid hkm
      clear hkm
      have hPN := HP2.out N (by omega)
      rw [ofNat_toNat (show N ≤ 1000000 by omega)] at hPN
      have hl2 := Num.putL_len N 2
      obtain ⟨P2, hP2⟩ : ∃ P2, P2 = putL N 2 := ⟨_, rfl⟩
      have hdX : dX 5 life q N gen N [] = ⟨5, life, ((q + N : Nat) : Int), gen, P4 ++ P2⟩ := by
        rw [HP4.out, hP2]
        show (⟨5, life, ((q + N : Nat) : Int), gen, putL q 4 ++ putL N 2 ++ []⟩ : X) = _
        rw [List.append_nil]
      rw [← hP2] at hPN hl2
      have hwn := wrap_u64n (n := N) (by omega)
      have hwqk : IntKind.i64.wrap ((q : Int) + (N : Int)) = ((q + N : Nat) : Int) := by rw [wrap_small (by omega) (by omega)]; omega
      have HPN := Lib.hid hPN
      have Hl2 := Lib.hid hl2
      have HdX := Lib.hid hdX
      have HB := Lib.hid hB
      have Hlen := Lib.hid (show 0 < (P4 ++ P2).length ∧ (P4 ++ P2).length ≤ 1000 from by have := Hh4.out; have := Hl2.out; simp only [List.length_append]; omega)
      have Hb1 := Lib.hid (show k + 1 ≤ maxLen ∧ (k + 1) * 56 ≤ 140737488355328 from ⟨by simp only [maxLen]; omega, by omega⟩)
      have HJ := Lib.hid (fun A2 c2 W (bW : Below w1.heap.size w1 W) (h2 : Rd W W.heap.size A2 (P2.map e8)) => R1.join_any A1 A2 P4 P2 4 P2.length c1A c2 W Hh4.out.symm rfl (HR1.out W bW) h2 (by have := Hh4.out; have := Hl2.out; omega))
      have slB : w.heap.size < w1.heap.size := by have := HBl.out; omega
      clear hPN hl2 hP2 hdX hB
      go_upto_region 9 with (first
        | (go_at_call 109; refine (HPN.out _).mono ?_; rintro e w2 ⟨A2, c2, rfl, own2, b2⟩; clear z0 z1)
        | (go_at_call 110; refine (HJ.out _ _ _ (bt bw1 b2) (Rd.own own2)).mono ?_; rintro e w3 ⟨A3, c3, rfl, own3, b3⟩))
      have b23 := bt b2 b3
      have bw3 := bt bw1 b23
      have bel3 := bt bel b23
      have own3' := own_on hown b23
      obtain ⟨z0, z1⟩ := two2q (HB.out.on b23)
      go_wp2_with (at_builtin; refine wpList_append_rd _ rfl _ _ _ rfl w1.heap.size 49 i0 _ 5 56 Try.underlying71 hi0 hz0 hz1 hz2 rfl (by omega) _ k (es.flatMap Ec.cells) rfl (own3'.alloc _) (w3.heap.size + 1) (some ⟨w3.heap.size, 0, none⟩) 1 1 [.int .i64 5, .int .u64 (life.toNat : Int), .int .i64 ((q : Int) + (N : Int)), .int .u64 (gen.toNat : Int), .slice A3 (P4.length + P2.length) c3] rfl rfl (Rd.lit w3 _ _ _ _ rfl (Nat.lt_succ_self _)) (by simp [Value.oneCell']) Hb1.out.1 Hb1.out.2 (Nat.le_trans bw3.size (b1alloc w3 _).size) ?_; intro v8 w8 own8 hg8 hat8)
      have bK := b1alloc w3 (.cells #[.int .i64 5, .int .u64 (life.toNat : Int), .int .i64 ((q : Int) + (N : Int)), .int .u64 (gen.toNat : Int), .slice A3 (P4.length + P2.length) c3] 49)
      have b8 := (bK.mono bw3.size).grown hg8 (Nat.le_trans bw3.size bK.size) (fun g hg => own_block hown hg)
      have hku := fun (j : Nat) (cs : Array Value) (_ : w.heap.size ≤ j) (hj : wr.heap[j]? = some (Obj.cells cs 5 (0, 0))) => (((hg8.block j (Nat.lt_of_lt_of_le (lt_of_block hj) (bt b23 bK).size) (own_bt hown hj (by decide))).trans ((bt b23 bK).block j (lt_of_block hj)) : w8.heap[j]? = wr.heap[j]?))
      have hkv := fun (j : Nat) (cs : Array Value) (_ : w.heap.size ≤ j) (hj : w3.heap[j]? = some (Obj.cells cs 5 (0, 0))) => (((hg8.block j (Nat.lt_of_lt_of_le (lt_of_block hj) bK.size) (own_bt own3' hj (by decide))).trans (bK.block j (lt_of_block hj)) : w8.heap[j]? = w3.heap[j]?))
      have hnew : Ec.Ok w8 w.heap.size ⟨A3, c3, ⟨5, life, ((q + N : Nat) : Int), gen, P4 ++ P2⟩⟩ := PrOk.keepU (ec_made (x := ⟨5, life, ((q + N : Nat) : Int), gen, P4 ++ P2⟩) (own_base own3 (Nat.le_trans bel.size b2.size)) (by simp) Hlen.out.1 Hlen.out.2) hkv
      obtain ⟨A8, c8, rfl⟩ := own_form own8
      have hkk : k = (dSecs life q gen 0 t.pages).length := by rw [Hdl.out, Hk.out, HN.out]
      have hms : es.map Ec.x = dSecs life q gen 0 t.pages := by rw [hid.out.1, hkk, List.take_length]
      have hrow : w8.ownsRow w1.heap.size 49 5 (.slice A8 (k + 1) c8) (k + 1) ((es ++ [(⟨A3, c3, ⟨5, life, ((q + N : Nat) : Int), gen, P4 ++ P2⟩⟩ : Ec)]).flatMap Ec.cells) := by simpa [Ec.cells] using own8
      have hsec := Lib.hid (ec_secs (l := dSecs life q gen 0 t.pages ++ [dX 5 life q N gen N []]) (own_base hrow (Nat.le_of_lt slB)) (by rw [List.length_append, ← hkk]; rfl) (by rw [List.map_append, hms, HdX.out]; rfl) (fun e he => (List.mem_append.1 he).elim (fun he => PrOk.keepU (hid.out.2 e he) hku) (fun he => by rw [List.mem_singleton] at he; rw [he]; exact hnew)))
      have hbl := Lib.hid (show Below w.heap.size w w8 from bel3.trans (b8.mono (by omega)))
      clear hku hkv hnew own8 hg8 hat8 hrow hms hkk
      go_wp2
      go_ret
      exact ⟨⟨A8, c8, by rw [Hk.out]; rfl, hsec.out⟩, hbl.out⟩
end Go.Proofs.Ytmpmibcdpkolkaa.Wal

/- The log, in plain Lean: how many calls an append takes, and how much the sums and the disk grow. No statement is proved here. -/
namespace Go.Proofs.Ytmpmibcdpkolkaa.Wal
open Go.RowKit
open Go.Proofs.Ytmpmibcdpkolkaa.Geom
open Go.Proofs.Ytmpmibcdpkolkaa.Disk (St Wr write flush burn)
open Go.Proofs.Ytmpmibcdpkolkaa.Sec (X text rightF)
open Go.Proofs.Ytmpmibcdpkolkaa.Sup (UpN)
open Go.Proofs.Ytmpmibcdpkolkaa.Enc (Itm xB xB_len encs enf encs_nil encs_go encs_stop enf_lim)
set_option linter.unusedVariables false
theorem write_calls {s : St} {n : Nat} (h2 : s.size = n) (hd : s.down = false) {p : Int} (h0 : 0 ≤ p) (h1 : p < n) {b : List UInt8} (hb : b.length = 512) : (write s p b).1.calls = s.calls + 1 ∧ (write s p b).1.size = n := by
  subst h2
  have hw : write s p b = burn { s with pend := s.pend ++ [(p.toNat, b)] } := by
    unfold write; rw [if_neg (by simp [hd]), if_neg (by omega), if_neg (by simpa using hb)]
  rw [hw]
  exact ⟨Disk.burn_calls _, (Disk.burn_lists _).2.2⟩
theorem flush_calls {s : St} (hd : s.down = false) : (flush s).1.calls = s.calls + 1 := by
  unfold flush
  rw [if_neg (by simp [hd])]
  have := Disk.burn_calls s
  split <;> simpa using this
theorem encs_calls {n : Nat} : ∀ (is : List Itm) (l : List (List UInt8)) (s : St), s.size = n → s.down = false → (∀ i ∈ is, 0 ≤ i.1 ∧ i.1 < n) → (encs is l s).2.2 = 0 → (encs is l s).2.1.calls = s.calls + is.length ∧ (encs is l s).2.1.down = false
  | [], l, s, h2, hd, _, _ => ⟨rfl, hd⟩
  | i :: r, l, s, h2, hd, hi, hz => by
    obtain ⟨h0, h1⟩ := hi i (by simp)
    obtain ⟨w1, w2⟩ := write_calls h2 hd h0 h1 (xB_len l i.1 i.2)
    obtain ⟨_, _, _, w4⟩ := Enc.write_cases h2 hd h0 h1 (xB_len l i.1 i.2)
    by_cases h : (write s i.1 (xB l i.1 i.2)).2 = 0
    · rw [encs_go h] at hz ⊢
      have hdn : (write s i.1 (xB l i.1 i.2)).1.down = false := by
        rcases w4 with ⟨e, _⟩ | ⟨_, e, _⟩
        · rw [e] at h; cases h
        · exact e
      obtain ⟨e1, e2⟩ := encs_calls r _ _ w2 hdn (fun j hj => hi j (by simp [hj])) hz
      exact ⟨by rw [e1, w1, List.length_cons]; omega, e2⟩
    · rw [encs_stop h] at hz
      exact absurd hz h
theorem enf_calls {n : Nat} {is : List Itm} {l : List (List UInt8)} {s : St} (h2 : s.size = n) (hd : s.down = false) (hi : ∀ i ∈ is, 0 ≤ i.1 ∧ i.1 < n) (hz : (enf is l s).2.2 = 0) : (enf is l s).2.1.calls = s.calls + (is.length + 1) := by
  unfold enf at hz ⊢
  by_cases h : (encs is l s).2.2 = 0
  · rw [if_pos h] at hz ⊢
    obtain ⟨e1, e2⟩ := encs_calls is l s h2 hd hi h
    show (flush (encs is l s).2.1).1.calls = _
    rw [flush_calls e2, e1]; omega
  · rw [if_neg h] at hz; exact absurd hz h
theorem items_bd {ga gd gl base : Int} {n : Nat} (hr : right ga gd gl = true) (hb : 0 ≤ base) (hn : (n : Int) = Geom.sizeOf ga gd gl) (xs : List X) (q : Nat) : ∀ i ∈ items ga gd gl base q xs, 0 ≤ i.1 ∧ i.1 < n := by
  intro i hi
  obtain ⟨k, hk, rfl⟩ := List.mem_iff_getElem.1 hi
  rw [items_len] at hk
  rw [items_get ga gd gl base xs q k (by rw [items_len]; exact hk) hk]
  have := pl_bd hr hb hn (q + k)
  exact ⟨this.1, this.2.1⟩
/-- an append's calls, and what it adds -/
theorem LogIs.calls {ga gd gl base : Int} {n : Nat} {l : List (List UInt8)} {s : St} {xs : List X} {t : Tx} {life : UInt64} (h : LogIs ga gd gl base n l s xs) (hr : right ga gd gl = true) (hb : 0 ≤ base) (hn : (n : Int) = Geom.sizeOf ga gd gl) (hl : (xs.length : Int) + t.pages.length < gl) (hbd : badB ga gd gl t.pages = false) :
    (putF ga gd gl base life xs.length t.gen t.pages l s).2.1.calls = s.calls + (t.pages.length + 3) ∧ (putF ga gd gl base life xs.length t.gen t.pages l s).1.length ≤ l.length + (t.pages.length + 1) ∧ (putF ga gd gl base life xs.length t.gen t.pages l s).2.1.sz ≤ s.sz + 2 * (t.pages.length + 2) := by
  have hy64 := right_yes hr
  have hd := items_data ga gd gl base life xs.length t.gen t.pages 0
  rw [Nat.add_zero] at hd
  obtain ⟨r1, h1⟩ := h.more (ys := dSecs life xs.length t.gen 0 t.pages) hr hb hn (by rw [dSecs_len]; omega) (fun k hk => by
    rw [dSecs_len] at hk
    rw [dSecs_get _ _ _ _ _ _ _ hk, Nat.zero_add]
    have hp := pl_bd hr hb hn (xs.length + k)
    exact dX_right hp.1 hp.2.2 (by decide) (by omega) (badB_of hbd hk).2.2)
  have c1 := enf_calls (l := l) h.up.size h.up.down (items_bd hr hb hn (dSecs life xs.length t.gen 0 t.pages) xs.length) r1
  obtain ⟨r2, h2⟩ := h1.more (ys := [dX 5 life xs.length t.pages.length t.gen t.pages.length []]) hr hb hn (by simp only [List.length_append, dSecs_len, List.length_singleton]; omega) (fun k hk => by
    obtain rfl : k = 0 := by simp at hk; exact hk
    have hp := pl_bd hr hb hn ((xs ++ dSecs life xs.length t.gen 0 t.pages).length + 0)
    exact dX_right hp.1 hp.2.2 (by decide) (by omega) (by simp))
  have c2 := enf_calls h1.up.size h1.up.down (items_bd hr hb hn [dX 5 life xs.length t.pages.length t.gen t.pages.length []] (xs ++ dSecs life xs.length t.gen 0 t.pages).length) r2
  have l1 := enf_lim (items ga gd gl base xs.length (dSecs life xs.length t.gen 0 t.pages)) l s
  have l2 := enf_lim (items ga gd gl base (xs ++ dSecs life xs.length t.gen 0 t.pages).length [dX 5 life xs.length t.pages.length t.gen t.pages.length []]) (enf (items ga gd gl base xs.length (dSecs life xs.length t.gen 0 t.pages)) l s).1 (enf (items ga gd gl base xs.length (dSecs life xs.length t.gen 0 t.pages)) l s).2.1
  rw [items_len, dSecs_len] at c1 l1
  rw [items_len, List.length_singleton] at c2 l2
  rw [List.length_append, dSecs_len] at c2 l2
  rw [hd] at r1 c1 c2 l1 l2
  unfold putF
  rw [if_pos r1]
  have hit : items ga gd gl base (xs.length + t.pages.length) [dX 5 life xs.length t.pages.length t.gen t.pages.length []] = [(logAt ga gd gl (base + ((xs.length + t.pages.length : Nat) : Int)), dX 5 life xs.length t.pages.length t.gen t.pages.length [])] := rfl
  rw [hit] at c2 l2
  refine ⟨?_, ?_, ?_⟩
  · rw [c2, c1]; omega
  · omega
  · omega
end Go.Proofs.Ytmpmibcdpkolkaa.Wal

/- What the law on reading supers needs of the reference: Of, and the law's best. -/
namespace Go.Proofs.Ytmpmibcdpkolkaa.Sup
open Go.RowKit
open Go.Proofs.Ytmpmibcdpkolkaa.Geom
open Go.Proofs.Ytmpmibcdpkolkaa.Disk (St DAt Did New8 Told8 new)
open Go.Proofs.Ytmpmibcdpkolkaa.Sec (X SymAt text sumOf sumAfter ckS blankB rightF xv RetX X0 five5x symbolic_any bset5)
set_option linter.unusedVariables false
set_option maxRecDepth 100000
def ofR (ga gd gl p : Int) (x : X) : Option SV := if isSup ga gd gl p (x, 0) = true then some ⟨x.life, x.seq, x.gen⟩ else none
def ofV : Option SV → Value
  | some x => .tuple #[x.v, .bool true]
  | none => .tuple #[SV.zero.v, .bool false]
set_option maxHeartbeats 2000000 in
theorem rof_any (ga gd gl p : Int) (x : X) (A : Option Addr) (c : Nat) (w : World) (hG : Gb ga gd gl) (hr : Rd w w.heap.size A (x.body.map e8)) (hl : x.body.length ≤ 1000000) :
    Calls Try.prog 44 #[gv ga gd gl, .int .i64 p, .agg #[.int .i64 x.kind, .int .u64 (x.life.toNat : Int), .int .i64 x.seq, .int .u64 (x.gen.toNat : Int), .slice A x.body.length c]] w fun e w' => e = .returned (ofV (ofR ga gd gl p x)) ∧ Below w.heap.size w w' := by
  have FG : Blk (((w.alloc (.cells (gcell ga gd gl).toArray 23)).alloc (.cells ([.int .i64 x.kind, .int .u64 (x.life.toNat : Int), .int .i64 x.seq, .int .u64 (x.gen.toNat : Int), .slice A x.body.length c] : List Value).toArray 49)).alloc (.cells #[.int .u64 0, .int .i64 0, .int .u64 0] 26)) w.heap.size (gcell ga gd gl) := ((Blk.new w (gcell ga gd gl) 23).alloc _).alloc _
  have FX : Blk (((w.alloc (.cells (gcell ga gd gl).toArray 23)).alloc (.cells ([.int .i64 x.kind, .int .u64 (x.life.toNat : Int), .int .i64 x.seq, .int .u64 (x.gen.toNat : Int), .slice A x.body.length c] : List Value).toArray 49)).alloc (.cells #[.int .u64 0, .int .i64 0, .int .u64 0] 26)) (w.heap.size + 1) [.int .i64 x.kind, .int .u64 (x.life.toNat : Int), .int .i64 x.seq, .int .u64 (x.gen.toNat : Int), .slice A x.body.length c] := by simpa using (Blk.new (w.alloc (.cells (gcell ga gd gl).toArray 23)) [.int .i64 x.kind, .int .u64 (x.life.toNat : Int), .int .i64 x.seq, .int .u64 (x.gen.toNat : Int), .slice A x.body.length c] 49).alloc (.cells #[.int .u64 0, .int .i64 0, .int .u64 0] 26)
  have FR : Blk (((w.alloc (.cells (gcell ga gd gl).toArray 23)).alloc (.cells ([.int .i64 x.kind, .int .u64 (x.life.toNat : Int), .int .i64 x.seq, .int .u64 (x.gen.toNat : Int), .slice A x.body.length c] : List Value).toArray 49)).alloc (.cells #[.int .u64 0, .int .i64 0, .int .u64 0] 26)) (w.heap.size + 1 + 1) [.int .u64 0, .int .i64 0, .int .u64 0] := by simpa using Blk.new ((w.alloc (.cells (gcell ga gd gl).toArray 23)).alloc (.cells ([.int .i64 x.kind, .int .u64 (x.life.toNat : Int), .int .i64 x.seq, .int .u64 (x.gen.toNat : Int), .slice A x.body.length c] : List Value).toArray 49)) [.int .u64 0, .int .i64 0, .int .u64 0] 26
  have b0 := b3alloc w (.cells (gcell ga gd gl).toArray 23) (.cells ([.int .i64 x.kind, .int .u64 (x.life.toNat : Int), .int .i64 x.seq, .int .u64 (x.gen.toNat : Int), .slice A x.body.length c] : List Value).toArray 49) (.cells #[.int .u64 0, .int .i64 0, .int .u64 0] 26)
  obtain ⟨w0, hw0⟩ : ∃ q, q = (((w.alloc (.cells (gcell ga gd gl).toArray 23)).alloc (.cells ([.int .i64 x.kind, .int .u64 (x.life.toNat : Int), .int .i64 x.seq, .int .u64 (x.gen.toNat : Int), .slice A x.body.length c] : List Value).toArray 49)).alloc (.cells #[.int .u64 0, .int .i64 0, .int .u64 0] 26)) := ⟨_, rfl⟩
  rw [← hw0] at FG FX FR b0
  have HM := Lib.hid (fun W => rmark_any ga gd gl W hG)
  have HP := Lib.hid (fun W => rplace_any x.life _ (by rfl) W)
  have HW0 := Lib.hid (show (((w.alloc (.cells #[.int .i64 ga, .int .i64 gd, .int .i64 gl] 23)).alloc (.cells #[.int .i64 x.kind, .int .u64 (x.life.toNat : Int), .int .i64 x.seq, .int .u64 (x.gen.toNat : Int), .slice A x.body.length c] 49)).alloc (.cells #[.int .u64 0, .int .i64 0, .int .u64 0] 26)) = w0 from hw0.symm)
  have hlX := FX.lt
  have hlG := FG.lt
  have hlR := FR.lt
  unfold ofR
  clear hw0
  by_cases e1 : x.kind = 2
  rotate_left
  · rw [if_neg (by simp [isSup, e1])]
    have t1 := bne_yes e1
    clear e1
    go_enter Try.func44, Try.ntmps44
    go_wp2
    rw [HW0.out]
    obtain ⟨z0, z1, z2⟩ := gthree FG
    obtain ⟨x0, x1, x2, x3, x4⟩ := five5x FX
    refine region_inb (by kernel_rfl) (by kernel_rfl) ?_
    have inbNe := InB.some
    have inbW := @wrap_small
    have inbU := IntKind.wrap_u8'
    repeat (refine wpQuiet_step (fun K hK => ?_); go_simp; first | (refine hK _ ?_; clear hK K) | (apply Exists.intro; refine ⟨?_, hK _ ?_⟩; (· (intro w' hw'; first | fail | (have hcw := hw'.cell; go_simp; exact rfl))); clear hK K))
    refine wpQuiet_nil ?_
    intro wq hq
    clear inbNe inbW inbU
    clear z0 z1 z2 x0 x1 x2 x3 x4
    obtain ⟨u0, u1, u2⟩ := gthree (FR.on hq.below)
    obtain ⟨x0, x1, x2, x3, x4⟩ := five5x (FX.on hq.below)
    have fx := (FR.on hq.below).free
    go_wp2
    refine bodyPost_ret (v := ofV none) (by simp [results, Try.results44, go_sem, ofV, SV.v, SV.zero, sv, *]) rfl ⟨rfl, ?_⟩
    exact bset (bset (bset (bt b0 hq.below) (by omega) _) (by omega) _) (by omega) _
  have t1 := bne_no e1
  by_cases e2 : splace x.life = p
  rotate_left
  · rw [if_neg (by simp [isSup, e2])]
    have t2 := bne_yes e2
    clear e1 e2
    go_enter Try.func44, Try.ntmps44
    go_wp2
    rw [HW0.out]
    obtain ⟨z0, z1, z2⟩ := gthree FG
    obtain ⟨x0, x1, x2, x3, x4⟩ := five5x FX
    refine region_inb (by kernel_rfl) (by kernel_rfl) ?_
    have inbNe := InB.some
    have inbW := @wrap_small
    have inbU := IntKind.wrap_u8'
    repeat (refine wpQuiet_step (fun K hK => ?_); go_simp; first | (refine hK _ ?_; clear hK K) | (apply Exists.intro; refine ⟨?_, hK _ ?_⟩; (· (intro w' hw'; first | (go_at_call 21; refine (HP.out _).mono ?_; rintro e q1 ⟨rfl, rfl⟩; exact ⟨rfl, hw'⟩) | (have hcw := hw'.cell; go_simp; exact rfl))); clear hK K))
    refine wpQuiet_nil ?_
    intro wq hq
    clear inbNe inbW inbU
    clear z0 z1 z2 x0 x1 x2 x3 x4
    obtain ⟨u0, u1, u2⟩ := gthree (FR.on hq.below)
    obtain ⟨x0, x1, x2, x3, x4⟩ := five5x (FX.on hq.below)
    have fx := (FR.on hq.below).free
    go_wp2
    refine bodyPost_ret (v := ofV none) (by simp [results, Try.results44, go_sem, ofV, SV.v, SV.zero, sv, *]) rfl ⟨rfl, ?_⟩
    exact bset (bset (bset (bt b0 hq.below) (by omega) _) (by omega) _) (by omega) _
  have t2 := bne_no e2
  have hSa := fun A B c d' W h3 h4 => R1.same_any A B x.body (mk ga gd gl) x.body.length (mk ga gd gl).length c d' W rfl rfl h3 h4 (by omega) (by have := mk_len ga gd gl; omega)
  cases e3 : R1.sameB x.body (mk ga gd gl) with
  | false =>
    rw [if_neg (by simp [isSup, e3])]
    rw [e3] at hSa
    have HSa := Lib.hid hSa
    obtain ⟨M, hM⟩ : ∃ M, M = mk ga gd gl := ⟨_, rfl⟩
    rw [← hM] at HSa HM
    clear hSa e1 e2 e3 hM
    go_enter Try.func44, Try.ntmps44
    go_wp2
    rw [HW0.out]
    obtain ⟨z0, z1, z2⟩ := gthree FG
    obtain ⟨x0, x1, x2, x3, x4⟩ := five5x FX
    have cz : Below w0.heap.size w0 w0.drew := (Below.refl _ _).drew
    go_region_held3 (fun w' => (w'.cell? ⟨w.heap.size + 1, 0, none⟩ = some (.int .i64 x.kind) ∧ w'.cell? ⟨w.heap.size + 1, 1, none⟩ = some (.int .u64 (x.life.toNat : Int)) ∧ w'.cell? ⟨w.heap.size + 1, 2, none⟩ = some (.int .i64 x.seq) ∧ w'.cell? ⟨w.heap.size + 1, 3, none⟩ = some (.int .u64 (x.gen.toNat : Int)) ∧ w'.cell? ⟨w.heap.size + 1, 4, none⟩ = some (.slice A x.body.length c)) ∧ (w'.cell? ⟨w.heap.size, 0, none⟩ = some (.int .i64 ga) ∧ w'.cell? ⟨w.heap.size, 1, none⟩ = some (.int .i64 gd) ∧ w'.cell? ⟨w.heap.size, 2, none⟩ = some (.int .i64 gl))) (first | exact ⟨five5x (FX.on cz), gthree (FG.on cz)⟩ | exact ⟨five5x (FX.on cm), gthree (FG.on cm)⟩ | exact ⟨five5x (FX.on cs), gthree (FG.on cs)⟩) (first
      | (go_at_call 21; refine (HP.out _).mono ?_; rintro e q6 ⟨rfl, rfl⟩)
      | (go_at_call 18; refine (HM.out _).mono ?_; rintro e q7 ⟨A7, c7, rfl, own7, t7⟩; have cm := bt cz t7)
      | (go_at_call 16; refine (HSa.out A A7 c c7 _ (hr.on (bt b0 cm)) (Rd.own own7)).mono ?_; rintro e q8 ⟨rfl, t8⟩; have cs := bt cm t8))
    clear z0 z1 z2 x0 x1 x2 x3 x4
    obtain ⟨u0, u1, u2⟩ := gthree (FR.on cs)
    obtain ⟨x0, x1, x2, x3, x4⟩ := five5x (FX.on cs)
    have fx := (FR.on cs).free
    go_wp2
    refine bodyPost_ret (v := ofV none) (by simp [results, Try.results44, go_sem, ofV, SV.v, SV.zero, sv, *]) rfl ⟨rfl, ?_⟩
    exact bset (bset (bset (bt b0 cs) (by omega) _) (by omega) _) (by omega) _
  | true =>
    rw [if_pos (by simp [isSup, e1, e2, e3])]
    rw [e3] at hSa
    have HSa := Lib.hid hSa
    obtain ⟨M, hM⟩ : ∃ M, M = mk ga gd gl := ⟨_, rfl⟩
    rw [← hM] at HSa HM
    clear hSa e1 e2 e3 hM
    go_enter Try.func44, Try.ntmps44
    go_wp2
    rw [HW0.out]
    obtain ⟨z0, z1, z2⟩ := gthree FG
    obtain ⟨x0, x1, x2, x3, x4⟩ := five5x FX
    have cz : Below w0.heap.size w0 w0.drew := (Below.refl _ _).drew
    go_region_held3 (fun w' => (w'.cell? ⟨w.heap.size + 1, 0, none⟩ = some (.int .i64 x.kind) ∧ w'.cell? ⟨w.heap.size + 1, 1, none⟩ = some (.int .u64 (x.life.toNat : Int)) ∧ w'.cell? ⟨w.heap.size + 1, 2, none⟩ = some (.int .i64 x.seq) ∧ w'.cell? ⟨w.heap.size + 1, 3, none⟩ = some (.int .u64 (x.gen.toNat : Int)) ∧ w'.cell? ⟨w.heap.size + 1, 4, none⟩ = some (.slice A x.body.length c)) ∧ (w'.cell? ⟨w.heap.size, 0, none⟩ = some (.int .i64 ga) ∧ w'.cell? ⟨w.heap.size, 1, none⟩ = some (.int .i64 gd) ∧ w'.cell? ⟨w.heap.size, 2, none⟩ = some (.int .i64 gl))) (first | exact ⟨five5x (FX.on cz), gthree (FG.on cz)⟩ | exact ⟨five5x (FX.on cm), gthree (FG.on cm)⟩ | exact ⟨five5x (FX.on cs), gthree (FG.on cs)⟩) (first
      | (go_at_call 21; refine (HP.out _).mono ?_; rintro e q6 ⟨rfl, rfl⟩)
      | (go_at_call 18; refine (HM.out _).mono ?_; rintro e q7 ⟨A7, c7, rfl, own7, t7⟩; have cm := bt cz t7)
      | (go_at_call 16; refine (HSa.out A A7 c c7 _ (hr.on (bt b0 cm)) (Rd.own own7)).mono ?_; rintro e q8 ⟨rfl, t8⟩; have cs := bt cm t8))
    clear z0 z1 z2 x0 x1 x2 x3 x4
    obtain ⟨u0, u1, u2⟩ := gthree (FR.on cs)
    obtain ⟨x0, x1, x2, x3, x4⟩ := five5x (FX.on cs)
    have fx := (FR.on cs).free
    go_wp2
    refine bodyPost_ret (v := ofV (some ⟨x.life, x.seq, x.gen⟩)) (by simp [results, Try.results44, go_sem, ofV, SV.v, sv, *]) rfl ⟨rfl, ?_⟩
    exact bset (bset (bset (bt b0 cs) (by omega) _) (by omega) _) (by omega) _
theorem lbest_any (o p : Option SV) (w : World) (hne : ∀ x y, o = some x → p = some y → x.life ≠ y.life) :
    Calls Try.prog 46 #[sv (oV o).life (oV o).base (oV o).gen, sv (oV p).life (oV p).base (oV p).gen, .bool o.isSome, .bool p.isSome] w fun e w' => e = .returned (rdV (best (best none o) p)) ∧ Below w.heap.size w w' := by
  have b0 := fun (a b : SV) => b3alloc w (.cells (scell a.life a.base a.gen).toArray 26) (.cells (scell b.life b.base b.gen).toArray 26) (.cells #[.int .u64 0, .int .i64 0, .int .u64 0] 26)
  cases o with
  | none =>
    cases p with
    | none =>
      have bb := b0 (oV none) (oV none)
      rw [show (Option.isSome (none : Option SV)) = false from rfl]
      go_enter Try.func46, Try.ntmps46
      go_wp2
      refine bodyPost_ret (v := rdV none) (by simp [results, Try.results46, go_sem, rdV, SV.v, SV.zero, sv]) rfl ⟨rfl, ?_⟩
      exact b3alloc _ _ _ _
    | some y =>
      have bb := b0 (oV none) y
      rw [show (Option.isSome (none : Option SV)) = false from rfl, show (Option.isSome (some y)) = true from rfl, show oV (some y) = y from rfl]
      go_enter Try.func46, Try.ntmps46
      go_wp2
      refine bodyPost_ret (v := rdV (some y)) (by simp [results, Try.results46, go_sem, rdV, SV.v, sv]) rfl ⟨rfl, ?_⟩
      exact b3alloc _ _ _ _
  | some x =>
    cases p with
    | none =>
      have bb := b0 x (oV none)
      rw [show (Option.isSome (none : Option SV)) = false from rfl, show (Option.isSome (some x)) = true from rfl, show oV (some x) = x from rfl]
      go_enter Try.func46, Try.ntmps46
      go_wp2
      refine bodyPost_ret (v := rdV (some x)) (by simp [results, Try.results46, go_sem, rdV, SV.v, sv]) rfl ⟨rfl, ?_⟩
      exact b3alloc _ _ _ _
    | some y =>
      have hn := hne x y rfl rfl
      have bb := b0 x y
      rw [show (Option.isSome (some y)) = true from rfl, show (Option.isSome (some x)) = true from rfl, show oV (some x) = x from rfl, show oV (some y) = y from rfl]
      by_cases hlt : y.life.toNat < x.life.toNat
      · have hb := Lib.hid (show best (best none (some x)) (some y) = some x by
          have h2 : ¬ x.life < y.life := fun e => by rw [UInt64.lt_iff_toNat_lt] at e; omega
          simp [best, after1, h2])
        have hi : (y.life.toNat : Int) < (x.life.toNat : Int) := by omega
        clear hn hne
        go_enter Try.func46, Try.ntmps46
        go_wp2
        refine bodyPost_ret (v := rdV (some x)) (by simp [results, Try.results46, go_sem, rdV, SV.v, sv]) rfl ⟨by rw [hb.out], ?_⟩
        exact b3alloc _ _ _ _
      · have hb := Lib.hid (show best (best none (some x)) (some y) = some y by
          have h3 : x.life.toNat ≠ y.life.toNat := fun e => hn (UInt64.toNat_inj.1 e)
          have h2 : x.life < y.life := by rw [UInt64.lt_iff_toNat_lt]; omega
          simp [best, after1, h2])
        have hi : ¬ (y.life.toNat : Int) < (x.life.toNat : Int) := by omega
        clear hn hne
        go_enter Try.func46, Try.ntmps46
        go_wp2
        refine bodyPost_ret (v := rdV (some y)) (by simp [results, Try.results46, go_sem, rdV, SV.v, sv]) rfl ⟨by rw [hb.out], ?_⟩
        exact b3alloc _ _ _ _
/-! the two places, one behind the other -/
def bytesAt (q : List (List UInt8) × St) (p : Int) (x : X) : List UInt8 := text p x ++ sumOf q.1 (text p x)
theorem bytesAt_len (q : List (List UInt8) × St) (p : Int) (x : X) : (bytesAt q p x).length = 512 := by unfold bytesAt; rw [List.length_append, Sec.text_len, Sec.sumOf_len]
def stp (q : List (List UInt8) × St) (p : Int) (x : X) : List (List UInt8) × St := if rightF p x = 0 then (sumAfter q.1 (text p x), (Disk.put q.2 p (bytesAt q p x)).1) else q
theorem stp_yes {q : List (List UInt8) × St} {p : Int} {x : X} (h : rightF p x = 0) : stp q p x = (sumAfter q.1 (text p x), (Disk.put q.2 p (bytesAt q p x)).1) := if_pos h
theorem stp_no {q : List (List UInt8) × St} {p : Int} {x : X} (h : rightF p x ≠ 0) : stp q p x = q := if_neg h
theorem UpN.put {s : St} {n : Nat} (h : UpN s n) {p : Int} (h0 : 0 ≤ p) (h1 : p < n) {b : List UInt8} (hb : b.length = 512) : UpN (Disk.put s p b).1 n ∧ (Disk.put s p b).1.all = s.all ++ [(p.toNat, b)] ∧ (Disk.put s p b).1.sz ≤ s.sz + 1 := by
  refine ⟨?_, ?_, Disk.sz_put _ _ _⟩ <;> unfold Disk.put <;> rw [if_neg (by rw [h.size]; omega), if_neg (by omega)]
  exact ⟨h.size, h.pend, h.down, h.fuse⟩
/-- what is at a place that a sector was put at, or was not -/
def ofAt (ga gd gl p : Int) (x : X) : Option SV := if rightF p x = 0 then ofR ga gd gl p x else none
theorem UpN.at_good {s : St} {n : Nat} (h : UpN s n) {l : List (List UInt8)} {ga gd gl p : Int} (h0 : 0 ≤ p) (h1 : p < n) {x : X} (hg : Good l p x (Disk.kept s.all p.toNat)) : atR l s ga gd gl p = ofR ga gd gl p x := by
  unfold atR Sup.dec
  rw [h.read h0 h1]
  simp only []
  rw [hg.dec]; rfl
theorem sumAfter_len (l : List (List UInt8)) (T : List UInt8) : (sumAfter l T).length ≤ l.length + 1 := by unfold sumAfter; split <;> simp
structure One (n : Nat) (ga gd gl : Int) (q : List (List UInt8) × St) (a : X) : Prop where
  up : UpN q.2 n
  len : q.1.length ≤ 1
  sz : q.2.sz ≤ 1
  good : rightF 2 a = 0 → Good q.1 2 a (Disk.kept q.2.all 2)
  zero2 : rightF 2 a ≠ 0 → Disk.kept q.2.all 2 = Disk.zero512
  zero3 : Disk.kept q.2.all 3 = Disk.zero512
theorem one {n : Nat} (hn : 4 ≤ n) (ga gd gl : Int) (a : X) : One n ga gd gl (stp ([], new n) 2 a) a := by
  by_cases h : rightF 2 a = 0
  · rw [stp_yes h]
    obtain ⟨u, e, z⟩ := (up_new n).put (p := 2) (by omega) (by omega) (bytesAt_len ([], new n) 2 a)
    exact ⟨u, sumAfter_len [] (text 2 a), z, fun _ => by rw [e, show ((2 : Int).toNat) = 2 from rfl, kept_after]; exact Good.made [] h, fun h2 => absurd h h2, by rw [e, kept_beside _ _ (by decide)]; rfl⟩
  · rw [stp_no h]
    exact ⟨up_new n, by simp, Nat.zero_le _, fun h2 => absurd h2 h, fun _ => rfl, rfl⟩
theorem One.at2 {n : Nat} (hn : 4 ≤ n) {ga gd gl : Int} {q : List (List UInt8) × St} {a : X} (h : One n ga gd gl q a) : atR q.1 q.2 ga gd gl 2 = ofAt ga gd gl 2 a := by
  unfold ofAt
  by_cases h1 : rightF 2 a = 0
  · rw [if_pos h1]; exact h.up.at_good (by omega) (by omega) (h.good h1)
  · rw [if_neg h1]; exact h.up.at_zero (by omega) (by omega) (h.zero2 h1)
structure Two (n : Nat) (ga gd gl : Int) (q : List (List UInt8) × St) (a b : X) : Prop where
  up : UpN q.2 n
  len : q.1.length ≤ 2
  sz : q.2.sz ≤ 2
  at2 : atR q.1 q.2 ga gd gl 2 = ofAt ga gd gl 2 a
  at3 : atR q.1 q.2 ga gd gl 3 = ofAt ga gd gl 3 b
theorem two {n : Nat} (hn : 4 ≤ n) (ga gd gl : Int) (a b : X) : Two n ga gd gl (stp (stp ([], new n) 2 a) 3 b) a b := by
  have h1 := one hn ga gd gl a
  obtain ⟨q, hq⟩ : ∃ q, q = stp ([], new n) 2 a := ⟨_, rfl⟩
  rw [← hq] at h1 ⊢
  by_cases h : rightF 3 b = 0
  · rw [stp_yes h]
    obtain ⟨u, e, z⟩ := h1.up.put (p := 3) (by omega) (by omega) (bytesAt_len q 3 b)
    have hl := sumAfter_len q.1 (text 3 b)
    have l1 := h1.len
    have s1 := h1.sz
    refine ⟨u, by simp only []; omega, by simp only []; omega, ?_, ?_⟩
    · unfold ofAt
      by_cases h2 : rightF 2 a = 0
      · rw [if_pos h2]; exact u.at_good (by omega) (by omega) (by rw [e, kept_beside _ _ (by decide)]; exact (h1.good h2).more _)
      · rw [if_neg h2]; exact u.at_zero (by omega) (by omega) (by rw [e, kept_beside _ _ (by decide)]; exact h1.zero2 h2)
    · unfold ofAt
      rw [if_pos h]; exact u.at_good (by omega) (by omega) (by rw [e, show ((3 : Int).toNat) = 3 from rfl, kept_after]; exact Good.made q.1 h)
  · rw [stp_no h]
    refine ⟨h1.up, by have := h1.len; omega, by have := h1.sz; omega, h1.at2 hn, ?_⟩
    unfold ofAt
    rw [if_neg h]; exact h1.up.at_zero (by omega) (by omega) h1.zero3
theorem ofAt_place {ga gd gl p : Int} {x : X} {y : SV} (h : ofAt ga gd gl p x = some y) : splace y.life = p := by
  unfold ofAt ofR at h
  split at h
  · split at h
    · rename_i h1 h2
      injection h with h
      subst h
      simp [isSup] at h2
      exact h2.1.2
    · cases h
  · cases h
theorem ofAt_ne {ga gd gl : Int} {a b : X} {x y : SV} (h : ofAt ga gd gl 2 a = some x) (h' : ofAt ga gd gl 3 b = some y) : x.life ≠ y.life := fun e => by
  have h1 := ofAt_place h
  have h2 := ofAt_place h'
  rw [e] at h1; omega
end Go.Proofs.Ytmpmibcdpkolkaa.Sup

/- The pages of a life, in plain Lean: what is read of any sectors in their places. -/
namespace Go.Proofs.Ytmpmibcdpkolkaa.Snap
open Go.RowKit
open Go.Proofs.Ytmpmibcdpkolkaa.Geom
open Go.Proofs.Ytmpmibcdpkolkaa.Disk (St Wr read kept new zero512)
open Go.Proofs.Ytmpmibcdpkolkaa.Sec (X text text_len sumAfter rightF X0)
open Go.Proofs.Ytmpmibcdpkolkaa.Sup (UpN stp stp_yes stp_no bytesAt bytesAt_len)
open Go.Proofs.Ytmpmibcdpkolkaa.Enc (rd rd_good rd_zero)
set_option linter.unusedVariables false
/-- the sectors put, up to the k-th place -/
def qs (ga gd gl : Int) (life : UInt64) (l : List X) (n : Nat) : Nat → List (List UInt8) × St
  | 0 => ([], new n)
  | k + 1 => if h : k < l.length then stp (qs ga gd gl life l n k) (areaAt ga gd gl life.toNat k) l[k] else qs ga gd gl life l n k
theorem qs_at {ga gd gl : Int} {life : UInt64} {l : List X} {n k : Nat} (h : k < l.length) : qs ga gd gl life l n (k + 1) = stp (qs ga gd gl life l n k) (areaAt ga gd gl life.toNat k) l[k] := dif_pos h
theorem qs_past {ga gd gl : Int} {life : UInt64} {l : List X} {n k : Nat} (h : ¬ k < l.length) : qs ga gd gl life l n (k + 1) = qs ga gd gl life l n k := dif_neg h
/-- was a sector put there? -/
def putB (ga gd gl : Int) (life : UInt64) (l : List X) (j : Nat) : Bool := if h : j < l.length then decide (rightF (areaAt ga gd gl life.toNat j) l[j] = 0) else false
/-- is it the page? -/
def isL (ga gd gl : Int) (life : UInt64) (l : List X) (j : Nat) : Bool := if h : j < l.length then decide (rightF (areaAt ga gd gl life.toNat j) l[j] = 0) && isX life j l[j] else false
structure QInv (ga gd gl : Int) (life : UInt64) (l : List X) (n N k : Nat) (q : List (List UInt8) × St) : Prop where
  up : UpN q.2 n
  len : q.1.length ≤ k
  sz : q.2.sz ≤ k
  good : ∀ j (h : j < l.length), j < k → rightF (areaAt ga gd gl life.toNat j) l[j] = 0 → Sup.Good q.1 (areaAt ga gd gl life.toNat j) l[j] (kept q.2.all (areaAt ga gd gl life.toNat j).toNat)
  zero : ∀ j, j < N → ¬ (j < k ∧ putB ga gd gl life l j = true) → kept q.2.all (areaAt ga gd gl life.toNat j).toNat = zero512
theorem area_bd {ga gd gl : Int} {n N : Nat} (hn : (n : Int) = Geom.sizeOf ga gd gl) (hN : (N : Int) = pagesOf ga gd gl) (life : UInt64) {k : Nat} (hk : k < N) : 0 ≤ areaAt ga gd gl life.toNat k ∧ areaAt ga gd gl life.toNat k < n := by
  have := area_ok (ga := ga) (gd := gd) (gl := gl) (life := life) (k := k) (by omega)
  omega
theorem qs_inv {ga gd gl : Int} {n N : Nat} (hn : (n : Int) = Geom.sizeOf ga gd gl) (hN : (N : Int) = pagesOf ga gd gl) (life : UInt64) (l : List X) : ∀ k, k ≤ N → QInv ga gd gl life l n N k (qs ga gd gl life l n k)
  | 0, _ => ⟨Sup.up_new n, by simp [qs], Nat.zero_le _, fun j h hj => by omega, fun j _ _ => rfl⟩
  | k + 1, hk => by
    have ih := qs_inv hn hN life l k (by omega)
    by_cases h : k < l.length
    · rw [qs_at h]
      obtain ⟨q, hq⟩ : ∃ q, q = qs ga gd gl life l n k := ⟨_, rfl⟩
      rw [← hq] at ih ⊢
      have hp := area_bd hn hN life (k := k) (by omega)
      by_cases hr : rightF (areaAt ga gd gl life.toNat k) l[k] = 0
      · rw [stp_yes hr]
        obtain ⟨u, e, z⟩ := Sup.UpN.put ih.up hp.1 hp.2 (bytesAt_len q (areaAt ga gd gl life.toNat k) l[k])
        have hl := Sup.sumAfter_len q.1 (text (areaAt ga gd gl life.toNat k) l[k])
        have hne : ∀ j, j < N → j ≠ k → (areaAt ga gd gl life.toNat k).toNat ≠ (areaAt ga gd gl life.toNat j).toNat := fun j hj hjk he => by
          have hpj := area_bd hn hN life hj
          exact hjk (area_inj (m := life.toNat) (by omega) (by omega) (show areaAt ga gd gl life.toNat j = areaAt ga gd gl life.toNat k by omega))
        refine ⟨u, by have := ih.len; simp only []; omega, by have := ih.sz; simp only []; omega, fun j hj hjk hrj => ?_, fun j hj hnj => ?_⟩
        · by_cases hjk' : j = k
          · subst hjk'
            rw [e, Sup.kept_after]
            exact Sup.Good.made q.1 hr
          · rw [e, Sup.kept_beside _ _ (hne j (by omega) hjk')]
            exact (ih.good j hj (by omega) hrj).more _
        · have hjk' : j ≠ k := fun e => hnj ⟨by omega, by subst e; unfold putB; rw [dif_pos h]; exact decide_eq_true hr⟩
          rw [e, Sup.kept_beside _ _ (hne j hj hjk')]
          exact ih.zero j hj (fun hh => hnj ⟨by omega, hh.2⟩)
      · rw [stp_no hr]
        refine ⟨ih.up, by have := ih.len; omega, by have := ih.sz; omega, fun j hj hjk hrj => ?_, fun j hj hnj => ?_⟩
        · by_cases hjk' : j = k
          · subst hjk'; exact absurd hrj hr
          · exact ih.good j hj (by omega) hrj
        · exact ih.zero j hj (fun hh => hnj ⟨by omega, hh.2⟩)
    · rw [qs_past h]
      refine ⟨ih.up, by have := ih.len; omega, by have := ih.sz; omega, fun j hj hjk hrj => ?_, fun j hj hnj => ih.zero j hj (fun hh => hnj ⟨by omega, hh.2⟩)⟩
      exact ih.good j hj (by omega) hrj
theorem QInv.isPg {ga gd gl : Int} {n N : Nat} (hn : (n : Int) = Geom.sizeOf ga gd gl) (hN : (N : Int) = pagesOf ga gd gl) {life : UInt64} {l : List X} {q : List (List UInt8) × St} (h : QInv ga gd gl life l n N N q) {j : Nat} (hj : j < N) : isPg q.1 q.2 ga gd gl life j = isL ga gd gl life l j := by
  have hp := area_bd hn hN life hj
  unfold Snap.isPg rdAt isL
  by_cases h1 : j < l.length
  · rw [dif_pos h1]
    by_cases h2 : rightF (areaAt ga gd gl life.toNat j) l[j] = 0
    · rw [rd_good h.up hp.1 hp.2 (h.good j h1 hj h2)]
      simp [h2]
    · rw [rd_zero h.up hp.1 hp.2 (h.zero j hj (fun hh => by have := hh.2; unfold putB at this; rw [dif_pos h1] at this; exact h2 (of_decide_eq_true this)))]
      simp [h2]
  · rw [dif_neg h1, rd_zero h.up hp.1 hp.2 (h.zero j hj (fun hh => by have := hh.2; unfold putB at this; rw [dif_neg h1] at this; cases this))]
    simp
/-- the numbers of the pages that are not there, up to the k-th -/
def wants (ga gd gl : Int) (life : UInt64) (l : List X) (k : Nat) : List Int := ((List.range k).filter (fun j => !isL ga gd gl life l j)).map (fun j : Nat => (j : Int))
theorem wants_no {ga gd gl : Int} {life : UInt64} {l : List X} {k : Nat} (h : isL ga gd gl life l k = false) : wants ga gd gl life l (k + 1) = wants ga gd gl life l k ++ [(k : Int)] := by
  unfold wants; rw [List.range_succ, List.filter_append, List.map_append]; simp [h]
theorem wants_yes {ga gd gl : Int} {life : UInt64} {l : List X} {k : Nat} (h : isL ga gd gl life l k = true) : wants ga gd gl life l (k + 1) = wants ga gd gl life l k := by
  unfold wants; rw [List.range_succ, List.filter_append, List.map_append]; simp [h]
theorem wants_len (ga gd gl : Int) (life : UInt64) (l : List X) (k : Nat) : (wants ga gd gl life l k).length ≤ k := by
  unfold wants; rw [List.length_map]; exact Nat.le_trans (List.length_filter_le _ _) (by simp)
theorem QInv.badL {ga gd gl : Int} {n N : Nat} (hn : (n : Int) = Geom.sizeOf ga gd gl) (hN : (N : Int) = pagesOf ga gd gl) {life : UInt64} {l : List X} {q : List (List UInt8) × St} (h : QInv ga gd gl life l n N N q) : Snap.badL q.1 q.2 ga gd gl life N = wants ga gd gl life l N := by
  unfold Snap.badL wants
  congr 1
  apply List.filter_congr
  intro j hj
  rw [h.isPg hn hN (List.mem_range.1 hj)]
theorem QInv.snapR {ga gd gl : Int} {n N : Nat} (hn : (n : Int) = Geom.sizeOf ga gd gl) (hN : (N : Int) = pagesOf ga gd gl) {life : UInt64} {l : List X} {q : List (List UInt8) × St} (h : QInv ga gd gl life l n N N q) :
    ((wants ga gd gl life l N).length = 0 ∧ ∃ r, Snap.snapR q.1 q.2 ga gd gl life N = some r ∧ r.length = N) ∨ (0 < (wants ga gd gl life l N).length ∧ Snap.snapR q.1 q.2 ga gd gl life N = none) := by
  rw [← h.badL hn hN]
  unfold Snap.snapR
  by_cases ha : allPg q.1 q.2 ga gd gl life N = true
  · left
    rw [if_pos ha]
    refine ⟨?_, _, rfl, bodies_len _ _ _ _ _ _ _⟩
    unfold Snap.badL
    unfold allPg at ha
    rw [List.all_eq_true] at ha
    rw [List.filter_eq_nil_iff.2 (fun k hk => by rw [ha k hk]; simp)]
    rfl
  · right
    rw [if_neg ha]
    refine ⟨?_, rfl⟩
    have ha' : allPg q.1 q.2 ga gd gl life N = false := by simpa using ha
    unfold allPg at ha'
    rw [List.all_eq_false] at ha'
    obtain ⟨k, hk, hp⟩ := ha'
    unfold Snap.badL
    rw [List.length_map]
    exact List.length_pos_of_mem (List.mem_filter.2 ⟨hk, by simpa using hp⟩)
end Go.Proofs.Ytmpmibcdpkolkaa.Snap

/- For the law on what is read of any sectors: the reference's test, a row that grows beside a disk. -/
namespace Go.Proofs.Ytmpmibcdpkolkaa
open Go.RowKit
set_option linter.unusedVariables false
theorem Here.row {w0 w w' : World} {g : Nat} {fp : List Nat} {s : Disk.St} {gS bS : Nat} {l : List (List UInt8)} {row : Option Nat} (h : Here w0 w g fp s gS bS l) (hg : w.grownBy w' row) (hr : ∀ r, row = some r → w0.heap.size ≤ r ∧ r ∉ gS :: bS :: fp) : Here w0 w' g fp s gS bS l := by
  have k : Keep row.toList w w' := Keep.of_grown hg (fun g e => by simp [e])
  have hn : ∀ r ∈ row.toList, w0.heap.size ≤ r ∧ r ∉ gS :: bS :: fp := fun r hr' => hr r (by simpa using hr')
  refine ⟨⟨h.both.disk.keep k (fun j hj e => (hn j e).2 (by simp [hj])), h.both.sym.keepK k (fun e => (hn _ e).2 (by simp)) (fun e => (hn _ e).2 (by simp)), h.both.nS, h.both.nB⟩, h.bel.grown hg h.bel.size (fun g e => (hr g e).1), h.own⟩
theorem Blk.row {w w' : World} {b : Nat} {xs : List Value} {row : Option Nat} (h : Blk w b xs) (hg : w.grownBy w' row) (hr : ∀ r, row = some r → r ≠ b) : Blk w' b xs := h.elim fun t hh => ⟨t, (hg.block b (lt_of_block hh) (fun e => hr b e.symm rfl)).trans hh⟩
end Go.Proofs.Ytmpmibcdpkolkaa
namespace Go.Proofs.Ytmpmibcdpkolkaa.Snap
open Go.RowKit
open Go.Proofs.Ytmpmibcdpkolkaa.Sec (X five5x)
set_option linter.unusedVariables false
set_option maxRecDepth 100000
set_option maxHeartbeats 1000000 in
theorem ris_any (x : X) (A : Option Addr) (c : Nat) (k : Nat) (life : UInt64) (w : World) :
    Calls Try.prog 47 #[.int .u64 (life.toNat : Int), .int .i64 (k : Int), .agg #[.int .i64 x.kind, .int .u64 (x.life.toNat : Int), .int .i64 x.seq, .int .u64 (x.gen.toNat : Int), .slice A x.body.length c]] w fun e w' => e = .returned (.bool (isX life k x)) ∧ Below w.heap.size w w' := by
  have b0 := b1alloc w (.cells ([.int .i64 x.kind, .int .u64 (x.life.toNat : Int), .int .i64 x.seq, .int .u64 (x.gen.toNat : Int), .slice A x.body.length c] : List Value).toArray 49)
  have hX := Blk.new w [.int .i64 x.kind, .int .u64 (x.life.toNat : Int), .int .i64 x.seq, .int .u64 (x.gen.toNat : Int), .slice A x.body.length c] 49
  obtain ⟨x0, x1, x2, x3, x4⟩ := five5x hX
  by_cases e1 : x.kind = 3
  rotate_left
  · have hn := Lib.hid (show isX life k x = false by simp [isX, e1])
    have t1 := beq_no e1
    clear e1
    go_enter Try.func47, Try.ntmps47
    go_wp2
    go_ret
    exact ⟨ret_bool hn.out.symm, b0⟩
  have t1 := beq_yes e1
  by_cases e2 : x.life = life
  rotate_left
  · have hn := Lib.hid (show isX life k x = false by simp [isX, e2])
    have t2 := beq_no (show (x.life.toNat : Int) ≠ (life.toNat : Int) from fun e => e2 (UInt64.toNat_inj.1 (by omega)))
    clear e1 e2
    go_enter Try.func47, Try.ntmps47
    go_wp2
    go_ret
    exact ⟨ret_bool hn.out.symm, b0⟩
  have t2 := beq_yes (show (x.life.toNat : Int) = (life.toNat : Int) by rw [e2])
  by_cases e3 : x.seq = (k : Int)
  rotate_left
  · have hn := Lib.hid (show isX life k x = false by simp [isX, e3])
    have t3 := beq_no e3
    clear e1 e2 e3
    go_enter Try.func47, Try.ntmps47
    go_wp2
    go_ret
    exact ⟨ret_bool hn.out.symm, b0⟩
  have t3 := beq_yes e3
  by_cases e4 : x.gen = 0
  · have hn := Lib.hid (show isX life k x = true by simp [isX, e1, e2, e3, e4])
    have t4 := beq_yes (show (x.gen.toNat : Int) = 0 by rw [e4]; rfl)
    clear e1 e2 e3 e4
    go_enter Try.func47, Try.ntmps47
    go_wp2
    go_ret
    exact ⟨ret_bool hn.out.symm, b0⟩
  · have hn := Lib.hid (show isX life k x = false by simp [isX, e4])
    have t4 := beq_no (show (x.gen.toNat : Int) ≠ 0 from fun e => e4 (UInt64.toNat_inj.1 (by rw [show (0 : UInt64).toNat = 0 from rfl]; omega)))
    clear e1 e2 e3 e4
    go_enter Try.func47, Try.ntmps47
    go_wp2
    go_ret
    exact ⟨ret_bool hn.out.symm, b0⟩
end Go.Proofs.Ytmpmibcdpkolkaa.Snap

/- The laws of the log: what a log beside a disk keeps. No statement is proved here. -/
namespace Go.Proofs.Ytmpmibcdpkolkaa.Wal
open Go.RowKit
open Go.Proofs.Ytmpmibcdpkolkaa.Geom
open Go.Proofs.Ytmpmibcdpkolkaa.Sup (Gb gv gcell gthree UpN)
open Go.Proofs.Ytmpmibcdpkolkaa.Disk (St DAt)
open Go.Proofs.Ytmpmibcdpkolkaa.Sec (X)
set_option linter.unusedVariables false
theorem HereL.turn2 {w0 w w' : World} {g : Nat} {fp : List Nat} {s s' : St} {gS bS : Nat} {l l' : List (List UInt8)} {L : Nat} {ga gd gl : Int} {life : UInt64} {base : Int} {seq seq' : Nat} (h : HereL w0 w g fp s gS bS l L ga gd gl life base seq) (t : WTurn w g fp gS bS L ga gd gl life base s' l' seq' w') : ∃ fp', HereL w0 w' g fp' s' gS bS l' L ga gd gl life base seq' ∧ Keep (L :: bS :: fp) w w' ∧ Fresh w fp fp' := by
  obtain ⟨fp', b, k, f, la⟩ := t
  refine ⟨fp', ⟨b, h.bel.trans (k.below h.own h.bel.size), fun j hj => ?_, la, fun hj => ?_⟩, k, f⟩
  · rcases List.mem_cons.1 hj with e | hj
    · exact h.own j (by rw [e]; simp)
    rcases List.mem_cons.1 hj with e | hj
    · exact h.own j (by rw [e]; simp)
    · exact f.ge (fun i hi => h.own i (by simp [hi])) h.bel.size j hj
  · rcases List.mem_cons.1 hj with e | hj
    · exact h.nL (by rw [e]; simp)
    rcases List.mem_cons.1 hj with e | hj
    · exact h.nL (by rw [e]; simp)
    · exact f.out h.lat.lt (fun e => h.nL (by simp [e])) hj
theorem HereL.row {w0 w w' : World} {g : Nat} {fp : List Nat} {s : St} {gS bS : Nat} {l : List (List UInt8)} {L : Nat} {ga gd gl : Int} {life : UInt64} {base : Int} {seq : Nat} {row : Option Nat} (h : HereL w0 w g fp s gS bS l L ga gd gl life base seq) (hg : w.grownBy w' row) (hr : ∀ r, row = some r → w0.heap.size ≤ r ∧ r ∉ gS :: bS :: fp ∧ r ≠ L) : HereL w0 w' g fp s gS bS l L ga gd gl life base seq := by
  have h1 := h.here.row hg (fun r e => ⟨(hr r e).1, (hr r e).2.1⟩)
  exact ⟨h1.both, h1.bel, h.own, h.lat.grown hg (fun e => (hr L e.symm).2.2 rfl), h.nL⟩
theorem append_no (L g gS : Nat) (ga gd gl : Int) (life : UInt64) (base : Int) (seq : Nat) (Q : Nat → Prop) (A : Option Addr) (l : List Pg) (c : Nat) (gen : UInt64) (w : World) (hG : Gb ga gd gl) (hL : LAt w L g gS ga gd gl life base seq) (hr : Pgs w Q A l) (hcl : l.length ≤ 1000000) (hs : seq ≤ 100000) (hg : 0 ≤ gl) (hg1 : gl ≤ 100000) (hf : whyF ga gd gl seq l ≠ 0) :
    Calls Try.prog 59 #[.pointer (some ⟨L, 0, none⟩), .slice A l.length c, .int .u64 (gen.toNat : Int)] w fun e w' => e = .returned (.int .i64 (whyF ga gd gl seq l)) ∧ Below w.heap.size w w' := by
  unfold whyF at hf ⊢
  by_cases hb : badB ga gd gl l = true
  · rw [if_pos hb]; exact append_bad L g gS ga gd gl life base seq Q A l c gen w hG hL hr hcl hb
  · have hb' : badB ga gd gl l = false := by simpa using hb
    rw [if_neg hb] at hf ⊢
    by_cases h1 : fitsB ga gd gl l.length = false
    · rw [if_pos h1]; exact append_big L g gS ga gd gl life base seq Q A l c gen w hG hL hr hcl hb' h1
    · have h1' : fitsB ga gd gl l.length = true := by simpa using h1
      rw [if_neg h1] at hf ⊢
      by_cases h2 : gl - (seq : Int) ≤ (l.length : Int)
      · rw [if_pos h2]; exact append_full L g gS ga gd gl life base seq Q A l c gen w hG hL hr hcl hb' h1' hs hg hg1 h2
      · rw [if_neg h2] at hf; exact absurd rfl hf
theorem whyF_zero {ga gd gl : Int} {seq : Nat} {l : List Pg} (h : whyF ga gd gl seq l = 0) : badB ga gd gl l = false ∧ fitsB ga gd gl l.length = true ∧ (seq : Int) + l.length < gl := by
  unfold whyF at h
  split at h
  · cases h
  · rename_i hb
    split at h
    · cases h
    · rename_i hf
      split at h
      · cases h
      · exact ⟨by simpa using hb, by simpa using hf, by omega⟩
/-- what the laws know of a log between two appends -/
structure AInv (ga gd gl base : Int) (life : UInt64) (n : Nat) (l : List Tx) (k : Nat) (ts : List Tx) (sm : List (List UInt8)) (st : St) : Prop where
  log : LogIs ga gd gl base n sm st (allSecs life 0 ts)
  len : ((allSecs life 0 ts).length : Int) ≤ gl
  bad : ∀ t ∈ ts, badB ga gd gl t.pages = false
  of_ : ∀ t ∈ ts, t ∈ l
  num : ts.length ≤ k
  sums : sm.length ≤ 100 * k
  size : st.sz ≤ 1000 * k
theorem AInv.start (ga gd gl base : Int) (life : UInt64) (n : Nat) (l : List Tx) (hg : 0 ≤ gl) : AInv ga gd gl base life n l 0 [] [] (Disk.new n) :=
  ⟨LogIs.new ga gd gl base n, by simpa [allSecs] using hg, fun t h => (by cases h), fun t h => (by cases h), Nat.le_refl _, by simp, Nat.le_refl _⟩
theorem AInv.more {ga gd gl base : Int} {life : UInt64} {n : Nat} {l : List Tx} {k : Nat} {ts : List Tx} {sm : List (List UInt8)} {st : St} (h : AInv ga gd gl base life n l k ts sm st) : AInv ga gd gl base life n l (k + 1) ts sm st :=
  ⟨h.log, h.len, h.bad, h.of_, by have := h.num; omega, by have := h.sums; omega, by have := h.size; omega⟩
theorem AInv.append {ga gd gl base : Int} {life : UInt64} {n : Nat} {l : List Tx} {k : Nat} {ts : List Tx} {sm : List (List UInt8)} {st : St} {t : Tx} (h : AInv ga gd gl base life n l k ts sm st) (hr : right ga gd gl = true) (hb : 0 ≤ base) (hn : (n : Int) = Geom.sizeOf ga gd gl) (hw : whyF ga gd gl (allSecs life 0 ts).length t.pages = 0) (ht : t ∈ l) :
    (putF ga gd gl base life (allSecs life 0 ts).length t.gen t.pages sm st).2.2 = 0 ∧
      AInv ga gd gl base life n l (k + 1) (ts ++ [t]) (putF ga gd gl base life (allSecs life 0 ts).length t.gen t.pages sm st).1 (putF ga gd gl base life (allSecs life 0 ts).length t.gen t.pages sm st).2.1 ∧
      (allSecs life 0 (ts ++ [t])).length = (allSecs life 0 ts).length + (t.pages.length + 1) ∧
      (putF ga gd gl base life (allSecs life 0 ts).length t.gen t.pages sm st).2.1.calls = st.calls + (t.pages.length + 3) := by
  obtain ⟨w1, w2, w3⟩ := whyF_zero hw
  obtain ⟨r, hl⟩ := h.log.append (t := t) (life := life) hr hb hn w3 w1
  obtain ⟨c1, c2, c3⟩ := h.log.calls (t := t) (life := life) hr hb hn w3 w1
  have hy := right_yes hr
  have hs := allSecs_snoc life ts 0 t
  rw [Nat.zero_add] at hs
  have hlen : (allSecs life 0 (ts ++ [t])).length = (allSecs life 0 ts).length + (t.pages.length + 1) := by rw [hs, List.length_append, tSecs_len]
  refine ⟨r, ⟨by rw [hs]; exact hl, by rw [hlen]; omega, fun u hu => ?_, fun u hu => ?_, by have := h.num; simp; omega, by have := h.sums; omega, by have := h.size; omega⟩, hlen, c1⟩
  · rcases List.mem_append.1 hu with hu | hu
    · exact h.bad u hu
    · rw [List.mem_singleton] at hu; rw [hu]; exact w1
  · rcases List.mem_append.1 hu with hu | hu
    · exact h.of_ u hu
    · rw [List.mem_singleton] at hu; rw [hu]; exact ht
/-- what is read back at a place of the log -/
theorem AInv.dec {ga gd gl base : Int} {life : UInt64} {n : Nat} {l : List Tx} {k : Nat} {ts : List Tx} {sm : List (List UInt8)} {st : St} (h : AInv ga gd gl base life n l k ts sm st) (hr : right ga gd gl = true) (hb : 0 ≤ base) (hn : (n : Int) = Geom.sizeOf ga gd gl) (j : Nat) (hj : j < (allSecs life 0 ts).length) :
    (Disk.keptAt st (pl ga gd gl base j)).length = 512 ∧ Sec.decode (Sec.ckS sm (Disk.keptAt st (pl ga gd gl base j))) (pl ga gd gl base j) (Disk.keptAt st (pl ga gd gl base j)) = ((allSecs life 0 ts)[j], 0) := by
  have p := pl_bd hr hb hn j
  have hk : Disk.keptAt st (pl ga gd gl base j) = Disk.kept st.all (pl ga gd gl base j).toNat := by unfold Disk.keptAt; rw [if_neg (by rw [h.log.up.size]; omega)]
  have hg := h.log.good j hj
  rw [hk]
  exact ⟨hg.len, hg.dec⟩
theorem AInv.scan {ga gd gl base : Int} {life : UInt64} {n : Nat} {l : List Tx} {k : Nat} {ts : List Tx} {sm : List (List UInt8)} {st : St} (h : AInv ga gd gl base life n l k ts sm st) (hr : right ga gd gl = true) (hb : 0 ≤ base) (hn : (n : Int) = Geom.sizeOf ga gd gl) : scanTx sm st ga gd gl base life = ts :=
  h.log.scan hr hb hn h.len (fun t ht x hx => by
    obtain ⟨j, hj, rfl⟩ := List.mem_iff_getElem.1 hx
    have := badB_of (h.bad t ht) hj
    exact ⟨this.1, this.2.1⟩)
end Go.Proofs.Ytmpmibcdpkolkaa.Wal

/- The log: what can not be scanned; the laws' turning of transactions. No statement is proved here. -/
namespace Go.Proofs.Ytmpmibcdpkolkaa.Wal
open Go.RowKit
open Go.Proofs.Ytmpmibcdpkolkaa.Geom
open Go.Proofs.Ytmpmibcdpkolkaa.Sup (Gb gv gcell gthree)
open Go.Proofs.Ytmpmibcdpkolkaa.Disk (St DAt)
set_option linter.unusedVariables false
set_option maxRecDepth 100000
attribute [local irreducible] wpQuiet
theorem scan_wrong (g : Nat) (fp : List Nat) (s : St) (gS : Nat) (ga gd gl : Int) (life : UInt64) (base : Int) (w : World) (hG : Gb ga gd gl) (h : DAt w g fp s) (hf : wrightF s ga gd gl base ≠ 0) :
    Calls Try.prog 50 #[.pointer (some ⟨g, 0, none⟩), .pointer (some ⟨gS, 0, none⟩), gv ga gd gl, .int .u64 (life.toNat : Int), .int .i64 base] w fun e w' => e = .returned (.tuple #[.slice none 0 0, .int .i64 (wrightF s ga gd gl base)]) ∧ Below w.heap.size w w' := by
  have b0 := b2alloc w (.cells (gcell ga gd gl).toArray 23) (.cells (rcell (.pointer (some ⟨g, 0, none⟩)) (.pointer (some ⟨gS, 0, none⟩)) ga gd gl life base).toArray 160)
  obtain ⟨z0, z1, z2⟩ := gthree (Blk.new w (gcell ga gd gl) 23)
  have HB := Lib.hid (fun W (bW : Below w.heap.size w W) => right_any g fp s gS ga gd gl life base W hG (h.on bW))
  obtain ⟨f, hf0⟩ : ∃ f, f = wrightF s ga gd gl base := ⟨_, rfl⟩
  rw [← hf0] at HB hf ⊢
  have t0 := bne_yes hf
  clear hf0
  go_enter Try.func50, Try.ntmps50
  go_wp2_with fail
  refine wp_scope_straight ?_
  go_wp2_with (go_at_call 100; refine (HB.out _ b0).mono ?_; rintro e w1 ⟨rfl, b1⟩)
  rw [Exit.noGoto_ret]
  go_ret2
  exact ⟨rfl, bt b0 b1⟩
theorem scanS_nil (g : Nat) (ga gd gl : Int) (life : UInt64) (base : Int) (w : World) :
    Calls Try.prog 50 #[.pointer (some ⟨g, 0, none⟩), .pointer none, gv ga gd gl, .int .u64 (life.toNat : Int), .int .i64 base] w fun e w' => e = .returned (.tuple #[.slice none 0 0, .int .i64 1]) ∧ Below w.heap.size w w' := by
  have b0 := b2alloc w (.cells (gcell ga gd gl).toArray 23) (.cells (rcell (.pointer (some ⟨g, 0, none⟩)) (.pointer none) ga gd gl life base).toArray 160)
  obtain ⟨z0, z1, z2⟩ := gthree (Blk.new w (gcell ga gd gl) 23)
  go_enter Try.func50, Try.ntmps50
  go_wp2_with fail
  refine wp_scope_straight ?_
  go_wp2_with (go_at_call 100; refine (rightS_nil g ga gd gl life base _).mono ?_; rintro e w1 ⟨rfl, b1⟩)
  rw [Exit.noGoto_ret]
  go_ret2
  exact ⟨rfl, bt b0 b1⟩
theorem infoRT1 : (Try.prog.info? 104).map (fun i => (i.zero, i.size, i.bytes)) = some (some (.agg #[.slice none 0 0, .int .u64 0]), 2, 32) := by kernel_rfl
theorem alloc_drew3 (w : World) (o : Obj) : Below w.heap.size w (w.alloc o).drew := ⟨(b1alloc w o).os, (b1alloc w o).tape, (b1alloc w o).output, (b1alloc w o).size, (b1alloc w o).block⟩
/-- one that is turned: where its pages lie -/
structure Er where
  A : Option Addr
  c : Nat
  x : Tx
def Er.cells (e : Er) : List Value := [.slice e.A e.x.pages.length e.c, .int .u64 (e.x.gen.toNat : Int)]
structure ErOk (w : World) (Q : Nat → Prop) (e : Er) : Prop where
  pgs : Pgs w Q e.A e.x.pages
  cap : e.x.pages.length ≤ e.c
  max : e.c ≤ maxLen
theorem ErOk.on {w w' : World} {Q : Nat → Prop} {e : Er} (h : ErOk w Q e) (b : Below w.heap.size w w') : ErOk w' Q e := ⟨h.pgs.on b, h.cap, h.max⟩
theorem er_txs {w w' : World} {Q : Nat → Prop} {A : Option Addr} {l : List Tx} {c : Nat} {es : List Er} (hr : w'.ownsRow w.heap.size 104 2 (.slice A l.length c) l.length (es.flatMap Er.cells)) (he : es.map Er.x = l) (hok : ∀ e ∈ es, ErOk w Q e) (b : Below w.heap.size w w') :
    Txs w' (fun _ => True) A l := by
  have hll : es.length = l.length := by rw [← he]; simp
  intro hne
  have hp : 0 < l.length := by cases l; exact absurd rfl hne; simp
  obtain ⟨g, c', e, hg⟩ := own_some hr (by omega)
  injection e with e1 e2 e3
  subst e1
  obtain ⟨cs, hcs⟩ := Disk.own_blk hr
  refine ⟨g, 0, rfl, lt_of_block hcs, trivial, fun i hi => ?_⟩
  have hi' : i < es.length := by omega
  have hk := (hok _ (List.getElem_mem hi')).on b
  have c0 := own_cell2 (f := Er.cells) (fun _ => rfl) hr i hi' 0 (by omega)
  have c1 := own_cell2 (f := Er.cells) (fun _ => rfl) hr i hi' 1 (by omega)
  have hx : l[i] = es[i].x := by
    have : l[i]? = (es.map Er.x)[i]? := by rw [he]
    rw [List.getElem?_map, List.getElem?_eq_getElem hi, List.getElem?_eq_getElem hi'] at this
    simpa using this
  refine ⟨es[i].A, es[i].c, ?_⟩
  rw [Nat.zero_add, hx]
  exact ⟨by simpa [Er.cells] using c0, by simpa [Er.cells] using c1, hk.pgs.imp (fun _ _ _ => trivial), hk.cap, hk.max⟩
set_option maxHeartbeats 2000000 in
theorem of_any (Q : Nat → Prop) (A : Option Addr) (l : List Tx) (c : Nat) (w : World) (hr : Txs w Q A l) (hl : l.length ≤ 100000) :
    Calls Try.prog 52 #[.slice A l.length c] w fun e w' => (∃ A' c', e = .returned (.slice A' l.length c') ∧ Txs w' (fun _ => True) A' l ∧ l.length ≤ c' ∧ c' ≤ maxLen) ∧ Below w.heap.size w w' := by
  obtain ⟨i0, hi0, hz0, hz1, hz2⟩ := info_parts infoRT1
  obtain ⟨N, hN⟩ : ∃ N, N = l.length := ⟨_, rfl⟩
  rw [← hN]
  have HN := Lib.hid hN
  have HR := Lib.hid hr
  have hl' : N ≤ 100000 := by omega
  clear hN hr hl
  go_enter Try.func52, Try.ntmps52
  go_wp2_with fail
  go_loopw [3, 4] (fun o i wr => ∃ k : Nat, k ≤ N ∧ i = .int .i64 (k : Int) ∧ Below w.heap.size w wr ∧ ∃ es : List Er, wr.ownsRow w.heap.size 104 2 o k (es.flatMap Er.cells) ∧ Hid (es.map Er.x = l.take k ∧ ∀ e ∈ es, ErOk w Q e)) (fun _ i _ => N - (intOf i).toNat)
  case atStart => exact ⟨0, by omega, rfl, Below.refl _ _, [], own_nil _ _ _ _, Lib.hid ⟨by simp, fun e h => by cases h⟩⟩
  case round =>
    obtain ⟨k, hk, rfl, bel, es, hown, hes⟩ := hrel
    obtain ⟨Ao, co, rfl⟩ := own_form hown
    by_cases hlt : k < N
    · have hll : k < l.length := by have := HN.out; omega
      have hkm : (k : Int) < (N : Int) := by omega
      have hge : ¬ (N : Int) ≤ (k : Int) := by omega
      have htk : l.take (k + 1) = l.take k ++ [l[k]] := List.take_succ_eq_append_getElem hll
      obtain ⟨b, off, Ai, ci, rfl, hb, hT⟩ := HR.out.get hll
      obtain ⟨x, hx⟩ : ∃ x, x = l[k] := ⟨_, rfl⟩
      rw [← hx] at hT htk
      have c0 := (bel.cell (p := ⟨b, off + k * 2, none⟩) hb).trans hT.c0
      have c1 := (bel.cell (p := ⟨b, off + k * 2 + 1, none⟩) hb).trans hT.c1
      have hb1 : b < wr.heap.size := by have := bel.size; omega
      have Hok := Lib.hid (show ErOk w Q ⟨Ai, ci, x⟩ from ⟨hT.pgs, hT.cap, hT.max⟩)
      have Htk := Lib.hid htk
      have Hb1 := Lib.hid (show k + 1 ≤ maxLen ∧ (k + 1) * 32 ≤ 140737488355328 from ⟨by simp only [maxLen]; omega, by omega⟩)
      clear hT htk hx hb
      go_upto_region 5 with (fail)
      go_region_law ((refine Disk.step_append_rd _ (by rfl) _ _ _ (by rfl) w.heap.size 104 i0 _ 2 32 Try.underlying92 hi0 hz0 hz1 hz2 rfl (by omega) (.slice Ao k co) k (es.flatMap Er.cells) (by rfl) ?_ _ 1 1 [.slice Ai x.pages.length ci, .int .u64 (x.gen.toNat : Int)] (by rfl) (by rfl) ?_ (by simp [Value.oneCell']) Hb1.out.1 Hb1.out.2 (Nat.le_trans bel.size (b1alloc wr _).size) ?_); (· exact hown.alloc _); (· exact Rd.lit _ _ _ _ _ rfl (by simp)); intro v3 w3 own3 hg3 hat3)
      all_goals
        have hbl := Lib.hid (show Below w.heap.size w w3 from (bel.trans ((alloc_drew3 wr _).mono bel.size)).grown hg3 (Nat.le_trans bel.size (b1alloc wr _).size) (fun g hg => own_block hown hg))
        have hfin := Lib.hid (show w3.ownsRow w.heap.size 104 2 v3 (k + 1) ((es ++ [(⟨Ai, ci, x⟩ : Er)]).flatMap Er.cells) by simpa [Er.cells] using own3)
        have hes2 := Lib.hid (show (es ++ [(⟨Ai, ci, x⟩ : Er)]).map Er.x = l.take (k + 1) ∧ ∀ e ∈ es ++ [(⟨Ai, ci, x⟩ : Er)], ErOk w Q e from ⟨by rw [List.map_append, hes.out.1, Htk.out]; rfl, fun e he => (List.mem_append.1 he).elim (hes.out.2 e) (fun he => by rw [List.mem_singleton] at he; rw [he]; exact Hok.out)⟩)
        clear own3 hat3 hg3 hown
        go_wp2
        refine ⟨⟨k + 1, by omega, by go_num, hbl.out, es ++ [⟨Ai, ci, x⟩], hfin.out, Lib.hid hes2.out⟩, by simp only [intOf]; omega⟩
    · have hkN : k = N := by omega
      have hkn : ¬ (k : Int) < (N : Int) := by omega
      have Hk := Lib.hid hkN
      clear hkN
      go_wp2
      go_ret
      have hkl : k = l.length := Hk.out.trans HN.out
      have he := hes.out.1
      rw [hkl, List.take_length] at he
      have hown' := hown
      rw [hkl] at hown'
      have hcp := Disk.own_caps hown'
      refine ⟨⟨Ao, co, by rw [Hk.out]; rfl, er_txs hown' he hes.out.2 bel, by rw [HN.out]; exact hcp.1, hcp.2⟩, bel⟩
end Go.Proofs.Ytmpmibcdpkolkaa.Wal

/- Rows of transactions ([]Txn of the document): how they come in as an argument. No statement is proved here. -/
namespace Go.Proofs.Ytmpmibcdpkolkaa
open Go.RowKit
open Go.ChangeShapes Go.WideShapes Go.ChangeAt Go.Joins Go.Deep
set_option linter.unusedVariables false
set_option maxRecDepth 100000
theorem pages_of1 {v : Value} {H : Type} {enc : TypeId × Value → H} {w : World} {held : Bool} {fuel : Nat} {x : DataW H × List MemPlace}
    (h : DataW.trod enc Try.prog w 0 (fun _ => true) held fuel 102 [v] = some x) :
    ∃ (A : Option Addr) (l : List Pg) (c : Nat), v = .slice A l.length c ∧ Pgs w (fun j => j < w.heap.size) A l ∧ l.length ≤ c ∧ c ≤ maxLen := by
  rcases open_slice_fields Try.underlying102 Try.underlying157 (by kernel_rfl) (by kernel_rfl) h with hcs | ⟨a, l', c', m, hcs, _, hl, hm, hmm, hi⟩
  · simp only [List.cons.injEq, and_true] at hcs
    subst hcs
    exact ⟨none, [], 0, rfl, Pgs.nil _ _ _, by simp, by unfold maxLen; omega⟩
  · simp only [List.cons.injEq, and_true] at hcs
    subst hcs
    simp only [if_true] at hmm
    subst hmm
    have key : ∀ i, i < l' → ∃ f : Pg, ∃ b off, a = ⟨b, off, none⟩ ∧ b < w.heap.size ∧ ∃ Ai ci, PgAt w (fun j => j < w.heap.size) b (off + i * 2) f Ai ci := by
      intro i hil
      obtain ⟨ys, n, hf⟩ := hi i (by omega)
      obtain ⟨v0, y0, c0, _, t0⟩ := hf 0 _ rfl
      obtain ⟨v1, y1, c1, _, t1⟩ := hf 1 _ rfl
      obtain ⟨k, e0, _, wk⟩ := DataW.trod_int Try.underlying3 t0
      obtain ⟨A4, l4, c4', e4, r4, q4, m4⟩ := bytes_of1 Try.underlying37 Try.underlying5 (by kernel_rfl) t1
      simp only [List.cons.injEq, and_true] at e0
      subst e0 e4
      obtain ⟨b, off, spot⟩ := a
      have hspot : spot = none := by
        obtain ⟨_, _, hf0⟩ := hi 0 (by omega)
        obtain ⟨_, _, c00, _, _⟩ := hf0 0 _ rfl
        exact World.cell?_spot c00
      subst hspot
      rw [Addr.add_lit] at c0 c1
      have hb : b < w.heap.size := by
        rcases Nat.lt_or_ge b w.heap.size with h | h
        · exact h
        · simp [World.cell?, Array.getElem?_eq_none h] at c0
      exact ⟨⟨k, l4⟩, b, off, rfl, hb, A4, c4', c0, c1, r4.q (Nat.le_refl _), q4, m4, (wfi wk).1, (wfi wk).2⟩
    obtain ⟨l, hll, hp⟩ := choose_list key
    subst hll
    refine ⟨some a, l, m, rfl, fun hne => ?_, hl, hm⟩
    have hpos : 0 < l.length := by cases l; exact absurd rfl hne; simp
    obtain ⟨b, off, rfl, hb, _⟩ := hp 0 hpos
    refine ⟨b, off, rfl, hb, hb, fun i hi => ?_⟩
    obtain ⟨b', off', e, _, h2⟩ := hp i hi
    injection e with e1 e2 _
    subst e1 e2
    exact h2
theorem txns_of {A : Option Addr} {len cap : Nat} {H : Type} {enc : TypeId × Value → H} {w : World} {held : Bool} {fuel : Nat} {x : DataW H × List MemPlace}
    (h : DataW.trod enc Try.prog w 0 (fun _ => true) held fuel 92 (Value.slice A len cap).cells.toList = some x) :
    ∃ l : List Wal.Tx, l.length = len ∧ Wal.Txs w (fun j => j < w.heap.size) A l ∧ len ≤ cap ∧ cap ≤ maxLen := by
  rcases open_slice_fields Try.underlying92 Try.underlying104 (by kernel_rfl) (by kernel_rfl) h with hcs | ⟨a, l', c', m, hcs, _, hl, hm, hmm, hi⟩
  · simp [Value.cells] at hcs
    obtain ⟨rfl, rfl, rfl⟩ := hcs
    exact ⟨[], rfl, fun h => absurd rfl h, by omega, by unfold maxLen; omega⟩
  · simp [Value.cells] at hcs
    obtain ⟨rfl, rfl, rfl⟩ := hcs
    simp only [if_true] at hmm
    subst hmm
    have key : ∀ i, i < len → ∃ f : Wal.Tx, ∃ b off, a = ⟨b, off, none⟩ ∧ b < w.heap.size ∧ ∃ Ai ci, Wal.TxAt w (fun j => j < w.heap.size) b (off + i * 2) f Ai ci := by
      intro i hil
      obtain ⟨ys, n, hf⟩ := hi i (by omega)
      obtain ⟨v0, y0, c0, _, t0⟩ := hf 0 _ rfl
      obtain ⟨v1, y1, c1, _, t1⟩ := hf 1 _ rfl
      obtain ⟨A4, l4, c4', e4, r4, q4, m4⟩ := pages_of1 t0
      obtain ⟨u1, e1, _, w1⟩ := DataW.trod_int Try.underlying24 t1
      simp only [List.cons.injEq, and_true] at e1
      subst e1 e4
      obtain ⟨u1', rfl⟩ := wf64 w1
      obtain ⟨b, off, spot⟩ := a
      have hspot : spot = none := by
        obtain ⟨_, _, hf0⟩ := hi 0 (by omega)
        obtain ⟨_, _, c00, _, _⟩ := hf0 0 _ rfl
        exact World.cell?_spot c00
      subst hspot
      rw [Addr.add_lit] at c0 c1
      have hb : b < w.heap.size := by
        rcases Nat.lt_or_ge b w.heap.size with h | h
        · exact h
        · simp [World.cell?, Array.getElem?_eq_none h] at c0
      exact ⟨⟨l4, u1'⟩, b, off, rfl, hb, A4, c4', c0, c1, r4, q4, m4⟩
    obtain ⟨l, hll, hp⟩ := choose_list key
    refine ⟨l, hll, fun hne => ?_, hl, hm⟩
    have hpos : 0 < l.length := by cases l; exact absurd rfl hne; simp
    obtain ⟨b, off, rfl, hb, _⟩ := hp 0 hpos
    refine ⟨b, off, rfl, hb, hb, fun i hi => ?_⟩
    obtain ⟨b', off', e, _, h2⟩ := hp i hi
    injection e with e1 e2 _
    subst e1 e2
    exact h2
end Go.Proofs.Ytmpmibcdpkolkaa
