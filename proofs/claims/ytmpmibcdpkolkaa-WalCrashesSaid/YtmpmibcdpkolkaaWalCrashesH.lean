/- Texts of this claim, joined: WalRf2, WalRf4, SupL2, SnapRd, SnapL2, WalCalls, WalL2, WalCrP, WalCrS, Wal11, WalL3, OpenTxns. -/
import Derived.Test.YtmpmibcdpkolkaaWalCrashesG
import Derived.Deep.RegionLaw
import Derived.Test.YtmpmibcdpkolkaaWalCrashesF
/- The log: what the document scans. No statement is proved here. -/
namespace Go.Proofs.Ytmpmibcdpkolkaa.Wal
open Go.RowKit
open Go.Proofs.Ytmpmibcdpkolkaa.Sec (X X0)
set_option linter.unusedVariables false
set_option maxRecDepth 100000
attribute [local irreducible] wpQuiet
def goodR (life : UInt64) (l : List X) (k : Nat) : Bool := decide ((l.getD k X0).life = life) && decide ((l.getD k X0).seq = (k : Int))
/-- what the document scans -/
def rscanF (np : Int) (life : UInt64) (l : List X) : List Tx := (scanH np (fun k => l.getD k X0) (goodR life l) l.length 0 r00).all
/-- transactions come back -/
def RetTx (w : World) (R : List Tx) (e : Ending) (w' : World) : Prop := (∃ A c, e = .returned (.slice A R.length c) ∧ Txs w' (fun _ => True) A R ∧ R.length ≤ c ∧ c ≤ maxLen) ∧ Below w.heap.size w w'
theorem five5q {w : World} {g : Nat} {v0 v1 v2 v3 v4 : Value} (h : Blk w g [v0, v1, v2, v3, v4]) : w.cell? ⟨g, 0, none⟩ = some v0 ∧ w.cell? ⟨g, 1, none⟩ = some v1 ∧ w.cell? ⟨g, 2, none⟩ = some v2 ∧ w.cell? ⟨g, 3, none⟩ = some v3 ∧ w.cell? ⟨g, 4, none⟩ = some v4 :=
  ⟨h.cell (k := 0) (by simp), h.cell (k := 1) (by simp), h.cell (k := 2) (by simp), h.cell (k := 3) (by simp), h.cell (k := 4) (by simp)⟩
theorem two2q {w : World} {g : Nat} {v0 v1 : Value} (h : Blk w g [v0, v1]) : w.cell? ⟨g, 0, none⟩ = some v0 ∧ w.cell? ⟨g, 1, none⟩ = some v1 := ⟨h.cell (k := 0) (by simp), h.cell (k := 1) (by simp)⟩
theorem infoRT : (Try.prog.info? 104).map (fun i => (i.zero, i.size, i.bytes)) = some (some (.agg #[.slice none 0 0, .int .u64 0]), 2, 32) := by kernel_rfl
theorem infoPg2 : (Try.prog.info? 157).map (fun i => (i.zero, i.size, i.bytes)) = some (some (.agg #[.int .i64 0, .slice none 0 0]), 2, 32) := by kernel_rfl
theorem bt' {n : Nat} {a b c : World} (h : Below n a b) (k : Below n b c) : Below n a c := h.trans k
theorem alloc_drew2 (w : World) (o : Obj) : Below w.heap.size w (w.alloc o).drew := ⟨(b1alloc w o).os, (b1alloc w o).tape, (b1alloc w o).output, (b1alloc w o).size, (b1alloc w o).block⟩
theorem rf_fin {w W : World} {n0 T : Nat} {r : Rg} {A : Option Addr} {n c : Nat} {nowv : Value} {trs : List Tr} {prs : List Pr} {R : List Tx} (h : RfAt W n0 T r (.slice A n c) nowv trs prs) (hR : R = r.all) (b : Below w.heap.size w W) : RetTx w R (.returned (.slice A n c)) W := by
  obtain ⟨e1, e2, e3, e4⟩ := h.txs
  subst hR e1
  exact ⟨⟨A, c, rfl, e2, e3, e4⟩, b⟩
theorem PfOk.tail {w : World} {T b o len ci : Nat} {m : Int} {l : List UInt8} (hr : Rd w T (some ⟨b, o, none⟩) (l.map e8)) (hT : T ≤ w.heap.size) (hn : len = l.length) (hc : len ≤ ci) (hm : ci ≤ maxLen) (h6 : 6 ≤ l.length) (h0 : 0 ≤ m) (h1 : m ≤ 1000000) : PfOk w T ⟨m, if ci = 6 then some ⟨b, o, none⟩ else some ⟨b, o + 6, none⟩, ci - 6, l.drop 6⟩ := by
  subst hn
  refine ⟨?_, by simp; omega, by simp only; omega, h0, h1⟩
  by_cases h : ci = 6
  · have : l.drop 6 = [] := List.drop_eq_nil_of_le (by omega)
    intro hne
    exact absurd (by simp [this]) hne
  · rw [if_neg h]
    have h2 := hr.drop 6
    rw [← List.map_drop] at h2
    exact h2.q hT
set_option maxHeartbeats 4000000 in
theorem rscan_any (A : Option Addr) (l : List X) (c : Nat) (life : UInt64) (np : Int) (w : World) (hr : Secs w w.heap.size A l) (hl : l.length ≤ 1000) (hbl : ∀ x ∈ l, x.body.length ≤ 1000000) (hn0 : 0 ≤ np) (hn1 : np ≤ 100) :
    Calls Try.prog 53 #[.slice A l.length c, .int .u64 (life.toNat : Int), .int .i64 np] w fun e w' => RetTx w (rscanF np life l) e w' := by
  obtain ⟨rd, hrd⟩ : ∃ rd : Nat → X, rd = fun k => l.getD k X0 := ⟨_, rfl⟩
  obtain ⟨good, hgd⟩ : ∃ good, good = goodR life l := ⟨_, rfl⟩
  obtain ⟨N, hN⟩ : ∃ N, N = l.length := ⟨_, rfl⟩
  obtain ⟨R, hR⟩ : ∃ R, R = rscanF np life l := ⟨_, rfl⟩
  rw [← hR]
  have hRR : R = (scanH np rd good N 0 r00).all := by rw [hR, hrd, hgd, hN]; rfl
  have hrdk : ∀ k (h : k < l.length), rd k = l[k] := fun k h => by rw [hrd]; simp [List.getD, h]
  have hgk : ∀ k, good k = (decide ((rd k).life = life) && decide ((rd k).seq = (k : Int))) := fun k => by rw [hgd, hrd]; rfl
  rw [← hN]
  have HRR := Lib.hid hRR
  have Hrk := Lib.hid hrdk
  have Hgk := Lib.hid hgk
  have HN := Lib.hid hN
  have hl' : N ≤ 1000 := by omega
  have HR0 := Lib.hid hr
  have Hbl := Lib.hid hbl
  have hB0 := Blk.new w [.slice none 0 0, .int .u64 0] 104
  have b0 := b1alloc w (.cells ([.slice none 0 0, .int .u64 0] : List Value).toArray 104)
  have h0 : RfAt (w.alloc (.cells #[.slice none 0 0, .int .u64 0] 104)) (w.heap.size + 1) w.heap.size r00 (.slice none 0 0) (.slice none 0 0) [] [] :=
    ⟨hB0, own_nil _ _ _ _, own_nil _ _ _ _, fun t ht => (by cases ht), fun t ht => (by cases ht), rfl, rfl, by omega, by simp⟩
  clear hrd hgd hN hR hRR hrdk hgk hl hr hbl hB0
  go_enter Try.func53, Try.ntmps53
  go_wp2_with fail
  go_loopw [7, 9, 10, 11, 12] (fun o f i v11 v12 wr => ∃ k : Nat, k ≤ N ∧ i = .int .i64 (k : Int) ∧ Below w.heap.size w wr ∧ ∃ r nowv trs prs, f = .int .i64 (r.frm : Int) ∧ RfAt wr (w.heap.size + 1) w.heap.size r o nowv trs prs ∧ trs.length + prs.length ≤ k ∧ r.frm ≤ k ∧ Hid (R = (scanH np rd good (N - k) k r).all)) (fun _ _ i _ _ _ => N - (intOf i).toNat)
  case atStart => exact ⟨0, by omega, rfl, b0, r00, _, [], [], rfl, h0, by simp, Nat.le_refl _, Lib.hid HRR.out⟩
  case round =>
    obtain ⟨k, hk, rfl, bel, r, nowv, trs, prs, rfl, hA, hlen, hfrm, hRk⟩ := hrel
    clear h0 b0
    obtain ⟨Ao, co, rfl⟩ := own_form hA.all
    obtain ⟨An, cn, rfl⟩ := own_form hA.now
    by_cases hlt : k < N
    rotate_left
    · have hkN : k = N := by omega
      have hfin := Lib.hid (show R = r.all by rw [hRk.out, hkN, Nat.sub_self]; rfl)
      have HA := Lib.hid hA
      have hkn : ¬ (k : Int) < (N : Int) := by omega
      clear hkN hA
      go_wp2
      go_ret
      exact rf_fin HA.out hfin.out bel
    have hkm : (k : Int) < (N : Int) := by omega
    have hge : ¬ (N : Int) ≤ (k : Int) := by omega
    have hll : k < l.length := by have := HN.out; omega
    obtain ⟨m1, hm1⟩ : ∃ m1, N - k = m1 + 1 := ⟨N - k - 1, by omega⟩
    have hst : R = (if good k = true then (if (takeF np r k (rd k)).2 = true then scanH np rd good m1 (k + 1) (takeF np r k (rd k)).1 else (takeF np r k (rd k)).1) else r).all := by rw [hRk.out, hm1]; rfl
    have hm2 : N - (k + 1) = m1 := by omega
    obtain ⟨b, off, Ai, ci, rfl, hb, hS⟩ := (HR0.out.below bel).get hll
    have hbx : (rd k).body.length ≤ 1000000 := by rw [Hrk.out k hll]; exact Hbl.out _ (List.getElem_mem hll)
    rw [← Hrk.out k hll] at hS
    have hgk := Hgk.out k
    obtain ⟨x, hx⟩ : ∃ x, x = rd k := ⟨_, rfl⟩
    rw [← hx] at hS hst hbx hgk
    obtain ⟨c0, c1, c2, c3, c4, hrd, hcap, hmax⟩ := hS
    have hbl2 : b < wr.heap.size := by have := bel.size; omega
    have hW := b1alloc wr (.cells #[.int .i64 x.kind, .int .u64 (x.life.toNat : Int), .int .i64 x.seq, .int .u64 (x.gen.toNat : Int), .slice Ai x.body.length ci] 49)
    have hX : Blk (wr.alloc (.cells #[.int .i64 x.kind, .int .u64 (x.life.toNat : Int), .int .i64 x.seq, .int .u64 (x.gen.toNat : Int), .slice Ai x.body.length ci] 49)) wr.heap.size [.int .i64 x.kind, .int .u64 (x.life.toNat : Int), .int .i64 x.seq, .int .u64 (x.gen.toNat : Int), .slice Ai x.body.length ci] := Blk.new wr _ _
    obtain ⟨x0, x1, x2, x3, x4⟩ := five5q hX
    have hA1 := hA.on hW
    obtain ⟨y0, y1⟩ := two2q hA1.blk
    have f0 := hA1.blk.free 0
    have f1 := hA1.blk.free 1
    have hTl := hA1.blk.lt
    have hXl := hX.lt
    have bel1 := bt bel hW
    have HA := Lib.hid hA
    have Hst := Lib.hid hst
    have HX := Lib.hid hX
    have Hm2 := Lib.hid hm2
    have hnl : r.now.length = prs.length := by rw [hA.eN]; simp
    have hnow : r.now ≠ [] ↔ 0 < prs.length := by rw [hA.eN]; simp [List.length_pos_iff]
    have Hb1 := Lib.hid (show trs.length + 1 ≤ maxLen ∧ prs.length + 1 ≤ maxLen ∧ (trs.length + 1) * 32 ≤ 140737488355328 ∧ (prs.length + 1) * 32 ≤ 140737488355328 from ⟨by simp only [maxLen]; omega, by simp only [maxLen]; omega, by omega, by omega⟩)
    clear hA hX hst hm1 hm2 hx hA1
    -- the life
    by_cases e1 : x.life = life
    rotate_left
    · have hfin := Lib.hid (show R = r.all by rw [Hst.out, if_neg (by rw [hgk, decide_eq_false e1]; simp)])
      have t1 := bne_yes (show (x.life.toNat : Int) ≠ (life.toNat : Int) from fun e => e1 (UInt64.toNat_inj.1 (by omega)))
      clear e1 hgk
      go_wp2
      go_ret
      exact rf_fin (HA.out.on hW) hfin.out bel1
    have t1 := bne_no (show (x.life.toNat : Int) = (life.toNat : Int) by rw [e1])
    by_cases e2 : x.seq = (k : Int)
    rotate_left
    · have hfin := Lib.hid (show R = r.all by rw [Hst.out, if_neg (by rw [hgk, decide_eq_false e2]; simp)])
      have t2 := bne_yes e2
      clear e1 e2 hgk
      go_wp2
      go_ret
      exact rf_fin (HA.out.on hW) hfin.out bel1
    have t2 := bne_no e2
    have hst2 : R = (if (takeF np r k x).2 = true then scanH np rd good m1 (k + 1) (takeF np r k x).1 else (takeF np r k x).1).all := by rw [Hst.out, if_pos (by rw [hgk, decide_eq_true e1, decide_eq_true e2]; rfl)]
    have HS2 := Lib.hid hst2
    clear e1 e2 hgk hst2 Hst
    by_cases e3 : x.body.length < 6
    · have hte : takeF np r k x = (r, false) := by unfold takeF; rw [if_pos (.inl e3)]
      have hfin := Lib.hid (show R = r.all by rw [HS2.out, hte]; rfl)
      have t3 : (x.body.length : Int) < 6 := by omega
      clear e3 hte
      go_wp2
      go_ret
      exact rf_fin (HA.out.on hW) hfin.out bel1
    have t3 : ¬ (x.body.length : Int) < 6 := by omega
    obtain ⟨bb, oo, rfl, hbb, _⟩ := hrd (by intro e; rw [List.map_eq_nil_iff] at e; rw [e] at e3; simp at e3)
    have hrd1 : ∀ W, Below wr.heap.size wr W → Rd W w.heap.size (some ⟨bb, oo, none⟩) (x.body.map e8) := fun W bW => hrd.below (bW.mono bel.size)
    have hG1 := fun W (bW : Below wr.heap.size wr W) => number_any (some ⟨bb, oo, none⟩) (x.body.take 4) 4 ci w.heap.size W (by rw [List.length_take]; omega) (by rw [List.map_take]; exact (hrd1 W bW).take 4) (by rw [List.length_take]; omega) (by rw [List.length_take]; omega)
    have hG2 := fun W (bW : Below wr.heap.size wr W) => number_any (some ⟨bb, oo + 4, none⟩) ((x.body.drop 4).take 2) 2 (ci - 4) w.heap.size W (by rw [List.length_take, List.length_drop]; omega) (by rw [List.map_take, List.map_drop]; exact ((hrd1 W bW).drop 4).take 2) (by rw [List.length_take, List.length_drop]; omega) (by rw [List.length_take, List.length_drop]; omega)
    have hF : ∀ l, Num.getN (l.take 4) = fstN l := fun _ => rfl
    have hSn : ∀ l, Num.getN ((l.drop 4).take 2) = sndN l := fun _ => rfl
    rw [hF] at hG1
    rw [hSn] at hG2
    have hs16 : sndN x.body < 65536 := by have := Num.getN_lt ((x.body.drop 4).take 2) _ (Nat.le_refl _); rw [List.take_length] at this; exact Nat.lt_of_lt_of_le this (by rw [show (65536 : Nat) = 256 ^ 2 from rfl]; exact Nat.pow_le_pow_right (by omega) (by rw [List.length_take]; omega))
    have hT : takeF np r k x = if r.now ≠ [] ∧ x.gen ≠ r.gen then (r, false) else if fstN x.body ≠ r.frm then (r, false)
        else if x.kind = 4 ∧ (sndN x.body : Int) < np then ({ r with gen := x.gen, now := r.now ++ [⟨(sndN x.body : Int), x.body.drop 6⟩] }, true)
        else if x.kind = 5 ∧ sndN x.body = r.now.length ∧ x.body.length = 6 then (⟨r.all ++ [⟨r.now, x.gen⟩], [], 0, k + 1⟩, true)
        else ({ r with gen := x.gen }, false) := by
      unfold takeF
      by_cases h : r.now ≠ [] ∧ x.gen ≠ r.gen
      · rw [if_pos (.inr h), if_pos h]
      · rw [if_neg (fun e => e.elim e3 h), if_neg h]
    rw [hnl] at hT
    have hPf := fun (m : Nat) (hm : m ≤ 65536) W (bW : Below wr.heap.size wr W) => PfOk.tail (m := (m : Int)) (hrd1 W bW) (by have := bel.size; have := bW.size; omega) rfl hcap hmax (by omega) (by omega) (by omega)
    obtain ⟨f, hf⟩ : ∃ f, f = fstN x.body := ⟨_, rfl⟩
    obtain ⟨m, hm⟩ : ∃ m, m = sndN x.body := ⟨_, rfl⟩
    rw [← hf] at hT hG1
    rw [← hm] at hT hG2 hs16
    have HT := Lib.hid hT
    have HG1 := Lib.hid hG1
    have HG2 := Lib.hid hG2
    have HPf := Lib.hid (hPf m (by omega))
    have Hnow := Lib.hid hnow
    have h6i : (6 : Int) ≤ (x.body.length : Int) := by omega
    have h6c : 6 ≤ ci := by omega
    have c4n : ¬ ci = 4 := by omega
    have c4i : ¬ (ci : Int) = 4 := by omega
    clear hF hSn hG1 hG2 hf hm hT hrd hrd1 hPf hnow hnl e3 hcap hmax
    by_cases e5 : f = r.frm
    rotate_left
    · have hte : takeF np r k x = (r, false) := by rw [HT.out]; split <;> (first | rfl | rw [if_pos e5])
      have hfin := Lib.hid (show R = r.all by rw [HS2.out, hte]; rfl)
      have t5 := bne_yes (show (f : Int) ≠ (r.frm : Int) by omega)
      clear e5 hte
      go_wp2_with (first
          | (go_at_call 104; (with_reducible show Calls _ _ #[.slice (some ⟨bb, oo, none⟩) 4 _] _ _); refine (HG1.out _ hW).mono ?_; rintro e w1 ⟨rfl, rfl⟩)
          | (go_at_call 104; (with_reducible show Calls _ _ #[.slice (some ⟨bb, oo + 4, none⟩) 2 _] _ _); refine (HG2.out _ hW).mono ?_; rintro e w1 ⟨rfl, rfl⟩))
      go_ret
      exact rf_fin (HA.out.on hW) hfin.out bel1
    have t5 := bne_no (show (f : Int) = (r.frm : Int) by omega)
    have HE5 := Lib.hid e5
    clear e5
    by_cases e6 : 0 < prs.length
    · have t6 := decide_eq_true e6
      by_cases e7 : x.gen = r.gen
      rotate_left
      · have hte : takeF np r k x = (r, false) := by rw [HT.out, if_pos ⟨Hnow.out.2 e6, e7⟩]
        have hfin := Lib.hid (show R = r.all by rw [HS2.out, hte]; rfl)
        have t7 := bne_yes (show (x.gen.toNat : Int) ≠ (r.gen.toNat : Int) from fun e => e7 (UInt64.toNat_inj.1 (by omega)))
        clear e6 e7 hte
        go_wp2_with (first
          | (go_at_call 104; (with_reducible show Calls _ _ #[.slice (some ⟨bb, oo, none⟩) 4 _] _ _); refine (HG1.out _ hW).mono ?_; rintro e w1 ⟨rfl, rfl⟩)
          | (go_at_call 104; (with_reducible show Calls _ _ #[.slice (some ⟨bb, oo + 4, none⟩) 2 _] _ _); refine (HG2.out _ hW).mono ?_; rintro e w1 ⟨rfl, rfl⟩))
        go_ret
        exact rf_fin (HA.out.on hW) hfin.out bel1
      have t7 := bne_no (show (x.gen.toNat : Int) = (r.gen.toNat : Int) by rw [e7])
      have HNN := Lib.hid (show ¬ (r.now ≠ [] ∧ x.gen ≠ r.gen) from fun h => h.2 e7)
      clear e6 e7
      have HT2 := Lib.hid (show takeF np r k x = if x.kind = 4 ∧ (m : Int) < np then ({ r with gen := x.gen, now := r.now ++ [⟨(m : Int), x.body.drop 6⟩] }, true)
          else if x.kind = 5 ∧ m = prs.length ∧ x.body.length = 6 then (⟨r.all ++ [⟨r.now, x.gen⟩], [], 0, k + 1⟩, true)
          else ({ r with gen := x.gen }, false) by rw [HT.out, if_neg HNN.out, if_neg (fun h => h HE5.out)])
      by_cases k4 : x.kind = 4
      · have s4 := beq_yes k4
        have k5 : ¬ x.kind = 5 := by omega
        by_cases hmn : (m : Int) < np
        · have hte : takeF np r k x = ({ r with gen := x.gen, now := r.now ++ [⟨(m : Int), x.body.drop 6⟩] }, true) := by rw [HT2.out, if_pos ⟨k4, hmn⟩]
          have hnx := Lib.hid (show R = (scanH np rd good m1 (k + 1) { r with gen := x.gen, now := r.now ++ [⟨(m : Int), x.body.drop 6⟩] }).all by rw [HS2.out, hte]; rfl)
          have smn := decide_eq_true hmn
          clear k4 k5 hte
          go_upto_region 13 with (first
          | (go_at_call 104; (with_reducible show Calls _ _ #[.slice (some ⟨bb, oo, none⟩) 4 _] _ _); refine (HG1.out _ hW).mono ?_; rintro e w1 ⟨rfl, rfl⟩)
          | (go_at_call 104; (with_reducible show Calls _ _ #[.slice (some ⟨bb, oo + 4, none⟩) 2 _] _ _); refine (HG2.out _ hW).mono ?_; rintro e w1 ⟨rfl, rfl⟩))
          obtain ⟨wg, hwg⟩ : ∃ q, q = (wr.alloc (.cells #[.int .i64 x.kind, .int .u64 (x.life.toNat : Int), .int .i64 x.seq, .int .u64 (x.gen.toNat : Int), .slice (some ⟨bb, oo, none⟩) x.body.length ci] 49)).setCell ⟨w.heap.size, 1, none⟩ (.int .u64 (x.gen.toNat : Int)) := ⟨_, rfl⟩
          have hAg : RfAt wg (w.heap.size + 1) w.heap.size { r with gen := x.gen } (.slice Ao trs.length co) (.slice An prs.length cn) trs prs := by
            rw [hwg]
            exact (HA.out.on hW).move (fun j hj _ => Below.heap_setCell _ ⟨w.heap.size, 1, none⟩ _ j (fun e => hj (by simpa using e))) (by simp [World.setCell]) { r with gen := x.gen } ((HA.out.on hW).blk.set (k := 1) _) rfl rfl
          have belg : Below w.heap.size w wg := by rw [hwg]; exact bset bel1 (Nat.le_refl _) _
          have hXg := HX.out.other (.int .u64 (x.gen.toNat : Int)) (k := 1) (b := w.heap.size) (fun e => by have := HA.out.blk.lt; omega)
          have hPg := Lib.hid (HPf.out (wr.alloc (.cells #[.int .i64 x.kind, .int .u64 (x.life.toNat : Int), .int .i64 x.seq, .int .u64 (x.gen.toNat : Int), .slice (some ⟨bb, oo, none⟩) x.body.length ci] 49)) hW |>.keep (w' := wg) (fun j hj _ => by rw [hwg]; exact Below.heap_setCell _ ⟨w.heap.size, 1, none⟩ _ j (fun e => by simp at e; omega)) (by rw [hwg]; simp [World.setCell]))
          rw [← hwg] at hXg ⊢
          obtain ⟨p0, p1, p2, p3, p4⟩ := five5q hXg
          obtain ⟨q0, q1⟩ := two2q hAg.blk
          have lXg := hXg.lt
          have lTg := hAg.blk.lt
          have HAg := Lib.hid hAg
          have Hbg := Lib.hid belg
          obtain ⟨i0, hi0, hz0, hz1, hz2⟩ := info_parts infoPg2
          have hnb : some w.heap.size ≠ (Value.slice An prs.length cn).ownBlock := fun e => by have := (hAg.now.lt _ e.symm).1; omega
          obtain ⟨tb, htb⟩ := hAg.blk
          clear x0 x1 x2 x3 x4 y0 y1 f0 f1 hAg belg hXg hwg
          go_region_law ((refine Disk.step_append_rd _ (by rfl) _ _ _ (by rfl) (w.heap.size + 1) 157 i0 _ 2 32 Try.underlying102 hi0 hz0 hz1 hz2 rfl (by omega) (.slice An prs.length cn) prs.length (prs.flatMap Pr.cells) (by rfl) ?_ _ 1 1 [.int .i64 (m : Int), .slice (if ci = 6 then some ⟨bb, oo, none⟩ else some ⟨bb, oo + 6, none⟩) (x.body.length - 6) (ci - 6)] (by rfl) (by rfl) ?_ (by simp [Value.oneCell']) Hb1.out.2.1 Hb1.out.2.2.2 (Nat.le_trans HAg.out.lN (b1alloc wg _).size) ?_); (· exact HAg.out.now.alloc _); (· exact Rd.lit _ _ _ _ _ rfl (by simp)); intro v3 w3 own3 hg3 hat3; have e3 := (hg3.block w.heap.size (Nat.lt_of_lt_of_le lTg (b1alloc wg _).size) hnb).trans ((Below.heap_alloc _ _ w.heap.size lTg).trans htb); obtain ⟨d0, d1⟩ := two2q ⟨_, e3⟩; have d8 := Blk.free (⟨_, e3⟩ : Blk w3 w.heap.size _) 0; obtain ⟨A3, c3, rfl⟩ := own_form own3)
          all_goals
            have fin := Lib.hid (HAg.out.data _ hPg.out (alloc_drew2 wg _) hg3 (by simpa [Pr.cells] using own3) hat3)
            have hfb := Lib.hid (show Below w.heap.size w (w3.setCell ⟨w.heap.size, 0, none⟩ (.slice A3 (prs.length + 1) c3)) from bt' Hbg.out fin.out.2)
            clear own3 hat3 hg3
            go_wp2
            all_goals (refine ⟨⟨k + 1, by omega, by go_num, hfb.out, { r with gen := x.gen, now := r.now ++ [⟨(m : Int), x.body.drop 6⟩] }, _, trs, prs ++ [_], rfl, fin.out.1, by rw [List.length_append, List.length_singleton]; omega, Nat.le_succ_of_le hfrm, Lib.hid (by rw [Hm2.out]; exact hnx.out)⟩, by simp only [intOf]; omega⟩)
        · have hte : takeF np r k x = ({ r with gen := x.gen }, false) := by rw [HT2.out, if_neg (fun h => hmn h.2), if_neg (fun h => k5 h.1)]
          have hfin := Lib.hid (show R = r.all by rw [HS2.out, hte]; rfl)
          have s5 := beq_no k5
          have smn := decide_eq_false hmn
          clear k4 k5 hte
          go_wp2_with (first
          | (go_at_call 104; (with_reducible show Calls _ _ #[.slice (some ⟨bb, oo, none⟩) 4 _] _ _); refine (HG1.out _ hW).mono ?_; rintro e w1 ⟨rfl, rfl⟩)
          | (go_at_call 104; (with_reducible show Calls _ _ #[.slice (some ⟨bb, oo + 4, none⟩) 2 _] _ _); refine (HG2.out _ hW).mono ?_; rintro e w1 ⟨rfl, rfl⟩))
          go_ret
          exact rf_fin (HA.out.on hW) hfin.out bel1
      · have s4 := beq_no k4
        by_cases k5 : x.kind = 5
        rotate_left
        · have hte : takeF np r k x = ({ r with gen := x.gen }, false) := by rw [HT2.out, if_neg (fun h => k4 h.1), if_neg (fun h => k5 h.1)]
          have hfin := Lib.hid (show R = r.all by rw [HS2.out, hte]; rfl)
          have s5 := beq_no k5
          clear k4 k5 hte
          go_wp2_with (first
          | (go_at_call 104; (with_reducible show Calls _ _ #[.slice (some ⟨bb, oo, none⟩) 4 _] _ _); refine (HG1.out _ hW).mono ?_; rintro e w1 ⟨rfl, rfl⟩)
          | (go_at_call 104; (with_reducible show Calls _ _ #[.slice (some ⟨bb, oo + 4, none⟩) 2 _] _ _); refine (HG2.out _ hW).mono ?_; rintro e w1 ⟨rfl, rfl⟩))
          go_ret
          exact rf_fin (HA.out.on hW) hfin.out bel1
        have s5 := beq_yes k5
        by_cases em : m = prs.length
        rotate_left
        · have hte : takeF np r k x = ({ r with gen := x.gen }, false) := by rw [HT2.out, if_neg (fun h => k4 h.1), if_neg (fun h => em h.2.1)]
          have hfin := Lib.hid (show R = r.all by rw [HS2.out, hte]; rfl)
          have s6 := beq_no (show (m : Int) ≠ (prs.length : Int) by omega)
          clear k4 k5 em hte
          go_wp2_with (first
          | (go_at_call 104; (with_reducible show Calls _ _ #[.slice (some ⟨bb, oo, none⟩) 4 _] _ _); refine (HG1.out _ hW).mono ?_; rintro e w1 ⟨rfl, rfl⟩)
          | (go_at_call 104; (with_reducible show Calls _ _ #[.slice (some ⟨bb, oo + 4, none⟩) 2 _] _ _); refine (HG2.out _ hW).mono ?_; rintro e w1 ⟨rfl, rfl⟩))
          go_ret
          exact rf_fin (HA.out.on hW) hfin.out bel1
        have s6 := beq_yes (show (m : Int) = (prs.length : Int) by omega)
        by_cases el : x.body.length = 6
        rotate_left
        · have hte : takeF np r k x = ({ r with gen := x.gen }, false) := by rw [HT2.out, if_neg (fun h => k4 h.1), if_neg (fun h => el h.2.2)]
          have hfin := Lib.hid (show R = r.all by rw [HS2.out, hte]; rfl)
          have s7 := beq_no (show (x.body.length : Int) ≠ 6 by omega)
          clear k4 k5 em el hte
          go_wp2_with (first
          | (go_at_call 104; (with_reducible show Calls _ _ #[.slice (some ⟨bb, oo, none⟩) 4 _] _ _); refine (HG1.out _ hW).mono ?_; rintro e w1 ⟨rfl, rfl⟩)
          | (go_at_call 104; (with_reducible show Calls _ _ #[.slice (some ⟨bb, oo + 4, none⟩) 2 _] _ _); refine (HG2.out _ hW).mono ?_; rintro e w1 ⟨rfl, rfl⟩))
          go_ret
          exact rf_fin (HA.out.on hW) hfin.out bel1
        have s7 := beq_yes (show (x.body.length : Int) = 6 by omega)
        have hte : takeF np r k x = (⟨r.all ++ [⟨r.now, x.gen⟩], [], 0, k + 1⟩, true) := by rw [HT2.out, if_neg (fun h => k4 h.1), if_pos ⟨k5, em, el⟩]
        have hnx := Lib.hid (show R = (scanH np rd good m1 (k + 1) ⟨r.all ++ [⟨r.now, x.gen⟩], [], 0, k + 1⟩).all by rw [HS2.out, hte]; rfl)
        have Hlx := Lib.hid (show prs.length ≤ 65535 by omega)
        clear k4 k5 em el hte
        go_upto_region 16 with (first
          | (go_at_call 104; (with_reducible show Calls _ _ #[.slice (some ⟨bb, oo, none⟩) 4 _] _ _); refine (HG1.out _ hW).mono ?_; rintro e w1 ⟨rfl, rfl⟩)
          | (go_at_call 104; (with_reducible show Calls _ _ #[.slice (some ⟨bb, oo + 4, none⟩) 2 _] _ _); refine (HG2.out _ hW).mono ?_; rintro e w1 ⟨rfl, rfl⟩))
        obtain ⟨wg, hwg⟩ : ∃ q, q = (wr.alloc (.cells #[.int .i64 x.kind, .int .u64 (x.life.toNat : Int), .int .i64 x.seq, .int .u64 (x.gen.toNat : Int), .slice (some ⟨bb, oo, none⟩) x.body.length ci] 49)).setCell ⟨w.heap.size, 1, none⟩ (.int .u64 (x.gen.toNat : Int)) := ⟨_, rfl⟩
        have hAg : RfAt wg (w.heap.size + 1) w.heap.size { r with gen := x.gen } (.slice Ao trs.length co) (.slice An prs.length cn) trs prs := by
          rw [hwg]
          exact (HA.out.on hW).move (fun j hj _ => Below.heap_setCell _ ⟨w.heap.size, 1, none⟩ _ j (fun e => hj (by simpa using e))) (by simp [World.setCell]) { r with gen := x.gen } ((HA.out.on hW).blk.set (k := 1) _) rfl rfl
        have belg : Below w.heap.size w wg := by rw [hwg]; exact bset bel1 (Nat.le_refl _) _
        rw [← hwg]
        obtain ⟨q0, q1⟩ := two2q hAg.blk
        have lTg := hAg.blk.lt
        have HAg := Lib.hid hAg
        have Hbg := Lib.hid belg
        obtain ⟨i0, hi0, hz0, hz1, hz2⟩ := info_parts infoRT
        have hnb : some w.heap.size ≠ (Value.slice Ao trs.length co).ownBlock := fun e => by have := (hAg.all.lt _ e.symm).1; omega
        obtain ⟨tb, htb⟩ := hAg.blk
        clear x0 x1 x2 x3 x4 y0 y1 f0 f1 hAg belg hwg
        go_wp2_with (at_builtin; refine wpList_append_rd _ rfl _ _ _ rfl (w.heap.size + 1) 104 i0 _ 2 32 Try.underlying92 hi0 hz0 hz1 hz2 rfl (by omega) _ trs.length (trs.flatMap Tr.cells) rfl (HAg.out.all.alloc _) (wg.heap.size + 1) (some ⟨wg.heap.size, 0, none⟩) 1 1 [.slice An prs.length cn, .int .u64 (x.gen.toNat : Int)] rfl rfl (Rd.lit wg _ _ _ _ rfl (Nat.lt_succ_self _)) (by simp [Value.oneCell']) Hb1.out.1 Hb1.out.2.2.1 (Nat.le_trans HAg.out.lN (b1alloc wg _).size) ?_; intro v3 w3 own3 hg3 hat3; have e3 := (hg3.block w.heap.size (Nat.lt_of_lt_of_le lTg (b1alloc wg _).size) hnb).trans ((Below.heap_alloc _ _ w.heap.size lTg).trans htb); obtain ⟨d0, d1⟩ := two2q ⟨_, e3⟩; have d8 := Blk.free (⟨_, e3⟩ : Blk w3 w.heap.size _); have d80 := d8 0; have d81 := d8 1)
        have fin := Lib.hid (HAg.out.commit (b1alloc wg _) hg3 own3 (k + 1))
        have hfb := Lib.hid (bt' Hbg.out fin.out.2)
        refine ⟨⟨k + 1, by omega, by go_num, hfb.out, _, _, _, [], by go_num, fin.out.1, by simp; omega, by simp only; omega, Lib.hid (by rw [Hm2.out]; exact hnx.out)⟩, by simp only [intOf]; omega⟩
    · have t6 := decide_eq_false e6
      have HNN := Lib.hid (show ¬ (r.now ≠ [] ∧ x.gen ≠ r.gen) from fun h => e6 (Hnow.out.1 h.1))
      clear e6
      have HT2 := Lib.hid (show takeF np r k x = if x.kind = 4 ∧ (m : Int) < np then ({ r with gen := x.gen, now := r.now ++ [⟨(m : Int), x.body.drop 6⟩] }, true)
          else if x.kind = 5 ∧ m = prs.length ∧ x.body.length = 6 then (⟨r.all ++ [⟨r.now, x.gen⟩], [], 0, k + 1⟩, true)
          else ({ r with gen := x.gen }, false) by rw [HT.out, if_neg HNN.out, if_neg (fun h => h HE5.out)])
      by_cases k4 : x.kind = 4
      · have s4 := beq_yes k4
        have k5 : ¬ x.kind = 5 := by omega
        by_cases hmn : (m : Int) < np
        · have hte : takeF np r k x = ({ r with gen := x.gen, now := r.now ++ [⟨(m : Int), x.body.drop 6⟩] }, true) := by rw [HT2.out, if_pos ⟨k4, hmn⟩]
          have hnx := Lib.hid (show R = (scanH np rd good m1 (k + 1) { r with gen := x.gen, now := r.now ++ [⟨(m : Int), x.body.drop 6⟩] }).all by rw [HS2.out, hte]; rfl)
          have smn := decide_eq_true hmn
          clear k4 k5 hte
          go_upto_region 13 with (first
          | (go_at_call 104; (with_reducible show Calls _ _ #[.slice (some ⟨bb, oo, none⟩) 4 _] _ _); refine (HG1.out _ hW).mono ?_; rintro e w1 ⟨rfl, rfl⟩)
          | (go_at_call 104; (with_reducible show Calls _ _ #[.slice (some ⟨bb, oo + 4, none⟩) 2 _] _ _); refine (HG2.out _ hW).mono ?_; rintro e w1 ⟨rfl, rfl⟩))
          obtain ⟨wg, hwg⟩ : ∃ q, q = (wr.alloc (.cells #[.int .i64 x.kind, .int .u64 (x.life.toNat : Int), .int .i64 x.seq, .int .u64 (x.gen.toNat : Int), .slice (some ⟨bb, oo, none⟩) x.body.length ci] 49)).setCell ⟨w.heap.size, 1, none⟩ (.int .u64 (x.gen.toNat : Int)) := ⟨_, rfl⟩
          have hAg : RfAt wg (w.heap.size + 1) w.heap.size { r with gen := x.gen } (.slice Ao trs.length co) (.slice An prs.length cn) trs prs := by
            rw [hwg]
            exact (HA.out.on hW).move (fun j hj _ => Below.heap_setCell _ ⟨w.heap.size, 1, none⟩ _ j (fun e => hj (by simpa using e))) (by simp [World.setCell]) { r with gen := x.gen } ((HA.out.on hW).blk.set (k := 1) _) rfl rfl
          have belg : Below w.heap.size w wg := by rw [hwg]; exact bset bel1 (Nat.le_refl _) _
          have hXg := HX.out.other (.int .u64 (x.gen.toNat : Int)) (k := 1) (b := w.heap.size) (fun e => by have := HA.out.blk.lt; omega)
          have hPg := Lib.hid (HPf.out (wr.alloc (.cells #[.int .i64 x.kind, .int .u64 (x.life.toNat : Int), .int .i64 x.seq, .int .u64 (x.gen.toNat : Int), .slice (some ⟨bb, oo, none⟩) x.body.length ci] 49)) hW |>.keep (w' := wg) (fun j hj _ => by rw [hwg]; exact Below.heap_setCell _ ⟨w.heap.size, 1, none⟩ _ j (fun e => by simp at e; omega)) (by rw [hwg]; simp [World.setCell]))
          rw [← hwg] at hXg ⊢
          obtain ⟨p0, p1, p2, p3, p4⟩ := five5q hXg
          obtain ⟨q0, q1⟩ := two2q hAg.blk
          have lXg := hXg.lt
          have lTg := hAg.blk.lt
          have HAg := Lib.hid hAg
          have Hbg := Lib.hid belg
          obtain ⟨i0, hi0, hz0, hz1, hz2⟩ := info_parts infoPg2
          have hnb : some w.heap.size ≠ (Value.slice An prs.length cn).ownBlock := fun e => by have := (hAg.now.lt _ e.symm).1; omega
          obtain ⟨tb, htb⟩ := hAg.blk
          clear x0 x1 x2 x3 x4 y0 y1 f0 f1 hAg belg hXg hwg
          go_region_law ((refine Disk.step_append_rd _ (by rfl) _ _ _ (by rfl) (w.heap.size + 1) 157 i0 _ 2 32 Try.underlying102 hi0 hz0 hz1 hz2 rfl (by omega) (.slice An prs.length cn) prs.length (prs.flatMap Pr.cells) (by rfl) ?_ _ 1 1 [.int .i64 (m : Int), .slice (if ci = 6 then some ⟨bb, oo, none⟩ else some ⟨bb, oo + 6, none⟩) (x.body.length - 6) (ci - 6)] (by rfl) (by rfl) ?_ (by simp [Value.oneCell']) Hb1.out.2.1 Hb1.out.2.2.2 (Nat.le_trans HAg.out.lN (b1alloc wg _).size) ?_); (· exact HAg.out.now.alloc _); (· exact Rd.lit _ _ _ _ _ rfl (by simp)); intro v3 w3 own3 hg3 hat3; have e3 := (hg3.block w.heap.size (Nat.lt_of_lt_of_le lTg (b1alloc wg _).size) hnb).trans ((Below.heap_alloc _ _ w.heap.size lTg).trans htb); obtain ⟨d0, d1⟩ := two2q ⟨_, e3⟩; have d8 := Blk.free (⟨_, e3⟩ : Blk w3 w.heap.size _) 0; obtain ⟨A3, c3, rfl⟩ := own_form own3)
          all_goals
            have fin := Lib.hid (HAg.out.data _ hPg.out (alloc_drew2 wg _) hg3 (by simpa [Pr.cells] using own3) hat3)
            have hfb := Lib.hid (show Below w.heap.size w (w3.setCell ⟨w.heap.size, 0, none⟩ (.slice A3 (prs.length + 1) c3)) from bt' Hbg.out fin.out.2)
            clear own3 hat3 hg3
            go_wp2
            all_goals (refine ⟨⟨k + 1, by omega, by go_num, hfb.out, { r with gen := x.gen, now := r.now ++ [⟨(m : Int), x.body.drop 6⟩] }, _, trs, prs ++ [_], rfl, fin.out.1, by rw [List.length_append, List.length_singleton]; omega, Nat.le_succ_of_le hfrm, Lib.hid (by rw [Hm2.out]; exact hnx.out)⟩, by simp only [intOf]; omega⟩)
        · have hte : takeF np r k x = ({ r with gen := x.gen }, false) := by rw [HT2.out, if_neg (fun h => hmn h.2), if_neg (fun h => k5 h.1)]
          have hfin := Lib.hid (show R = r.all by rw [HS2.out, hte]; rfl)
          have s5 := beq_no k5
          have smn := decide_eq_false hmn
          clear k4 k5 hte
          go_wp2_with (first
          | (go_at_call 104; (with_reducible show Calls _ _ #[.slice (some ⟨bb, oo, none⟩) 4 _] _ _); refine (HG1.out _ hW).mono ?_; rintro e w1 ⟨rfl, rfl⟩)
          | (go_at_call 104; (with_reducible show Calls _ _ #[.slice (some ⟨bb, oo + 4, none⟩) 2 _] _ _); refine (HG2.out _ hW).mono ?_; rintro e w1 ⟨rfl, rfl⟩))
          go_ret
          exact rf_fin (HA.out.on hW) hfin.out bel1
      · have s4 := beq_no k4
        by_cases k5 : x.kind = 5
        rotate_left
        · have hte : takeF np r k x = ({ r with gen := x.gen }, false) := by rw [HT2.out, if_neg (fun h => k4 h.1), if_neg (fun h => k5 h.1)]
          have hfin := Lib.hid (show R = r.all by rw [HS2.out, hte]; rfl)
          have s5 := beq_no k5
          clear k4 k5 hte
          go_wp2_with (first
          | (go_at_call 104; (with_reducible show Calls _ _ #[.slice (some ⟨bb, oo, none⟩) 4 _] _ _); refine (HG1.out _ hW).mono ?_; rintro e w1 ⟨rfl, rfl⟩)
          | (go_at_call 104; (with_reducible show Calls _ _ #[.slice (some ⟨bb, oo + 4, none⟩) 2 _] _ _); refine (HG2.out _ hW).mono ?_; rintro e w1 ⟨rfl, rfl⟩))
          go_ret
          exact rf_fin (HA.out.on hW) hfin.out bel1
        have s5 := beq_yes k5
        by_cases em : m = prs.length
        rotate_left
        · have hte : takeF np r k x = ({ r with gen := x.gen }, false) := by rw [HT2.out, if_neg (fun h => k4 h.1), if_neg (fun h => em h.2.1)]
          have hfin := Lib.hid (show R = r.all by rw [HS2.out, hte]; rfl)
          have s6 := beq_no (show (m : Int) ≠ (prs.length : Int) by omega)
          clear k4 k5 em hte
          go_wp2_with (first
          | (go_at_call 104; (with_reducible show Calls _ _ #[.slice (some ⟨bb, oo, none⟩) 4 _] _ _); refine (HG1.out _ hW).mono ?_; rintro e w1 ⟨rfl, rfl⟩)
          | (go_at_call 104; (with_reducible show Calls _ _ #[.slice (some ⟨bb, oo + 4, none⟩) 2 _] _ _); refine (HG2.out _ hW).mono ?_; rintro e w1 ⟨rfl, rfl⟩))
          go_ret
          exact rf_fin (HA.out.on hW) hfin.out bel1
        have s6 := beq_yes (show (m : Int) = (prs.length : Int) by omega)
        by_cases el : x.body.length = 6
        rotate_left
        · have hte : takeF np r k x = ({ r with gen := x.gen }, false) := by rw [HT2.out, if_neg (fun h => k4 h.1), if_neg (fun h => el h.2.2)]
          have hfin := Lib.hid (show R = r.all by rw [HS2.out, hte]; rfl)
          have s7 := beq_no (show (x.body.length : Int) ≠ 6 by omega)
          clear k4 k5 em el hte
          go_wp2_with (first
          | (go_at_call 104; (with_reducible show Calls _ _ #[.slice (some ⟨bb, oo, none⟩) 4 _] _ _); refine (HG1.out _ hW).mono ?_; rintro e w1 ⟨rfl, rfl⟩)
          | (go_at_call 104; (with_reducible show Calls _ _ #[.slice (some ⟨bb, oo + 4, none⟩) 2 _] _ _); refine (HG2.out _ hW).mono ?_; rintro e w1 ⟨rfl, rfl⟩))
          go_ret
          exact rf_fin (HA.out.on hW) hfin.out bel1
        have s7 := beq_yes (show (x.body.length : Int) = 6 by omega)
        have hte : takeF np r k x = (⟨r.all ++ [⟨r.now, x.gen⟩], [], 0, k + 1⟩, true) := by rw [HT2.out, if_neg (fun h => k4 h.1), if_pos ⟨k5, em, el⟩]
        have hnx := Lib.hid (show R = (scanH np rd good m1 (k + 1) ⟨r.all ++ [⟨r.now, x.gen⟩], [], 0, k + 1⟩).all by rw [HS2.out, hte]; rfl)
        have Hlx := Lib.hid (show prs.length ≤ 65535 by omega)
        clear k4 k5 em el hte
        go_upto_region 16 with (first
          | (go_at_call 104; (with_reducible show Calls _ _ #[.slice (some ⟨bb, oo, none⟩) 4 _] _ _); refine (HG1.out _ hW).mono ?_; rintro e w1 ⟨rfl, rfl⟩)
          | (go_at_call 104; (with_reducible show Calls _ _ #[.slice (some ⟨bb, oo + 4, none⟩) 2 _] _ _); refine (HG2.out _ hW).mono ?_; rintro e w1 ⟨rfl, rfl⟩))
        obtain ⟨wg, hwg⟩ : ∃ q, q = (wr.alloc (.cells #[.int .i64 x.kind, .int .u64 (x.life.toNat : Int), .int .i64 x.seq, .int .u64 (x.gen.toNat : Int), .slice (some ⟨bb, oo, none⟩) x.body.length ci] 49)).setCell ⟨w.heap.size, 1, none⟩ (.int .u64 (x.gen.toNat : Int)) := ⟨_, rfl⟩
        have hAg : RfAt wg (w.heap.size + 1) w.heap.size { r with gen := x.gen } (.slice Ao trs.length co) (.slice An prs.length cn) trs prs := by
          rw [hwg]
          exact (HA.out.on hW).move (fun j hj _ => Below.heap_setCell _ ⟨w.heap.size, 1, none⟩ _ j (fun e => hj (by simpa using e))) (by simp [World.setCell]) { r with gen := x.gen } ((HA.out.on hW).blk.set (k := 1) _) rfl rfl
        have belg : Below w.heap.size w wg := by rw [hwg]; exact bset bel1 (Nat.le_refl _) _
        rw [← hwg]
        obtain ⟨q0, q1⟩ := two2q hAg.blk
        have lTg := hAg.blk.lt
        have HAg := Lib.hid hAg
        have Hbg := Lib.hid belg
        obtain ⟨i0, hi0, hz0, hz1, hz2⟩ := info_parts infoRT
        have hnb : some w.heap.size ≠ (Value.slice Ao trs.length co).ownBlock := fun e => by have := (hAg.all.lt _ e.symm).1; omega
        obtain ⟨tb, htb⟩ := hAg.blk
        clear x0 x1 x2 x3 x4 y0 y1 f0 f1 hAg belg hwg
        go_wp2_with (at_builtin; refine wpList_append_rd _ rfl _ _ _ rfl (w.heap.size + 1) 104 i0 _ 2 32 Try.underlying92 hi0 hz0 hz1 hz2 rfl (by omega) _ trs.length (trs.flatMap Tr.cells) rfl (HAg.out.all.alloc _) (wg.heap.size + 1) (some ⟨wg.heap.size, 0, none⟩) 1 1 [.slice An prs.length cn, .int .u64 (x.gen.toNat : Int)] rfl rfl (Rd.lit wg _ _ _ _ rfl (Nat.lt_succ_self _)) (by simp [Value.oneCell']) Hb1.out.1 Hb1.out.2.2.1 (Nat.le_trans HAg.out.lN (b1alloc wg _).size) ?_; intro v3 w3 own3 hg3 hat3; have e3 := (hg3.block w.heap.size (Nat.lt_of_lt_of_le lTg (b1alloc wg _).size) hnb).trans ((Below.heap_alloc _ _ w.heap.size lTg).trans htb); obtain ⟨d0, d1⟩ := two2q ⟨_, e3⟩; have d8 := Blk.free (⟨_, e3⟩ : Blk w3 w.heap.size _); have d80 := d8 0; have d81 := d8 1)
        have fin := Lib.hid (HAg.out.commit (b1alloc wg _) hg3 own3 (k + 1))
        have hfb := Lib.hid (bt' Hbg.out fin.out.2)
        refine ⟨⟨k + 1, by omega, by go_num, hfb.out, _, _, _, [], by go_num, fin.out.1, by simp; omega, by simp only; omega, Lib.hid (by rw [Hm2.out]; exact hnx.out)⟩, by simp only [intOf]; omega⟩
end Go.Proofs.Ytmpmibcdpkolkaa.Wal

/- The laws of the log: why a transaction is not appended; the document's sectors of one. No statement is proved here. -/
namespace Go.Proofs.Ytmpmibcdpkolkaa.Wal
open Go.RowKit
open Go.Proofs.Ytmpmibcdpkolkaa.Geom
open Go.Proofs.Ytmpmibcdpkolkaa.Sup (Gb gv gcell gthree)
open Go.Proofs.Ytmpmibcdpkolkaa.Num (putL putL_len)
open Go.Proofs.Ytmpmibcdpkolkaa.Sec (X)
set_option linter.unusedVariables false
set_option maxRecDepth 100000
attribute [local irreducible] wpQuiet
/-- why a transaction is not appended -/
def whyF (ga gd gl : Int) (seq : Nat) (l : List Pg) : Int := if badB ga gd gl l = true then 2 else if fitsB ga gd gl l.length = false then 6 else if gl - (seq : Int) ≤ (l.length : Int) then 5 else 0
set_option maxHeartbeats 1000000 in
theorem why_any (Q : Nat → Prop) (A : Option Addr) (t : Tx) (c : Nat) (ga gd gl : Int) (seq : Nat) (w : World) (hG : Gb ga gd gl) (hr : Pgs w Q A t.pages) (hl : t.pages.length ≤ 1000000) (hs : seq ≤ 100000) (hg0 : 0 ≤ gl) (hg1 : gl ≤ 100000) :
    Calls Try.prog 58 #[gv ga gd gl, .agg #[.slice A t.pages.length c, .int .u64 (t.gen.toNat : Int)], .int .i64 (seq : Int)] w fun e w' => e = .returned (.int .i64 (whyF ga gd gl seq t.pages)) ∧ Below w.heap.size w w' := by
  obtain ⟨W0, hW0⟩ : ∃ W, W = (w.alloc (.cells #[.int .i64 ga, .int .i64 gd, .int .i64 gl] 23)).alloc (.cells #[.slice A t.pages.length c, .int .u64 (t.gen.toNat : Int)] 104) := ⟨_, rfl⟩
  have hB1 : Blk W0 w.heap.size (gcell ga gd gl) := by rw [hW0]; exact (Blk.new w (gcell ga gd gl) 23).alloc _
  have hB2 : Blk W0 (w.heap.size + 1) [.slice A t.pages.length c, .int .u64 (t.gen.toNat : Int)] := by
    rw [hW0]
    have := Blk.new (w.alloc (.cells #[.int .i64 ga, .int .i64 gd, .int .i64 gl] 23)) [.slice A t.pages.length c, .int .u64 (t.gen.toNat : Int)] 104
    simpa using this
  have b0 : Below w.heap.size w W0 := by rw [hW0]; exact b2alloc _ _ _
  have HB1 := Lib.hid hB1
  have HB2 := Lib.hid hB2
  have HP := Lib.hid (fun W (b : Below w.heap.size w W) => rpagesOk_any Q A t.pages c ga gd gl W hG (hr.on b) hl)
  have HF := Lib.hid (fun W => rfits_any ga gd gl t.pages.length W hG)
  have hW : whyF ga gd gl seq t.pages = if badB ga gd gl t.pages = true then 2 else if fitsB ga gd gl t.pages.length = false then 6 else if gl - (seq : Int) ≤ (t.pages.length : Int) then 5 else 0 := rfl
  obtain ⟨F, hF⟩ : ∃ F, F = whyF ga gd gl seq t.pages := ⟨_, rfl⟩
  rw [← hF] at hW ⊢
  obtain ⟨n, hn⟩ : ∃ n, n = t.pages.length := ⟨_, rfl⟩
  rw [← hn] at HP HF hW hW0 HB2 ⊢
  have hl' : n ≤ 1000000 := by omega
  have hw1 : IntKind.i64.wrap ((n : Int) + 1) = (n : Int) + 1 := wrap_small (by omega) (by omega)
  have hw2 : IntKind.i64.wrap (gl - (seq : Int)) = gl - seq := wrap_small (by omega) (by omega)
  obtain ⟨x0, x1, x2⟩ := gthree HB1.out
  obtain ⟨y0, y1⟩ := two2q HB2.out
  have HW0 := Lib.hid hW0
  clear hF hn hB1 hB2 hr hl
  cases hb : badB ga gd gl t.pages with
  | true =>
    rw [hb] at HP hW
    rw [if_pos rfl] at hW
    subst hW
    clear hb
    rw [hW0] at x0 x1 x2 y0 y1
    go_enter Try.func58, Try.ntmps58
    go_wp2_with (first
      | (go_at_call 105; refine (HP.out _ (by rw [← HW0.out]; exact b0)).mono ?_; rintro e w1 ⟨rfl, b1⟩; rw [← HW0.out] at b1))
    go_ret
    exact ⟨rfl, bt b0 b1⟩
  | false =>
    rw [hb] at HP hW
    rw [if_neg (by simp)] at hW
    clear hb
    cases hf : fitsB ga gd gl n with
    | false =>
      rw [hf] at HF hW
      rw [if_pos rfl] at hW
      subst hW
      clear hf
      rw [hW0] at x0 x1 x2 y0 y1
      go_enter Try.func58, Try.ntmps58
      go_wp2_with (first
        | (go_at_call 105; refine (HP.out _ (by rw [← HW0.out]; exact b0)).mono ?_; rintro e w1 ⟨rfl, b1⟩; rw [← HW0.out] at b1; obtain ⟨u0, u1, u2⟩ := gthree (HB1.out.on b1); obtain ⟨v0, v1⟩ := two2q (HB2.out.on b1))
        | (go_at_call 57; refine (HF.out _).mono ?_; rintro e w2 ⟨rfl, b2⟩))
      go_ret
      exact ⟨rfl, bt b0 (bt b1 b2)⟩
    | true =>
      rw [hf] at HF hW
      rw [if_neg (by simp)] at hW
      clear hf
      by_cases hn : gl - (seq : Int) ≤ (n : Int)
      · rw [if_pos hn] at hW
        subst hW
        have t1 : gl - (seq : Int) < (n : Int) + 1 := by omega
        rw [hW0] at x0 x1 x2 y0 y1
        clear hn
        go_enter Try.func58, Try.ntmps58
        go_wp2_with (first
          | (go_at_call 105; refine (HP.out _ (by rw [← HW0.out]; exact b0)).mono ?_; rintro e w1 ⟨rfl, b1⟩; rw [← HW0.out] at b1; obtain ⟨u0, u1, u2⟩ := gthree (HB1.out.on b1); obtain ⟨v0, v1⟩ := two2q (HB2.out.on b1))
          | (go_at_call 57; refine (HF.out _).mono ?_; rintro e w2 ⟨rfl, b2⟩; obtain ⟨p0, p1, p2⟩ := gthree ((HB1.out.on b1).on b2); obtain ⟨q0, q1⟩ := two2q ((HB2.out.on b1).on b2)))
        go_ret
        exact ⟨rfl, bt b0 (bt b1 b2)⟩
      · rw [if_neg hn] at hW
        subst hW
        have t1 : ¬ gl - (seq : Int) < (n : Int) + 1 := by omega
        rw [hW0] at x0 x1 x2 y0 y1
        clear hn
        go_enter Try.func58, Try.ntmps58
        go_wp2_with (first
          | (go_at_call 105; refine (HP.out _ (by rw [← HW0.out]; exact b0)).mono ?_; rintro e w1 ⟨rfl, b1⟩; rw [← HW0.out] at b1; obtain ⟨u0, u1, u2⟩ := gthree (HB1.out.on b1); obtain ⟨v0, v1⟩ := two2q (HB2.out.on b1))
          | (go_at_call 57; refine (HF.out _).mono ?_; rintro e w2 ⟨rfl, b2⟩; obtain ⟨p0, p1, p2⟩ := gthree ((HB1.out.on b1).on b2); obtain ⟨q0, q1⟩ := two2q ((HB2.out.on b1).on b2)))
        go_ret
        exact ⟨rfl, bt b0 (bt b1 b2)⟩
end Go.Proofs.Ytmpmibcdpkolkaa.Wal

/- What the law on reading supers needs of the reference: Of, and the law's best. -/
namespace Go.Proofs.Ytmpmibcdpkolkaa.Sup
open Go.RowKit
open Go.Proofs.Ytmpmibcdpkolkaa.Geom
open Go.Proofs.Ytmpmibcdpkolkaa.Disk (St DAt Did New8 Told8 new)
open Go.Proofs.Ytmpmibcdpkolkaa.Sec (X SymAt text sumOf sumAfter ckS blankB rightF xv RetX X0 five5x symbolic_any bset5)
set_option linter.unusedVariables false
set_option maxRecDepth 100000
def ofR (ga gd gl p : Int) (x : X) : Option SV := if isSup ga gd gl p (x, 0) = true then some ⟨x.life, x.seq, x.gen⟩ else none
def ofV : Option SV → Value
  | some x => .tuple #[x.v, .bool true]
  | none => .tuple #[SV.zero.v, .bool false]
set_option maxHeartbeats 2000000 in
theorem rof_any (ga gd gl p : Int) (x : X) (A : Option Addr) (c : Nat) (w : World) (hG : Gb ga gd gl) (hr : Rd w w.heap.size A (x.body.map e8)) (hl : x.body.length ≤ 1000000) :
    Calls Try.prog 44 #[gv ga gd gl, .int .i64 p, .agg #[.int .i64 x.kind, .int .u64 (x.life.toNat : Int), .int .i64 x.seq, .int .u64 (x.gen.toNat : Int), .slice A x.body.length c]] w fun e w' => e = .returned (ofV (ofR ga gd gl p x)) ∧ Below w.heap.size w w' := by
  have FG : Blk (((w.alloc (.cells (gcell ga gd gl).toArray 23)).alloc (.cells ([.int .i64 x.kind, .int .u64 (x.life.toNat : Int), .int .i64 x.seq, .int .u64 (x.gen.toNat : Int), .slice A x.body.length c] : List Value).toArray 49)).alloc (.cells #[.int .u64 0, .int .i64 0, .int .u64 0] 26)) w.heap.size (gcell ga gd gl) := ((Blk.new w (gcell ga gd gl) 23).alloc _).alloc _
  have FX : Blk (((w.alloc (.cells (gcell ga gd gl).toArray 23)).alloc (.cells ([.int .i64 x.kind, .int .u64 (x.life.toNat : Int), .int .i64 x.seq, .int .u64 (x.gen.toNat : Int), .slice A x.body.length c] : List Value).toArray 49)).alloc (.cells #[.int .u64 0, .int .i64 0, .int .u64 0] 26)) (w.heap.size + 1) [.int .i64 x.kind, .int .u64 (x.life.toNat : Int), .int .i64 x.seq, .int .u64 (x.gen.toNat : Int), .slice A x.body.length c] := by simpa using (Blk.new (w.alloc (.cells (gcell ga gd gl).toArray 23)) [.int .i64 x.kind, .int .u64 (x.life.toNat : Int), .int .i64 x.seq, .int .u64 (x.gen.toNat : Int), .slice A x.body.length c] 49).alloc (.cells #[.int .u64 0, .int .i64 0, .int .u64 0] 26)
  have FR : Blk (((w.alloc (.cells (gcell ga gd gl).toArray 23)).alloc (.cells ([.int .i64 x.kind, .int .u64 (x.life.toNat : Int), .int .i64 x.seq, .int .u64 (x.gen.toNat : Int), .slice A x.body.length c] : List Value).toArray 49)).alloc (.cells #[.int .u64 0, .int .i64 0, .int .u64 0] 26)) (w.heap.size + 1 + 1) [.int .u64 0, .int .i64 0, .int .u64 0] := by simpa using Blk.new ((w.alloc (.cells (gcell ga gd gl).toArray 23)).alloc (.cells ([.int .i64 x.kind, .int .u64 (x.life.toNat : Int), .int .i64 x.seq, .int .u64 (x.gen.toNat : Int), .slice A x.body.length c] : List Value).toArray 49)) [.int .u64 0, .int .i64 0, .int .u64 0] 26
  have b0 := b3alloc w (.cells (gcell ga gd gl).toArray 23) (.cells ([.int .i64 x.kind, .int .u64 (x.life.toNat : Int), .int .i64 x.seq, .int .u64 (x.gen.toNat : Int), .slice A x.body.length c] : List Value).toArray 49) (.cells #[.int .u64 0, .int .i64 0, .int .u64 0] 26)
  obtain ⟨w0, hw0⟩ : ∃ q, q = (((w.alloc (.cells (gcell ga gd gl).toArray 23)).alloc (.cells ([.int .i64 x.kind, .int .u64 (x.life.toNat : Int), .int .i64 x.seq, .int .u64 (x.gen.toNat : Int), .slice A x.body.length c] : List Value).toArray 49)).alloc (.cells #[.int .u64 0, .int .i64 0, .int .u64 0] 26)) := ⟨_, rfl⟩
  rw [← hw0] at FG FX FR b0
  have HM := Lib.hid (fun W => rmark_any ga gd gl W hG)
  have HP := Lib.hid (fun W => rplace_any x.life _ (by rfl) W)
  have HW0 := Lib.hid (show (((w.alloc (.cells #[.int .i64 ga, .int .i64 gd, .int .i64 gl] 23)).alloc (.cells #[.int .i64 x.kind, .int .u64 (x.life.toNat : Int), .int .i64 x.seq, .int .u64 (x.gen.toNat : Int), .slice A x.body.length c] 49)).alloc (.cells #[.int .u64 0, .int .i64 0, .int .u64 0] 26)) = w0 from hw0.symm)
  have hlX := FX.lt
  have hlG := FG.lt
  have hlR := FR.lt
  unfold ofR
  clear hw0
  by_cases e1 : x.kind = 2
  rotate_left
  · rw [if_neg (by simp [isSup, e1])]
    have t1 := bne_yes e1
    clear e1
    go_enter Try.func44, Try.ntmps44
    go_wp2
    rw [HW0.out]
    obtain ⟨z0, z1, z2⟩ := gthree FG
    obtain ⟨x0, x1, x2, x3, x4⟩ := five5x FX
    refine region_inb (by kernel_rfl) (by kernel_rfl) ?_
    have inbNe := InB.some
    have inbW := @wrap_small
    have inbU := IntKind.wrap_u8'
    repeat (refine wpQuiet_step (fun K hK => ?_); go_simp; first | (refine hK _ ?_; clear hK K) | (apply Exists.intro; refine ⟨?_, hK _ ?_⟩; (· (intro w' hw'; first | fail | (have hcw := hw'.cell; go_simp; exact rfl))); clear hK K))
    refine wpQuiet_nil ?_
    intro wq hq
    clear inbNe inbW inbU
    clear z0 z1 z2 x0 x1 x2 x3 x4
    obtain ⟨u0, u1, u2⟩ := gthree (FR.on hq.below)
    obtain ⟨x0, x1, x2, x3, x4⟩ := five5x (FX.on hq.below)
    have fx := (FR.on hq.below).free
    go_wp2
    refine bodyPost_ret (v := ofV none) (by simp [results, Try.results44, go_sem, ofV, SV.v, SV.zero, sv, *]) rfl ⟨rfl, ?_⟩
    exact bset (bset (bset (bt b0 hq.below) (by omega) _) (by omega) _) (by omega) _
  have t1 := bne_no e1
  by_cases e2 : splace x.life = p
  rotate_left
  · rw [if_neg (by simp [isSup, e2])]
    have t2 := bne_yes e2
    clear e1 e2
    go_enter Try.func44, Try.ntmps44
    go_wp2
    rw [HW0.out]
    obtain ⟨z0, z1, z2⟩ := gthree FG
    obtain ⟨x0, x1, x2, x3, x4⟩ := five5x FX
    refine region_inb (by kernel_rfl) (by kernel_rfl) ?_
    have inbNe := InB.some
    have inbW := @wrap_small
    have inbU := IntKind.wrap_u8'
    repeat (refine wpQuiet_step (fun K hK => ?_); go_simp; first | (refine hK _ ?_; clear hK K) | (apply Exists.intro; refine ⟨?_, hK _ ?_⟩; (· (intro w' hw'; first | (go_at_call 21; refine (HP.out _).mono ?_; rintro e q1 ⟨rfl, rfl⟩; exact ⟨rfl, hw'⟩) | (have hcw := hw'.cell; go_simp; exact rfl))); clear hK K))
    refine wpQuiet_nil ?_
    intro wq hq
    clear inbNe inbW inbU
    clear z0 z1 z2 x0 x1 x2 x3 x4
    obtain ⟨u0, u1, u2⟩ := gthree (FR.on hq.below)
    obtain ⟨x0, x1, x2, x3, x4⟩ := five5x (FX.on hq.below)
    have fx := (FR.on hq.below).free
    go_wp2
    refine bodyPost_ret (v := ofV none) (by simp [results, Try.results44, go_sem, ofV, SV.v, SV.zero, sv, *]) rfl ⟨rfl, ?_⟩
    exact bset (bset (bset (bt b0 hq.below) (by omega) _) (by omega) _) (by omega) _
  have t2 := bne_no e2
  have hSa := fun A B c d' W h3 h4 => R1.same_any A B x.body (mk ga gd gl) x.body.length (mk ga gd gl).length c d' W rfl rfl h3 h4 (by omega) (by have := mk_len ga gd gl; omega)
  cases e3 : R1.sameB x.body (mk ga gd gl) with
  | false =>
    rw [if_neg (by simp [isSup, e3])]
    rw [e3] at hSa
    have HSa := Lib.hid hSa
    obtain ⟨M, hM⟩ : ∃ M, M = mk ga gd gl := ⟨_, rfl⟩
    rw [← hM] at HSa HM
    clear hSa e1 e2 e3 hM
    go_enter Try.func44, Try.ntmps44
    go_wp2
    rw [HW0.out]
    obtain ⟨z0, z1, z2⟩ := gthree FG
    obtain ⟨x0, x1, x2, x3, x4⟩ := five5x FX
    have cz : Below w0.heap.size w0 w0.drew := (Below.refl _ _).drew
    go_region_held3 (fun w' => (w'.cell? ⟨w.heap.size + 1, 0, none⟩ = some (.int .i64 x.kind) ∧ w'.cell? ⟨w.heap.size + 1, 1, none⟩ = some (.int .u64 (x.life.toNat : Int)) ∧ w'.cell? ⟨w.heap.size + 1, 2, none⟩ = some (.int .i64 x.seq) ∧ w'.cell? ⟨w.heap.size + 1, 3, none⟩ = some (.int .u64 (x.gen.toNat : Int)) ∧ w'.cell? ⟨w.heap.size + 1, 4, none⟩ = some (.slice A x.body.length c)) ∧ (w'.cell? ⟨w.heap.size, 0, none⟩ = some (.int .i64 ga) ∧ w'.cell? ⟨w.heap.size, 1, none⟩ = some (.int .i64 gd) ∧ w'.cell? ⟨w.heap.size, 2, none⟩ = some (.int .i64 gl))) (first | exact ⟨five5x (FX.on cz), gthree (FG.on cz)⟩ | exact ⟨five5x (FX.on cm), gthree (FG.on cm)⟩ | exact ⟨five5x (FX.on cs), gthree (FG.on cs)⟩) (first
      | (go_at_call 21; refine (HP.out _).mono ?_; rintro e q6 ⟨rfl, rfl⟩)
      | (go_at_call 18; refine (HM.out _).mono ?_; rintro e q7 ⟨A7, c7, rfl, own7, t7⟩; have cm := bt cz t7)
      | (go_at_call 16; refine (HSa.out A A7 c c7 _ (hr.on (bt b0 cm)) (Rd.own own7)).mono ?_; rintro e q8 ⟨rfl, t8⟩; have cs := bt cm t8))
    clear z0 z1 z2 x0 x1 x2 x3 x4
    obtain ⟨u0, u1, u2⟩ := gthree (FR.on cs)
    obtain ⟨x0, x1, x2, x3, x4⟩ := five5x (FX.on cs)
    have fx := (FR.on cs).free
    go_wp2
    refine bodyPost_ret (v := ofV none) (by simp [results, Try.results44, go_sem, ofV, SV.v, SV.zero, sv, *]) rfl ⟨rfl, ?_⟩
    exact bset (bset (bset (bt b0 cs) (by omega) _) (by omega) _) (by omega) _
  | true =>
    rw [if_pos (by simp [isSup, e1, e2, e3])]
    rw [e3] at hSa
    have HSa := Lib.hid hSa
    obtain ⟨M, hM⟩ : ∃ M, M = mk ga gd gl := ⟨_, rfl⟩
    rw [← hM] at HSa HM
    clear hSa e1 e2 e3 hM
    go_enter Try.func44, Try.ntmps44
    go_wp2
    rw [HW0.out]
    obtain ⟨z0, z1, z2⟩ := gthree FG
    obtain ⟨x0, x1, x2, x3, x4⟩ := five5x FX
    have cz : Below w0.heap.size w0 w0.drew := (Below.refl _ _).drew
    go_region_held3 (fun w' => (w'.cell? ⟨w.heap.size + 1, 0, none⟩ = some (.int .i64 x.kind) ∧ w'.cell? ⟨w.heap.size + 1, 1, none⟩ = some (.int .u64 (x.life.toNat : Int)) ∧ w'.cell? ⟨w.heap.size + 1, 2, none⟩ = some (.int .i64 x.seq) ∧ w'.cell? ⟨w.heap.size + 1, 3, none⟩ = some (.int .u64 (x.gen.toNat : Int)) ∧ w'.cell? ⟨w.heap.size + 1, 4, none⟩ = some (.slice A x.body.length c)) ∧ (w'.cell? ⟨w.heap.size, 0, none⟩ = some (.int .i64 ga) ∧ w'.cell? ⟨w.heap.size, 1, none⟩ = some (.int .i64 gd) ∧ w'.cell? ⟨w.heap.size, 2, none⟩ = some (.int .i64 gl))) (first | exact ⟨five5x (FX.on cz), gthree (FG.on cz)⟩ | exact ⟨five5x (FX.on cm), gthree (FG.on cm)⟩ | exact ⟨five5x (FX.on cs), gthree (FG.on cs)⟩) (first
      | (go_at_call 21; refine (HP.out _).mono ?_; rintro e q6 ⟨rfl, rfl⟩)
      | (go_at_call 18; refine (HM.out _).mono ?_; rintro e q7 ⟨A7, c7, rfl, own7, t7⟩; have cm := bt cz t7)
      | (go_at_call 16; refine (HSa.out A A7 c c7 _ (hr.on (bt b0 cm)) (Rd.own own7)).mono ?_; rintro e q8 ⟨rfl, t8⟩; have cs := bt cm t8))
    clear z0 z1 z2 x0 x1 x2 x3 x4
    obtain ⟨u0, u1, u2⟩ := gthree (FR.on cs)
    obtain ⟨x0, x1, x2, x3, x4⟩ := five5x (FX.on cs)
    have fx := (FR.on cs).free
    go_wp2
    refine bodyPost_ret (v := ofV (some ⟨x.life, x.seq, x.gen⟩)) (by simp [results, Try.results44, go_sem, ofV, SV.v, sv, *]) rfl ⟨rfl, ?_⟩
    exact bset (bset (bset (bt b0 cs) (by omega) _) (by omega) _) (by omega) _
theorem lbest_any (o p : Option SV) (w : World) (hne : ∀ x y, o = some x → p = some y → x.life ≠ y.life) :
    Calls Try.prog 46 #[sv (oV o).life (oV o).base (oV o).gen, sv (oV p).life (oV p).base (oV p).gen, .bool o.isSome, .bool p.isSome] w fun e w' => e = .returned (rdV (best (best none o) p)) ∧ Below w.heap.size w w' := by
  have b0 := fun (a b : SV) => b3alloc w (.cells (scell a.life a.base a.gen).toArray 26) (.cells (scell b.life b.base b.gen).toArray 26) (.cells #[.int .u64 0, .int .i64 0, .int .u64 0] 26)
  cases o with
  | none =>
    cases p with
    | none =>
      have bb := b0 (oV none) (oV none)
      rw [show (Option.isSome (none : Option SV)) = false from rfl]
      go_enter Try.func46, Try.ntmps46
      go_wp2
      refine bodyPost_ret (v := rdV none) (by simp [results, Try.results46, go_sem, rdV, SV.v, SV.zero, sv]) rfl ⟨rfl, ?_⟩
      exact b3alloc _ _ _ _
    | some y =>
      have bb := b0 (oV none) y
      rw [show (Option.isSome (none : Option SV)) = false from rfl, show (Option.isSome (some y)) = true from rfl, show oV (some y) = y from rfl]
      go_enter Try.func46, Try.ntmps46
      go_wp2
      refine bodyPost_ret (v := rdV (some y)) (by simp [results, Try.results46, go_sem, rdV, SV.v, sv]) rfl ⟨rfl, ?_⟩
      exact b3alloc _ _ _ _
  | some x =>
    cases p with
    | none =>
      have bb := b0 x (oV none)
      rw [show (Option.isSome (none : Option SV)) = false from rfl, show (Option.isSome (some x)) = true from rfl, show oV (some x) = x from rfl]
      go_enter Try.func46, Try.ntmps46
      go_wp2
      refine bodyPost_ret (v := rdV (some x)) (by simp [results, Try.results46, go_sem, rdV, SV.v, sv]) rfl ⟨rfl, ?_⟩
      exact b3alloc _ _ _ _
    | some y =>
      have hn := hne x y rfl rfl
      have bb := b0 x y
      rw [show (Option.isSome (some y)) = true from rfl, show (Option.isSome (some x)) = true from rfl, show oV (some x) = x from rfl, show oV (some y) = y from rfl]
      by_cases hlt : y.life.toNat < x.life.toNat
      · have hb := Lib.hid (show best (best none (some x)) (some y) = some x by
          have h2 : ¬ x.life < y.life := fun e => by rw [UInt64.lt_iff_toNat_lt] at e; omega
          simp [best, after1, h2])
        have hi : (y.life.toNat : Int) < (x.life.toNat : Int) := by omega
        clear hn hne
        go_enter Try.func46, Try.ntmps46
        go_wp2
        refine bodyPost_ret (v := rdV (some x)) (by simp [results, Try.results46, go_sem, rdV, SV.v, sv]) rfl ⟨by rw [hb.out], ?_⟩
        exact b3alloc _ _ _ _
      · have hb := Lib.hid (show best (best none (some x)) (some y) = some y by
          have h3 : x.life.toNat ≠ y.life.toNat := fun e => hn (UInt64.toNat_inj.1 e)
          have h2 : x.life < y.life := by rw [UInt64.lt_iff_toNat_lt]; omega
          simp [best, after1, h2])
        have hi : ¬ (y.life.toNat : Int) < (x.life.toNat : Int) := by omega
        clear hn hne
        go_enter Try.func46, Try.ntmps46
        go_wp2
        refine bodyPost_ret (v := rdV (some y)) (by simp [results, Try.results46, go_sem, rdV, SV.v, sv]) rfl ⟨by rw [hb.out], ?_⟩
        exact b3alloc _ _ _ _
/-! the two places, one behind the other -/
def bytesAt (q : List (List UInt8) × St) (p : Int) (x : X) : List UInt8 := text p x ++ sumOf q.1 (text p x)
theorem bytesAt_len (q : List (List UInt8) × St) (p : Int) (x : X) : (bytesAt q p x).length = 512 := by unfold bytesAt; rw [List.length_append, Sec.text_len, Sec.sumOf_len]
def stp (q : List (List UInt8) × St) (p : Int) (x : X) : List (List UInt8) × St := if rightF p x = 0 then (sumAfter q.1 (text p x), (Disk.put q.2 p (bytesAt q p x)).1) else q
theorem stp_yes {q : List (List UInt8) × St} {p : Int} {x : X} (h : rightF p x = 0) : stp q p x = (sumAfter q.1 (text p x), (Disk.put q.2 p (bytesAt q p x)).1) := if_pos h
theorem stp_no {q : List (List UInt8) × St} {p : Int} {x : X} (h : rightF p x ≠ 0) : stp q p x = q := if_neg h
theorem UpN.put {s : St} {n : Nat} (h : UpN s n) {p : Int} (h0 : 0 ≤ p) (h1 : p < n) {b : List UInt8} (hb : b.length = 512) : UpN (Disk.put s p b).1 n ∧ (Disk.put s p b).1.all = s.all ++ [(p.toNat, b)] ∧ (Disk.put s p b).1.sz ≤ s.sz + 1 := by
  refine ⟨?_, ?_, Disk.sz_put _ _ _⟩ <;> unfold Disk.put <;> rw [if_neg (by rw [h.size]; omega), if_neg (by omega)]
  exact ⟨h.size, h.pend, h.down, h.fuse⟩
/-- what is at a place that a sector was put at, or was not -/
def ofAt (ga gd gl p : Int) (x : X) : Option SV := if rightF p x = 0 then ofR ga gd gl p x else none
theorem UpN.at_good {s : St} {n : Nat} (h : UpN s n) {l : List (List UInt8)} {ga gd gl p : Int} (h0 : 0 ≤ p) (h1 : p < n) {x : X} (hg : Good l p x (Disk.kept s.all p.toNat)) : atR l s ga gd gl p = ofR ga gd gl p x := by
  unfold atR Sup.dec
  rw [h.read h0 h1]
  simp only []
  rw [hg.dec]; rfl
theorem sumAfter_len (l : List (List UInt8)) (T : List UInt8) : (sumAfter l T).length ≤ l.length + 1 := by unfold sumAfter; split <;> simp
structure One (n : Nat) (ga gd gl : Int) (q : List (List UInt8) × St) (a : X) : Prop where
  up : UpN q.2 n
  len : q.1.length ≤ 1
  sz : q.2.sz ≤ 1
  good : rightF 2 a = 0 → Good q.1 2 a (Disk.kept q.2.all 2)
  zero2 : rightF 2 a ≠ 0 → Disk.kept q.2.all 2 = Disk.zero512
  zero3 : Disk.kept q.2.all 3 = Disk.zero512
theorem one {n : Nat} (hn : 4 ≤ n) (ga gd gl : Int) (a : X) : One n ga gd gl (stp ([], new n) 2 a) a := by
  by_cases h : rightF 2 a = 0
  · rw [stp_yes h]
    obtain ⟨u, e, z⟩ := (up_new n).put (p := 2) (by omega) (by omega) (bytesAt_len ([], new n) 2 a)
    exact ⟨u, sumAfter_len [] (text 2 a), z, fun _ => by rw [e, show ((2 : Int).toNat) = 2 from rfl, kept_after]; exact Good.made [] h, fun h2 => absurd h h2, by rw [e, kept_beside _ _ (by decide)]; rfl⟩
  · rw [stp_no h]
    exact ⟨up_new n, by simp, Nat.zero_le _, fun h2 => absurd h2 h, fun _ => rfl, rfl⟩
theorem One.at2 {n : Nat} (hn : 4 ≤ n) {ga gd gl : Int} {q : List (List UInt8) × St} {a : X} (h : One n ga gd gl q a) : atR q.1 q.2 ga gd gl 2 = ofAt ga gd gl 2 a := by
  unfold ofAt
  by_cases h1 : rightF 2 a = 0
  · rw [if_pos h1]; exact h.up.at_good (by omega) (by omega) (h.good h1)
  · rw [if_neg h1]; exact h.up.at_zero (by omega) (by omega) (h.zero2 h1)
structure Two (n : Nat) (ga gd gl : Int) (q : List (List UInt8) × St) (a b : X) : Prop where
  up : UpN q.2 n
  len : q.1.length ≤ 2
  sz : q.2.sz ≤ 2
  at2 : atR q.1 q.2 ga gd gl 2 = ofAt ga gd gl 2 a
  at3 : atR q.1 q.2 ga gd gl 3 = ofAt ga gd gl 3 b
theorem two {n : Nat} (hn : 4 ≤ n) (ga gd gl : Int) (a b : X) : Two n ga gd gl (stp (stp ([], new n) 2 a) 3 b) a b := by
  have h1 := one hn ga gd gl a
  obtain ⟨q, hq⟩ : ∃ q, q = stp ([], new n) 2 a := ⟨_, rfl⟩
  rw [← hq] at h1 ⊢
  by_cases h : rightF 3 b = 0
  · rw [stp_yes h]
    obtain ⟨u, e, z⟩ := h1.up.put (p := 3) (by omega) (by omega) (bytesAt_len q 3 b)
    have hl := sumAfter_len q.1 (text 3 b)
    have l1 := h1.len
    have s1 := h1.sz
    refine ⟨u, by simp only []; omega, by simp only []; omega, ?_, ?_⟩
    · unfold ofAt
      by_cases h2 : rightF 2 a = 0
      · rw [if_pos h2]; exact u.at_good (by omega) (by omega) (by rw [e, kept_beside _ _ (by decide)]; exact (h1.good h2).more _)
      · rw [if_neg h2]; exact u.at_zero (by omega) (by omega) (by rw [e, kept_beside _ _ (by decide)]; exact h1.zero2 h2)
    · unfold ofAt
      rw [if_pos h]; exact u.at_good (by omega) (by omega) (by rw [e, show ((3 : Int).toNat) = 3 from rfl, kept_after]; exact Good.made q.1 h)
  · rw [stp_no h]
    refine ⟨h1.up, by have := h1.len; omega, by have := h1.sz; omega, h1.at2 hn, ?_⟩
    unfold ofAt
    rw [if_neg h]; exact h1.up.at_zero (by omega) (by omega) h1.zero3
theorem ofAt_place {ga gd gl p : Int} {x : X} {y : SV} (h : ofAt ga gd gl p x = some y) : splace y.life = p := by
  unfold ofAt ofR at h
  split at h
  · split at h
    · rename_i h1 h2
      injection h with h
      subst h
      simp [isSup] at h2
      exact h2.1.2
    · cases h
  · cases h
theorem ofAt_ne {ga gd gl : Int} {a b : X} {x y : SV} (h : ofAt ga gd gl 2 a = some x) (h' : ofAt ga gd gl 3 b = some y) : x.life ≠ y.life := fun e => by
  have h1 := ofAt_place h
  have h2 := ofAt_place h'
  rw [e] at h1; omega
end Go.Proofs.Ytmpmibcdpkolkaa.Sup

/- The pages of a life, in plain Lean: what is read of any sectors in their places. -/
namespace Go.Proofs.Ytmpmibcdpkolkaa.Snap
open Go.RowKit
open Go.Proofs.Ytmpmibcdpkolkaa.Geom
open Go.Proofs.Ytmpmibcdpkolkaa.Disk (St Wr read kept new zero512)
open Go.Proofs.Ytmpmibcdpkolkaa.Sec (X text text_len sumAfter rightF X0)
open Go.Proofs.Ytmpmibcdpkolkaa.Sup (UpN stp stp_yes stp_no bytesAt bytesAt_len)
open Go.Proofs.Ytmpmibcdpkolkaa.Enc (rd rd_good rd_zero)
set_option linter.unusedVariables false
/-- the sectors put, up to the k-th place -/
def qs (ga gd gl : Int) (life : UInt64) (l : List X) (n : Nat) : Nat → List (List UInt8) × St
  | 0 => ([], new n)
  | k + 1 => if h : k < l.length then stp (qs ga gd gl life l n k) (areaAt ga gd gl life.toNat k) l[k] else qs ga gd gl life l n k
theorem qs_at {ga gd gl : Int} {life : UInt64} {l : List X} {n k : Nat} (h : k < l.length) : qs ga gd gl life l n (k + 1) = stp (qs ga gd gl life l n k) (areaAt ga gd gl life.toNat k) l[k] := dif_pos h
theorem qs_past {ga gd gl : Int} {life : UInt64} {l : List X} {n k : Nat} (h : ¬ k < l.length) : qs ga gd gl life l n (k + 1) = qs ga gd gl life l n k := dif_neg h
/-- was a sector put there? -/
def putB (ga gd gl : Int) (life : UInt64) (l : List X) (j : Nat) : Bool := if h : j < l.length then decide (rightF (areaAt ga gd gl life.toNat j) l[j] = 0) else false
/-- is it the page? -/
def isL (ga gd gl : Int) (life : UInt64) (l : List X) (j : Nat) : Bool := if h : j < l.length then decide (rightF (areaAt ga gd gl life.toNat j) l[j] = 0) && isX life j l[j] else false
structure QInv (ga gd gl : Int) (life : UInt64) (l : List X) (n N k : Nat) (q : List (List UInt8) × St) : Prop where
  up : UpN q.2 n
  len : q.1.length ≤ k
  sz : q.2.sz ≤ k
  good : ∀ j (h : j < l.length), j < k → rightF (areaAt ga gd gl life.toNat j) l[j] = 0 → Sup.Good q.1 (areaAt ga gd gl life.toNat j) l[j] (kept q.2.all (areaAt ga gd gl life.toNat j).toNat)
  zero : ∀ j, j < N → ¬ (j < k ∧ putB ga gd gl life l j = true) → kept q.2.all (areaAt ga gd gl life.toNat j).toNat = zero512
theorem area_bd {ga gd gl : Int} {n N : Nat} (hn : (n : Int) = Geom.sizeOf ga gd gl) (hN : (N : Int) = pagesOf ga gd gl) (life : UInt64) {k : Nat} (hk : k < N) : 0 ≤ areaAt ga gd gl life.toNat k ∧ areaAt ga gd gl life.toNat k < n := by
  have := area_ok (ga := ga) (gd := gd) (gl := gl) (life := life) (k := k) (by omega)
  omega
theorem qs_inv {ga gd gl : Int} {n N : Nat} (hn : (n : Int) = Geom.sizeOf ga gd gl) (hN : (N : Int) = pagesOf ga gd gl) (life : UInt64) (l : List X) : ∀ k, k ≤ N → QInv ga gd gl life l n N k (qs ga gd gl life l n k)
  | 0, _ => ⟨Sup.up_new n, by simp [qs], Nat.zero_le _, fun j h hj => by omega, fun j _ _ => rfl⟩
  | k + 1, hk => by
    have ih := qs_inv hn hN life l k (by omega)
    by_cases h : k < l.length
    · rw [qs_at h]
      obtain ⟨q, hq⟩ : ∃ q, q = qs ga gd gl life l n k := ⟨_, rfl⟩
      rw [← hq] at ih ⊢
      have hp := area_bd hn hN life (k := k) (by omega)
      by_cases hr : rightF (areaAt ga gd gl life.toNat k) l[k] = 0
      · rw [stp_yes hr]
        obtain ⟨u, e, z⟩ := Sup.UpN.put ih.up hp.1 hp.2 (bytesAt_len q (areaAt ga gd gl life.toNat k) l[k])
        have hl := Sup.sumAfter_len q.1 (text (areaAt ga gd gl life.toNat k) l[k])
        have hne : ∀ j, j < N → j ≠ k → (areaAt ga gd gl life.toNat k).toNat ≠ (areaAt ga gd gl life.toNat j).toNat := fun j hj hjk he => by
          have hpj := area_bd hn hN life hj
          exact hjk (area_inj (m := life.toNat) (by omega) (by omega) (show areaAt ga gd gl life.toNat j = areaAt ga gd gl life.toNat k by omega))
        refine ⟨u, by have := ih.len; simp only []; omega, by have := ih.sz; simp only []; omega, fun j hj hjk hrj => ?_, fun j hj hnj => ?_⟩
        · by_cases hjk' : j = k
          · subst hjk'
            rw [e, Sup.kept_after]
            exact Sup.Good.made q.1 hr
          · rw [e, Sup.kept_beside _ _ (hne j (by omega) hjk')]
            exact (ih.good j hj (by omega) hrj).more _
        · have hjk' : j ≠ k := fun e => hnj ⟨by omega, by subst e; unfold putB; rw [dif_pos h]; exact decide_eq_true hr⟩
          rw [e, Sup.kept_beside _ _ (hne j hj hjk')]
          exact ih.zero j hj (fun hh => hnj ⟨by omega, hh.2⟩)
      · rw [stp_no hr]
        refine ⟨ih.up, by have := ih.len; omega, by have := ih.sz; omega, fun j hj hjk hrj => ?_, fun j hj hnj => ?_⟩
        · by_cases hjk' : j = k
          · subst hjk'; exact absurd hrj hr
          · exact ih.good j hj (by omega) hrj
        · exact ih.zero j hj (fun hh => hnj ⟨by omega, hh.2⟩)
    · rw [qs_past h]
      refine ⟨ih.up, by have := ih.len; omega, by have := ih.sz; omega, fun j hj hjk hrj => ?_, fun j hj hnj => ih.zero j hj (fun hh => hnj ⟨by omega, hh.2⟩)⟩
      exact ih.good j hj (by omega) hrj
theorem QInv.isPg {ga gd gl : Int} {n N : Nat} (hn : (n : Int) = Geom.sizeOf ga gd gl) (hN : (N : Int) = pagesOf ga gd gl) {life : UInt64} {l : List X} {q : List (List UInt8) × St} (h : QInv ga gd gl life l n N N q) {j : Nat} (hj : j < N) : isPg q.1 q.2 ga gd gl life j = isL ga gd gl life l j := by
  have hp := area_bd hn hN life hj
  unfold Snap.isPg rdAt isL
  by_cases h1 : j < l.length
  · rw [dif_pos h1]
    by_cases h2 : rightF (areaAt ga gd gl life.toNat j) l[j] = 0
    · rw [rd_good h.up hp.1 hp.2 (h.good j h1 hj h2)]
      simp [h2]
    · rw [rd_zero h.up hp.1 hp.2 (h.zero j hj (fun hh => by have := hh.2; unfold putB at this; rw [dif_pos h1] at this; exact h2 (of_decide_eq_true this)))]
      simp [h2]
  · rw [dif_neg h1, rd_zero h.up hp.1 hp.2 (h.zero j hj (fun hh => by have := hh.2; unfold putB at this; rw [dif_neg h1] at this; cases this))]
    simp
/-- the numbers of the pages that are not there, up to the k-th -/
def wants (ga gd gl : Int) (life : UInt64) (l : List X) (k : Nat) : List Int := ((List.range k).filter (fun j => !isL ga gd gl life l j)).map (fun j : Nat => (j : Int))
theorem wants_no {ga gd gl : Int} {life : UInt64} {l : List X} {k : Nat} (h : isL ga gd gl life l k = false) : wants ga gd gl life l (k + 1) = wants ga gd gl life l k ++ [(k : Int)] := by
  unfold wants; rw [List.range_succ, List.filter_append, List.map_append]; simp [h]
theorem wants_yes {ga gd gl : Int} {life : UInt64} {l : List X} {k : Nat} (h : isL ga gd gl life l k = true) : wants ga gd gl life l (k + 1) = wants ga gd gl life l k := by
  unfold wants; rw [List.range_succ, List.filter_append, List.map_append]; simp [h]
theorem wants_len (ga gd gl : Int) (life : UInt64) (l : List X) (k : Nat) : (wants ga gd gl life l k).length ≤ k := by
  unfold wants; rw [List.length_map]; exact Nat.le_trans (List.length_filter_le _ _) (by simp)
theorem QInv.badL {ga gd gl : Int} {n N : Nat} (hn : (n : Int) = Geom.sizeOf ga gd gl) (hN : (N : Int) = pagesOf ga gd gl) {life : UInt64} {l : List X} {q : List (List UInt8) × St} (h : QInv ga gd gl life l n N N q) : Snap.badL q.1 q.2 ga gd gl life N = wants ga gd gl life l N := by
  unfold Snap.badL wants
  congr 1
  apply List.filter_congr
  intro j hj
  rw [h.isPg hn hN (List.mem_range.1 hj)]
theorem QInv.snapR {ga gd gl : Int} {n N : Nat} (hn : (n : Int) = Geom.sizeOf ga gd gl) (hN : (N : Int) = pagesOf ga gd gl) {life : UInt64} {l : List X} {q : List (List UInt8) × St} (h : QInv ga gd gl life l n N N q) :
    ((wants ga gd gl life l N).length = 0 ∧ ∃ r, Snap.snapR q.1 q.2 ga gd gl life N = some r ∧ r.length = N) ∨ (0 < (wants ga gd gl life l N).length ∧ Snap.snapR q.1 q.2 ga gd gl life N = none) := by
  rw [← h.badL hn hN]
  unfold Snap.snapR
  by_cases ha : allPg q.1 q.2 ga gd gl life N = true
  · left
    rw [if_pos ha]
    refine ⟨?_, _, rfl, bodies_len _ _ _ _ _ _ _⟩
    unfold Snap.badL
    unfold allPg at ha
    rw [List.all_eq_true] at ha
    rw [List.filter_eq_nil_iff.2 (fun k hk => by rw [ha k hk]; simp)]
    rfl
  · right
    rw [if_neg ha]
    refine ⟨?_, rfl⟩
    have ha' : allPg q.1 q.2 ga gd gl life N = false := by simpa using ha
    unfold allPg at ha'
    rw [List.all_eq_false] at ha'
    obtain ⟨k, hk, hp⟩ := ha'
    unfold Snap.badL
    rw [List.length_map]
    exact List.length_pos_of_mem (List.mem_filter.2 ⟨hk, by simpa using hp⟩)
end Go.Proofs.Ytmpmibcdpkolkaa.Snap

/- For the law on what is read of any sectors: the reference's test, a row that grows beside a disk. -/
namespace Go.Proofs.Ytmpmibcdpkolkaa
open Go.RowKit
set_option linter.unusedVariables false
theorem Here.row {w0 w w' : World} {g : Nat} {fp : List Nat} {s : Disk.St} {gS bS : Nat} {l : List (List UInt8)} {row : Option Nat} (h : Here w0 w g fp s gS bS l) (hg : w.grownBy w' row) (hr : ∀ r, row = some r → w0.heap.size ≤ r ∧ r ∉ gS :: bS :: fp) : Here w0 w' g fp s gS bS l := by
  have k : Keep row.toList w w' := Keep.of_grown hg (fun g e => by simp [e])
  have hn : ∀ r ∈ row.toList, w0.heap.size ≤ r ∧ r ∉ gS :: bS :: fp := fun r hr' => hr r (by simpa using hr')
  refine ⟨⟨h.both.disk.keep k (fun j hj e => (hn j e).2 (by simp [hj])), h.both.sym.keepK k (fun e => (hn _ e).2 (by simp)) (fun e => (hn _ e).2 (by simp)), h.both.nS, h.both.nB⟩, h.bel.grown hg h.bel.size (fun g e => (hr g e).1), h.own⟩
theorem Blk.row {w w' : World} {b : Nat} {xs : List Value} {row : Option Nat} (h : Blk w b xs) (hg : w.grownBy w' row) (hr : ∀ r, row = some r → r ≠ b) : Blk w' b xs := h.elim fun t hh => ⟨t, (hg.block b (lt_of_block hh) (fun e => hr b e.symm rfl)).trans hh⟩
end Go.Proofs.Ytmpmibcdpkolkaa
namespace Go.Proofs.Ytmpmibcdpkolkaa.Snap
open Go.RowKit
open Go.Proofs.Ytmpmibcdpkolkaa.Sec (X five5x)
set_option linter.unusedVariables false
set_option maxRecDepth 100000
set_option maxHeartbeats 1000000 in
theorem ris_any (x : X) (A : Option Addr) (c : Nat) (k : Nat) (life : UInt64) (w : World) :
    Calls Try.prog 47 #[.int .u64 (life.toNat : Int), .int .i64 (k : Int), .agg #[.int .i64 x.kind, .int .u64 (x.life.toNat : Int), .int .i64 x.seq, .int .u64 (x.gen.toNat : Int), .slice A x.body.length c]] w fun e w' => e = .returned (.bool (isX life k x)) ∧ Below w.heap.size w w' := by
  have b0 := b1alloc w (.cells ([.int .i64 x.kind, .int .u64 (x.life.toNat : Int), .int .i64 x.seq, .int .u64 (x.gen.toNat : Int), .slice A x.body.length c] : List Value).toArray 49)
  have hX := Blk.new w [.int .i64 x.kind, .int .u64 (x.life.toNat : Int), .int .i64 x.seq, .int .u64 (x.gen.toNat : Int), .slice A x.body.length c] 49
  obtain ⟨x0, x1, x2, x3, x4⟩ := five5x hX
  by_cases e1 : x.kind = 3
  rotate_left
  · have hn := Lib.hid (show isX life k x = false by simp [isX, e1])
    have t1 := beq_no e1
    clear e1
    go_enter Try.func47, Try.ntmps47
    go_wp2
    go_ret
    exact ⟨ret_bool hn.out.symm, b0⟩
  have t1 := beq_yes e1
  by_cases e2 : x.life = life
  rotate_left
  · have hn := Lib.hid (show isX life k x = false by simp [isX, e2])
    have t2 := beq_no (show (x.life.toNat : Int) ≠ (life.toNat : Int) from fun e => e2 (UInt64.toNat_inj.1 (by omega)))
    clear e1 e2
    go_enter Try.func47, Try.ntmps47
    go_wp2
    go_ret
    exact ⟨ret_bool hn.out.symm, b0⟩
  have t2 := beq_yes (show (x.life.toNat : Int) = (life.toNat : Int) by rw [e2])
  by_cases e3 : x.seq = (k : Int)
  rotate_left
  · have hn := Lib.hid (show isX life k x = false by simp [isX, e3])
    have t3 := beq_no e3
    clear e1 e2 e3
    go_enter Try.func47, Try.ntmps47
    go_wp2
    go_ret
    exact ⟨ret_bool hn.out.symm, b0⟩
  have t3 := beq_yes e3
  by_cases e4 : x.gen = 0
  · have hn := Lib.hid (show isX life k x = true by simp [isX, e1, e2, e3, e4])
    have t4 := beq_yes (show (x.gen.toNat : Int) = 0 by rw [e4]; rfl)
    clear e1 e2 e3 e4
    go_enter Try.func47, Try.ntmps47
    go_wp2
    go_ret
    exact ⟨ret_bool hn.out.symm, b0⟩
  · have hn := Lib.hid (show isX life k x = false by simp [isX, e4])
    have t4 := beq_no (show (x.gen.toNat : Int) ≠ 0 from fun e => e4 (UInt64.toNat_inj.1 (by rw [show (0 : UInt64).toNat = 0 from rfl]; omega)))
    clear e1 e2 e3 e4
    go_enter Try.func47, Try.ntmps47
    go_wp2
    go_ret
    exact ⟨ret_bool hn.out.symm, b0⟩
end Go.Proofs.Ytmpmibcdpkolkaa.Snap

/- The log, in plain Lean: how many calls an append takes, and how much the sums and the disk grow. No statement is proved here. -/
namespace Go.Proofs.Ytmpmibcdpkolkaa.Wal
open Go.RowKit
open Go.Proofs.Ytmpmibcdpkolkaa.Geom
open Go.Proofs.Ytmpmibcdpkolkaa.Disk (St Wr write flush burn)
open Go.Proofs.Ytmpmibcdpkolkaa.Sec (X text rightF)
open Go.Proofs.Ytmpmibcdpkolkaa.Sup (UpN)
open Go.Proofs.Ytmpmibcdpkolkaa.Enc (Itm xB xB_len encs enf encs_nil encs_go encs_stop enf_lim)
set_option linter.unusedVariables false
theorem write_calls {s : St} {n : Nat} (h2 : s.size = n) (hd : s.down = false) {p : Int} (h0 : 0 ≤ p) (h1 : p < n) {b : List UInt8} (hb : b.length = 512) : (write s p b).1.calls = s.calls + 1 ∧ (write s p b).1.size = n := by
  subst h2
  have hw : write s p b = burn { s with pend := s.pend ++ [(p.toNat, b)] } := by
    unfold write; rw [if_neg (by simp [hd]), if_neg (by omega), if_neg (by simpa using hb)]
  rw [hw]
  exact ⟨Disk.burn_calls _, (Disk.burn_lists _).2.2⟩
theorem flush_calls {s : St} (hd : s.down = false) : (flush s).1.calls = s.calls + 1 := by
  unfold flush
  rw [if_neg (by simp [hd])]
  have := Disk.burn_calls s
  split <;> simpa using this
theorem encs_calls {n : Nat} : ∀ (is : List Itm) (l : List (List UInt8)) (s : St), s.size = n → s.down = false → (∀ i ∈ is, 0 ≤ i.1 ∧ i.1 < n) → (encs is l s).2.2 = 0 → (encs is l s).2.1.calls = s.calls + is.length ∧ (encs is l s).2.1.down = false
  | [], l, s, h2, hd, _, _ => ⟨rfl, hd⟩
  | i :: r, l, s, h2, hd, hi, hz => by
    obtain ⟨h0, h1⟩ := hi i (by simp)
    obtain ⟨w1, w2⟩ := write_calls h2 hd h0 h1 (xB_len l i.1 i.2)
    obtain ⟨_, _, _, w4⟩ := Enc.write_cases h2 hd h0 h1 (xB_len l i.1 i.2)
    by_cases h : (write s i.1 (xB l i.1 i.2)).2 = 0
    · rw [encs_go h] at hz ⊢
      have hdn : (write s i.1 (xB l i.1 i.2)).1.down = false := by
        rcases w4 with ⟨e, _⟩ | ⟨_, e, _⟩
        · rw [e] at h; cases h
        · exact e
      obtain ⟨e1, e2⟩ := encs_calls r _ _ w2 hdn (fun j hj => hi j (by simp [hj])) hz
      exact ⟨by rw [e1, w1, List.length_cons]; omega, e2⟩
    · rw [encs_stop h] at hz
      exact absurd hz h
theorem enf_calls {n : Nat} {is : List Itm} {l : List (List UInt8)} {s : St} (h2 : s.size = n) (hd : s.down = false) (hi : ∀ i ∈ is, 0 ≤ i.1 ∧ i.1 < n) (hz : (enf is l s).2.2 = 0) : (enf is l s).2.1.calls = s.calls + (is.length + 1) := by
  unfold enf at hz ⊢
  by_cases h : (encs is l s).2.2 = 0
  · rw [if_pos h] at hz ⊢
    obtain ⟨e1, e2⟩ := encs_calls is l s h2 hd hi h
    show (flush (encs is l s).2.1).1.calls = _
    rw [flush_calls e2, e1]; omega
  · rw [if_neg h] at hz; exact absurd hz h
theorem items_bd {ga gd gl base : Int} {n : Nat} (hr : right ga gd gl = true) (hb : 0 ≤ base) (hn : (n : Int) = Geom.sizeOf ga gd gl) (xs : List X) (q : Nat) : ∀ i ∈ items ga gd gl base q xs, 0 ≤ i.1 ∧ i.1 < n := by
  intro i hi
  obtain ⟨k, hk, rfl⟩ := List.mem_iff_getElem.1 hi
  rw [items_len] at hk
  rw [items_get ga gd gl base xs q k (by rw [items_len]; exact hk) hk]
  have := pl_bd hr hb hn (q + k)
  exact ⟨this.1, this.2.1⟩
/-- an append's calls, and what it adds -/
theorem LogIs.calls {ga gd gl base : Int} {n : Nat} {l : List (List UInt8)} {s : St} {xs : List X} {t : Tx} {life : UInt64} (h : LogIs ga gd gl base n l s xs) (hr : right ga gd gl = true) (hb : 0 ≤ base) (hn : (n : Int) = Geom.sizeOf ga gd gl) (hl : (xs.length : Int) + t.pages.length < gl) (hbd : badB ga gd gl t.pages = false) :
    (putF ga gd gl base life xs.length t.gen t.pages l s).2.1.calls = s.calls + (t.pages.length + 3) ∧ (putF ga gd gl base life xs.length t.gen t.pages l s).1.length ≤ l.length + (t.pages.length + 1) ∧ (putF ga gd gl base life xs.length t.gen t.pages l s).2.1.sz ≤ s.sz + 2 * (t.pages.length + 2) := by
  have hy64 := right_yes hr
  have hd := items_data ga gd gl base life xs.length t.gen t.pages 0
  rw [Nat.add_zero] at hd
  obtain ⟨r1, h1⟩ := h.more (ys := dSecs life xs.length t.gen 0 t.pages) hr hb hn (by rw [dSecs_len]; omega) (fun k hk => by
    rw [dSecs_len] at hk
    rw [dSecs_get _ _ _ _ _ _ _ hk, Nat.zero_add]
    have hp := pl_bd hr hb hn (xs.length + k)
    exact dX_right hp.1 hp.2.2 (by decide) (by omega) (badB_of hbd hk).2.2)
  have c1 := enf_calls (l := l) h.up.size h.up.down (items_bd hr hb hn (dSecs life xs.length t.gen 0 t.pages) xs.length) r1
  obtain ⟨r2, h2⟩ := h1.more (ys := [dX 5 life xs.length t.pages.length t.gen t.pages.length []]) hr hb hn (by simp only [List.length_append, dSecs_len, List.length_singleton]; omega) (fun k hk => by
    obtain rfl : k = 0 := by simp at hk; exact hk
    have hp := pl_bd hr hb hn ((xs ++ dSecs life xs.length t.gen 0 t.pages).length + 0)
    exact dX_right hp.1 hp.2.2 (by decide) (by omega) (by simp))
  have c2 := enf_calls h1.up.size h1.up.down (items_bd hr hb hn [dX 5 life xs.length t.pages.length t.gen t.pages.length []] (xs ++ dSecs life xs.length t.gen 0 t.pages).length) r2
  have l1 := enf_lim (items ga gd gl base xs.length (dSecs life xs.length t.gen 0 t.pages)) l s
  have l2 := enf_lim (items ga gd gl base (xs ++ dSecs life xs.length t.gen 0 t.pages).length [dX 5 life xs.length t.pages.length t.gen t.pages.length []]) (enf (items ga gd gl base xs.length (dSecs life xs.length t.gen 0 t.pages)) l s).1 (enf (items ga gd gl base xs.length (dSecs life xs.length t.gen 0 t.pages)) l s).2.1
  rw [items_len, dSecs_len] at c1 l1
  rw [items_len, List.length_singleton] at c2 l2
  rw [List.length_append, dSecs_len] at c2 l2
  rw [hd] at r1 c1 c2 l1 l2
  unfold putF
  rw [if_pos r1]
  have hit : items ga gd gl base (xs.length + t.pages.length) [dX 5 life xs.length t.pages.length t.gen t.pages.length []] = [(logAt ga gd gl (base + ((xs.length + t.pages.length : Nat) : Int)), dX 5 life xs.length t.pages.length t.gen t.pages.length [])] := rfl
  rw [hit] at c2 l2
  refine ⟨?_, ?_, ?_⟩
  · rw [c2, c1]; omega
  · omega
  · omega
end Go.Proofs.Ytmpmibcdpkolkaa.Wal

/- The laws of the log: what a log beside a disk keeps. No statement is proved here. -/
namespace Go.Proofs.Ytmpmibcdpkolkaa.Wal
open Go.RowKit
open Go.Proofs.Ytmpmibcdpkolkaa.Geom
open Go.Proofs.Ytmpmibcdpkolkaa.Sup (Gb gv gcell gthree UpN)
open Go.Proofs.Ytmpmibcdpkolkaa.Disk (St DAt)
open Go.Proofs.Ytmpmibcdpkolkaa.Sec (X)
set_option linter.unusedVariables false
theorem HereL.turn2 {w0 w w' : World} {g : Nat} {fp : List Nat} {s s' : St} {gS bS : Nat} {l l' : List (List UInt8)} {L : Nat} {ga gd gl : Int} {life : UInt64} {base : Int} {seq seq' : Nat} (h : HereL w0 w g fp s gS bS l L ga gd gl life base seq) (t : WTurn w g fp gS bS L ga gd gl life base s' l' seq' w') : ∃ fp', HereL w0 w' g fp' s' gS bS l' L ga gd gl life base seq' ∧ Keep (L :: bS :: fp) w w' ∧ Fresh w fp fp' := by
  obtain ⟨fp', b, k, f, la⟩ := t
  refine ⟨fp', ⟨b, h.bel.trans (k.below h.own h.bel.size), fun j hj => ?_, la, fun hj => ?_⟩, k, f⟩
  · rcases List.mem_cons.1 hj with e | hj
    · exact h.own j (by rw [e]; simp)
    rcases List.mem_cons.1 hj with e | hj
    · exact h.own j (by rw [e]; simp)
    · exact f.ge (fun i hi => h.own i (by simp [hi])) h.bel.size j hj
  · rcases List.mem_cons.1 hj with e | hj
    · exact h.nL (by rw [e]; simp)
    rcases List.mem_cons.1 hj with e | hj
    · exact h.nL (by rw [e]; simp)
    · exact f.out h.lat.lt (fun e => h.nL (by simp [e])) hj
theorem HereL.row {w0 w w' : World} {g : Nat} {fp : List Nat} {s : St} {gS bS : Nat} {l : List (List UInt8)} {L : Nat} {ga gd gl : Int} {life : UInt64} {base : Int} {seq : Nat} {row : Option Nat} (h : HereL w0 w g fp s gS bS l L ga gd gl life base seq) (hg : w.grownBy w' row) (hr : ∀ r, row = some r → w0.heap.size ≤ r ∧ r ∉ gS :: bS :: fp ∧ r ≠ L) : HereL w0 w' g fp s gS bS l L ga gd gl life base seq := by
  have h1 := h.here.row hg (fun r e => ⟨(hr r e).1, (hr r e).2.1⟩)
  exact ⟨h1.both, h1.bel, h.own, h.lat.grown hg (fun e => (hr L e.symm).2.2 rfl), h.nL⟩
theorem append_no (L g gS : Nat) (ga gd gl : Int) (life : UInt64) (base : Int) (seq : Nat) (Q : Nat → Prop) (A : Option Addr) (l : List Pg) (c : Nat) (gen : UInt64) (w : World) (hG : Gb ga gd gl) (hL : LAt w L g gS ga gd gl life base seq) (hr : Pgs w Q A l) (hcl : l.length ≤ 1000000) (hs : seq ≤ 100000) (hg : 0 ≤ gl) (hg1 : gl ≤ 100000) (hf : whyF ga gd gl seq l ≠ 0) :
    Calls Try.prog 59 #[.pointer (some ⟨L, 0, none⟩), .slice A l.length c, .int .u64 (gen.toNat : Int)] w fun e w' => e = .returned (.int .i64 (whyF ga gd gl seq l)) ∧ Below w.heap.size w w' := by
  unfold whyF at hf ⊢
  by_cases hb : badB ga gd gl l = true
  · rw [if_pos hb]; exact append_bad L g gS ga gd gl life base seq Q A l c gen w hG hL hr hcl hb
  · have hb' : badB ga gd gl l = false := by simpa using hb
    rw [if_neg hb] at hf ⊢
    by_cases h1 : fitsB ga gd gl l.length = false
    · rw [if_pos h1]; exact append_big L g gS ga gd gl life base seq Q A l c gen w hG hL hr hcl hb' h1
    · have h1' : fitsB ga gd gl l.length = true := by simpa using h1
      rw [if_neg h1] at hf ⊢
      by_cases h2 : gl - (seq : Int) ≤ (l.length : Int)
      · rw [if_pos h2]; exact append_full L g gS ga gd gl life base seq Q A l c gen w hG hL hr hcl hb' h1' hs hg hg1 h2
      · rw [if_neg h2] at hf; exact absurd rfl hf
theorem whyF_zero {ga gd gl : Int} {seq : Nat} {l : List Pg} (h : whyF ga gd gl seq l = 0) : badB ga gd gl l = false ∧ fitsB ga gd gl l.length = true ∧ (seq : Int) + l.length < gl := by
  unfold whyF at h
  split at h
  · cases h
  · rename_i hb
    split at h
    · cases h
    · rename_i hf
      split at h
      · cases h
      · exact ⟨by simpa using hb, by simpa using hf, by omega⟩
/-- what the laws know of a log between two appends -/
structure AInv (ga gd gl base : Int) (life : UInt64) (n : Nat) (l : List Tx) (k : Nat) (ts : List Tx) (sm : List (List UInt8)) (st : St) : Prop where
  log : LogIs ga gd gl base n sm st (allSecs life 0 ts)
  len : ((allSecs life 0 ts).length : Int) ≤ gl
  bad : ∀ t ∈ ts, badB ga gd gl t.pages = false
  of_ : ∀ t ∈ ts, t ∈ l
  num : ts.length ≤ k
  sums : sm.length ≤ 100 * k
  size : st.sz ≤ 1000 * k
theorem AInv.start (ga gd gl base : Int) (life : UInt64) (n : Nat) (l : List Tx) (hg : 0 ≤ gl) : AInv ga gd gl base life n l 0 [] [] (Disk.new n) :=
  ⟨LogIs.new ga gd gl base n, by simpa [allSecs] using hg, fun t h => (by cases h), fun t h => (by cases h), Nat.le_refl _, by simp, Nat.le_refl _⟩
theorem AInv.more {ga gd gl base : Int} {life : UInt64} {n : Nat} {l : List Tx} {k : Nat} {ts : List Tx} {sm : List (List UInt8)} {st : St} (h : AInv ga gd gl base life n l k ts sm st) : AInv ga gd gl base life n l (k + 1) ts sm st :=
  ⟨h.log, h.len, h.bad, h.of_, by have := h.num; omega, by have := h.sums; omega, by have := h.size; omega⟩
theorem AInv.append {ga gd gl base : Int} {life : UInt64} {n : Nat} {l : List Tx} {k : Nat} {ts : List Tx} {sm : List (List UInt8)} {st : St} {t : Tx} (h : AInv ga gd gl base life n l k ts sm st) (hr : right ga gd gl = true) (hb : 0 ≤ base) (hn : (n : Int) = Geom.sizeOf ga gd gl) (hw : whyF ga gd gl (allSecs life 0 ts).length t.pages = 0) (ht : t ∈ l) :
    (putF ga gd gl base life (allSecs life 0 ts).length t.gen t.pages sm st).2.2 = 0 ∧
      AInv ga gd gl base life n l (k + 1) (ts ++ [t]) (putF ga gd gl base life (allSecs life 0 ts).length t.gen t.pages sm st).1 (putF ga gd gl base life (allSecs life 0 ts).length t.gen t.pages sm st).2.1 ∧
      (allSecs life 0 (ts ++ [t])).length = (allSecs life 0 ts).length + (t.pages.length + 1) ∧
      (putF ga gd gl base life (allSecs life 0 ts).length t.gen t.pages sm st).2.1.calls = st.calls + (t.pages.length + 3) := by
  obtain ⟨w1, w2, w3⟩ := whyF_zero hw
  obtain ⟨r, hl⟩ := h.log.append (t := t) (life := life) hr hb hn w3 w1
  obtain ⟨c1, c2, c3⟩ := h.log.calls (t := t) (life := life) hr hb hn w3 w1
  have hy := right_yes hr
  have hs := allSecs_snoc life ts 0 t
  rw [Nat.zero_add] at hs
  have hlen : (allSecs life 0 (ts ++ [t])).length = (allSecs life 0 ts).length + (t.pages.length + 1) := by rw [hs, List.length_append, tSecs_len]
  refine ⟨r, ⟨by rw [hs]; exact hl, by rw [hlen]; omega, fun u hu => ?_, fun u hu => ?_, by have := h.num; simp; omega, by have := h.sums; omega, by have := h.size; omega⟩, hlen, c1⟩
  · rcases List.mem_append.1 hu with hu | hu
    · exact h.bad u hu
    · rw [List.mem_singleton] at hu; rw [hu]; exact w1
  · rcases List.mem_append.1 hu with hu | hu
    · exact h.of_ u hu
    · rw [List.mem_singleton] at hu; rw [hu]; exact ht
/-- what is read back at a place of the log -/
theorem AInv.dec {ga gd gl base : Int} {life : UInt64} {n : Nat} {l : List Tx} {k : Nat} {ts : List Tx} {sm : List (List UInt8)} {st : St} (h : AInv ga gd gl base life n l k ts sm st) (hr : right ga gd gl = true) (hb : 0 ≤ base) (hn : (n : Int) = Geom.sizeOf ga gd gl) (j : Nat) (hj : j < (allSecs life 0 ts).length) :
    (Disk.keptAt st (pl ga gd gl base j)).length = 512 ∧ Sec.decode (Sec.ckS sm (Disk.keptAt st (pl ga gd gl base j))) (pl ga gd gl base j) (Disk.keptAt st (pl ga gd gl base j)) = ((allSecs life 0 ts)[j], 0) := by
  have p := pl_bd hr hb hn j
  have hk : Disk.keptAt st (pl ga gd gl base j) = Disk.kept st.all (pl ga gd gl base j).toNat := by unfold Disk.keptAt; rw [if_neg (by rw [h.log.up.size]; omega)]
  have hg := h.log.good j hj
  rw [hk]
  exact ⟨hg.len, hg.dec⟩
theorem AInv.scan {ga gd gl base : Int} {life : UInt64} {n : Nat} {l : List Tx} {k : Nat} {ts : List Tx} {sm : List (List UInt8)} {st : St} (h : AInv ga gd gl base life n l k ts sm st) (hr : right ga gd gl = true) (hb : 0 ≤ base) (hn : (n : Int) = Geom.sizeOf ga gd gl) : scanTx sm st ga gd gl base life = ts :=
  h.log.scan hr hb hn h.len (fun t ht x hx => by
    obtain ⟨j, hj, rfl⟩ := List.mem_iff_getElem.1 hx
    have := badB_of (h.bad t ht) hj
    exact ⟨this.1, this.2.1⟩)
end Go.Proofs.Ytmpmibcdpkolkaa.Wal

/- The log, in plain Lean: what stands where the power went: those that were appended, and perhaps the one that was being appended, are read. No statement is proved here. -/
namespace Go.Proofs.Ytmpmibcdpkolkaa.Wal
open Go.RowKit
open Go.Proofs.Ytmpmibcdpkolkaa.Geom
open Go.Proofs.Ytmpmibcdpkolkaa.Disk (St Wr write flush read kept new zero512 restart)
open Go.Proofs.Ytmpmibcdpkolkaa.Sec (X X0 text rightF place_of)
open Go.Proofs.Ytmpmibcdpkolkaa.Sup (UpN Gb text_inj)
open Go.Proofs.Ytmpmibcdpkolkaa.Enc (Itm Enf enf enf_of More kept_of rd rd_good rd_zero rd_sound restart_up)
set_option linter.unusedVariables false
theorem items_append (ga gd gl base : Int) : ∀ (a b : List X) (q : Nat), items ga gd gl base q (a ++ b) = items ga gd gl base q a ++ items ga gd gl base (q + a.length) b
  | [], b, q => by simp [items]
  | x :: a, b, q => by simp only [List.cons_append, items, List.length_cons]; rw [items_append ga gd gl base a b (q + 1), show q + 1 + a.length = q + (a.length + 1) by omega]
theorem tSecs_items (ga gd gl base : Int) (life : UInt64) (q : Nat) (t : Tx) : items ga gd gl base q (tSecs life q t) = dItems ga gd gl base life q t.gen 0 t.pages ++ [(logAt ga gd gl (base + ((q + t.pages.length : Nat) : Int)), dX 5 life q t.pages.length t.gen t.pages.length [])] := by
  have hd := items_data ga gd gl base life q t.gen t.pages 0
  rw [Nat.add_zero] at hd
  unfold tSecs
  rw [items_append, hd, dSecs_len]; rfl
theorem tSecs_right {ga gd gl base : Int} {life : UInt64} {q : Nat} {t : Tx} {n : Nat} (hr : right ga gd gl = true) (hb : 0 ≤ base) (hn : (n : Int) = Geom.sizeOf ga gd gl) (hl : (q : Int) + t.pages.length < gl) (hbd : badB ga gd gl t.pages = false) (j : Nat) (h : j < (tSecs life q t).length) : rightF (pl ga gd gl base (q + j)) (tSecs life q t)[j] = 0 := by
  have hy := right_yes hr
  have hp := pl_bd (base := base) hr hb hn (q + j)
  have hk := tSecs_len life q t
  have h' : j < (dSecs life q t.gen 0 t.pages ++ [dX 5 life q t.pages.length t.gen t.pages.length []]).length := h
  show rightF _ ((dSecs life q t.gen 0 t.pages ++ [dX 5 life q t.pages.length t.gen t.pages.length []])[j]'h') = 0
  by_cases h1 : j < t.pages.length
  · rw [List.getElem_append_left (by rw [dSecs_len]; exact h1), dSecs_get _ _ _ _ _ _ _ h1, Nat.zero_add]
    exact dX_right hp.1 hp.2.2 (by decide) (by omega) (badB_of hbd h1).2.2
  · obtain rfl : j = t.pages.length := by omega
    rw [List.getElem_append_right (Nat.le_of_eq (dSecs_len _ _ _ _ _))]
    simp only [dSecs_len, Nat.sub_self, List.getElem_cons_zero]
    exact dX_right hp.1 hp.2.2 (by decide) (by omega) (by simp)
/-- what becomes of an append, whatever the power does -/
structure PutT (ga gd gl base : Int) (n : Nat) (life : UInt64) (q : Nat) (t : Tx) (sm : List (List UInt8)) (st : St) (V : List (List UInt8) × St × Int) : Prop where
  size : V.2.1.size = n
  more : More sm V.1
  old : ∀ T ∈ sm, T ∈ V.1
  text : ∀ T ∈ V.1, T ∈ sm ∨ ∃ (j : Nat) (h : j < (tSecs life q t).length), T = text (pl ga gd gl base (q + j)) (tSecs life q t)[j]
  res : (V.2.2 = 12 ∧ V.2.1.down = true ∧ ¬ st.fuse < 0 ∧ ∃ m : List Wr, V.2.1.all = st.all ++ m ∧ ∀ w ∈ m ++ V.2.1.pend, ∃ j : Nat, j < (tSecs life q t).length ∧ w.1 = (pl ga gd gl base (q + j)).toNat) ∨
    (V.2.2 = 0 ∧ V.2.1.down = false ∧ V.2.1.pend = [] ∧ (st.fuse < 0 → V.2.1.fuse < 0) ∧ ∃ m : List Wr, V.2.1.all = st.all ++ m ∧ m.length = (tSecs life q t).length ∧ ∀ (j : Nat) (h : j < m.length) (h' : j < (tSecs life q t).length), m[j].1 = (pl ga gd gl base (q + j)).toNat ∧ Sup.Good V.1 (pl ga gd gl base (q + j)) (tSecs life q t)[j] m[j].2)
theorem putF_turn {ga gd gl base : Int} {n : Nat} {life : UInt64} {q : Nat} {t : Tx} {sm : List (List UInt8)} {st : St} (hs : st.size = n) (hp : st.pend = []) (hdn : st.down = false) (hr : right ga gd gl = true) (hb : 0 ≤ base) (hn : (n : Int) = Geom.sizeOf ga gd gl) (hl : (q : Int) + t.pages.length < gl) (hbd : badB ga gd gl t.pages = false) :
    PutT ga gd gl base n life q t sm st (putF ga gd gl base life q t.gen t.pages sm st) := by
  have htl := tSecs_len life q t
  have hit := tSecs_items ga gd gl base life q t
  have hget := fun (j : Nat) (h : j < (tSecs life q t).length) => items_get ga gd gl base (tSecs life q t) q j (by rw [items_len]; exact h) h
  unfold putF
  obtain ⟨I1, hI1⟩ : ∃ I1, I1 = dItems ga gd gl base life q t.gen 0 t.pages := ⟨_, rfl⟩
  obtain ⟨i2, hi2⟩ : ∃ i2 : Itm, i2 = (logAt ga gd gl (base + ((q + t.pages.length : Nat) : Int)), dX 5 life q t.pages.length t.gen t.pages.length []) := ⟨_, rfl⟩
  rw [← hI1, ← hi2] at hit
  rw [← hI1, ← hi2]
  have hl1 : I1.length = t.pages.length := by
    have h1 := congrArg List.length hit
    rw [items_len, htl, List.length_append, List.length_singleton] at h1
    omega
  have g1 : ∀ (j : Nat) (h : j < I1.length), ∃ h' : j < (tSecs life q t).length, I1[j] = (pl ga gd gl base (q + j), (tSecs life q t)[j]) := fun j h => by
    have h' : j < (tSecs life q t).length := by omega
    refine ⟨h', ?_⟩
    have e := hget j h'
    have e2 : (items ga gd gl base q (tSecs life q t))[j]'(by rw [items_len]; exact h') = (I1 ++ [i2])[j]'(by simp; omega) := by simp only [hit]
    rw [e2, List.getElem_append_left h] at e
    exact e
  have g2 : ∃ h' : t.pages.length < (tSecs life q t).length, i2 = (pl ga gd gl base (q + t.pages.length), (tSecs life q t)[t.pages.length]) := by
    have h' : t.pages.length < (tSecs life q t).length := by omega
    refine ⟨h', ?_⟩
    have e := hget _ h'
    have e2 : (items ga gd gl base q (tSecs life q t))[t.pages.length]'(by rw [items_len]; exact h') = (I1 ++ [i2])[t.pages.length]'(by simp; omega) := by simp only [hit]
    rw [e2, List.getElem_append_right (by omega)] at e
    simpa [hl1] using e
  obtain ⟨g2l, g2e⟩ := g2
  clear hget hit
  have hri := fun j h => tSecs_right (base := base) (life := life) hr hb hn hl hbd j h
  have hbdp := fun k => pl_bd (base := base) hr hb hn k
  obtain ⟨m1, e1⟩ := enf_of I1 sm st hs hdn (fun i hi => by
    obtain ⟨j, hj, rfl⟩ := List.mem_iff_getElem.1 hi
    obtain ⟨h', e⟩ := g1 j hj
    rw [e]
    exact ⟨hri j h', (hbdp _).1, (hbdp _).2.1⟩)
  have p1 : ∀ w ∈ m1, ∃ j : Nat, j < (tSecs life q t).length ∧ w.1 = (pl ga gd gl base (q + j)).toNat := fun w hw => by
    obtain ⟨j, hj, rfl⟩ := List.mem_iff_getElem.1 hw
    have hj' : j < I1.length := by have := e1.len; omega
    obtain ⟨h', e⟩ := g1 j hj'
    exact ⟨j, h', by rw [(e1.at_ j hj hj').1, e]⟩
  have t1 : ∀ T ∈ (enf I1 sm st).1, T ∈ sm ∨ ∃ (j : Nat) (h : j < (tSecs life q t).length), T = text (pl ga gd gl base (q + j)) (tSecs life q t)[j] := fun T hT => by
    rcases e1.text T hT with h | ⟨i, hi, h⟩
    · exact .inl h
    · obtain ⟨j, hj, rfl⟩ := List.mem_iff_getElem.1 hi
      obtain ⟨h', e⟩ := g1 j hj
      rw [e] at h
      exact .inr ⟨j, h', h⟩
  rcases e1.res with ⟨r1, r2, r3, r4, r5⟩ | ⟨r1, r2, r3, r4, r5, r6⟩
  · rw [if_neg (by rw [r1]; decide)]
    refine ⟨e1.size, e1.more, e1.old, t1, .inl ⟨r1, r2, r5, [], by rw [r3]; simp, fun w hw => ?_⟩⟩
    rw [List.nil_append, r4, hp, List.nil_append] at hw
    exact p1 w hw
  · rw [if_pos r1]
    rw [hp, List.nil_append] at r3
    obtain ⟨D, hD⟩ : ∃ D, D = enf I1 sm st := ⟨_, rfl⟩
    rw [← hD] at e1 t1 r1 r2 r3 r4 r6
    rw [← hD]
    obtain ⟨m2, e2⟩ := enf_of [i2] D.1 D.2.1 e1.size r2 (fun i hi => by
      rw [List.mem_singleton] at hi
      rw [hi, g2e]
      exact ⟨hri _ g2l, (hbdp _).1, (hbdp _).2.1⟩)
    have p2 : ∀ w ∈ m2, ∃ j : Nat, j < (tSecs life q t).length ∧ w.1 = (pl ga gd gl base (q + j)).toNat := fun w hw => by
      obtain ⟨j, hj, rfl⟩ := List.mem_iff_getElem.1 hw
      have hj' : j < [i2].length := by have := e2.len; omega
      obtain rfl : j = 0 := by simpa using hj'
      refine ⟨t.pages.length, g2l, ?_⟩
      rw [(e2.at_ 0 hj hj').1]
      show i2.1.toNat = _
      rw [g2e]
    have t2 : ∀ T ∈ (enf [i2] D.1 D.2.1).1, T ∈ sm ∨ ∃ (j : Nat) (h : j < (tSecs life q t).length), T = text (pl ga gd gl base (q + j)) (tSecs life q t)[j] := fun T hT => by
      rcases e2.text T hT with h | ⟨i, hi, h⟩
      · exact t1 T h
      · rw [List.mem_singleton] at hi
        rw [hi, g2e] at h
        exact .inr ⟨_, g2l, h⟩
    refine ⟨e2.size, e1.more.trans e2.more, fun T hT => e2.old T (e1.old T hT), t2, ?_⟩
    rcases e2.res with ⟨s1, s2, s3, s4, s5⟩ | ⟨s1, s2, s3, s4, s5, s6⟩
    · refine .inl ⟨s1, s2, fun e => s5 (r6 e), m1, by rw [s3, r3], fun w hw => ?_⟩
      rw [s4, r4, List.nil_append] at hw
      rcases List.mem_append.1 hw with hw | hw
      · exact p1 w hw
      · exact p2 w hw
    · refine .inr ⟨s1, s2, s4, fun e => s6 (r6 e), m1 ++ m2, by rw [s3, r3, r4, List.nil_append, List.append_assoc], by rw [List.length_append, r5, s5, htl, hl1]; rfl, fun j h h' => ?_⟩
      by_cases hj : j < m1.length
      · rw [List.getElem_append_left hj]
        have hj' : j < I1.length := by omega
        obtain ⟨h'', e⟩ := g1 j hj'
        obtain ⟨a1, a2⟩ := e1.at_ j hj hj'
        rw [e] at a1 a2
        exact ⟨a1, e2.more _ _ _ a2⟩
      · have s5' : m2.length = 1 := s5
        obtain rfl : j = t.pages.length := by rw [List.length_append] at h; omega
        obtain ⟨a1, a2⟩ := e2.at_ 0 (by omega) (by simp)
        rw [List.getElem_append_right (by omega)]
        simp only [r5, hl1, Nat.sub_self]
        have g21 : i2.1 = pl ga gd gl base (q + t.pages.length) := by rw [g2e]
        have g22 : i2.2 = (tSecs life q t)[t.pages.length] := by rw [g2e]
        rw [show [i2][0] = i2 from rfl, g21] at a1 a2
        rw [g22] at a2
        exact ⟨a1, a2⟩
/-- the log of a life has these sectors, by what was summed: no other sector of the life is ever read in its places -/
structure LogC (ga gd gl base : Int) (n : Nat) (life : UInt64) (sm : List (List UInt8)) (all : List Wr) (xs ys : List X) : Prop where
  good : ∀ k (h : k < xs.length), Sup.Good sm (pl ga gd gl base k) xs[k] (kept all (pl ga gd gl base k).toNat)
  only : ∀ (k : Nat) (x : X), (k : Int) < gl → rightF (pl ga gd gl base k) x = 0 → text (pl ga gd gl base k) x ∈ sm → x.life = life → (ys)[k]? = some x
theorem text_at {ga gd gl base : Int} {n : Nat} (hr : right ga gd gl = true) (hb : 0 ≤ base) (hn : (n : Int) = Geom.sizeOf ga gd gl) {j k : Nat} (hj : (j : Int) < gl) (hk : (k : Int) < gl) {x y : X} (hx : rightF (pl ga gd gl base k) x = 0) (hy : rightF (pl ga gd gl base j) y = 0) (h : text (pl ga gd gl base k) x = text (pl ga gd gl base j) y) : x = y ∧ k = j := by
  have e := text_inj hx hy h
  subst e
  have e2 := place_of hx hy h.symm
  exact ⟨rfl, (pl_inj hr hb hj hk e2).symm⟩
theorem LogC.kept {ga gd gl base : Int} {n : Nat} {life : UInt64} {sm sm' : List (List UInt8)} {all m : List Wr} {xs ys : List X} (h : LogC ga gd gl base n life sm all xs ys) (hr : right ga gd gl = true) (hb : 0 ≤ base) (hn : (n : Int) = Geom.sizeOf ga gd gl) (hl : (xs.length : Int) ≤ gl) (hm : More sm sm') {q e : Nat} (hq : xs.length ≤ q) (he : ((q + e : Nat) : Int) ≤ gl) (hw : ∀ w ∈ m, ∃ j : Nat, j < e ∧ w.1 = (pl ga gd gl base (q + j)).toNat) : ∀ k (h : k < xs.length), Sup.Good sm' (pl ga gd gl base k) xs[k] (Disk.kept (all ++ m) (pl ga gd gl base k).toNat) := fun k hk => by
  rw [Disk.kept_append all m _ (fun w h1 h2 => by
    obtain ⟨j, hj, e1⟩ := hw w h1
    rw [e1] at h2
    have p1 := pl_bd (base := base) hr hb hn (q + j)
    have p2 := pl_bd (base := base) hr hb hn k
    have := pl_inj hr hb (base := base) (j := q + j) (k := k) (by omega) (by omega) (by omega)
    omega)]
  exact hm _ _ _ (h.good k hk)
theorem LogC.only' {ga gd gl base : Int} {n : Nat} {life : UInt64} {sm sm' : List (List UInt8)} {all : List Wr} {xs : List X} {t : Tx} (h : LogC ga gd gl base n life sm all xs xs) (hr : right ga gd gl = true) (hb : 0 ≤ base) (hn : (n : Int) = Geom.sizeOf ga gd gl) (hl : (xs.length : Int) + t.pages.length < gl) (hbd : badB ga gd gl t.pages = false) (ht : ∀ T ∈ sm', T ∈ sm ∨ ∃ (j : Nat) (h : j < (tSecs life xs.length t).length), T = text (pl ga gd gl base (xs.length + j)) (tSecs life xs.length t)[j]) :
    ∀ (k : Nat) (x : X), (k : Int) < gl → rightF (pl ga gd gl base k) x = 0 → text (pl ga gd gl base k) x ∈ sm' → x.life = life → (xs ++ tSecs life xs.length t)[k]? = some x := fun k x hk hx hT hlf => by
  rcases ht _ hT with h1 | ⟨j, hj, e⟩
  · have h2 := h.only k x hk hx h1 hlf
    have h3 : k < xs.length := by
      rcases Nat.lt_or_ge k xs.length with h4 | h4
      · exact h4
      · rw [List.getElem?_eq_none h4] at h2; cases h2
    rw [List.getElem?_append_left h3]; exact h2
  · have htl := tSecs_len life xs.length t
    obtain ⟨e1, e2⟩ := text_at hr hb hn (j := xs.length + j) (by omega) hk hx (tSecs_right hr hb hn hl hbd j hj) e
    rw [e2, List.getElem?_append_right (by omega), Nat.add_sub_cancel_left, e1, List.getElem?_eq_getElem hj]
/-- an append that is told -/
theorem LogC.append {ga gd gl base : Int} {n : Nat} {life : UInt64} {sm : List (List UInt8)} {st : St} {xs : List X} {t : Tx} {V : List (List UInt8) × St × Int} (h : LogC ga gd gl base n life sm st.all xs xs) (hr : right ga gd gl = true) (hb : 0 ≤ base) (hn : (n : Int) = Geom.sizeOf ga gd gl) (hl : (xs.length : Int) + t.pages.length < gl) (hbd : badB ga gd gl t.pages = false) (hV : PutT ga gd gl base n life xs.length t sm st V) (hz : V.2.2 = 0) : LogC ga gd gl base n life V.1 V.2.1.all (xs ++ tSecs life xs.length t) (xs ++ tSecs life xs.length t) := by
  have htl := tSecs_len life xs.length t
  refine ⟨fun k hk => ?_, h.only' hr hb hn hl hbd hV.text⟩
  rcases hV.res with ⟨r, _⟩ | ⟨_, _, _, _, m, r1, r2, r3⟩
  · rw [r] at hz; cases hz
  have hat : ∀ k (h : k < m.length), ∃ h' : k < (tSecs life xs.length t).length, m[k].1 = (pl ga gd gl base (xs.length + k)).toNat := fun k h => ⟨by omega, (r3 k h (by omega)).1⟩
  rw [r1]
  by_cases h1 : k < xs.length
  · rw [List.getElem_append_left h1]
    exact h.kept hr hb hn (by omega) hV.more (Nat.le_refl _) (e := (tSecs life xs.length t).length) (by omega) (fun w hw => by
      obtain ⟨j, hj, rfl⟩ := List.mem_iff_getElem.1 hw
      obtain ⟨h', e⟩ := hat j hj
      exact ⟨j, h', e⟩) k h1
  · rw [List.length_append] at hk
    rw [List.getElem_append_right (by omega)]
    obtain ⟨a1, a2⟩ := r3 (k - xs.length) (by omega) (by omega)
    rw [show xs.length + (k - xs.length) = k by omega] at a1 a2
    rw [← a1, kept_of st.all m (k - xs.length) (by omega) (fun a b ha hb' hab => ?_)]
    · exact a2
    · obtain ⟨ha', ea⟩ := hat a ha
      obtain ⟨hb'', eb⟩ := hat b hb'
      rw [ea, eb] at hab
      have p1 := pl_bd (base := base) hr hb hn (xs.length + a)
      have p2 := pl_bd (base := base) hr hb hn (xs.length + b)
      have := pl_inj hr hb (base := base) (j := xs.length + a) (k := xs.length + b) (by omega) (by omega) (by omega)
      omega
/-- an append in which the power goes: and behind it, whatever becomes of what was pending -/
theorem LogC.crash {ga gd gl base : Int} {n : Nat} {life : UInt64} {sm : List (List UInt8)} {st : St} {xs : List X} {t : Tx} {V : List (List UInt8) × St × Int} (h : LogC ga gd gl base n life sm st.all xs xs) (hr : right ga gd gl = true) (hb : 0 ≤ base) (hn : (n : Int) = Geom.sizeOf ga gd gl) (hl : (xs.length : Int) + t.pages.length < gl) (hbd : badB ga gd gl t.pages = false) (hV : PutT ga gd gl base n life xs.length t sm st V) (hz : V.2.2 ≠ 0) (keep : List Int) (torn at_ : Int) :
    UpN (restart V.2.1 keep torn at_) n ∧ LogC ga gd gl base n life V.1 (restart V.2.1 keep torn at_).all xs (xs ++ tSecs life xs.length t) := by
  have htl := tSecs_len life xs.length t
  obtain ⟨u, _, m', e, hm'⟩ := restart_up hV.size keep torn at_
  refine ⟨u, fun k hk => ?_, h.only' hr hb hn hl hbd hV.text⟩
  rcases hV.res with ⟨_, _, _, m, r1, r2⟩ | ⟨r, _⟩
  rotate_left
  · exact absurd r hz
  rw [e, r1, List.append_assoc]
  exact h.kept hr hb hn (by omega) hV.more (Nat.le_refl _) (e := (tSecs life xs.length t).length) (by omega) (fun w hw => by
    rcases List.mem_append.1 hw with hw | hw
    · exact r2 w (List.mem_append.2 (.inl hw))
    · obtain ⟨v, hv, e⟩ := hm' w hw
      obtain ⟨j, hj, e2⟩ := r2 v (List.mem_append.2 (.inr hv))
      exact ⟨j, hj, e.trans e2⟩) k hk
end Go.Proofs.Ytmpmibcdpkolkaa.Wal

/- The log, in plain Lean: what is scanned where the power went. No statement is proved here. -/
namespace Go.Proofs.Ytmpmibcdpkolkaa.Wal
open Go.RowKit
open Go.Proofs.Ytmpmibcdpkolkaa.Geom
open Go.Proofs.Ytmpmibcdpkolkaa.Disk (St Wr write flush read kept new zero512 restart)
open Go.Proofs.Ytmpmibcdpkolkaa.Sec (X X0 text rightF place_of)
open Go.Proofs.Ytmpmibcdpkolkaa.Sup (UpN Gb text_inj)
open Go.Proofs.Ytmpmibcdpkolkaa.Enc (Itm Enf enf enf_of More kept_of rd rd_good rd_zero rd_sound restart_up)
set_option linter.unusedVariables false
theorem find_stop (good : Nat → Bool) : ∀ N : Nat, ∃ K, K ≤ N ∧ (∀ j, j < K → good j = true) ∧ (K = N ∨ good K = false)
  | 0 => ⟨0, Nat.le_refl _, fun j h => absurd h (Nat.not_lt_zero _), .inl rfl⟩
  | N + 1 => by
    obtain ⟨K, h1, h2, h3⟩ := find_stop good N
    rcases h3 with h3 | h3
    · subst h3
      cases hg : good K with
      | true => exact ⟨K + 1, Nat.le_refl _, fun j hj => by
          rcases Nat.lt_or_ge j K with h | h
          · exact h2 j h
          · obtain rfl : j = K := by omega
            exact hg, .inl rfl⟩
      | false => exact ⟨K, by omega, h2, .inr hg⟩
    · exact ⟨K, by omega, h2, .inr h3⟩
theorem dSecs_take (life : UInt64) (q : Nat) (gen : UInt64) : ∀ (l : List Pg) (i j : Nat), (dSecs life q gen i l).take j = dSecs life q gen i (l.take j)
  | [], i, j => by simp [dSecs]
  | x :: r, i, 0 => by simp [dSecs]
  | x :: r, i, j + 1 => by simp only [dSecs, List.take_succ_cons]; rw [dSecs_take life q gen r (i + 1) j]
theorem range_num {rdf : Nat → X} {S : List X} {K : Nat} (hK : K ≤ S.length) (h : ∀ k, k < K → S[k]? = some (rdf k)) : (List.range K).map (fun j => (j, rdf j)) = num 0 (S.take K) := by
  have h1 := num_range (S.take K)
  have h2 : (S.take K).length = K := by rw [List.length_take]; omega
  rw [h2] at h1
  rw [← h1]
  apply List.map_congr_left
  intro j hj
  have hj' := List.mem_range.1 hj
  have h3 : (S.take K).getD j X0 = rdf j := by
    rw [List.getD, List.getElem?_take_of_lt hj', h j hj']; rfl
  rw [h3]
/-- what is scanned where just these stand, and perhaps some of one more -/
theorem scan_some {np : Int} {life : UInt64} {rdf : Nat → X} {good : Nat → Bool} {N : Nat} {ts : List Tx} {t : Tx} (hnp : np ≤ 65536) (hN1 : N < 65536) (hN : (allSecs life 0 (ts ++ [t])).length ≤ N) (hx : ∀ u ∈ ts ++ [t], ∀ x ∈ u.pages, 0 ≤ x.n ∧ x.n < np)
    (hr : ∀ k, k < (allSecs life 0 ts).length → good k = true) (ho : ∀ k, k < N → good k = true → (allSecs life 0 (ts ++ [t]))[k]? = some (rdf k)) : (scanH np rdf good N 0 r00).all = ts ∨ (scanH np rdf good N 0 r00).all = ts ++ [t] := by
  obtain ⟨K, hK, hg, he⟩ := find_stop good N
  have hs := allSecs_snoc life ts 0 t
  rw [Nat.zero_add] at hs
  have htl := tSecs_len life (allSecs life 0 ts).length t
  obtain ⟨S, hS⟩ : ∃ S, S = allSecs life 0 (ts ++ [t]) := ⟨_, rfl⟩
  have hSl : S.length = (allSecs life 0 ts).length + (t.pages.length + 1) := by rw [hS, hs, List.length_append, htl]
  rw [← hS] at hN ho
  have hKS : K ≤ S.length := by
    rcases Nat.lt_or_ge S.length K with h | h
    · have := ho S.length (by omega) (hg _ h)
      rw [List.getElem?_eq_none (Nat.le_refl _)] at this; cases this
    · exact h
  have hMK : (allSecs life 0 ts).length ≤ K := by
    rcases Nat.lt_or_ge K (allSecs life 0 ts).length with h | h
    · have := hr K h
      rcases he with e | e
      · omega
      · rw [this] at e; cases e
    · exact h
  have hm := range_num (rdf := rdf) hKS (fun k hk => ho k (by omega) (hg k hk))
  by_cases hKe : K = S.length
  · right
    obtain ⟨g', e⟩ := takes_all (life := life) hnp (ts ++ [t]) 0 [] 0 (by rw [← hS]; omega) hx
    obtain ⟨e1, e2⟩ := takes_fold np _ _ [] (okR_nil np) e
    rw [List.nil_append, ← hS] at e1 e2
    have hm' : (List.range K).map (fun j => (j, rdf j)) = num 0 S := by rw [hm, hKe, List.take_length]
    rw [scanH_done hK hg (by rw [hm']; exact e1) he, hm', e2]
    simp
  · left
    obtain ⟨j, hj⟩ : ∃ j, K = (allSecs life 0 ts).length + j := ⟨K - (allSecs life 0 ts).length, by omega⟩
    have hjl : j ≤ t.pages.length := by omega
    have htake : S.take K = allSecs life 0 ts ++ dSecs life (allSecs life 0 ts).length t.gen 0 (t.pages.take j) := by
      rw [hS, hs, hj, List.take_append, List.take_of_length_le (by omega), Nat.add_sub_cancel_left]
      unfold tSecs
      rw [List.take_append_of_le_length (by rw [dSecs_len]; exact hjl), dSecs_take]
    obtain ⟨g', e⟩ := takes_all (life := life) hnp ts 0 [] 0 (by omega) (fun u hu => hx u (by simp [hu]))
    obtain ⟨g2, f1, f2⟩ := takes_data (life := life) (gen := t.gen) (q := (allSecs life 0 ts).length) (by omega) hnp (t.pages.take j) 0 ⟨[] ++ ts, [], g', 0 + (allSecs life 0 ts).length⟩ (fun x hx' => hx t (by simp) x (List.mem_of_mem_take hx')) (Nat.zero_add _) (fun h => absurd rfl h)
    have e3 := takes_append np (num 0 (allSecs life 0 ts)) (num (0 + (allSecs life 0 ts).length) (dSecs life (allSecs life 0 ts).length t.gen 0 (t.pages.take j))) _ _ e
    rw [← num_append, ← htake] at e3
    rw [Nat.add_zero] at f1
    rw [show 0 + (allSecs life 0 ts).length = (allSecs life 0 ts).length from Nat.zero_add _] at e3 f1
    rw [f1] at e3
    obtain ⟨e1, e2⟩ := takes_fold np _ _ [] (okR_nil np) e3
    rw [List.nil_append] at e1 e2
    rw [scanH_done hK hg (by rw [hm]; exact e1) he, hm, e2]
    simp
theorem LogC.read {ga gd gl base : Int} {n : Nat} {life : UInt64} {sm : List (List UInt8)} {st : St} {xs ys : List X} (h : LogC ga gd gl base n life sm st.all xs ys) (hu : UpN st n) (hr : right ga gd gl = true) (hb : 0 ≤ base) (hn : (n : Int) = Geom.sizeOf ga gd gl) {k : Nat} (hk : k < xs.length) : rdL sm st ga gd gl base k = (xs[k], 0) := by
  have p := pl_bd (base := base) hr hb hn k
  exact rd_good hu p.1 p.2.1 (h.good k hk)
theorem LogC.sound {ga gd gl base : Int} {n : Nat} {life : UInt64} {sm : List (List UInt8)} {st : St} {xs ys : List X} (h : LogC ga gd gl base n life sm st.all xs ys) {k : Nat} (hk : (k : Int) < gl) (hg : goodL sm st ga gd gl base life k = true) : ys[k]? = some (rdL sm st ga gd gl base k).1 := by
  unfold goodL at hg
  simp only [Bool.and_eq_true, decide_eq_true_eq] at hg
  obtain ⟨r1, r2⟩ := rd_sound hg.1
  exact h.only k _ hk r1 r2 hg.2.1
theorem LogC.isgood {ga gd gl base : Int} {n : Nat} {life : UInt64} {sm : List (List UInt8)} {st : St} {ts : List Tx} {ys : List X} (h : LogC ga gd gl base n life sm st.all (allSecs life 0 ts) ys) (hu : UpN st n) (hr : right ga gd gl = true) (hb : 0 ≤ base) (hn : (n : Int) = Geom.sizeOf ga gd gl) {k : Nat} (hk : k < (allSecs life 0 ts).length) : goodL sm st ga gd gl base life k = true := by
  have e := h.read hu hr hb hn hk
  have a := allSecs_at life ts 0 k hk
  unfold goodL
  rw [e]
  simp only [a.1, a.2]
  simp
/-- what is scanned: just these -/
theorem LogC.scan {ga gd gl base : Int} {n : Nat} {life : UInt64} {sm : List (List UInt8)} {st : St} {ts : List Tx} (h : LogC ga gd gl base n life sm st.all (allSecs life 0 ts) (allSecs life 0 ts)) (hu : UpN st n) (hr : right ga gd gl = true) (hb : 0 ≤ base) (hn : (n : Int) = Geom.sizeOf ga gd gl) (hl : ((allSecs life 0 ts).length : Int) ≤ gl) (hx : ∀ t ∈ ts, ∀ x ∈ t.pages, 0 ≤ x.n ∧ x.n < pagesOf ga gd gl) : scanTx sm st ga gd gl base life = ts := by
  have hy := right_yes hr
  have hp := pagesOf_bd ga gd gl
  unfold scanTx
  refine scan_all (life := life) (by omega) (by omega) (by omega) hx (fun k hk => ?_) ?_
  · exact ⟨by rw [h.read hu hr hb hn hk], h.isgood hu hr hb hn hk⟩
  · by_cases hN : (allSecs life 0 ts).length = gl.toNat
    · exact .inl hN
    · right
      cases hg : goodL sm st ga gd gl base life (allSecs life 0 ts).length with
      | false => rfl
      | true =>
        have := h.sound (by omega) hg
        rw [List.getElem?_eq_none (Nat.le_refl _)] at this; cases this
/-- what is scanned where the power went: just these, or also the one that was being appended -/
theorem LogC.scan2 {ga gd gl base : Int} {n : Nat} {life : UInt64} {sm : List (List UInt8)} {st : St} {ts : List Tx} {t : Tx} (h : LogC ga gd gl base n life sm st.all (allSecs life 0 ts) (allSecs life 0 ts ++ tSecs life (allSecs life 0 ts).length t)) (hu : UpN st n) (hr : right ga gd gl = true) (hb : 0 ≤ base) (hn : (n : Int) = Geom.sizeOf ga gd gl) (hl : ((allSecs life 0 ts).length : Int) + t.pages.length < gl) (hx : ∀ u ∈ ts ++ [t], ∀ x ∈ u.pages, 0 ≤ x.n ∧ x.n < pagesOf ga gd gl) : scanTx sm st ga gd gl base life = ts ∨ scanTx sm st ga gd gl base life = ts ++ [t] := by
  have hy := right_yes hr
  have hp := pagesOf_bd ga gd gl
  have hs := allSecs_snoc life ts 0 t
  rw [Nat.zero_add] at hs
  unfold scanTx
  refine scan_some (life := life) (by omega) (by omega) ?_ hx (fun k hk => h.isgood hu hr hb hn hk) (fun k hk hg => ?_)
  · rw [hs, List.length_append, tSecs_len]; omega
  · rw [hs]; exact h.sound (by omega) hg
/-- another life has none -/
theorem scan_none {sm : List (List UInt8)} {st : St} {ga gd gl base : Int} {life : UInt64} (h : ∀ (p : Int) (x : X), rightF p x = 0 → text p x ∈ sm → x.life ≠ life) : scanTx sm st ga gd gl base life = [] := by
  have hg : goodL sm st ga gd gl base life 0 = false := by
    cases hg : goodL sm st ga gd gl base life 0 with
    | false => rfl
    | true =>
      unfold goodL at hg
      simp only [Bool.and_eq_true, decide_eq_true_eq] at hg
      obtain ⟨r1, r2⟩ := rd_sound hg.1
      exact absurd hg.2.1 (h _ _ r1 r2)
  unfold scanTx
  cases hN : gl.toNat with
  | zero => rfl
  | succ m => show (if _ then _ else _ : Rg).all = _; rw [if_neg (by rw [hg]; simp)]; rfl
/-- all that was summed is of one life -/
def Lives (life : UInt64) (sm : List (List UInt8)) : Prop := ∀ (p : Int) (x : X), rightF p x = 0 → text p x ∈ sm → x.life = life
theorem Lives.put {ga gd gl base : Int} {n : Nat} {life : UInt64} {q : Nat} {t : Tx} {sm : List (List UInt8)} {st : St} {V : List (List UInt8) × St × Int} (h : Lives life sm) (hV : PutT ga gd gl base n life q t sm st V) (hr : right ga gd gl = true) (hb : 0 ≤ base) (hn : (n : Int) = Geom.sizeOf ga gd gl) (hl : (q : Int) + t.pages.length < gl) (hbd : badB ga gd gl t.pages = false) : Lives life V.1 := fun p x hx hT => by
  rcases hV.text _ hT with h1 | ⟨j, hj, e⟩
  · exact h p x hx h1
  · rw [text_inj hx (tSecs_right hr hb hn hl hbd j hj) e]
    exact (tSecs_at life q t j hj).1
theorem putF_lim (ga gd gl base : Int) (life : UInt64) (q : Nat) (t : Tx) (sm : List (List UInt8)) (st : St) : (putF ga gd gl base life q t.gen t.pages sm st).1.length ≤ sm.length + (t.pages.length + 1) ∧ (putF ga gd gl base life q t.gen t.pages sm st).2.1.sz ≤ st.sz + 2 * (t.pages.length + 2) := by
  have hd := items_data ga gd gl base life q t.gen t.pages 0
  rw [Nat.add_zero] at hd
  have hl : (dItems ga gd gl base life q t.gen 0 t.pages).length = t.pages.length := by rw [← hd, items_len, dSecs_len]
  obtain ⟨l1, l2⟩ := Enc.enf_lim (dItems ga gd gl base life q t.gen 0 t.pages) sm st
  rw [hl] at l1 l2
  unfold putF
  split
  · obtain ⟨l3, l4⟩ := Enc.enf_lim [(logAt ga gd gl (base + ((q + t.pages.length : Nat) : Int)), dX 5 life q t.pages.length t.gen t.pages.length [])] (enf (dItems ga gd gl base life q t.gen 0 t.pages) sm st).1 (enf (dItems ga gd gl base life q t.gen 0 t.pages) sm st).2.1
    simp only [List.length_cons, List.length_nil] at l3 l4
    omega
  · omega
end Go.Proofs.Ytmpmibcdpkolkaa.Wal

/- The log: what can not be scanned; the laws' turning of transactions. No statement is proved here. -/
namespace Go.Proofs.Ytmpmibcdpkolkaa.Wal
open Go.RowKit
open Go.Proofs.Ytmpmibcdpkolkaa.Geom
open Go.Proofs.Ytmpmibcdpkolkaa.Sup (Gb gv gcell gthree)
open Go.Proofs.Ytmpmibcdpkolkaa.Disk (St DAt)
set_option linter.unusedVariables false
set_option maxRecDepth 100000
attribute [local irreducible] wpQuiet
theorem scan_wrong (g : Nat) (fp : List Nat) (s : St) (gS : Nat) (ga gd gl : Int) (life : UInt64) (base : Int) (w : World) (hG : Gb ga gd gl) (h : DAt w g fp s) (hf : wrightF s ga gd gl base ≠ 0) :
    Calls Try.prog 50 #[.pointer (some ⟨g, 0, none⟩), .pointer (some ⟨gS, 0, none⟩), gv ga gd gl, .int .u64 (life.toNat : Int), .int .i64 base] w fun e w' => e = .returned (.tuple #[.slice none 0 0, .int .i64 (wrightF s ga gd gl base)]) ∧ Below w.heap.size w w' := by
  have b0 := b2alloc w (.cells (gcell ga gd gl).toArray 23) (.cells (rcell (.pointer (some ⟨g, 0, none⟩)) (.pointer (some ⟨gS, 0, none⟩)) ga gd gl life base).toArray 160)
  obtain ⟨z0, z1, z2⟩ := gthree (Blk.new w (gcell ga gd gl) 23)
  have HB := Lib.hid (fun W (bW : Below w.heap.size w W) => right_any g fp s gS ga gd gl life base W hG (h.on bW))
  obtain ⟨f, hf0⟩ : ∃ f, f = wrightF s ga gd gl base := ⟨_, rfl⟩
  rw [← hf0] at HB hf ⊢
  have t0 := bne_yes hf
  clear hf0
  go_enter Try.func50, Try.ntmps50
  go_wp2_with fail
  refine wp_scope_straight ?_
  go_wp2_with (go_at_call 100; refine (HB.out _ b0).mono ?_; rintro e w1 ⟨rfl, b1⟩)
  rw [Exit.noGoto_ret]
  go_ret2
  exact ⟨rfl, bt b0 b1⟩
theorem scanS_nil (g : Nat) (ga gd gl : Int) (life : UInt64) (base : Int) (w : World) :
    Calls Try.prog 50 #[.pointer (some ⟨g, 0, none⟩), .pointer none, gv ga gd gl, .int .u64 (life.toNat : Int), .int .i64 base] w fun e w' => e = .returned (.tuple #[.slice none 0 0, .int .i64 1]) ∧ Below w.heap.size w w' := by
  have b0 := b2alloc w (.cells (gcell ga gd gl).toArray 23) (.cells (rcell (.pointer (some ⟨g, 0, none⟩)) (.pointer none) ga gd gl life base).toArray 160)
  obtain ⟨z0, z1, z2⟩ := gthree (Blk.new w (gcell ga gd gl) 23)
  go_enter Try.func50, Try.ntmps50
  go_wp2_with fail
  refine wp_scope_straight ?_
  go_wp2_with (go_at_call 100; refine (rightS_nil g ga gd gl life base _).mono ?_; rintro e w1 ⟨rfl, b1⟩)
  rw [Exit.noGoto_ret]
  go_ret2
  exact ⟨rfl, bt b0 b1⟩
theorem infoRT1 : (Try.prog.info? 104).map (fun i => (i.zero, i.size, i.bytes)) = some (some (.agg #[.slice none 0 0, .int .u64 0]), 2, 32) := by kernel_rfl
theorem alloc_drew3 (w : World) (o : Obj) : Below w.heap.size w (w.alloc o).drew := ⟨(b1alloc w o).os, (b1alloc w o).tape, (b1alloc w o).output, (b1alloc w o).size, (b1alloc w o).block⟩
/-- one that is turned: where its pages lie -/
structure Er where
  A : Option Addr
  c : Nat
  x : Tx
def Er.cells (e : Er) : List Value := [.slice e.A e.x.pages.length e.c, .int .u64 (e.x.gen.toNat : Int)]
structure ErOk (w : World) (Q : Nat → Prop) (e : Er) : Prop where
  pgs : Pgs w Q e.A e.x.pages
  cap : e.x.pages.length ≤ e.c
  max : e.c ≤ maxLen
theorem ErOk.on {w w' : World} {Q : Nat → Prop} {e : Er} (h : ErOk w Q e) (b : Below w.heap.size w w') : ErOk w' Q e := ⟨h.pgs.on b, h.cap, h.max⟩
theorem er_txs {w w' : World} {Q : Nat → Prop} {A : Option Addr} {l : List Tx} {c : Nat} {es : List Er} (hr : w'.ownsRow w.heap.size 104 2 (.slice A l.length c) l.length (es.flatMap Er.cells)) (he : es.map Er.x = l) (hok : ∀ e ∈ es, ErOk w Q e) (b : Below w.heap.size w w') :
    Txs w' (fun _ => True) A l := by
  have hll : es.length = l.length := by rw [← he]; simp
  intro hne
  have hp : 0 < l.length := by cases l; exact absurd rfl hne; simp
  obtain ⟨g, c', e, hg⟩ := own_some hr (by omega)
  injection e with e1 e2 e3
  subst e1
  obtain ⟨cs, hcs⟩ := Disk.own_blk hr
  refine ⟨g, 0, rfl, lt_of_block hcs, trivial, fun i hi => ?_⟩
  have hi' : i < es.length := by omega
  have hk := (hok _ (List.getElem_mem hi')).on b
  have c0 := own_cell2 (f := Er.cells) (fun _ => rfl) hr i hi' 0 (by omega)
  have c1 := own_cell2 (f := Er.cells) (fun _ => rfl) hr i hi' 1 (by omega)
  have hx : l[i] = es[i].x := by
    have : l[i]? = (es.map Er.x)[i]? := by rw [he]
    rw [List.getElem?_map, List.getElem?_eq_getElem hi, List.getElem?_eq_getElem hi'] at this
    simpa using this
  refine ⟨es[i].A, es[i].c, ?_⟩
  rw [Nat.zero_add, hx]
  exact ⟨by simpa [Er.cells] using c0, by simpa [Er.cells] using c1, hk.pgs.imp (fun _ _ _ => trivial), hk.cap, hk.max⟩
set_option maxHeartbeats 2000000 in
theorem of_any (Q : Nat → Prop) (A : Option Addr) (l : List Tx) (c : Nat) (w : World) (hr : Txs w Q A l) (hl : l.length ≤ 100000) :
    Calls Try.prog 52 #[.slice A l.length c] w fun e w' => (∃ A' c', e = .returned (.slice A' l.length c') ∧ Txs w' (fun _ => True) A' l ∧ l.length ≤ c' ∧ c' ≤ maxLen) ∧ Below w.heap.size w w' := by
  obtain ⟨i0, hi0, hz0, hz1, hz2⟩ := info_parts infoRT1
  obtain ⟨N, hN⟩ : ∃ N, N = l.length := ⟨_, rfl⟩
  rw [← hN]
  have HN := Lib.hid hN
  have HR := Lib.hid hr
  have hl' : N ≤ 100000 := by omega
  clear hN hr hl
  go_enter Try.func52, Try.ntmps52
  go_wp2_with fail
  go_loopw [3, 4] (fun o i wr => ∃ k : Nat, k ≤ N ∧ i = .int .i64 (k : Int) ∧ Below w.heap.size w wr ∧ ∃ es : List Er, wr.ownsRow w.heap.size 104 2 o k (es.flatMap Er.cells) ∧ Hid (es.map Er.x = l.take k ∧ ∀ e ∈ es, ErOk w Q e)) (fun _ i _ => N - (intOf i).toNat)
  case atStart => exact ⟨0, by omega, rfl, Below.refl _ _, [], own_nil _ _ _ _, Lib.hid ⟨by simp, fun e h => by cases h⟩⟩
  case round =>
    obtain ⟨k, hk, rfl, bel, es, hown, hes⟩ := hrel
    obtain ⟨Ao, co, rfl⟩ := own_form hown
    by_cases hlt : k < N
    · have hll : k < l.length := by have := HN.out; omega
      have hkm : (k : Int) < (N : Int) := by omega
      have hge : ¬ (N : Int) ≤ (k : Int) := by omega
      have htk : l.take (k + 1) = l.take k ++ [l[k]] := List.take_succ_eq_append_getElem hll
      obtain ⟨b, off, Ai, ci, rfl, hb, hT⟩ := HR.out.get hll
      obtain ⟨x, hx⟩ : ∃ x, x = l[k] := ⟨_, rfl⟩
      rw [← hx] at hT htk
      have c0 := (bel.cell (p := ⟨b, off + k * 2, none⟩) hb).trans hT.c0
      have c1 := (bel.cell (p := ⟨b, off + k * 2 + 1, none⟩) hb).trans hT.c1
      have hb1 : b < wr.heap.size := by have := bel.size; omega
      have Hok := Lib.hid (show ErOk w Q ⟨Ai, ci, x⟩ from ⟨hT.pgs, hT.cap, hT.max⟩)
      have Htk := Lib.hid htk
      have Hb1 := Lib.hid (show k + 1 ≤ maxLen ∧ (k + 1) * 32 ≤ 140737488355328 from ⟨by simp only [maxLen]; omega, by omega⟩)
      clear hT htk hx hb
      go_upto_region 5 with (fail)
      go_region_law ((refine Disk.step_append_rd _ (by rfl) _ _ _ (by rfl) w.heap.size 104 i0 _ 2 32 Try.underlying92 hi0 hz0 hz1 hz2 rfl (by omega) (.slice Ao k co) k (es.flatMap Er.cells) (by rfl) ?_ _ 1 1 [.slice Ai x.pages.length ci, .int .u64 (x.gen.toNat : Int)] (by rfl) (by rfl) ?_ (by simp [Value.oneCell']) Hb1.out.1 Hb1.out.2 (Nat.le_trans bel.size (b1alloc wr _).size) ?_); (· exact hown.alloc _); (· exact Rd.lit _ _ _ _ _ rfl (by simp)); intro v3 w3 own3 hg3 hat3)
      all_goals
        have hbl := Lib.hid (show Below w.heap.size w w3 from (bel.trans ((alloc_drew3 wr _).mono bel.size)).grown hg3 (Nat.le_trans bel.size (b1alloc wr _).size) (fun g hg => own_block hown hg))
        have hfin := Lib.hid (show w3.ownsRow w.heap.size 104 2 v3 (k + 1) ((es ++ [(⟨Ai, ci, x⟩ : Er)]).flatMap Er.cells) by simpa [Er.cells] using own3)
        have hes2 := Lib.hid (show (es ++ [(⟨Ai, ci, x⟩ : Er)]).map Er.x = l.take (k + 1) ∧ ∀ e ∈ es ++ [(⟨Ai, ci, x⟩ : Er)], ErOk w Q e from ⟨by rw [List.map_append, hes.out.1, Htk.out]; rfl, fun e he => (List.mem_append.1 he).elim (hes.out.2 e) (fun he => by rw [List.mem_singleton] at he; rw [he]; exact Hok.out)⟩)
        clear own3 hat3 hg3 hown
        go_wp2
        refine ⟨⟨k + 1, by omega, by go_num, hbl.out, es ++ [⟨Ai, ci, x⟩], hfin.out, Lib.hid hes2.out⟩, by simp only [intOf]; omega⟩
    · have hkN : k = N := by omega
      have hkn : ¬ (k : Int) < (N : Int) := by omega
      have Hk := Lib.hid hkN
      clear hkN
      go_wp2
      go_ret
      have hkl : k = l.length := Hk.out.trans HN.out
      have he := hes.out.1
      rw [hkl, List.take_length] at he
      have hown' := hown
      rw [hkl] at hown'
      have hcp := Disk.own_caps hown'
      refine ⟨⟨Ao, co, by rw [Hk.out]; rfl, er_txs hown' he hes.out.2 bel, by rw [HN.out]; exact hcp.1, hcp.2⟩, bel⟩
end Go.Proofs.Ytmpmibcdpkolkaa.Wal

/- The laws of the log: what they know between two appends, whatever the power does. No statement is proved here. -/
namespace Go.Proofs.Ytmpmibcdpkolkaa.Wal
open Go.RowKit
open Go.Proofs.Ytmpmibcdpkolkaa.Geom
open Go.Proofs.Ytmpmibcdpkolkaa.Sup (Gb gv gcell gthree UpN)
open Go.Proofs.Ytmpmibcdpkolkaa.Disk (St DAt restart Wr)
open Go.Proofs.Ytmpmibcdpkolkaa.Sec (X text rightF)
open Go.Proofs.Ytmpmibcdpkolkaa.Enc (More)
set_option linter.unusedVariables false
/-- while the power is there -/
structure CrUp (ga gd gl base : Int) (life : UInt64) (n : Nat) (l : List Tx) (k : Nat) (ts : List Tx) (sm : List (List UInt8)) (st : St) : Prop where
  size : st.size = n
  pend : st.pend = []
  down : st.down = false
  log : LogC ga gd gl base n life sm st.all (allSecs life 0 ts) (allSecs life 0 ts)
  lives : Lives life sm
  len : ((allSecs life 0 ts).length : Int) ≤ gl
  bad : ∀ t ∈ ts, badB ga gd gl t.pages = false
  of_ : ∀ t ∈ ts, t ∈ l
  num : ts.length ≤ k
  sums : sm.length ≤ 100 * k
  sz : st.sz ≤ 1000 * k
/-- wherever it ended: what is scanned behind a restart -/
structure CrEnd (ga gd gl base : Int) (life : UInt64) (n : Nat) (l : List Tx) (k : Nat) (ts ms : List Tx) (sm : List (List UInt8)) (st : St) : Prop where
  sums : sm.length ≤ 100 * k
  sz : st.sz ≤ 1000 * k
  num : ts.length ≤ k
  of_ : ∀ t ∈ ts, t ∈ l
  mnum : ms.length ≤ k
  mof : ∀ t ∈ ms, t ∈ l
  ne : ms = [] ∨ ¬ ms = ts
  res : ∀ keep torn at_, (restart st keep torn at_).size = n ∧ (restart st keep torn at_).down = false ∧ (restart st keep torn at_).sz ≤ 1000 * k ∧ (scanTx sm (restart st keep torn at_) ga gd gl base life = ts ∨ (¬ ms = [] ∧ scanTx sm (restart st keep torn at_) ga gd gl base life = ms)) ∧ ∀ life', life ≠ life' → scanTx sm (restart st keep torn at_) ga gd gl base life' = []
theorem CrUp.start (ga gd gl base : Int) (life : UInt64) (n : Nat) (l : List Tx) (hg : 0 ≤ gl) (fuse : Int) : CrUp ga gd gl base life n l 0 [] [] (Disk.arm (Disk.new n) fuse) :=
  ⟨rfl, rfl, rfl, ⟨fun k h => absurd h (by simp [allSecs]), fun k x _ _ h => absurd h (by simp)⟩, fun p x _ h => absurd h (by simp), by simpa [allSecs] using hg, fun t h => (by cases h), fun t h => (by cases h), Nat.le_refl _, by simp, Nat.le_refl _⟩
theorem CrUp.more {ga gd gl base : Int} {life : UInt64} {n : Nat} {l : List Tx} {k : Nat} {ts : List Tx} {sm : List (List UInt8)} {st : St} (h : CrUp ga gd gl base life n l k ts sm st) : CrUp ga gd gl base life n l (k + 1) ts sm st :=
  ⟨h.size, h.pend, h.down, h.log, h.lives, h.len, h.bad, h.of_, by have := h.num; omega, by have := h.sums; omega, by have := h.sz; omega⟩
theorem CrUp.pages {ga gd gl base : Int} {life : UInt64} {n : Nat} {l : List Tx} {k : Nat} {ts : List Tx} {sm : List (List UInt8)} {st : St} (h : CrUp ga gd gl base life n l k ts sm st) : ∀ t ∈ ts, ∀ x ∈ t.pages, 0 ≤ x.n ∧ x.n < pagesOf ga gd gl := fun t ht x hx => by
  obtain ⟨j, hj, rfl⟩ := List.mem_iff_getElem.1 hx
  have := badB_of (h.bad t ht) hj
  exact ⟨this.1, this.2.1⟩
theorem Lives.none {ga gd gl base : Int} {life : UInt64} {sm : List (List UInt8)} (h : Lives life sm) (st : St) {life' : UInt64} (hl : life ≠ life') : scanTx sm st ga gd gl base life' = [] :=
  scan_none (fun p x hx hT e => hl ((h p x hx hT).symm.trans e))
theorem CrUp.fin {ga gd gl base : Int} {life : UInt64} {n : Nat} {l : List Tx} {k : Nat} {ts : List Tx} {sm : List (List UInt8)} {st : St} (h : CrUp ga gd gl base life n l k ts sm st) (hr : right ga gd gl = true) (hb : 0 ≤ base) (hn : (n : Int) = Geom.sizeOf ga gd gl) : CrEnd ga gd gl base life n l k ts [] sm st := by
  refine ⟨h.sums, h.sz, h.num, h.of_, Nat.zero_le _, fun t ht => (by cases ht), .inl rfl, fun keep torn at_ => ?_⟩
  obtain ⟨u, e, _⟩ := Enc.restart_up h.size keep torn at_
  have e := e h.pend
  refine ⟨u.size, u.down, by have := Disk.sz_restart st keep torn at_; have := h.sz; omega, .inl ?_, fun life' hl => h.lives.none _ hl⟩
  exact LogC.scan (n := n) (by rw [e]; exact h.log) u hr hb hn h.len h.pages
/-- an append: it is told, or the power went in it -/
theorem CrUp.append {ga gd gl base : Int} {life : UInt64} {n : Nat} {l : List Tx} {k : Nat} {ts : List Tx} {sm : List (List UInt8)} {st : St} {t : Tx} (h : CrUp ga gd gl base life n l k ts sm st) (hr : right ga gd gl = true) (hb : 0 ≤ base) (hn : (n : Int) = Geom.sizeOf ga gd gl) (hw : whyF ga gd gl (allSecs life 0 ts).length t.pages = 0) (ht : t ∈ l) :
    ((putF ga gd gl base life (allSecs life 0 ts).length t.gen t.pages sm st).2.2 = 0 ∧
      CrUp ga gd gl base life n l (k + 1) (ts ++ [t]) (putF ga gd gl base life (allSecs life 0 ts).length t.gen t.pages sm st).1 (putF ga gd gl base life (allSecs life 0 ts).length t.gen t.pages sm st).2.1 ∧
      (allSecs life 0 (ts ++ [t])).length = (allSecs life 0 ts).length + (t.pages.length + 1)) ∨
    ((putF ga gd gl base life (allSecs life 0 ts).length t.gen t.pages sm st).2.2 = 12 ∧ (putF ga gd gl base life (allSecs life 0 ts).length t.gen t.pages sm st).2.1.down = true ∧
      CrEnd ga gd gl base life n l (k + 1) ts (ts ++ [t]) (putF ga gd gl base life (allSecs life 0 ts).length t.gen t.pages sm st).1 (putF ga gd gl base life (allSecs life 0 ts).length t.gen t.pages sm st).2.1) := by
  obtain ⟨w1, w2, w3⟩ := whyF_zero hw
  have hV := putF_turn (life := life) (q := (allSecs life 0 ts).length) (t := t) (sm := sm) h.size h.pend h.down hr hb hn w3 w1
  obtain ⟨l1, l2⟩ := putF_lim ga gd gl base life (allSecs life 0 ts).length t sm st
  obtain ⟨V, hVe⟩ : ∃ V, V = putF ga gd gl base life (allSecs life 0 ts).length t.gen t.pages sm st := ⟨_, rfl⟩
  rw [← hVe] at hV l1 l2
  rw [← hVe]
  have hy := right_yes hr
  have hs := allSecs_snoc life ts 0 t
  rw [Nat.zero_add] at hs
  have hlen : (allSecs life 0 (ts ++ [t])).length = (allSecs life 0 ts).length + (t.pages.length + 1) := by rw [hs, List.length_append, tSecs_len]
  have hbad : ∀ u ∈ ts ++ [t], badB ga gd gl u.pages = false := fun u hu => by
    rcases List.mem_append.1 hu with hu | hu
    · exact h.bad u hu
    · rw [List.mem_singleton] at hu; rw [hu]; exact w1
  have hof : ∀ u ∈ ts ++ [t], u ∈ l := fun u hu => by
    rcases List.mem_append.1 hu with hu | hu
    · exact h.of_ u hu
    · rw [List.mem_singleton] at hu; rw [hu]; exact ht
  have hlv := h.lives.put hV hr hb hn w3 w1
  have hsu := h.sums
  have hsz := h.sz
  have hnu := h.num
  rcases hV.res with ⟨r1, r2, r3, _⟩ | ⟨r1, r2, r3, _⟩
  · right
    refine ⟨r1, r2, by omega, by omega, by omega, h.of_, by simp; omega, hof, .inr (fun e => ?_), fun keep torn at_ => ?_⟩
    · have := congrArg List.length e
      simp at this
    · obtain ⟨u, hc⟩ := h.log.crash hr hb hn w3 w1 hV (by rw [r1]; decide) keep torn at_
      refine ⟨u.size, u.down, by have := Disk.sz_restart V.2.1 keep torn at_; omega, ?_, fun life' hl => hlv.none _ hl⟩
      rcases hc.scan2 u hr hb hn w3 (fun t' ht' x hx => by
        obtain ⟨j, hj, rfl⟩ := List.mem_iff_getElem.1 hx
        have := badB_of (hbad t' ht') hj
        exact ⟨this.1, this.2.1⟩) with e | e
      · exact .inl e
      · exact .inr ⟨by simp, e⟩
  · left
    refine ⟨r1, ⟨hV.size, r3, r2, ?_, hlv, by rw [hlen]; omega, hbad, hof, by simp; omega, by omega, by omega⟩, hlen⟩
    rw [hs]
    exact h.log.append hr hb hn w3 w1 hV r1
theorem rd_ownZ {w : World} {base z : Nat} {e : TypeId} {A : Option Addr} {n c : Nat} {xs : List Value} (h : w.ownsRow base e z (.slice A n c) n xs) : Rd w w.heap.size A xs := by
  intro hne
  have hl := h.1
  rcases h.2 with ⟨hv, hn⟩ | ⟨g, cap, cur, hv, hg, hh, hnc, hcm, hcs, ht⟩
  · exact absurd (List.eq_nil_of_length_eq_zero (by rw [hn, Nat.zero_mul] at hl; exact hl)) hne
  · injection hv with hA _ _
    subst hA
    refine ⟨g, 0, rfl, lt_of_block hh, fun i hi => ?_⟩
    have := World.ownsRow.cellAt (j := i) h (by omega)
    rw [Nat.zero_add, this]
    simp [List.getElem?_eq_getElem hi]
theorem HereL.armed {w0 w w' : World} {g : Nat} {fp : List Nat} {s s' : St} {gS bS : Nat} {l : List (List UInt8)} {L : Nat} {ga gd gl : Int} {life : UInt64} {base : Int} {seq : Nat} (h : HereL w0 w g fp s gS bS l L ga gd gl life base seq) (d : DAt w' g fp s') (k : Keep [g] w w') : HereL w0 w' g fp s' gS bS l L ga gd gl life base seq := by
  have t := h.here.armed d k
  refine ⟨t.both, t.bel, h.own, h.lat.keepK k (fun e => ?_), h.nL⟩
  rw [List.mem_singleton] at e
  exact h.nL (by rw [e]; have := h.both.disk.inG; simp [this])
theorem own_emptyS (w : World) (e : TypeId) (s base : Nat) (hb : base ≤ w.heap.size) : (w.alloc (.cells #[] e)).ownsRow base e s (.slice (some ⟨w.heap.size, 0, none⟩) 0 0) 0 [] :=
  ⟨by simp, .inr ⟨w.heap.size, 0, #[], rfl, hb, heap_alloc_new w _, Nat.le_refl _, by unfold maxLen; omega, by simp, by simp⟩⟩
theorem rd_blkS {w : World} {b : Nat} {t : TypeId} {xs : List Value} (h : w.heap[b]? = some (.cells xs.toArray t (0, 0))) : Rd w w.heap.size (some ⟨b, 0, none⟩) xs := fun _ => ⟨b, 0, rfl, lt_of_block h, fun i hi => by rw [Nat.zero_add]; exact (show Blk w b xs from ⟨t, h⟩).cell hi⟩
/-- what stands in the three orders of 'append(append([]T{}, a...), x)' ahead of the first append -/
structure PrepT (D W : World) (z : Nat) (Ak : Option Addr) (acs : List Value) : Prop where
  own : W.ownsRow D.heap.size 104 2 (.slice (some ⟨z, 0, none⟩) 0 0) 0 []
  rd : Rd W W.heap.size Ak acs
  bel : Below D.heap.size D W
  le : D.heap.size ≤ z
theorem PrepT.step {D W w8 : World} {z : Nat} {Ak : Option Addr} {acs : List Value} (h : PrepT D W z Ak acs) {v : Value} (hv : v.ownBlock = some z) (hg : W.grownBy w8 v.ownBlock) : Below D.heap.size D w8 := below_row h.bel (hv ▸ hg) h.le h.bel.size
theorem prepTA (D : World) (Ak : Option Addr) (acs : List Value) (h : ∀ W, Below D.heap.size D W → Rd W W.heap.size Ak acs) : PrepT D (D.alloc (.cells #[] 104)) D.heap.size Ak acs :=
  ⟨own_emptyS D _ _ _ (Nat.le_refl _), h _ (b1alloc _ _), b1alloc _ _, Nat.le_refl _⟩
theorem prepTB (D : World) (Ak : Option Addr) (acs : List Value) (L : Obj) (h : ∀ W, Below D.heap.size D W → Rd W W.heap.size Ak acs) : PrepT D ((D.alloc (.cells #[] 104)).alloc L) D.heap.size Ak acs :=
  ⟨(own_emptyS D _ _ _ (Nat.le_refl _)).alloc _, h _ (bt (b1alloc _ _) (b1alloc _ _)), bt (b1alloc _ _) (b1alloc _ _), Nat.le_refl _⟩
theorem prepTC (D : World) (Ak : Option Addr) (acs : List Value) (L : Obj) (h : ∀ W, Below D.heap.size D W → Rd W W.heap.size Ak acs) : PrepT D ((D.alloc L).alloc (.cells #[] 104)) (D.heap.size + 1) Ak acs :=
  ⟨by have := own_emptyS (D.alloc L) 104 2 D.heap.size (by simp); simpa using this, h _ (bt (b1alloc _ _) (b1alloc _ _)), bt (b1alloc _ _) (b1alloc _ _), Nat.le_succ _⟩
theorem litTB (D w8 : World) (xs : List Value) {v : Value} (hv : v.ownBlock = some D.heap.size) (hg : ((D.alloc (.cells #[] 104)).alloc (.cells xs.toArray 104)).grownBy w8 v.ownBlock) : Rd w8 w8.heap.size (some ⟨D.heap.size + 1, 0, none⟩) xs :=
  rd_blkS (t := 104) ((hg.block (D.heap.size + 1) (by simp) (by rw [hv]; simp)).trans (by have := heap_alloc_new (D.alloc (.cells #[] 104)) (.cells xs.toArray 104); simpa using this))
theorem litTC (D w8 : World) (xs : List Value) {v : Value} (hv : v.ownBlock = some (D.heap.size + 1)) (hg : ((D.alloc (.cells xs.toArray 104)).alloc (.cells #[] 104)).grownBy w8 v.ownBlock) : Rd w8 w8.heap.size (some ⟨D.heap.size, 0, none⟩) xs :=
  rd_blkS (t := 104) ((hg.block D.heap.size (by simp; omega) (by rw [hv]; simp)).trans ((Below.heap_alloc _ _ _ (by simp)).trans (heap_alloc_new D _)))
theorem run_emptyT (w : World) : (Instr.buildSlice 92 0 #[]).run Try.prog w = .ok (.slice (some ⟨w.heap.size, 0, none⟩) 0 0) (w.alloc (.cells #[] 104)) := by
  obtain ⟨i0, hi0, hz0, hz1, hz2⟩ := info_parts infoRT1
  simp [Instr.buildSlice, run_underlying Try.underlying92, sizeOf, typeInfo, hi0, Instr.fill, newRow, go_sem]
end Go.Proofs.Ytmpmibcdpkolkaa.Wal

/- Rows of transactions ([]Txn of the document): how they come in as an argument. No statement is proved here. -/
namespace Go.Proofs.Ytmpmibcdpkolkaa
open Go.RowKit
open Go.ChangeShapes Go.WideShapes Go.ChangeAt Go.Joins Go.Deep
set_option linter.unusedVariables false
set_option maxRecDepth 100000
theorem pages_of1 {v : Value} {H : Type} {enc : TypeId × Value → H} {w : World} {held : Bool} {fuel : Nat} {x : DataW H × List MemPlace}
    (h : DataW.trod enc Try.prog w 0 (fun _ => true) held fuel 102 [v] = some x) :
    ∃ (A : Option Addr) (l : List Pg) (c : Nat), v = .slice A l.length c ∧ Pgs w (fun j => j < w.heap.size) A l ∧ l.length ≤ c ∧ c ≤ maxLen := by
  rcases open_slice_fields Try.underlying102 Try.underlying157 (by kernel_rfl) (by kernel_rfl) h with hcs | ⟨a, l', c', m, hcs, _, hl, hm, hmm, hi⟩
  · simp only [List.cons.injEq, and_true] at hcs
    subst hcs
    exact ⟨none, [], 0, rfl, Pgs.nil _ _ _, by simp, by unfold maxLen; omega⟩
  · simp only [List.cons.injEq, and_true] at hcs
    subst hcs
    simp only [if_true] at hmm
    subst hmm
    have key : ∀ i, i < l' → ∃ f : Pg, ∃ b off, a = ⟨b, off, none⟩ ∧ b < w.heap.size ∧ ∃ Ai ci, PgAt w (fun j => j < w.heap.size) b (off + i * 2) f Ai ci := by
      intro i hil
      obtain ⟨ys, n, hf⟩ := hi i (by omega)
      obtain ⟨v0, y0, c0, _, t0⟩ := hf 0 _ rfl
      obtain ⟨v1, y1, c1, _, t1⟩ := hf 1 _ rfl
      obtain ⟨k, e0, _, wk⟩ := DataW.trod_int Try.underlying3 t0
      obtain ⟨A4, l4, c4', e4, r4, q4, m4⟩ := bytes_of1 Try.underlying37 Try.underlying5 (by kernel_rfl) t1
      simp only [List.cons.injEq, and_true] at e0
      subst e0 e4
      obtain ⟨b, off, spot⟩ := a
      have hspot : spot = none := by
        obtain ⟨_, _, hf0⟩ := hi 0 (by omega)
        obtain ⟨_, _, c00, _, _⟩ := hf0 0 _ rfl
        exact World.cell?_spot c00
      subst hspot
      rw [Addr.add_lit] at c0 c1
      have hb : b < w.heap.size := by
        rcases Nat.lt_or_ge b w.heap.size with h | h
        · exact h
        · simp [World.cell?, Array.getElem?_eq_none h] at c0
      exact ⟨⟨k, l4⟩, b, off, rfl, hb, A4, c4', c0, c1, r4.q (Nat.le_refl _), q4, m4, (wfi wk).1, (wfi wk).2⟩
    obtain ⟨l, hll, hp⟩ := choose_list key
    subst hll
    refine ⟨some a, l, m, rfl, fun hne => ?_, hl, hm⟩
    have hpos : 0 < l.length := by cases l; exact absurd rfl hne; simp
    obtain ⟨b, off, rfl, hb, _⟩ := hp 0 hpos
    refine ⟨b, off, rfl, hb, hb, fun i hi => ?_⟩
    obtain ⟨b', off', e, _, h2⟩ := hp i hi
    injection e with e1 e2 _
    subst e1 e2
    exact h2
theorem txns_of {A : Option Addr} {len cap : Nat} {H : Type} {enc : TypeId × Value → H} {w : World} {held : Bool} {fuel : Nat} {x : DataW H × List MemPlace}
    (h : DataW.trod enc Try.prog w 0 (fun _ => true) held fuel 92 (Value.slice A len cap).cells.toList = some x) :
    ∃ l : List Wal.Tx, l.length = len ∧ Wal.Txs w (fun j => j < w.heap.size) A l ∧ len ≤ cap ∧ cap ≤ maxLen := by
  rcases open_slice_fields Try.underlying92 Try.underlying104 (by kernel_rfl) (by kernel_rfl) h with hcs | ⟨a, l', c', m, hcs, _, hl, hm, hmm, hi⟩
  · simp [Value.cells] at hcs
    obtain ⟨rfl, rfl, rfl⟩ := hcs
    exact ⟨[], rfl, fun h => absurd rfl h, by omega, by unfold maxLen; omega⟩
  · simp [Value.cells] at hcs
    obtain ⟨rfl, rfl, rfl⟩ := hcs
    simp only [if_true] at hmm
    subst hmm
    have key : ∀ i, i < len → ∃ f : Wal.Tx, ∃ b off, a = ⟨b, off, none⟩ ∧ b < w.heap.size ∧ ∃ Ai ci, Wal.TxAt w (fun j => j < w.heap.size) b (off + i * 2) f Ai ci := by
      intro i hil
      obtain ⟨ys, n, hf⟩ := hi i (by omega)
      obtain ⟨v0, y0, c0, _, t0⟩ := hf 0 _ rfl
      obtain ⟨v1, y1, c1, _, t1⟩ := hf 1 _ rfl
      obtain ⟨A4, l4, c4', e4, r4, q4, m4⟩ := pages_of1 t0
      obtain ⟨u1, e1, _, w1⟩ := DataW.trod_int Try.underlying24 t1
      simp only [List.cons.injEq, and_true] at e1
      subst e1 e4
      obtain ⟨u1', rfl⟩ := wf64 w1
      obtain ⟨b, off, spot⟩ := a
      have hspot : spot = none := by
        obtain ⟨_, _, hf0⟩ := hi 0 (by omega)
        obtain ⟨_, _, c00, _, _⟩ := hf0 0 _ rfl
        exact World.cell?_spot c00
      subst hspot
      rw [Addr.add_lit] at c0 c1
      have hb : b < w.heap.size := by
        rcases Nat.lt_or_ge b w.heap.size with h | h
        · exact h
        · simp [World.cell?, Array.getElem?_eq_none h] at c0
      exact ⟨⟨l4, u1'⟩, b, off, rfl, hb, A4, c4', c0, c1, r4, q4, m4⟩
    obtain ⟨l, hll, hp⟩ := choose_list key
    refine ⟨l, hll, fun hne => ?_, hl, hm⟩
    have hpos : 0 < l.length := by cases l; exact absurd rfl hne; simp
    obtain ⟨b, off, rfl, hb, _⟩ := hp 0 hpos
    refine ⟨b, off, rfl, hb, hb, fun i hi => ?_⟩
    obtain ⟨b', off', e, _, h2⟩ := hp i hi
    injection e with e1 e2 _
    subst e1 e2
    exact h2
end Go.Proofs.Ytmpmibcdpkolkaa
