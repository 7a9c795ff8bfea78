/- Texts of this claim, joined: Wal8Q, Wal9Q, WalScanPQ, Wal10Q, WalTxQ, OpenTxnsQ, OpenActsQ, WalPutQ, WalPut2Q, Snap7Q, SnapPlainQ, Snap8Q, SupL1Q, Rows20Q, SnapL1Q, WalL1Q, WalRf3Q, StoA1Q, WalCrPQ, WalCrSQ. -/
import Derived.Test.YtchcmklelmlbgaaGreatStorePlaysE
import Derived.Deep.DeepCutAuto
import Derived.Deep.RegionLaw
import Derived.Test.YtchcmklelmlbgaaGreatStorePlaysA
import Derived.Test.YtchcmklelmlbgaaGreatStorePlaysD
import Derived.Lib.MinMax
/- The log: one more sector is taken. No statement is proved here. -/
namespace Go.Proofs.YtchcmklelmlbgaaGreat.Wal
open Go.RowKit
open Go.Proofs.YtchcmklelmlbgaaGreat.Sec (X five5x)
set_option linter.unusedVariables false
set_option maxRecDepth 100000
attribute [local irreducible] wpQuiet
theorem five5r {w : World} {g : Nat} {v0 v1 v2 v3 v4 : Value} (h : Blk w g [v0, v1, v2, v3, v4]) : w.cell? ⟨g, 0, none⟩ = some v0 ∧ w.cell? ⟨g, 1, none⟩ = some v1 ∧ w.cell? ⟨g, 2, none⟩ = some v2 ∧ w.cell? ⟨g, 3, none⟩ = some v3 ∧ w.cell? ⟨g, 4, none⟩ = some v4 :=
  ⟨h.cell (k := 0) (by simp), h.cell (k := 1) (by simp), h.cell (k := 2) (by simp), h.cell (k := 3) (by simp), h.cell (k := 4) (by simp)⟩
theorem infoPg : (Tryz.prog.info? 53).map (fun i => (i.zero, i.size, i.bytes)) = some (some (.agg #[.int .i64 0, .slice none 0 0]), 2, 32) := by kernel_rfl
theorem infoTx : (Tryz.prog.info? 106).map (fun i => (i.zero, i.size, i.bytes)) = some (some (.agg #[.slice none 0 0, .int .u64 0]), 2, 32) := by kernel_rfl
theorem alloc_drew (w : World) (o : Obj) : Below w.heap.size w (w.alloc o).drew := ⟨(b1alloc w o).os, (b1alloc w o).tape, (b1alloc w o).output, (b1alloc w o).size, (b1alloc w o).block⟩
theorem four_set {w : World} {T : Nat} {v0 v1 v2 v3 v4 : Value} (hb : Blk w T [v0, v1, v2, v3, v4]) (a b c d : Value) :
    Blk ((((w.setCell ⟨T, 0, none⟩ a).setCell ⟨T, 1, none⟩ b).setCell ⟨T, 2, none⟩ c).setCell ⟨T, 3, none⟩ d) T [a, b, c, d, v4] ∧ KeepsOthers w ((((w.setCell ⟨T, 0, none⟩ a).setCell ⟨T, 1, none⟩ b).setCell ⟨T, 2, none⟩ c).setCell ⟨T, 3, none⟩ d) ∧
      (∀ j, j ≠ T → ((((w.setCell ⟨T, 0, none⟩ a).setCell ⟨T, 1, none⟩ b).setCell ⟨T, 2, none⟩ c).setCell ⟨T, 3, none⟩ d).heap[j]? = w.heap[j]?) ∧ w.heap.size ≤ ((((w.setCell ⟨T, 0, none⟩ a).setCell ⟨T, 1, none⟩ b).setCell ⟨T, 2, none⟩ c).setCell ⟨T, 3, none⟩ d).heap.size := by
  refine ⟨(((hb.set (k := 0) a).set (k := 1) b).set (k := 2) c).set (k := 3) d, (((KeepsOthers.setCell _ _ _).trans (KeepsOthers.setCell _ _ _)).trans (KeepsOthers.setCell _ _ _)).trans (KeepsOthers.setCell _ _ _), fun j hj => ?_, by simp [World.setCell]⟩
  have h : ∀ (W : World) (k : Nat) (v : Value), (W.setCell ⟨T, k, none⟩ v).heap[j]? = W.heap[j]? := fun W k v => Below.heap_setCell W ⟨T, k, none⟩ v j (fun e => hj e)
  exact (h _ _ _).trans ((h _ _ _).trans ((h _ _ _).trans (h _ _ _)))
theorem wrap_u64s {i : Nat} (h : i ≤ 1000) : IntKind.u64.wrap ((i : Int) + 1) = ((i + 1 : Nat) : Int) := by
  simp [IntKind.wrap, IntKind.bits]; omega
/-- what take leaves -/
def Took (w : World) (n0 T : Nat) (np : Int) (q : Rg × Bool) (e : Ending) (w' : World) : Prop :=
  e = .returned (.bool q.2) ∧ (∃ allv nowv trs prs, RdAt w' n0 T np q.1 allv nowv trs prs) ∧ KeepsOthers w w' ∧ KpK T n0 w w'
set_option maxHeartbeats 2000000 in
theorem take_any (n0 T : Nat) (np : Int) (r : Rg) (allv nowv : Value) (trs : List Tr) (prs : List Pr) (i : Nat) (x : X) (A : Option Addr) (c : Nat) (w : World) (h : RdAt w n0 T np r allv nowv trs prs)
    (hok : w.ownsRow n0 5 1 (.slice A x.body.length c) x.body.length (x.body.map e8)) (hbl : x.body.length ≤ 1000) (hi : i ≤ 1000) (hn0 : 0 ≤ np) (hn1 : np ≤ 100) (hlt : trs.length < 100000) (hlp : prs.length < 100000) :
    Calls Tryz.prog 94 #[.pointer (some ⟨T, 0, none⟩), .int .i64 (i : Int), .agg #[.int .i64 x.kind, .int .u64 (x.life.toNat : Int), .int .i64 x.seq, .int .u64 (x.gen.toNat : Int), .slice A x.body.length c]] w fun e w' => Took w n0 T np (takeF np r i x) e w' := by
  obtain ⟨W0, hW0⟩ : ∃ W, W = w.alloc (.cells #[.int .i64 x.kind, .int .u64 (x.life.toNat : Int), .int .i64 x.seq, .int .u64 (x.gen.toNat : Int), .slice A x.body.length c] 157) := ⟨_, rfl⟩
  have hX : Blk W0 w.heap.size [.int .i64 x.kind, .int .u64 (x.life.toNat : Int), .int .i64 x.seq, .int .u64 (x.gen.toNat : Int), .slice A x.body.length c] := by rw [hW0]; exact Blk.new w _ _
  have b0 : Below w.heap.size w W0 := by rw [hW0]; exact b1alloc _ _
  obtain ⟨x0, x1, x2, x3, x4⟩ := five5r hX
  obtain ⟨y0, y1, y2, y3, y4⟩ := five5r (h.on b0).blk
  obtain ⟨B, hB⟩ : ∃ B, B = (decide (x.body.length < 6) || (decide (0 < prs.length) && decide (x.gen ≠ r.gen))) := ⟨_, rfl⟩
  have Hx := Lib.hid hX
  have Hh := Lib.hid h
  have HBB := Lib.hid hB
  have Hok := Lib.hid hok
  obtain ⟨An, cn, rfl⟩ := own_form h.now
  have hlT : T < W0.heap.size := (h.on b0).blk.lt
  have hlX : w.heap.size < W0.heap.size := hX.lt
  have HW0 := Lib.hid hW0
  clear h hX hB hok
  obtain ⟨Q, hQ0⟩ : ∃ Q, Q = takeF np r i x := ⟨_, rfl⟩
  rw [← hQ0]
  have HQ := Lib.hid hQ0
  clear hQ0
  go_enter Tryz.func94, Tryz.ntmps94
  go_upto_region 1 with (fail)
  rw [show w.alloc (.cells #[.int .i64 x.kind, .int .u64 (x.life.toNat : Int), .int .i64 x.seq, .int .u64 (x.gen.toNat : Int), .slice A x.body.length c] 157) = W0 from hW0.symm]
  clear hW0
  go_cut [33] (fun v wx => v = .bool B ∧ InB W0 wx)
  case first =>
    by_cases e1 : x.body.length < 6
    · have hb : B = true := by rw [HBB.out, decide_eq_true e1]; rfl
      subst hb
      have t1 : (x.body.length : Int) < 6 := by omega
      clear e1
      refine region_inb (by kernel_rfl) (by kernel_rfl) ?_
      have inbNe := InB.some
      have inbW := @wrap_small
      have inbU := IntKind.wrap_u8'
      repeat (refine wpQuiet_step (fun K hK => ?_); go_simp; first | (refine hK _ ?_; clear hK K) | (apply Exists.intro; refine ⟨?_, hK _ ?_⟩; (· (intro w' hw'; first | fail | (have hcw := hw'.cell; go_simp; exact rfl))); clear hK K))
      refine wpQuiet_nil ?_
      intro wq hq
      clear inbNe inbW inbU
      go_wp2_with fail
      go_meet
      case rel => exact ⟨rfl, hq⟩
    · have t1 : ¬ (x.body.length : Int) < 6 := by omega
      by_cases e2 : 0 < prs.length
      · have t2 := decide_eq_true e2
        by_cases e3 : x.gen = r.gen
        · have hb : B = false := by rw [HBB.out, decide_eq_false e1, decide_eq_true e2, decide_eq_false (by simp [e3])]; rfl
          subst hb
          have t3 := bne_no (show (x.gen.toNat : Int) = r.gen.toNat by rw [e3])
          clear e1 e2 e3
          refine region_inb (by kernel_rfl) (by kernel_rfl) ?_
          have inbNe := InB.some
          have inbW := @wrap_small
          have inbU := IntKind.wrap_u8'
          repeat (refine wpQuiet_step (fun K hK => ?_); go_simp; first | (refine hK _ ?_; clear hK K) | (apply Exists.intro; refine ⟨?_, hK _ ?_⟩; (· (intro w' hw'; first | fail | (have hcw := hw'.cell; go_simp; exact rfl))); clear hK K))
          refine wpQuiet_nil ?_
          intro wq hq
          clear inbNe inbW inbU
          go_wp2_with fail
          go_meet
          case rel => exact ⟨rfl, hq⟩
        · have hb : B = true := by rw [HBB.out, decide_eq_false e1, decide_eq_true e2, decide_eq_true e3]; rfl
          subst hb
          have t3 := bne_yes (show (x.gen.toNat : Int) ≠ r.gen.toNat from fun e => e3 (UInt64.toNat_inj.1 (by omega)))
          clear e1 e2 e3
          refine region_inb (by kernel_rfl) (by kernel_rfl) ?_
          have inbNe := InB.some
          have inbW := @wrap_small
          have inbU := IntKind.wrap_u8'
          repeat (refine wpQuiet_step (fun K hK => ?_); go_simp; first | (refine hK _ ?_; clear hK K) | (apply Exists.intro; refine ⟨?_, hK _ ?_⟩; (· (intro w' hw'; first | fail | (have hcw := hw'.cell; go_simp; exact rfl))); clear hK K))
          refine wpQuiet_nil ?_
          intro wq hq
          clear inbNe inbW inbU
          go_wp2_with fail
          go_meet
          case rel => exact ⟨rfl, hq⟩
      · have t2 := decide_eq_false e2
        have hb : B = false := by rw [HBB.out, decide_eq_false e1, decide_eq_false e2]; rfl
        subst hb
        clear e1 e2
        refine region_inb (by kernel_rfl) (by kernel_rfl) ?_
        have inbNe := InB.some
        have inbW := @wrap_small
        have inbU := IntKind.wrap_u8'
        repeat (refine wpQuiet_step (fun K hK => ?_); go_simp; first | (refine hK _ ?_; clear hK K) | (apply Exists.intro; refine ⟨?_, hK _ ?_⟩; (· (intro w' hw'; first | fail | (have hcw := hw'.cell; go_simp; exact rfl))); clear hK K))
        refine wpQuiet_nil ?_
        intro wq hq
        clear inbNe inbW inbU
        go_wp2_with fail
        go_meet
        case rel => exact ⟨rfl, hq⟩
  case rest =>
    obtain ⟨rfl, hqc⟩ := hcut
    have bc := hqc.below
    have b0c := bt b0 bc
    have hAc := (Hh.out.on b0c)
    obtain ⟨x0', x1', x2', x3', x4'⟩ := five5r (Hx.out.on bc)
    obtain ⟨y0', y1', y2', y3', y4'⟩ := five5r hAc.blk
    have hlTc := hAc.blk.lt
    have hlXc := (Hx.out.on bc).lt
    have kB0 : KeepsOthers w wc ∧ KpK T n0 w wc := ⟨Ch.keeps_below b0c, KpK.of_below b0c Hh.out.lN⟩
    clear x0 x1 x2 x3 x4 y0 y1 y2 y3 y4 hlT hlX
    have hnow : r.now ≠ [] ↔ 0 < prs.length := by rw [Hh.out.eN]; simp [List.length_pos_iff]
    cases B with
    | true =>
      have hc : x.body.length < 6 ∨ (r.now ≠ [] ∧ x.gen ≠ r.gen) := by
        have := HBB.out
        rw [eq_comm, Bool.or_eq_true, Bool.and_eq_true, decide_eq_true_eq, decide_eq_true_eq, decide_eq_true_eq] at this
        exact this.imp id (fun h => ⟨hnow.2 h.1, h.2⟩)
      have hT : Q = (r, false) := by rw [HQ.out]; unfold takeF; rw [if_pos hc]
      subst hT
      clear hc hnow
      go_wp2
      go_ret
      exact ⟨rfl, ⟨_, _, _, _, hAc⟩, kB0.1, kB0.2⟩
    | false =>
      have hc : ¬ (x.body.length < 6 ∨ (r.now ≠ [] ∧ x.gen ≠ r.gen)) := by
        have := HBB.out
        intro h
        rw [eq_comm, Bool.or_eq_false_iff, Bool.and_eq_false_iff, decide_eq_false_iff_not, decide_eq_false_iff_not, decide_eq_false_iff_not] at this
        rcases h with h | h
        · exact this.1 h
        · exact this.2.elim (fun e => e (hnow.1 h.1)) (fun e => e h.2)
      have h6 : 6 ≤ x.body.length := Nat.le_of_not_lt fun e => hc (.inl e)
      have hT : Q = if fstN x.body ≠ r.frm then (r, false)
        else if x.kind = 4 ∧ (sndN x.body : Int) < np then ({ r with gen := x.gen, now := r.now ++ [⟨(sndN x.body : Int), x.body.drop 6⟩] }, true)
        else if x.kind = 5 ∧ sndN x.body = r.now.length ∧ x.body.length = 6 then (⟨r.all ++ [⟨r.now, x.gen⟩], [], 0, i + 1⟩, true)
        else ({ r with gen := x.gen }, false) := by rw [HQ.out]; unfold takeF; rw [if_neg hc]
      have hnl : r.now.length = prs.length := by rw [Hh.out.eN]; simp
      rw [hnl] at hT
      have HT := Lib.hid hT
      clear hT hc hnow hnl
      obtain ⟨g, c', eA, hg⟩ := own_some Hok.out (by omega)
      injection eA with eA1 eA2 eA3
      subst eA1 eA3
      have hcap := Disk.own_caps Hok.out
      have okc := own_on Hok.out b0c
      obtain ⟨cs, hcs⟩ := Disk.own_blk okc
      have hrdB : Rd wc wc.heap.size (some ⟨g, 0, none⟩) (x.body.map e8) := Rd.own okc
      have hG1 := fun W (b : Below wc.heap.size wc W) => Num.get_any (some ⟨g, 0, none⟩) (x.body.take 4) 4 c W.heap.size W (by simp; omega) (by rw [List.map_take]; exact (Rd.own (own_on okc b)).take 4) (by simp; omega) (by simp; omega)
      have hG2 := fun W (b : Below wc.heap.size wc W) => Num.get_any (some ⟨g, 4, none⟩) ((x.body.drop 4).take 2) 2 (c - 4) W.heap.size W (by simp; omega) (by rw [List.map_take, List.map_drop]; exact ((Rd.own (own_on okc b)).drop 4).take 2) (by simp; omega) (by simp; omega)
      have hF : ∀ l, Num.getN (l.take 4) = fstN l := fun _ => rfl
      have hS : ∀ l, Num.getN ((l.drop 4).take 2) = sndN l := fun _ => rfl
      rw [hF] at hG1
      rw [hS] at hG2
      have hs16 : sndN x.body < 65536 := by have := Num.getN_lt ((x.body.drop 4).take 2) _ (Nat.le_refl _); rw [List.take_length] at this; exact Nat.lt_of_lt_of_le this (by rw [show (65536 : Nat) = 256 ^ 2 from rfl]; exact Nat.pow_le_pow_right (by omega) (by rw [List.length_take]; omega))
      obtain ⟨f, hf⟩ : ∃ f, f = fstN x.body := ⟨_, rfl⟩
      obtain ⟨m, hm⟩ : ∃ m, m = sndN x.body := ⟨_, rfl⟩
      rw [← hf] at HT hG1
      rw [← hm] at HT hG2 hs16
      have HG1 := Lib.hid hG1
      have HG2 := Lib.hid hG2
      clear hF hS hG1 hG2 hf hm
      by_cases e1 : f = r.frm
      rotate_left
      · have hTe : Q = (r, false) := by rw [HT.out, if_pos e1]
        subst hTe
        have t1 := bne_yes (show (f : Int) ≠ (r.frm : Int) by omega)
        clear e1
        go_wp2_with (first
          | (go_at_call 118; (with_reducible show Calls _ _ #[.slice (some ⟨g, 0, none⟩) 4 _] _ _); refine (HG1.out _ (Below.refl _ _)).mono ?_; rintro e w1 ⟨rfl, rfl⟩)
          | (go_at_call 118; (with_reducible show Calls _ _ #[.slice (some ⟨g, 4, none⟩) 2 _] _ _); refine (HG2.out _ (Below.refl _ _)).mono ?_; rintro e w1 ⟨rfl, rfl⟩))
        go_ret
        exact ⟨rfl, ⟨_, _, _, _, hAc⟩, kB0.1, kB0.2⟩
      rw [if_neg (fun h => h e1)] at HT
      have t1 := bne_no (show (f : Int) = (r.frm : Int) by omega)
      have hm1 : IntKind.i64.wrap (m : Int) = (m : Int) := wrap_small (by omega) (by omega)
      have hAg := hAc.move (w' := wc.setCell ⟨T, 2, none⟩ (.int .u64 (x.gen.toNat : Int))) (fun j hj _ => Below.heap_setCell wc ⟨T, 2, none⟩ _ j (fun e => by have := hAc.lT; simp at e; omega)) (by simp [World.setCell]) { r with gen := x.gen } (hAc.blk.set (k := 2) _) rfl rfl
      have kBg : KeepsOthers w (wc.setCell ⟨T, 2, none⟩ (.int .u64 (x.gen.toNat : Int))) ∧ KpK T n0 w (wc.setCell ⟨T, 2, none⟩ (.int .u64 (x.gen.toNat : Int))) := ⟨kB0.1.trans (KeepsOthers.setCell _ _ _), by
        refine ⟨kB0.2.1, kB0.2.2.1, kB0.2.2.2.1, by have := kB0.2.2.2.2.1; simpa [World.setCell] using this, fun j hj hn => (Below.heap_setCell wc ⟨T, 2, none⟩ _ j (fun e => hn (by simpa using e))).trans (kB0.2.2.2.2.2 j hj hn)⟩⟩
      have hXg := (Hx.out.on bc).other (.int .u64 (x.gen.toNat : Int)) (k := 2) (b := T) (fun e => by have := hAc.lT; have := Hh.out.lN; omega)
      have okg : (wc.setCell ⟨T, 2, none⟩ (.int .u64 (x.gen.toNat : Int))).ownsRow n0 5 1 (.slice (some ⟨g, 0, none⟩) x.body.length c) x.body.length (x.body.map e8) := own_keep okc (fun j cs _ hj _ => Below.heap_setCell wc ⟨T, 2, none⟩ _ j (fun e => by have := hAc.lT; simp at e; omega))
      have c4 : ¬ c = 4 := by omega
      have hfr := hAc.blk.free 2
      have c4' : ¬ (c : Int) = 4 := by omega
      go_upto_region 8 with (first
        | (go_at_call 118; (with_reducible show Calls _ _ #[.slice (some ⟨g, 0, none⟩) 4 _] _ _); refine (HG1.out _ (Below.refl _ _)).mono ?_; rintro e w1 ⟨rfl, rfl⟩)
        | (go_at_call 118; (with_reducible show Calls _ _ #[.slice (some ⟨g, 4, none⟩) 2 _] _ _); refine (HG2.out _ (Below.refl _ _)).mono ?_; rintro e w1 ⟨rfl, rfl⟩))
      obtain ⟨wg, hwg⟩ : ∃ q, q = wc.setCell ⟨T, 2, none⟩ (.int .u64 (x.gen.toNat : Int)) := ⟨_, rfl⟩
      rw [← hwg] at hAg kBg hXg okg ⊢
      obtain ⟨x0, x1, x2, x3, x4⟩ := five5r hXg
      obtain ⟨y0, y1, y2, y3, y4⟩ := five5r hAg.blk
      have lXg := hXg.lt
      have lTg := hAg.blk.lt
      have HAg := Lib.hid hAg
      have HkB := Lib.hid kBg
      have Hokg := Lib.hid okg
      have HXg := Lib.hid hXg
      clear hfr x0' x1' x2' x3' x4' y0' y1' y2' y3' y4' hAc hqc bc b0c hlTc hlXc kB0 hrdB okc hcs hwg t1 e1 hAg kBg okg hXg
      by_cases k4 : x.kind = 4
      · have s4 := beq_yes k4
        have k5 : ¬ x.kind = 5 := by omega
        by_cases hmn : (m : Int) < np
        · rw [if_pos ⟨k4, hmn⟩] at HT
          have hQ := HT.out
          subst hQ
          have smn := decide_eq_true hmn
          clear k4 k5
          have h6i : (6 : Int) ≤ (x.body.length : Int) := by omega
          obtain ⟨i0, hi0, hz0, hz1, hz2⟩ := info_parts infoPg
          have hnb : some T ≠ (Value.slice An prs.length cn).ownBlock := fun e => by have := (HAg.out.now.lt T e.symm).1; have := HAg.out.lT; omega
          obtain ⟨tb, htb⟩ := HAg.out.blk
          have hPr : PrOk wg n0 ⟨(m : Int), if c = 6 then some ⟨g, 0, none⟩ else some ⟨g, 6, none⟩, c - 6, x.body.drop 6⟩ := by
            by_cases c6 : c = 6
            · rw [if_pos c6]; exact PrOk.tail Hokg.out (.inr (by omega)) hbl (by omega) (by omega)
            · rw [if_neg c6]; exact PrOk.tail Hokg.out (.inl rfl) hbl (by omega) (by omega)
          have HPr := Lib.hid hPr
          clear hPr
          go_upto_region 9 with (fail)
          go_region_law ((refine Disk.step_append_rd _ (by rfl) _ _ _ (by rfl) n0 53 i0 _ 2 32 Tryz.underlying38 hi0 hz0 hz1 hz2 rfl (by omega) (.slice An prs.length cn) prs.length (prs.flatMap Pr.cells) (by rfl) ?_ _ 1 1 [.int .i64 (m : Int), .slice (if c = 6 then some ⟨g, 0, none⟩ else some ⟨g, 6, none⟩) (x.body.length - 6) (c - 6)] (by rfl) (by rfl) ?_ (by simp [Value.oneCell']) (by have := HAg.out.bd; simp only [maxLen]; omega) (by have := HAg.out.bd; omega) (by have := HAg.out.lN; simp; omega) ?_); (· exact HAg.out.now.alloc _); (· exact Rd.lit _ _ _ _ _ rfl (by simp)); intro v3 w3 own3 hg3 hat3; have e3 := (hg3.block T (by simp; omega) hnb).trans ((Below.heap_alloc _ _ T lTg).trans htb); obtain ⟨d0, d1, d2, d3, d4⟩ := five5r ⟨_, e3⟩; have d8 := Blk.free (⟨_, e3⟩ : Blk w3 T _) 1; obtain ⟨A3, c3, rfl⟩ := own_form own3)
          all_goals
            have fin := Lib.hid (HAg.out.data _ HPr.out (alloc_drew wg _) hg3 (by simpa [Pr.cells] using own3) hat3 hlp)
            clear own3 hat3 hg3
            go_wp2 <;> (go_ret; exact ⟨rfl, ⟨_, _, _, _, fin.out.1⟩, HkB.out.1.trans fin.out.2.1, HkB.out.2.trans fin.out.2.2⟩)
        · rw [if_neg (fun h => hmn h.2), if_neg (fun h => k5 h.1)] at HT
          have hQ := HT.out
          subst hQ
          have s5 := beq_no k5
          have smn := decide_eq_false hmn
          clear k4 k5
          go_wp2
          go_ret
          exact ⟨rfl, ⟨_, _, _, _, HAg.out⟩, HkB.out.1, HkB.out.2⟩
      · have s4 := beq_no k4
        rw [if_neg (fun h => k4 h.1)] at HT
        by_cases k5 : x.kind = 5
        rotate_left
        · rw [if_neg (fun h => k5 h.1)] at HT
          have hQ := HT.out
          subst hQ
          have s5 := beq_no k5
          clear k4 k5
          go_wp2
          go_ret
          exact ⟨rfl, ⟨_, _, _, _, HAg.out⟩, HkB.out.1, HkB.out.2⟩
        have s5 := beq_yes k5
        by_cases em : m = prs.length
        rotate_left
        · rw [if_neg (fun h => em h.2.1)] at HT
          have hQ := HT.out
          subst hQ
          have s6 := beq_no (show (m : Int) ≠ (prs.length : Int) by omega)
          clear k4 k5 em
          go_wp2
          go_ret
          exact ⟨rfl, ⟨_, _, _, _, HAg.out⟩, HkB.out.1, HkB.out.2⟩
        have s6 := beq_yes (show (m : Int) = (prs.length : Int) by omega)
        by_cases el : x.body.length = 6
        rotate_left
        · rw [if_neg (fun h => el h.2.2)] at HT
          have hQ := HT.out
          subst hQ
          have s7 := beq_no (show (x.body.length : Int) ≠ 6 by omega)
          clear k4 k5 em el
          go_wp2
          go_ret
          exact ⟨rfl, ⟨_, _, _, _, HAg.out⟩, HkB.out.1, HkB.out.2⟩
        rw [if_pos ⟨k5, em, el⟩] at HT
        have hQ := HT.out
        subst hQ
        have s7 := beq_yes (show (x.body.length : Int) = 6 by omega)
        clear k4 k5 em el
        obtain ⟨i0, hi0, hz0, hz1, hz2⟩ := info_parts infoTx
        have hnb : some T ≠ allv.ownBlock := fun e => by have := (HAg.out.all.lt T e.symm).1; have := HAg.out.lT; omega
        obtain ⟨tb, htb⟩ := HAg.out.blk
        obtain ⟨Aa, ca, rfl⟩ := own_form HAg.out.all
        have hw1 : IntKind.i64.wrap ((i : Int) + 1) = ((i + 1 : Nat) : Int) := by rw [wrap_small (by omega) (by omega)]; omega
        have hw2 := wrap_u64s hi
        go_upto_region 12 with (fail)
        go_region_law ((refine Disk.step_append_rd _ (by rfl) _ _ _ (by rfl) n0 106 i0 _ 2 32 Tryz.underlying99 hi0 hz0 hz1 hz2 rfl (by omega) (.slice Aa trs.length ca) trs.length (trs.flatMap Tr.cells) (by rfl) ?_ _ 1 1 [.slice An prs.length cn, .int .u64 (x.gen.toNat : Int)] (by rfl) (by rfl) ?_ (by simp [Value.oneCell']) (by have := HAg.out.bd; simp only [maxLen]; omega) (by have := HAg.out.bd; omega) (by have := HAg.out.lN; simp; omega) ?_); (· exact HAg.out.all.alloc _); (· exact Rd.lit _ _ _ _ _ rfl (by simp)); intro v3 w3 own3 hg3 hat3; have e3 := (hg3.block T (by simp; omega) hnb).trans ((Below.heap_alloc _ _ T lTg).trans htb); obtain ⟨d0, d1, d2, d3, d4⟩ := five5r ⟨_, e3⟩; have d8 := Blk.free (⟨_, e3⟩ : Blk w3 T _); have d80 := d8 0; have d81 := d8 1; have d82 := d8 2; have d83 := d8 3; obtain ⟨A3, c3, rfl⟩ := own_form own3)
        all_goals
          obtain ⟨f1, f2, f3, f4⟩ := four_set ⟨_, e3⟩ (.slice A3 (trs.length + 1) c3) (.slice none 0 0) (.int .u64 0) (.int .u64 ((i : Int) + 1))
          have fin := Lib.hid (HAg.out.commit (alloc_drew wg _) hg3 own3 hlt (i + 1) f2 (show Blk _ T [_, _, _, .int .u64 ((i + 1 : Nat) : Int), _] from f1) f3 ⟨rfl, rfl, rfl, f4⟩)
          clear f1 f2 f3 f4
          go_wp2
          go_ret
          exact ⟨rfl, ⟨_, _, _, _, fin.out.1⟩, HkB.out.1.trans fin.out.2.1, HkB.out.2.trans fin.out.2.2⟩
end Go.Proofs.YtchcmklelmlbgaaGreat.Wal

/- The log: the sectors of a life, one behind the other: the iterator's contract. No statement is proved here. -/
namespace Go.Proofs.YtchcmklelmlbgaaGreat.Wal
open Go.RowKit Go.Shelf
open Go.Proofs.YtchcmklelmlbgaaGreat.Geom
open Go.Proofs.YtchcmklelmlbgaaGreat.Ch (SeqOk)
open Go.Proofs.YtchcmklelmlbgaaGreat.Sup (Gb gv gcell gthree)
open Go.Proofs.YtchcmklelmlbgaaGreat.Disk (St DAt read_any)
open Go.Proofs.YtchcmklelmlbgaaGreat.Sec (X SymAt decode_sym xv five5x)
attribute [local go_sem] Oper.semAt_some
set_option linter.unusedVariables false
set_option maxRecDepth 100000
/-- what is handed to a round -/
structure It where
  k : Nat
  x : X
  A : Option Addr
  c : Nat
def It.enc (t : It) : Array Value := #[.int .i64 (t.k : Int), .agg #[.int .i64 t.x.kind, .int .u64 (t.x.life.toNat : Int), .int .i64 t.x.seq, .int .u64 (t.x.gen.toNat : Int), .slice t.A t.x.body.length t.c]]
def It.Ok (n0 : Nat) (W : World) (t : It) : Prop := W.ownsRow n0 5 1 (.slice t.A t.x.body.length t.c) t.x.body.length (t.x.body.map e8) ∧ t.x.body.length ≤ 1000 ∧ t.k ≤ 1000
def It.f (t : It) : Nat × X := (t.k, t.x)
def rdL (l : List (List UInt8)) (s : St) (ga gd gl base : Int) (k : Nat) : X × Int := Enc.rd l s (logAt ga gd gl (base + (k : Int)))
def goodL (l : List (List UInt8)) (s : St) (ga gd gl base : Int) (life : UInt64) (k : Nat) : Bool := decide ((rdL l s ga gd gl base k).2 = 0) && (decide ((rdL l s ga gd gl base k).1.life = life) && decide ((rdL l s ga gd gl base k).1.seq = (k : Int)))
def want (l : List (List UInt8)) (s : St) (ga gd gl base : Int) (k : Nat) : Nat × X := (k, (rdL l s ga gd gl base k).1)
/-- so many were handed -/
def Given (l : List (List UInt8)) (s : St) (ga gd gl base : Int) (life : UInt64) (N k : Nat) (pre : List It) : Prop := k ≤ N ∧ pre.map It.f = (List.range k).map (want l s ga gd gl base) ∧ ∀ j, j < k → goodL l s ga gd gl base life j = true
theorem Given.snoc {l : List (List UInt8)} {s : St} {ga gd gl base : Int} {life : UInt64} {N k : Nat} {pre : List It} {t : It} (h : Given l s ga gd gl base life N k pre) (hk : k < N) (ht : t.f = want l s ga gd gl base k) (hg : goodL l s ga gd gl base life k = true) : Given l s ga gd gl base life N (k + 1) (pre ++ [t]) := by
  refine ⟨hk, ?_, fun j hj => ?_⟩
  · rw [List.range_succ, List.map_append, List.map_append, h.2.1, List.map_cons, List.map_nil, List.map_cons, List.map_nil, ht]
  · rcases Nat.lt_succ_iff_lt_or_eq.1 hj with e | e
    · exact h.2.2 j e
    · rw [e]; exact hg
theorem log_size {ga gd gl : Int} (h : right ga gd gl = true) : 4 + gl ≤ Geom.sizeOf ga gd gl := by
  unfold Geom.sizeOf; rw [if_pos h]; have := pagesOf_bd ga gd gl; omega
set_option maxHeartbeats 2000000 in
theorem secs1_in (n : Nat) (hn : 1 ≤ n) (lp B Br Bf F g : Nat) (fp : List Nat) (s : St) (gS bS : Nat) (l : List (List UInt8)) (ga gd gl : Int) (life : UInt64) (base : Int) (N : Nat) (hG : Gb ga gd gl) (hN : (N : Int) = gl) (hr : right ga gd gl = true) (hb0 : 0 ≤ base) (hb1 : base ≤ 1073741824) (hl : l.length ≤ 1000000) (hs : s.sz ≤ 90000000) (hd : s.down = false) (hsz : (s.size : Int) = Geom.sizeOf ga gd gl)
    (w : World) (hP : SecsAt w Br Bf F (.pointer (some ⟨g, 0, none⟩)) (.pointer (some ⟨gS, 0, none⟩)) ga gd gl life base) (hB : Both w g fp s gS bS l) (hne : ∀ j ∈ bS :: gS :: fp, j ≠ B) (hneA : Br ≠ B)
    (J Jx : List It → World → Prop)
    (hY : ∀ pre x W, J pre W → It.Ok w.heap.size W x → pre.length < N → YieldAt Fence.wide (n - 1) Tryz.prog lp x.enc W fun e W' =>
      (e = .returned (.bool true) ∧ J (pre ++ [x]) W' ∧ KpK B w.heap.size W W') ∨ (e = .returned (.bool false) ∧ Jx (pre ++ [x]) W'))
    (W : World) (hW : Below w.heap.size w W) (hJb : ∀ pre (W W' : World), J pre W → Below W.heap.size W W' → J pre W') (h0 : J [] W) :
    CallsIn Fence.wide n Tryz.prog 117 #[.func (.yield lp) #[] #[], .pointer (some ⟨Br, 0, none⟩), .pointer (some ⟨Bf, 0, none⟩)] W fun e W' => (∃ v, e = .returned v) ∧
      ((∃ ys, (∃ k, Given l s ga gd gl base life N k ys ∧ (k = N ∨ goodL l s ga gd gl base life k = false)) ∧ J ys W') ∨ (∃ pre, (∃ k, Given l s ga gd gl base life N k pre) ∧ Jx pre W')) := by
  have hall : ∀ j ∈ bS :: gS :: fp, j < w.heap.size ∧ j ≠ B := by
    intro j hj
    refine ⟨?_, hne j hj⟩
    rcases List.mem_cons.1 hj with e | e
    · rw [e]; exact hB.sym.lt.2
    rcases List.mem_cons.1 e with e | e
    · rw [e]; exact hB.sym.lt.1
    · exact hB.disk.lt _ e
  have hPA := hP.ring
  have hLA := hPA.lt
  have facts : ∀ X, KpK B w.heap.size w X → Blk X Br (rcell (.pointer (some ⟨g, 0, none⟩)) (.pointer (some ⟨gS, 0, none⟩)) ga gd gl life base) ∧ Both X g fp s gS bS l := fun X k => ⟨hPA.kpk k hLA hneA, hB.kpk k hall⟩
  have HF := Lib.hid facts
  have hry := right_yes hr
  have hAr := Lib.hid (fun (k : Nat) (hk : k < N) W => place_any (.pointer (some ⟨g, 0, none⟩)) (.pointer (some ⟨gS, 0, none⟩)) ga gd gl life base (k : Int) W g gS rfl rfl hG hb0 hb1 (by omega) (by omega))
  have har := Lib.hid (fun (k : Nat) (hk : k < N) => log_bd (i := base + (k : Int)) hr (by omega))
  have hW0 : KpK B w.heap.size w W := KpK.of_below hW (Nat.le_refl _)
  obtain ⟨hA0, _⟩ := facts W hW0
  obtain ⟨z0, z1, z2, z3, z4, z5, z6⟩ := seven7 hA0
  have HS := Lib.hid (And.intro hsz hd)
  have HZ := Lib.hid (log_size hr)
  have hN64 : N ≤ 64 := by omega
  subst hN
  have HN := Lib.hid hb1
  clear facts hall hPA hLA hW hP hB hsz hA0 hry hr hb1
  refine callsIn_of_wp Tryz.func117 rfl trivial ?_ rfl
  simp only [Tryz.ntmps117, List.size_toArray, List.length_cons, List.length_nil, Nat.reduceAdd, Nat.reduceSub, Array.replicate_succ, Array.replicate_zero, List.push_toArray, List.append_toArray, List.nil_append, List.cons_append]
  gi_wp2_with fail
  gi_loopw [13] (fun i wr => ∃ k : Nat, k ≤ N ∧ i = .int .i64 (k : Int) ∧ KpK B w.heap.size w wr ∧ ∃ pre : List It, Hid (Given l s ga gd N base life N k pre) ∧ J pre wr) (fun i _ => N - (intOf i).toNat)
  case atStart => exact ⟨0, by omega, rfl, hW0, [], Lib.hid ⟨Nat.zero_le _, rfl, fun j hj => absurd hj (Nat.not_lt_zero j)⟩, h0⟩
  case round =>
    obtain ⟨k, hk, rfl, kp, pre, hpre, hJ⟩ := hrel
    clear z0 z1 z2 z3 z4 z5 z6 h0 hW0
    have hwk := Snap.wrap_up (k := k) (by omega)
    obtain ⟨hA, hBo⟩ := HF.out wr kp
    by_cases hlt : k < N
    · obtain ⟨hp0, hp2, hp1⟩ := har.out k hlt
      have hArk := hAr.out k hlt
      have hri : rdL l s ga gd N base k = Sec.decode (Sec.ckS l (Disk.read s (logAt ga gd N (base + (k : Int)))).1) (logAt ga gd N (base + (k : Int))) (Disk.read s (logAt ga gd N (base + (k : Int)))).1 := rfl
      have hpg : goodL l s ga gd N base life k = (decide ((rdL l s ga gd N base k).2 = 0) && (decide ((rdL l s ga gd N base k).1.life = life) && decide ((rdL l s ga gd N base k).1.seq = (k : Int)))) := rfl
      have hwt : want l s ga gd N base k = (k, (rdL l s ga gd N base k).1) := rfl
      obtain ⟨p, hp⟩ : ∃ p, p = logAt ga gd N (base + (k : Int)) := ⟨_, rfl⟩
      rw [← hp] at hArk hp0 hp1 hp2 hri
      have hps : p < (s.size : Int) := by have := HS.out.1; have := HZ.out; omega
      have hrd : (Disk.read s p).2 = 0 := by unfold Disk.read; rw [if_neg (by rw [HS.out.2]; simp), if_neg (by omega)]
      have hbl : (Disk.read s p).1.length = 512 := by unfold Disk.read; rw [if_neg (by rw [HS.out.2]; simp), if_neg (by omega)]; exact Disk.kept_len (n := s.size) (fun x hx => (List.mem_append.1 hx).elim (hBo.disk.ok.all x) (hBo.disk.ok.pend x)) _
      have hR := fun W (h : DAt W g fp s) => read_any g fp s p W h (by omega)
      obtain ⟨r, hr⟩ : ∃ r, r = Disk.read s p := ⟨_, rfl⟩
      rw [← hr] at hR hbl hri hrd
      obtain ⟨b, f⟩ := r
      simp only at hrd hbl hri
      subst hrd
      have hD := fun W (hS : SymAt W gS bS l) A c hr hc hcm => decode_sym p gS bS l A b b.length c W hS hl (by omega) (by omega) rfl hr (by omega) hc hcm
      rw [← hri] at hD
      have hlen : (rdL l s ga gd N base k).1.body.length ≤ 1000 := by rw [hri]; exact Snap.dec_body_len _ _ hbl
      obtain ⟨d, hd'⟩ : ∃ d, d = rdL l s ga gd N base k := ⟨_, rfl⟩
      rw [← hd'] at hD hpg hwt hlen
      have HArk := Lib.hid hArk
      have HR := Lib.hid hR
      have HD := Lib.hid hD
      have Hwt := Lib.hid hwt
      have Hlen := Lib.hid hlen
      clear hArk hR hD hwt hp hr hbl hri hd' hp0 hp1 hp2 hlen hps
      obtain ⟨z0, z1, z2, z3, z4, z5, z6⟩ := seven7 hA
      gi_wp2_with fail
      refine ⟨trivial, (callsIn_wide.2 (HArk.out _)).mono ?_⟩
      rintro e2 w2 ⟨rfl, b2⟩
      have k2 := kp.trans (KpK.of_below b2 kp.size)
      obtain ⟨hA2, hBo2⟩ := HF.out w2 k2
      clear z0 z1 z2 z3 z4 z5 z6
      obtain ⟨z0, z1, z2, z3, z4, z5, z6⟩ := seven7 hA2
      gi_wp2_with fail
      refine ⟨trivial, (callsIn_wide.2 (HR.out _ hBo2.disk)).mono ?_⟩
      rintro e3 w3 ⟨v, rfl, hN3, b3⟩
      obtain ⟨A1, c1, rfl, hc1, hm1, rd1⟩ := hN3.rdN (fp := []) (by simp)
      have k3 := k2.trans (KpK.of_below b3 k2.size)
      obtain ⟨hA3, hBo3⟩ := HF.out w3 k3
      clear z0 z1 z2 z3 z4 z5 z6
      obtain ⟨z0, z1, z2, z3, z4, z5, z6⟩ := seven7 hA3
      gi_wp2_with fail
      refine ⟨trivial, (callsIn_wide.2 (HD.out _ hBo3.sym A1 c1 rd1.rd hc1 hm1)).mono ?_⟩
      rintro e4 w4 ⟨⟨A4, c4, rfl, own4⟩, b4⟩
      unfold xv
      have k4 := k3.trans (KpK.of_below b4 k3.size)
      clear z0 z1 z2 z3 z4 z5 z6
      have hx5 : Blk (w4.alloc (.cells #[.int .i64 d.1.kind, .int .u64 (d.1.life.toNat : Int), .int .i64 d.1.seq, .int .u64 (d.1.gen.toNat : Int), .slice A4 d.1.body.length c4] 157)) w4.heap.size [.int .i64 d.1.kind, .int .u64 (d.1.life.toNat : Int), .int .i64 d.1.seq, .int .u64 (d.1.gen.toNat : Int), .slice A4 d.1.body.length c4] := Blk.new w4 _ _
      have b5 : Below w4.heap.size w4 (w4.alloc (.cells #[.int .i64 d.1.kind, .int .u64 (d.1.life.toNat : Int), .int .i64 d.1.seq, .int .u64 (d.1.gen.toNat : Int), .slice A4 d.1.body.length c4] 157)) := b1alloc w4 _
      have k5 := k4.trans (KpK.of_below b5 k4.size)
      obtain ⟨hA5, _⟩ := HF.out _ k5
      obtain ⟨x0, x1, x2, x3, x4⟩ := five5x hx5
      obtain ⟨z0, z1, z2, z3, z4, z5, z6⟩ := seven7 (HF.out w4 k4).1
      obtain ⟨q0, q1, q2, q3, q4, q5, q6⟩ := seven7 hA5
      have J5 := hJb _ _ _ hJ (bt (bt (bt b2 b3) b4) b5)
      have ok5 : It.Ok w.heap.size (w4.alloc (.cells #[.int .i64 d.1.kind, .int .u64 (d.1.life.toNat : Int), .int .i64 d.1.seq, .int .u64 (d.1.gen.toNat : Int), .slice A4 d.1.body.length c4] 157)) ⟨k, d.1, A4, c4⟩ := ⟨own_base (own_on own4 b5) k3.size, Hlen.out, (show k ≤ 1000 by omega)⟩
      have hYk := hY pre ⟨k, d.1, A4, c4⟩ (w4.alloc (.cells #[.int .i64 d.1.kind, .int .u64 (d.1.life.toNat : Int), .int .i64 d.1.seq, .int .u64 (d.1.gen.toNat : Int), .slice A4 d.1.body.length c4] 157)) J5 ok5 (by have := congrArg List.length hpre.out.2.1; simp at this; omega)
      clear hx5 own4 hA5 ok5
      by_cases c0 : d.2 = 0
      rotate_left
      · have Hpg := Lib.hid (show goodL l s ga gd N base life k = false by rw [hpg, decide_eq_false c0]; rfl)
        have e0 := bne_yes c0
        clear c0
        clear hpg
        gi_wp2_with fail
        refine ⟨fun _ h => (by cases h), ?_⟩
        gi_wp2_with fail
        refine bodyPost_ret (results_none rfl _ _ _) rfl ?_
        exact ⟨⟨_, rfl⟩, .inl ⟨pre, ⟨k, hpre.out, .inr Hpg.out⟩, J5⟩⟩
      have e0 := bne_no c0
      by_cases c1' : d.1.life = life
      rotate_left
      · have Hpg := Lib.hid (show goodL l s ga gd N base life k = false by rw [hpg, decide_eq_false c1']; simp)
        have e1 := bne_yes (show (d.1.life.toNat : Int) ≠ (life.toNat : Int) from fun e => c1' (UInt64.toNat_inj.1 (by omega)))
        clear c0 c1'
        clear hpg
        gi_wp2_with fail
        refine ⟨fun _ h => (by cases h), ?_⟩
        gi_wp2_with fail
        refine bodyPost_ret (results_none rfl _ _ _) rfl ?_
        exact ⟨⟨_, rfl⟩, .inl ⟨pre, ⟨k, hpre.out, .inr Hpg.out⟩, J5⟩⟩
      have e1 := bne_no (show (d.1.life.toNat : Int) = (life.toNat : Int) by rw [c1'])
      by_cases c2' : d.1.seq = (k : Int)
      rotate_left
      · have Hpg := Lib.hid (show goodL l s ga gd N base life k = false by rw [hpg, decide_eq_false c2']; simp)
        have e2 := bne_yes c2'
        clear c0 c1' c2'
        clear hpg
        gi_wp2_with fail
        refine ⟨fun _ h => (by cases h), ?_⟩
        gi_wp2_with fail
        refine bodyPost_ret (results_none rfl _ _ _) rfl ?_
        exact ⟨⟨_, rfl⟩, .inl ⟨pre, ⟨k, hpre.out, .inr Hpg.out⟩, J5⟩⟩
      have e2 := bne_no c2'
      have Hpg := Lib.hid (show goodL l s ga gd N base life k = true by rw [hpg, decide_eq_true c0, decide_eq_true c1', decide_eq_true c2']; rfl)
      clear hpg c0 c1' c2'
      obtain ⟨fn, tmps, assign, body, hy, hRr⟩ := hYk
      unfold It.enc at hy
      simp only at hy
      have Hgo := Lib.hid (hpre.out.snoc (t := ⟨k, d.1, A4, c4⟩) hlt (by rw [Hwt.out]; rfl) Hpg.out)
      gi_wp2_with fail
      refine hRr.mono ?_
      rintro e7 w7 (⟨rfl, hJ7, hk7⟩ | ⟨rfl, hJx7⟩)
      · gi_wp2_with fail
        go_roundw
        case rel => exact ⟨k + 1, by omega, by go_num, k5.trans hk7, _, Lib.hid Hgo.out, hJ7⟩
        case measure => simp only [intOf]; omega
      · gi_wp2_with fail
        refine bodyPost_ret (results_none rfl _ _ _) rfl ?_
        exact ⟨⟨_, rfl⟩, .inr ⟨_, ⟨k + 1, Hgo.out⟩, hJx7⟩⟩
    · have hkN : k = N := by omega
      have Hk := Lib.hid hkN
      have hkn : ¬ (k : Int) < (N : Int) := by omega
      clear hkN
      gi_wp2
      go_end0
      exact ⟨⟨_, rfl⟩, .inl ⟨pre, ⟨k, hpre.out, .inl Hk.out⟩, hJ⟩⟩
theorem secs1_ok (n : Nat) (hn : 1 ≤ n) (B Br Bf F g : Nat) (fp : List Nat) (s : St) (gS bS : Nat) (l : List (List UInt8)) (ga gd gl : Int) (life : UInt64) (base : Int) (N : Nat) (hG : Gb ga gd gl) (hN : (N : Int) = gl) (hr : right ga gd gl = true) (hb0 : 0 ≤ base) (hb1 : base ≤ 1073741824) (hl : l.length ≤ 1000000) (hs : s.sz ≤ 90000000) (hd : s.down = false) (hsz : (s.size : Int) = Geom.sizeOf ga gd gl)
    (w : World) (hP : SecsAt w Br Bf F (.pointer (some ⟨g, 0, none⟩)) (.pointer (some ⟨gS, 0, none⟩)) ga gd gl life base) (hB : Both w g fp s gS bS l) (hne : ∀ j ∈ bS :: gS :: fp, j ≠ B) (hneA : Br ≠ B) :
    SeqOk n Tryz.prog 117 #[.pointer (some ⟨Br, 0, none⟩), .pointer (some ⟨Bf, 0, none⟩)] It.enc (It.Ok w.heap.size) (KpK B w.heap.size) (fun ys => ∃ k, Given l s ga gd gl base life N k ys ∧ (k = N ∨ goodL l s ga gd gl base life k = false))
      (fun pre => ∃ k, Given l s ga gd gl base life N k pre) N w := fun lp J Jx W hW hJ hJx hY h0 =>
  secs1_in n hn lp B Br Bf F g fp s gS bS l ga gd gl life base N hG hN hr hb0 hb1 hl hs hd hsz w hP hB hne hneA J Jx hY W hW (fun pre W W' h b => hJ pre W W' none h (below_grown b none) (fun r e => by cases e)) h0
end Go.Proofs.YtchcmklelmlbgaaGreat.Wal

/- The log: what a scan comes to: plain. No statement is proved here. -/
namespace Go.Proofs.YtchcmklelmlbgaaGreat.Wal
open Go.RowKit
open Go.Proofs.YtchcmklelmlbgaaGreat.Sec (X)
set_option linter.unusedVariables false
def r00 : Rg := ⟨[], [], 0, 0⟩
/-- what is read, sector by sector -/
def scanH (np : Int) (rd : Nat → X) (good : Nat → Bool) : Nat → Nat → Rg → Rg
  | 0, _, r => r
  | n + 1, i, r => if good i = true then (if (takeF np r i (rd i)).2 = true then scanH np rd good n (i + 1) (takeF np r i (rd i)).1 else (takeF np r i (rd i)).1) else r
def foldR (np : Int) (l : List (Nat × X)) : Rg := l.foldl (fun r t => (takeF np r t.1 t.2).1) r00
theorem foldR_snoc (np : Int) (l : List (Nat × X)) (t : Nat × X) : foldR np (l ++ [t]) = (takeF np (foldR np l) t.1 t.2).1 := by simp [foldR]
def okR (np : Int) (l : List (Nat × X)) : Prop := ∀ q t q', l = q ++ t :: q' → (takeF np (foldR np q) t.1 t.2).2 = true
theorem okR_nil (np : Int) : okR np [] := fun q t q' h => by cases q <;> cases h
theorem okR_snoc {np : Int} {l : List (Nat × X)} {t : Nat × X} (h : okR np l) (ht : (takeF np (foldR np l) t.1 t.2).2 = true) : okR np (l ++ [t]) := fun q u q' e => by
  rcases List.eq_nil_or_concat q' with rfl | ⟨q2, v, rfl⟩
  · have := List.append_inj' e rfl
    obtain ⟨rfl, e2⟩ := this
    injection e2 with e2
    subst e2
    exact ht
  · have e' : l ++ [t] = (q ++ u :: q2) ++ [v] := by rw [e]; simp
    exact h q u q2 (List.append_inj' e' rfl).1
theorem takeF_len (np : Int) (r : Rg) (i : Nat) (x : X) : (takeF np r i x).1.all.length + (takeF np r i x).1.now.length ≤ r.all.length + r.now.length + 1 := by
  unfold takeF
  split
  · simp only; omega
  · split
    · simp only; omega
    · split
      · simp; omega
      · split
        · simp
        · simp only; omega
theorem foldR_len (np : Int) : ∀ (n : Nat) (l : List (Nat × X)), l.length = n → (foldR np l).all.length + (foldR np l).now.length ≤ n
  | 0, l, h => by
    obtain rfl := List.eq_nil_of_length_eq_zero h
    simp [foldR, r00]
  | n + 1, l, h => by
    rcases List.eq_nil_or_concat l with rfl | ⟨q, t, rfl⟩
    · cases h
    · have ih := foldR_len np n q (by simpa using h)
      rw [List.concat_eq_append, foldR_snoc]
      have := takeF_len np (foldR np q) t.1 t.2
      omega
theorem scanH_go {np : Int} {rd : Nat → X} {good : Nat → Bool} (N : Nat) : ∀ (k : Nat), k ≤ N → (∀ j, j < k → good j = true) → okR np ((List.range k).map fun j => (j, rd j)) →
    scanH np rd good N 0 r00 = scanH np rd good (N - k) k (foldR np ((List.range k).map fun j => (j, rd j)))
  | 0, _, _, _ => by simp [foldR]
  | k + 1, hk, hg, ho => by
    have e : (List.range (k + 1)).map (fun j => (j, rd j)) = (List.range k).map (fun j => (j, rd j)) ++ [(k, rd k)] := by rw [List.range_succ, List.map_append]; rfl
    have ho' : okR np ((List.range k).map fun j => (j, rd j)) := fun q t q' h => ho q t (q' ++ [(k, rd k)]) (by rw [e, h]; simp)
    have ht := ho ((List.range k).map fun j => (j, rd j)) (k, rd k) [] e
    rw [scanH_go N k (by omega) (fun j hj => hg j (by omega)) ho', e, foldR_snoc]
    obtain ⟨m, hm⟩ : ∃ m, N - k = m + 1 := ⟨N - k - 1, by omega⟩
    rw [hm, show N - (k + 1) = m by omega]
    show (if _ then _ else _) = _
    rw [if_pos (hg k (by omega)), if_pos ht]
/-- the scan has come to its end -/
theorem scanH_done {np : Int} {rd : Nat → X} {good : Nat → Bool} {N k : Nat} (hk : k ≤ N) (hg : ∀ j, j < k → good j = true) (ho : okR np ((List.range k).map fun j => (j, rd j))) (he : k = N ∨ good k = false) : scanH np rd good N 0 r00 = foldR np ((List.range k).map fun j => (j, rd j)) := by
  rw [scanH_go N k hk hg ho]
  rcases he with rfl | he
  · rw [Nat.sub_self]; rfl
  · cases hm : N - k with
    | zero => rfl
    | succ m => show (if _ then _ else _) = _; rw [if_neg (by rw [he]; simp)]
/-- it ended at a sector that is none -/
theorem scanH_stop {np : Int} {rd : Nat → X} {good : Nat → Bool} {N k : Nat} (hk : k + 1 ≤ N) (hg : ∀ j, j < k + 1 → good j = true) (ho : okR np ((List.range k).map fun j => (j, rd j))) (ht : (takeF np (foldR np ((List.range k).map fun j => (j, rd j))) k (rd k)).2 = false) :
    scanH np rd good N 0 r00 = foldR np ((List.range (k + 1)).map fun j => (j, rd j)) := by
  have e : (List.range (k + 1)).map (fun j => (j, rd j)) = (List.range k).map (fun j => (j, rd j)) ++ [(k, rd k)] := by rw [List.range_succ, List.map_append]; rfl
  rw [scanH_go N k (by omega) (fun j hj => hg j (by omega)) ho, e, foldR_snoc]
  obtain ⟨m, hm⟩ : ∃ m, N - k = m + 1 := ⟨N - k - 1, by omega⟩
  rw [hm]
  show (if _ then _ else _) = _
  rw [if_pos (hg k (by omega)), if_neg (by rw [ht]; simp)]
end Go.Proofs.YtchcmklelmlbgaaGreat.Wal

/- The log: what is scanned. No statement is proved here. -/
namespace Go.Proofs.YtchcmklelmlbgaaGreat.Wal
open Go.RowKit Go.Shelf
open Go.Proofs.YtchcmklelmlbgaaGreat.Geom
open Go.Proofs.YtchcmklelmlbgaaGreat.Ch (SeqOk range_ok)
open Go.Proofs.YtchcmklelmlbgaaGreat.Sup (Gb gv gcell gthree)
open Go.Proofs.YtchcmklelmlbgaaGreat.Disk (St DAt)
open Go.Proofs.YtchcmklelmlbgaaGreat.Sec (X)
attribute [local go_sem] Oper.semAt_some
set_option linter.unusedVariables false
set_option maxRecDepth 100000
theorem It.Ok.grown {n0 : Nat} {W W' : World} {t : It} {row : Option Nat} (h : It.Ok n0 W t) (hg : W.grownBy W' row) (hr : ∀ r, row = some r → ∃ o : Obj, W.heap[r]? = some o ∧ o.isCells = false) : It.Ok n0 W' t :=
  ⟨ownU h.1 fun j cs hj => hg.block j (lt_of_block hj) fun e => (by
    obtain ⟨o, ho, hc⟩ := hr j e.symm
    rw [hj] at ho; cases ho; cases hc), h.2⟩
theorem It.Ok.on {n0 : Nat} {W W' : World} {t : It} (h : It.Ok n0 W t) (b : Below W.heap.size W W') : It.Ok n0 W' t := ⟨own_on h.1 b, h.2⟩
/-- transactions of the call's own -/
def OwnTx (w : World) (base : Nat) (v : Value) (l : List Tx) : Prop := ∃ trs : List Tr, w.ownsRow base 106 2 v trs.length (trs.flatMap Tr.cells) ∧ trs.map Tr.tx = l ∧ (∀ t ∈ trs, TrOk w base none t) ∧ trs.length ≤ 100000
/-- what is scanned -/
def scanTx (l : List (List UInt8)) (s : St) (ga gd gl base : Int) (life : UInt64) : List Tx := (scanH (pagesOf ga gd gl) (fun k => (rdL l s ga gd gl base k).1) (goodL l s ga gd gl base life) gl.toNat 0 r00).all
theorem PrOk.base {w : World} {n0 n1 : Nat} {p : Pr} (h : PrOk w n0 p) (hb : n1 ≤ n0) : PrOk w n1 p :=
  ⟨fun hne => by obtain ⟨g, off, cs, e, hg, hh, hc⟩ := h.rd hne; exact ⟨g, off, cs, e, Nat.le_trans hb hg, hh, hc⟩, h.cap, h.max, h.lo, h.hi, h.len⟩
theorem RdAt.tx {w : World} {n0 T b : Nat} {np : Int} {r : Rg} {allv nowv : Value} {trs : List Tr} {prs : List Pr} (h : RdAt w n0 T np r allv nowv trs prs) (hb : b ≤ n0) : OwnTx w b allv r.all :=
  ⟨trs, own_base h.all hb, h.eA.symm, fun t ht => ⟨own_base (h.okA t ht).row hb, fun g _ e => (by cases e), fun p hp => ((h.okA t ht).pages p hp).base hb⟩, h.bd.1⟩
/-- between two rounds of Scan -/
structure SInv (w w4 : World) (np : Int) (T F : Nat) (pre : List It) (X : World) : Prop where
  rd : ∃ allv nowv trs prs, RdAt X w4.heap.size T np (foldR np (pre.map It.f)) allv nowv trs prs
  kp : KpK T w4.heap.size w4 X
  bel : Below w.heap.size w X
theorem SInv.own {w w4 : World} {np : Int} {T F : Nat} (hw : w.heap.size ≤ w4.heap.size) : OwnFrom w4.heap.size (SInv w w4 np T F) := by
  intro pre X X' row hI hg hr
  obtain ⟨⟨allv, nowv, trs, prs, h⟩, kp, b⟩ := hI
  exact ⟨⟨allv, nowv, trs, prs, h.own hg hr⟩, kpK_grown kp hg (fun r e => (hr r e).1) (Nat.le_refl _), b.grown hg (by have := b.size; omega) (fun r e => by have := (hr r e).1; omega)⟩
set_option maxHeartbeats 2000000 in
theorem scan_any (g : Nat) (fp : List Nat) (s : St) (gS bS : Nat) (l : List (List UInt8)) (ga gd gl : Int) (life : UInt64) (base : Int) (w : World) (hG : Gb ga gd gl) (h : Both w g fp s gS bS l) (hl : l.length ≤ 1000000) (hs : s.sz ≤ 90000000) (hf : wrightF s ga gd gl base = 0) (hd : s.down = false) :
    Calls Tryz.prog 55 #[.pointer (some ⟨g, 0, none⟩), .pointer (some ⟨gS, 0, none⟩), gv ga gd gl, .int .u64 (life.toNat : Int), .int .i64 base] w fun e w' => (∃ v, e = .returned (.tuple #[v, .int .i64 0]) ∧ OwnTx w' w.heap.size v (scanTx l s ga gd gl base life)) ∧ Below w.heap.size w w' := by
  have FG := Blk.new w (gcell ga gd gl) 23
  obtain ⟨z0, z1, z2⟩ := gthree FG
  have HR := Lib.hid (fun W (bW : Below w.heap.size w W) => right_any g fp s gS ga gd gl life base W hG (h.disk.on bW))
  rw [hf] at HR
  obtain ⟨hr, hsz, hb0, hb1⟩ : right ga gd gl = true ∧ (s.size : Int) = Geom.sizeOf ga gd gl ∧ 0 ≤ base ∧ base ≤ 1073741824 := by
    unfold wrightF at hf
    split at hf
    · assumption
    · cases hf
  have hry := right_yes hr
  have HP := Lib.hid (fun W => Geom.pages_any ga gd gl W hG.a0 hG.a1 hG.d0 hG.d1 hG.g0 hG.g1)
  obtain ⟨np, hnp⟩ : ∃ np, np = pagesOf ga gd gl := ⟨_, rfl⟩
  rw [← hnp] at HP
  have hnp0 : 0 ≤ np ∧ np ≤ 100 := by have := pagesOf_bd ga gd gl; omega
  have HR0 := Lib.hid (show scanTx l s ga gd gl base life = (scanH np (fun k => (rdL l s ga gd gl base k).1) (goodL l s ga gd gl base life) gl.toNat 0 r00).all by rw [hnp]; rfl)
  obtain ⟨R, hR⟩ : ∃ R, R = scanTx l s ga gd gl base life := ⟨_, rfl⟩
  rw [← hR]
  have HRR := Lib.hid hR
  clear hR hnp
  refine (callsIn_wide (n := 8)).1 ?_
  refine callsIn_of_wp_marks Tryz.func55 rfl trivial ?_ rfl
  simp only [Tryz.ntmps55, List.size_toArray, List.length_cons, List.length_nil, Nat.reduceAdd, Nat.reduceSub, Array.replicate_succ, Array.replicate_zero, List.push_toArray, List.append_toArray, List.nil_append, List.cons_append]
  gi_wp2_with fail
  refine wpIn_wide.2 (wp_scope_straight ((wpIn_wide (n := 8)).1 ?_))
  gi_wp2_with fail
  obtain ⟨w0, hw0⟩ : ∃ w0, w0 = (w.alloc (.cells (gcell ga gd gl).toArray 23)).alloc (.cells (rcell (.pointer (some ⟨g, 0, none⟩)) (.pointer (some ⟨gS, 0, none⟩)) ga gd gl life base).toArray 133) := ⟨_, rfl⟩
  have ba : Blk w0 (w.heap.size + 1) (rcell (.pointer (some ⟨g, 0, none⟩)) (.pointer (some ⟨gS, 0, none⟩)) ga gd gl life base) := by
    rw [hw0]
    have := Blk.new (w.alloc (.cells (gcell ga gd gl).toArray 23)) (rcell (.pointer (some ⟨g, 0, none⟩)) (.pointer (some ⟨gS, 0, none⟩)) ga gd gl life base) 133
    simpa using this
  have bg : Blk w0 w.heap.size (gcell ga gd gl) := by rw [hw0]; exact FG.alloc _
  have b0 : Below w.heap.size w w0 := by rw [hw0]; exact b2alloc _ _ _
  rw [show (w.alloc (.cells #[.int .i64 ga, .int .i64 gd, .int .i64 gl] 23)).alloc (.cells #[.pointer (some ⟨g, 0, none⟩), .pointer (some ⟨gS, 0, none⟩), .int .i64 ga, .int .i64 gd, .int .i64 gl, .int .u64 (life.toNat : Int), .int .i64 base] 133) = w0 from hw0.symm]
  clear hw0 z0 z1 z2 FG
  refine ⟨trivial, (callsIn_wide.2 (HR.out _ b0)).mono ?_⟩
  rintro e1 w1 ⟨rfl, b1⟩
  have b01 := bt b0 b1
  have bg1 := (bg.on b1).alloc (.cells #[.int .i64 0] 29)
  obtain ⟨z0, z1, z2⟩ := gthree bg1
  gi_wp2_with fail
  have bf := Boxed.new w1 29 (.int .i64 0)
  have b1f := b1alloc w1 (.cells #[.int .i64 0] 29)
  refine ⟨trivial, (callsIn_wide.2 (HP.out _)).mono ?_⟩
  rintro e2 w2 ⟨rfl, b2⟩
  clear z0 z1 z2
  gi_wp2_with fail
  refine wpIn_label ?_
  obtain ⟨w3, hw3⟩ : ∃ w3, w3 = (w2.alloc (.cells #[.slice none 0 0, .slice none 0 0, .int .u64 0, .int .u64 0, .int .i64 np] 152)).alloc (.cells #[.pointer (some ⟨w2.heap.size, 0, none⟩)] 150) := ⟨_, rfl⟩
  have bT : Blk w3 w2.heap.size [.slice none 0 0, .slice none 0 0, .int .u64 0, .int .u64 0, .int .i64 np] := by
    rw [hw3]; exact (Blk.new w2 [.slice none 0 0, .slice none 0 0, .int .u64 0, .int .u64 0, .int .i64 np] 152).alloc _
  have bP : Box w3 (w2.heap.size + 1) (.pointer (some ⟨w2.heap.size, 0, none⟩)) := by
    rw [hw3]
    have := Box.new (w2.alloc (.cells #[.slice none 0 0, .slice none 0 0, .int .u64 0, .int .u64 0, .int .i64 np] 152)) 150 (.pointer (some ⟨w2.heap.size, 0, none⟩))
    simpa using this
  have b3 : Below w2.heap.size w2 w3 := by rw [hw3]; exact b2alloc _ _ _
  rw [show (w2.alloc (.cells #[.slice none 0 0, .slice none 0 0, .int .u64 0, .int .u64 0, .int .i64 np] 152)).alloc (.cells #[.pointer (some ⟨w2.heap.size, 0, none⟩)] 150) = w3 from hw3.symm]
  clear hw3
  have bf2 : Box w3 w1.heap.size (.int .i64 0) := ⟨_, ((bt b2 b3).block _ bf.lt).trans bf⟩
  have ba3 : Blk w3 (w.heap.size + 1) (rcell (.pointer (some ⟨g, 0, none⟩)) (.pointer (some ⟨gS, 0, none⟩)) ga gd gl life base) := ba.on (bt (bt b1 b1f) (bt b2 b3))
  obtain ⟨z0, z1, z2, z3, z4, z5, z6⟩ := seven7 ba3
  have s01 := ba.lt
  have s1 := b1.size
  have s1f : w1.heap.size < (w1.alloc (.cells #[.int .i64 0] 29)).heap.size := by simp
  have s2 := b2.size
  have s3 := b3.size
  have lP := bP.lt
  gi_wp2_with fail
  refine ⟨trivial, (callsIn_wide.2 (sectors_any g gS w1.heap.size ga gd gl life base w3)).mono ?_⟩
  rintro e4 w4 ⟨rfl, hP4, b4⟩
  have s4 := b4.size
  have lS := hP4.fault.lt
  have b03 : Below w.heap.size w w3 := bt (bt b01 b1f) (bt b2 b3)
  have b04 := bt b03 b4
  have hB4 := h.on b04
  clear z0 z1 z2 z3 z4 z5 z6
  have hne : ∀ j ∈ bS :: gS :: fp, j ≠ w2.heap.size := by
    intro j hj
    have := b01.size
    rcases List.mem_cons.1 hj with e | e
    · have := h.sym.lt.2; omega
    rcases List.mem_cons.1 e with e | e
    · have := h.sym.lt.1; omega
    · have := h.disk.lt _ e; omega
  have hr0 : RdAt w4 w4.heap.size w2.heap.size np (foldR np []) (.slice none 0 0) (.slice none 0 0) [] [] :=
    ⟨bT.on b4, own_nil _ _ _ _, own_nil _ _ _ _, fun t ht => (by cases ht), fun t ht => (by cases ht), rfl, rfl, by have := (bT.on b4).lt; omega, Nat.le_refl _, by simp⟩
  have hS0 := SInv.own (np := np) (T := w2.heap.size) (F := w1.heap.size) (w := w) (w4 := w4) b04.size
  obtain ⟨N, hN⟩ : ∃ N : Nat, N = gl.toNat := ⟨_, rfl⟩
  have hNg : (N : Int) = gl := by omega
  rw [← hN] at HR0
  gi_wp2_with fail
  refine range_ok (n := 8) (by omega) (gf := 117) (lb := #[.pointer (some ⟨w3.heap.size, 0, none⟩), .pointer (some ⟨w3.heap.size + 1, 0, none⟩)]) rfl (enters_of Tryz.func117 (by kernel_rfl) rfl)
    (secs1_ok 7 (by omega) w2.heap.size w3.heap.size (w3.heap.size + 1) w1.heap.size g fp s gS bS l ga gd gl life base N hG hNg hr hb0 hb1 hl hs hd hsz w4 hP4 hB4 hne (by omega))
    (fun h k => h.trans k) (fun W l o o' hl h _ _ => KpK.turn W l o' hl) (Below.refl _ _) (fun _ => rfl)
    (fun pre X => SInv w w4 np w2.heap.size w1.heap.size pre X ∧ okR np (pre.map It.f))
    (fun c (pre' : List It) X => (∃ (pre : List It) (x : It), pre' = pre ++ [x] ∧ c = .exit 0 ∧ okR np (pre.map It.f) ∧ (takeF np (foldR np (pre.map It.f)) x.k x.x).2 = false) ∧ SInv w w4 np w2.heap.size w1.heap.size pre' X)
    (fun pre X X' row hI hg hr => ⟨hS0 pre X X' row hI.1 hg hr, hI.2⟩)
    (fun c pre X X' row hI hg hr => ⟨hI.1, hS0 pre X X' row hI.2 hg hr⟩)
    ⟨⟨⟨_, _, _, _, hr0⟩, KpK.refl _ _ _, b04⟩, okR_nil np⟩
    (fun pre x a' X => ∃ pb, a' = { tmps := #[.pointer (some ⟨g, 0, none⟩), .pointer (some ⟨gS, 0, none⟩), gv ga gd gl, .int .u64 (life.toNat : Int), .int .i64 base, undef, undef, .pointer (some ⟨w.heap.size, 0, none⟩), undef, undef, .slice none 0 0, .int .i64 0, .pointer (some ⟨w.heap.size + 1, 0, none⟩), .int .i64 0, .pointer (some ⟨w1.heap.size, 0, none⟩), .pointer (some ⟨w2.heap.size + 1, 0, none⟩), .int .i64 (x.k : Int), .pointer (some ⟨pb, 0, none⟩), .pointer (some ⟨g, 0, none⟩), .pointer (some ⟨gS, 0, none⟩), gv ga gd gl, .int .u64 (life.toNat : Int), .int .i64 base, (rv (.pointer (some ⟨g, 0, none⟩)) (.pointer (some ⟨gS, 0, none⟩)) ga gd gl life base), (rv (.pointer (some ⟨g, 0, none⟩)) (.pointer (some ⟨gS, 0, none⟩)) ga gd gl life base), .int .i64 0, .int .i64 0, .bool false, undef, gv ga gd gl, .int .i64 np, .agg #[.slice none 0 0, .slice none 0 0, .int .u64 0, .int .u64 0, .int .i64 np], .pointer (some ⟨w2.heap.size, 0, none⟩), (rv (.pointer (some ⟨g, 0, none⟩)) (.pointer (some ⟨gS, 0, none⟩)) ga gd gl life base), .func (.func 117) #[] #[.pointer (some ⟨w3.heap.size, 0, none⟩), .pointer (some ⟨w3.heap.size + 1, 0, none⟩)], .int .i64 (x.k : Int), .agg #[.int .i64 x.x.kind, .int .u64 (x.x.life.toNat : Int), .int .i64 x.x.seq, .int .u64 (x.x.gen.toNat : Int), .slice x.A x.x.body.length x.c], undef, undef, undef, undef, undef, undef, undef, undef, undef, undef, undef, undef], defers := [] } ∧ Blk X pb [.int .i64 x.x.kind, .int .u64 (x.x.life.toNat : Int), .int .i64 x.x.seq, .int .u64 (x.x.gen.toNat : Int), .slice x.A x.x.body.length x.c] ∧ w4.heap.size ≤ pb ∧ It.Ok w4.heap.size X x ∧ SInv w w4 np w2.heap.size w1.heap.size pre X ∧ okR np (pre.map It.f))
    ?_ ?assign ?body ?done ?stop
  · rintro pre x a' X lp o o' hl ho hc ⟨pb, rfl, hpb, hpl, hok, hIx, hokr⟩
    have hg := grownBy_putObj' X lp o'
    refine ⟨pb, rfl, ?_, hpl, hok.grown hg (fun r e => by cases e; exact ⟨o, ho, hc⟩), hS0 pre X _ (some lp) hIx hg (fun r e => by cases e; exact ⟨hl, o, ho, hc⟩), hokr⟩
    obtain ⟨t, ht⟩ := hpb
    refine ⟨t, (hg.block pb (lt_of_block ht) (fun e => ?_)).trans ht⟩
    injection e with e
    subst e
    rw [ht] at ho; cases ho; cases hc
  case assign =>
    intro lp pre x X hIx hok hlen
    unfold It.enc
    simp [List.zip_toArray, List.setIfInBounds_toArray]
    gi_wp2
    refine ⟨KeepsOthers.alloc _ _, KpK.of_below (b1alloc _ _) hIx.1.kp.size, X.heap.size, rfl, Blk.new X [.int .i64 x.x.kind, .int .u64 (x.x.life.toNat : Int), .int .i64 x.x.seq, .int .u64 (x.x.gen.toNat : Int), .slice x.A x.x.body.length x.c] _, hIx.1.kp.size, hok.on (b1alloc _ _), hS0 pre X _ none hIx.1 (below_grown (b1alloc _ _) none) (fun r e => by cases e), hIx.2⟩
  case body =>
    rintro lp pre x a' X ⟨pb, rfl, hpb, hpl, hok, ⟨⟨allv, nowv, trs, prs, hrd⟩, hkp, hbX⟩, hokr⟩ hlen
    obtain ⟨x0, x1, x2, x3, x4⟩ := five5r hpb
    have hP := (Box.on' bP b4).kpk hkp (by omega) (by omega)
    have p0 := hP.cell
    have hlx := hpb.lt
    have lP := hP.lt
    have hln := foldR_len np _ (pre.map It.f) rfl
    rw [List.length_map] at hln
    have e1 := congrArg List.length hrd.eA
    have e2 := congrArg List.length hrd.eN
    rw [List.length_map] at e1 e2
    have HT := Lib.hid (take_any w4.heap.size w2.heap.size np (foldR np (pre.map It.f)) allv nowv trs prs x.k x.x x.A x.c X hrd hok.1 hok.2.1 hok.2.2 hnp0.1 hnp0.2 (by omega) (by omega))
    have hsn : foldR np ((pre ++ [x]).map It.f) = (takeF np (foldR np (pre.map It.f)) x.k x.x).1 := by rw [List.map_append]; exact foldR_snoc np (pre.map It.f) x.f
    have hso : (takeF np (foldR np (pre.map It.f)) x.k x.x).2 = true → okR np ((pre ++ [x]).map It.f) := fun h => by rw [List.map_append]; exact okR_snoc hokr h
    obtain ⟨q, hq⟩ : ∃ q, q = takeF np (foldR np (pre.map It.f)) x.k x.x := ⟨_, rfl⟩
    rw [← hq] at HT hsn hso
    have Hq := Lib.hid hq
    have Hsn := Lib.hid hsn
    have Hso := Lib.hid hso
    clear hq hsn hso hln e1 e2 hrd
    gi_wp2_with fail
    refine ⟨trivial, (callsIn_wide.2 HT.out).mono ?_⟩
    rintro e5 w5 ⟨rfl, hR5, hk5, hp5⟩
    have hb5 : Below w.heap.size w w5 := ⟨hp5.1.trans hbX.os, hp5.2.1.trans hbX.tape, hp5.2.2.1.trans hbX.output, Nat.le_trans hbX.size hp5.size, fun j hj => (hp5.block (by omega) (by omega)).trans (hbX.block j hj)⟩
    obtain ⟨r5, t5⟩ := q
    have hS5 : SInv w w4 np w2.heap.size w1.heap.size (pre ++ [x]) w5 := ⟨by rw [Hsn.out]; exact hR5, hkp.trans hp5, hb5⟩
    cases t5 with
    | true =>
      gi_wp2
      exact ⟨hk5, hp5, hS5, Hso.out (by first | trivial | rfl)⟩
    | false =>
      gi_wp2
      exact ⟨hk5, ⟨pre, x, rfl, rfl, hokr, by rw [← Hq.out]⟩, hS5⟩
  case done =>
    rintro D xs X hD ⟨k, ⟨hkN, hmap, hgood⟩, hend⟩ ⟨⟨⟨allv, nowv, trs, prs, hrd⟩, hkp, hbX⟩, hokr⟩ hKD
    have hexit : R = (foldR np (xs.map It.f)).all := by
      rw [HRR.out, HR0.out, hmap]
      rw [hmap] at hokr
      exact congrArg Rg.all (scanH_done hkN hgood hokr hend)
    have hfb := Box.on' bf2 b4
    have f0 := (hfb.kpk hkp (by omega) (by omega)).cell
    have p0 := ((Box.on' bP b4).kpk hkp (by omega) (by omega)).cell
    have lfb := hfb.lt
    obtain ⟨y0, y1, y2, y3, y4⟩ := five5r hrd.blk
    have lT := hrd.blk.lt
    have lXs := hkp.size
    have g0 := grownBy_putObj' X D (.deferred none)
    have Hrd := Lib.hid (hrd.own g0 (fun r e => (by cases e; exact ⟨hD, _, hKD, rfl⟩)))
    have Hex := Lib.hid hexit
    clear hexit hrd hfb
    gi_wp2_with fail
    refine ⟨by simp, .inl ⟨_, _, rfl, run_takeDeferred hKD, ?_⟩⟩
    refine ⟨.tuple #[allv, .int .i64 0], (by simp [results, Tryz.results55, go_sem]), ?_⟩
    refine ⟨⟨allv, rfl, ?_⟩, hbX.trans (belowK_b (w := w) (Nat.le_refl _) _ D _ _ (by have := b04.size; omega) hKD rfl rfl)⟩
    rw [Hex.out]
    exact Hrd.out.tx b04.size
  case stop =>
    rintro D c pre' X hD ⟨k, hkN, hmap, hgood⟩ ⟨⟨pre, x, rfl, rfl, hokr, hlast⟩, ⟨⟨allv, nowv, trs, prs, hrd⟩, hkp, hbX⟩⟩ hKD
    have hk1 : pre.length + 1 = k := by simpa using congrArg List.length hmap
    subst hk1
    have hmap2 := hmap
    rw [List.range_succ, List.map_append, List.map_append] at hmap2
    obtain ⟨hm1, hm2⟩ := List.append_inj' hmap2 rfl
    simp only [List.map_cons, List.map_nil, List.cons.injEq, and_true] at hm2
    have hxk : x.k = pre.length := congrArg Prod.fst hm2
    have hxx : x.x = (rdL l s ga gd gl base pre.length).1 := congrArg Prod.snd hm2
    have hexit : R = (foldR np ((pre ++ [x]).map It.f)).all := by
      rw [HRR.out, HR0.out, hmap]
      rw [hm1] at hokr
      rw [hm1, hxk, hxx] at hlast
      exact congrArg Rg.all (scanH_stop hkN hgood hokr hlast)
    clear hm1 hm2 hxk hxx hmap2
    have hfb := Box.on' bf2 b4
    have f0 := (hfb.kpk hkp (by omega) (by omega)).cell
    have p0 := ((Box.on' bP b4).kpk hkp (by omega) (by omega)).cell
    have lfb := hfb.lt
    obtain ⟨y0, y1, y2, y3, y4⟩ := five5r hrd.blk
    have lT := hrd.blk.lt
    have lXs := hkp.size
    have g0 := grownBy_putObj' X D (.deferred none)
    have Hrd := Lib.hid (hrd.own g0 (fun r e => (by cases e; exact ⟨hD, _, hKD, rfl⟩)))
    have Hex := Lib.hid hexit
    clear hexit hrd hfb
    gi_wp2_with fail
    refine ⟨by simp, .inl ⟨_, _, rfl, run_takeDeferred hKD, ?_⟩⟩
    refine ⟨.tuple #[allv, .int .i64 0], (by simp [results, Tryz.results55, go_sem]), ?_⟩
    refine ⟨⟨allv, rfl, ?_⟩, hbX.trans (belowK_b (w := w) (Nat.le_refl _) _ D _ _ (by have := b04.size; omega) hKD rfl rfl)⟩
    rw [Hex.out]
    exact Hrd.out.tx b04.size
end Go.Proofs.YtchcmklelmlbgaaGreat.Wal

/- Transactions ([]Txn) in memory: how they read, in blocks of a kind. No statement is proved here. -/
namespace Go.Proofs.YtchcmklelmlbgaaGreat.Wal
open Go.RowKit
set_option linter.unusedVariables false
instance : DecidableEq Pg := fun a b => decidable_of_iff (a.n = b.n ∧ a.body = b.body) ⟨fun h => by cases a; cases b; simp_all, fun h => by rw [h]; exact ⟨rfl, rfl⟩⟩
instance : DecidableEq Tx := fun a b => decidable_of_iff (a.pages = b.pages ∧ a.gen = b.gen) ⟨fun h => by cases a; cases b; simp_all, fun h => by rw [h]; exact ⟨rfl, rfl⟩⟩
/-- a transaction in two cells -/
structure TxAt (w : World) (Q : Nat → Prop) (b o : Nat) (x : Tx) (Ai : Option Addr) (ci : Nat) : Prop where
  c0 : w.cell? ⟨b, o, none⟩ = some (.slice Ai x.pages.length ci)
  c1 : w.cell? ⟨b, o + 1, none⟩ = some (.int .u64 (x.gen.toNat : Int))
  pgs : Pgs w Q Ai x.pages
  cap : x.pages.length ≤ ci
  max : ci ≤ maxLen
def Txs (w : World) (Q : Nat → Prop) (A : Option Addr) (l : List Tx) : Prop :=
  l ≠ [] → ∃ b off, A = some ⟨b, off, none⟩ ∧ b < w.heap.size ∧ Q b ∧ ∀ i (h : i < l.length), ∃ Ai ci, TxAt w Q b (off + i * 2) l[i] Ai ci
theorem Txs.nil (w : World) (Q : Nat → Prop) (A : Option Addr) : Txs w Q A [] := fun h => absurd rfl h
theorem Txs.get {w : World} {Q : Nat → Prop} {A : Option Addr} {l : List Tx} (h : Txs w Q A l) {i : Nat} (hi : i < l.length) :
    ∃ b off Ai ci, A = some ⟨b, off, none⟩ ∧ b < w.heap.size ∧ TxAt w Q b (off + i * 2) l[i] Ai ci := by
  obtain ⟨b, off, rfl, hb, _, hc⟩ := h (by intro e; rw [e] at hi; exact absurd hi (by simp))
  obtain ⟨Ai, ci, h1⟩ := hc i hi
  exact ⟨b, off, Ai, ci, rfl, hb, h1⟩
theorem TxAt.keep {w w' : World} {Q : Nat → Prop} {b o : Nat} {x : Tx} {Ai : Option Addr} {ci : Nat} {fp : List Nat} (h : TxAt w Q b o x Ai ci) (k : Keep fp w w') (hf : ∀ j, Q j → j < w.heap.size → j ∉ fp) (hb : b < w.heap.size) (hq : Q b) : TxAt w' Q b o x Ai ci :=
  ⟨(World.cell?_of_block (k.block hb (hf b hq hb))).trans h.c0, (World.cell?_of_block (k.block hb (hf b hq hb))).trans h.c1, h.pgs.keep k hf, h.cap, h.max⟩
theorem Txs.keep {w w' : World} {Q : Nat → Prop} {A : Option Addr} {l : List Tx} {fp : List Nat} (h : Txs w Q A l) (k : Keep fp w w') (hf : ∀ j, Q j → j < w.heap.size → j ∉ fp) : Txs w' Q A l := fun hne => by
  obtain ⟨b, off, rfl, hb, hq, hc⟩ := h hne
  refine ⟨b, off, rfl, Nat.lt_of_lt_of_le hb k.size, hq, fun i hi => ?_⟩
  obtain ⟨Ai, ci, h1⟩ := hc i hi
  exact ⟨Ai, ci, h1.keep k hf hb hq⟩
theorem Txs.on {w w' : World} {Q : Nat → Prop} {A : Option Addr} {l : List Tx} (h : Txs w Q A l) (b : Below w.heap.size w w') : Txs w' Q A l := h.keep (Keep.of_below b []) (fun j _ _ => by simp)
theorem Txs.imp {w : World} {Q Q' : Nat → Prop} {A : Option Addr} {l : List Tx} (h : Txs w Q A l) (hq : ∀ j, j < w.heap.size → Q j → Q' j) : Txs w Q' A l := fun hne => by
  obtain ⟨b, off, rfl, hb, h1, hc⟩ := h hne
  refine ⟨b, off, rfl, hb, hq b hb h1, fun i hi => ?_⟩
  obtain ⟨Ai, ci, h⟩ := hc i hi
  exact ⟨Ai, ci, h.c0, h.c1, h.pgs.imp hq, h.cap, h.max⟩
theorem flat2 {α : Type} {f : α → List Value} (hf : ∀ x, (f x).length = 2) : ∀ (l : List α) (i : Nat) (h : i < l.length) (k : Nat), k < 2 → (l.flatMap f)[i * 2 + k]? = (f l[i])[k]?
  | [], i, h, _, _ => by cases h
  | x :: l, 0, _, k, hk => by rw [List.flatMap_cons, List.getElem?_append_left (by rw [hf]; omega)]; simp
  | x :: l, i + 1, h, k, hk => by
    rw [List.flatMap_cons, List.getElem?_append_right (by rw [hf]; omega), hf, show (i + 1) * 2 + k - 2 = i * 2 + k by omega]
    simpa using flat2 hf l i (by simpa using h) k hk
theorem own_cell2 {w : World} {base n c g : Nat} {e : TypeId} {α : Type} {f : α → List Value} (hf : ∀ x, (f x).length = 2) {l : List α} (h : w.ownsRow base e 2 (.slice (some ⟨g, 0, none⟩) n c) n (l.flatMap f)) (i : Nat) (hi : i < l.length) (k : Nat) (hk : k < 2) : w.cell? ⟨g, i * 2 + k, none⟩ = (f l[i])[k]? := by
  have hl := h.1
  have h2 : (l.flatMap f).length = l.length * 2 := by
    clear h hl hi
    induction l with
    | nil => rfl
    | cons x l ih => rw [List.flatMap_cons, List.length_append, hf, ih, List.length_cons]; omega
  have := World.ownsRow.cellAt (j := i * 2 + k) h (by omega)
  rw [this]
  exact flat2 hf l i hi k hk
theorem PrOk.rdQ {w : World} {base : Nat} {p : Pr} (h : PrOk w base p) : RdQ w (fun j => base ≤ j) p.A (p.body.map e8) := fun hne => by
  obtain ⟨g, off, cs, e, hg, hh, hc⟩ := h.rd (fun e => hne (by rw [e]; rfl))
  refine ⟨g, off, e, lt_of_block hh, hg, fun i hi => ?_⟩
  rw [cell_of_row _ _ _ _ _ _ hh, hc i (by simpa using hi)]
  simp
theorem TrOk.pgs {w : World} {base : Nat} {now : Option Nat} {t : Tr} (h : TrOk w base now t) : Pgs w (fun j => base ≤ j) t.A (t.ps.map Pr.pg) := fun hne => by
  have hp : 0 < t.ps.length := by
    rcases Nat.eq_zero_or_pos t.ps.length with e | e
    · exact absurd (by rw [List.eq_nil_of_length_eq_zero e]; rfl) hne
    · exact e
  obtain ⟨g, c, e, hg⟩ := own_some h.row (by omega)
  unfold Tr.sl at e
  injection e with e1 e2 e3
  have hr := h.row
  unfold Tr.sl at hr
  rw [e1] at hr
  obtain ⟨cs, hcs⟩ := Disk.own_blk hr
  refine ⟨g, 0, e1, lt_of_block hcs, by omega, fun i hi => ?_⟩
  have hi' : i < t.ps.length := by simpa using hi
  have hk := h.pages _ (List.getElem_mem hi')
  have c0 := own_cell2 (f := Pr.cells) (fun _ => rfl) hr i hi' 0 (by omega)
  have c1 := own_cell2 (f := Pr.cells) (fun _ => rfl) hr i hi' 1 (by omega)
  refine ⟨t.ps[i].A, t.ps[i].c, ?_⟩
  rw [Nat.zero_add, List.getElem_map]
  exact ⟨by simpa [Pr.cells, Pr.pg] using c0, by simpa [Pr.cells, Pr.pg] using c1, hk.rdQ, hk.cap, hk.max, by have := hk.lo; show _ ≤ t.ps[i].n; omega, by have := hk.hi; show t.ps[i].n ≤ _; omega⟩
theorem OwnTx.txs {w : World} {base : Nat} {v : Value} {l : List Tx} (h : OwnTx w base v l) : ∃ A c, v = .slice A l.length c ∧ Txs w (fun j => base ≤ j) A l ∧ l.length ≤ c ∧ c ≤ maxLen := by
  obtain ⟨trs, hr, rfl, hok, _⟩ := h
  obtain ⟨A, c, rfl⟩ := own_form hr
  have hcp := Disk.own_caps hr
  refine ⟨A, c, by simp, fun hne => ?_, by simpa using hcp.1, hcp.2⟩
  have hp : 0 < trs.length := by
    rcases Nat.eq_zero_or_pos trs.length with e | e
    · exact absurd (by rw [List.eq_nil_of_length_eq_zero e]; rfl) hne
    · exact e
  obtain ⟨g, c', e, hg⟩ := own_some hr (by omega)
  injection e with e1 e2 e3
  subst e1
  obtain ⟨cs, hcs⟩ := Disk.own_blk hr
  refine ⟨g, 0, rfl, lt_of_block hcs, by omega, fun i hi => ?_⟩
  have hi' : i < trs.length := by simpa using hi
  have hk := hok _ (List.getElem_mem hi')
  have c0 := own_cell2 (f := Tr.cells) (fun _ => rfl) hr i hi' 0 (by omega)
  have c1 := own_cell2 (f := Tr.cells) (fun _ => rfl) hr i hi' 1 (by omega)
  have hc2 := Disk.own_caps hk.row
  refine ⟨trs[i].A, trs[i].c, ?_⟩
  rw [Nat.zero_add, List.getElem_map]
  exact ⟨by simpa [Tr.cells, Tr.sl, Tr.tx] using c0, by simpa [Tr.cells, Tr.tx] using c1, hk.pgs, by simpa [Tr.tx] using hc2.1, hc2.2⟩
end Go.Proofs.YtchcmklelmlbgaaGreat.Wal

/- Rows of transactions ([]Txn of the document): how they come in as an argument. No statement is proved here. -/
namespace Go.Proofs.YtchcmklelmlbgaaGreat
open Go.RowKit
open Go.ChangeShapes Go.WideShapes Go.ChangeAt Go.Joins Go.Deep
set_option linter.unusedVariables false
set_option maxRecDepth 100000
theorem pages_of1 {v : Value} {H : Type} {enc : TypeId × Value → H} {w : World} {held : Bool} {fuel : Nat} {x : DataW H × List MemPlace}
    (h : DataW.trod enc Tryz.prog w 0 (fun _ => true) held fuel 38 [v] = some x) :
    ∃ (A : Option Addr) (l : List Pg) (c : Nat), v = .slice A l.length c ∧ Pgs w (fun j => j < w.heap.size) A l ∧ l.length ≤ c ∧ c ≤ maxLen := by
  rcases open_slice_fields Tryz.underlying38 Tryz.underlying53 (by kernel_rfl) (by kernel_rfl) h with hcs | ⟨a, l', c', m, hcs, _, hl, hm, hmm, hi⟩
  · simp only [List.cons.injEq, and_true] at hcs
    subst hcs
    exact ⟨none, [], 0, rfl, Pgs.nil _ _ _, by simp, by unfold maxLen; omega⟩
  · simp only [List.cons.injEq, and_true] at hcs
    subst hcs
    simp only [if_true] at hmm
    subst hmm
    have key : ∀ i, i < l' → ∃ f : Pg, ∃ b off, a = ⟨b, off, none⟩ ∧ b < w.heap.size ∧ ∃ Ai ci, PgAt w (fun j => j < w.heap.size) b (off + i * 2) f Ai ci := by
      intro i hil
      obtain ⟨ys, n, hf⟩ := hi i (by omega)
      obtain ⟨v0, y0, c0, _, t0⟩ := hf 0 _ rfl
      obtain ⟨v1, y1, c1, _, t1⟩ := hf 1 _ rfl
      obtain ⟨k, e0, _, wk⟩ := DataW.trod_int Tryz.underlying3 t0
      obtain ⟨A4, l4, c4', e4, r4, q4, m4⟩ := bytes_of1 Tryz.underlying51 Tryz.underlying5 (by kernel_rfl) t1
      simp only [List.cons.injEq, and_true] at e0
      subst e0 e4
      obtain ⟨b, off, spot⟩ := a
      have hspot : spot = none := by
        obtain ⟨_, _, hf0⟩ := hi 0 (by omega)
        obtain ⟨_, _, c00, _, _⟩ := hf0 0 _ rfl
        exact World.cell?_spot c00
      subst hspot
      rw [Addr.add_lit] at c0 c1
      have hb : b < w.heap.size := by
        rcases Nat.lt_or_ge b w.heap.size with h | h
        · exact h
        · simp [World.cell?, Array.getElem?_eq_none h] at c0
      exact ⟨⟨k, l4⟩, b, off, rfl, hb, A4, c4', c0, c1, r4.q (Nat.le_refl _), q4, m4, (wfi wk).1, (wfi wk).2⟩
    obtain ⟨l, hll, hp⟩ := choose_list key
    subst hll
    refine ⟨some a, l, m, rfl, fun hne => ?_, hl, hm⟩
    have hpos : 0 < l.length := by cases l; exact absurd rfl hne; simp
    obtain ⟨b, off, rfl, hb, _⟩ := hp 0 hpos
    refine ⟨b, off, rfl, hb, hb, fun i hi => ?_⟩
    obtain ⟨b', off', e, _, h2⟩ := hp i hi
    injection e with e1 e2 _
    subst e1 e2
    exact h2
end Go.Proofs.YtchcmklelmlbgaaGreat

/- Rows of what a law of the store does ([]Act: a kind and a transaction): how they come in as an argument. No statement is proved here. -/
namespace Go.Proofs.YtchcmklelmlbgaaGreat
open Go.RowKit
open Go.ChangeShapes Go.WideShapes Go.ChangeAt Go.Joins Go.Deep
set_option linter.unusedVariables false
set_option maxRecDepth 100000
structure Ac where
  kind : Int
  tx : Wal.Tx
structure AcAt (w : World) (Q : Nat → Prop) (b o : Nat) (x : Ac) (Ai : Option Addr) (ci : Nat) : Prop where
  c : w.cell? ⟨b, o, none⟩ = some (.int .i64 x.kind)
  t : Wal.TxAt w Q b (o + 1) x.tx Ai ci
  lo : -9223372036854775808 ≤ x.kind
  hi : x.kind ≤ 9223372036854775807
def Acs (w : World) (Q : Nat → Prop) (A : Option Addr) (l : List Ac) : Prop :=
  l ≠ [] → ∃ b off, A = some ⟨b, off, none⟩ ∧ b < w.heap.size ∧ Q b ∧ ∀ i (h : i < l.length), ∃ Ai ci, AcAt w Q b (off + i * 3) l[i] Ai ci
theorem Acs.get {w : World} {Q : Nat → Prop} {A : Option Addr} {l : List Ac} (h : Acs w Q A l) {i : Nat} (hi : i < l.length) :
    ∃ b off Ai ci, A = some ⟨b, off, none⟩ ∧ b < w.heap.size ∧ Q b ∧ AcAt w Q b (off + i * 3) l[i] Ai ci := by
  obtain ⟨b, off, rfl, hb, hQ, hc⟩ := h (by intro e; rw [e] at hi; exact absurd hi (by simp))
  obtain ⟨Ai, ci, h1⟩ := hc i hi
  exact ⟨b, off, Ai, ci, rfl, hb, hQ, h1⟩
theorem Acs.keep {w w' : World} {Q : Nat → Prop} {A : Option Addr} {l : List Ac} {fp : List Nat} (h : Acs w Q A l) (k : Keep fp w w') (hf : ∀ j, Q j → j < w.heap.size → j ∉ fp) : Acs w' Q A l := fun hne => by
  obtain ⟨b, off, rfl, hb, hq, hc⟩ := h hne
  refine ⟨b, off, rfl, Nat.lt_of_lt_of_le hb k.size, hq, fun i hi => ?_⟩
  obtain ⟨Ai, ci, h1⟩ := hc i hi
  exact ⟨Ai, ci, (World.cell?_of_block (k.block hb (hf b hq hb))).trans h1.c, h1.t.keep k hf hb hq, h1.lo, h1.hi⟩
theorem Acs.on {w w' : World} {Q : Nat → Prop} {A : Option Addr} {l : List Ac} (h : Acs w Q A l) (b : Below w.heap.size w w') : Acs w' Q A l := h.keep (Keep.of_below b []) (fun j _ _ => by simp)
theorem sacts_of {A : Option Addr} {len cap : Nat} {H : Type} {enc : TypeId × Value → H} {w : World} {held : Bool} {fuel : Nat} {x : DataW H × List MemPlace}
    (h : DataW.trod enc Tryz.prog w 0 (fun _ => true) held fuel 24 (Value.slice A len cap).cells.toList = some x) :
    ∃ l : List Ac, l.length = len ∧ Acs w (fun j => j < w.heap.size) A l ∧ len ≤ cap ∧ cap ≤ maxLen := by
  rcases open_slice Tryz.underlying24 h with h0 | ⟨a, l', c', m, n, D, Pl, hcs, hb, hl, hm, hmm, hx, hi⟩
  · have hcs := h0.1
    simp [Value.cells] at hcs
    obtain ⟨rfl, rfl, rfl⟩ := hcs
    exact ⟨[], rfl, fun h => absurd rfl h, by omega, by unfold maxLen; omega⟩
  · simp [Value.cells] at hcs
    obtain ⟨rfl, rfl, rfl⟩ := hcs
    simp only [if_true] at hmm
    subst hmm
    have key : ∀ i, i < len → ∃ f : Ac, ∃ b off, a = ⟨b, off, none⟩ ∧ b < w.heap.size ∧ ∃ Ai ci, AcAt w (fun j => j < w.heap.size) b (off + i * 3) f Ai ci := by
      intro i hil
      obtain ⟨cs', hc, ht'⟩ := hi i (by omega)
      obtain ⟨_, hcl, hat⟩ := World.cells?_some hc
      obtain ⟨y0, y1, n1, _, hl1, t0, t1⟩ := trod_struct2 Tryz.underlying43 ht'
      have k3 : Tryz.prog.cellsOf 43 = 3 := by kernel_rfl
      have k2 : Tryz.prog.cellsOf 41 = 2 := by kernel_rfl
      have ki : Tryz.prog.cellsOf 3 = 1 := by kernel_rfl
      have ku : Tryz.prog.cellsOf 39 = 1 := by kernel_rfl
      have kp : Tryz.prog.cellsOf 38 = 1 := by kernel_rfl
      rw [k3] at hcl hat
      obtain ⟨v0, v1, v2, rfl⟩ : ∃ v0 v1 v2, cs' = [v0, v1, v2] := by
        match cs', hcl with
        | [a, b, c], _ => exact ⟨a, b, c, rfl⟩
      dsimp only at t0 t1
      rw [ki] at t0
      rw [k2] at t1
      change DataW.trod enc Tryz.prog w 0 (fun _ => true) held n1 3 [v0] = some y0 at t0
      change DataW.trod enc Tryz.prog w 0 (fun _ => true) held n1 41 [v1, v2] = some y1 at t1
      obtain ⟨z0, z1, n2, _, hl2, s0, s1⟩ := trod_struct2 Tryz.underlying41 t1
      dsimp only at s0 s1
      rw [kp] at s0
      rw [ku] at s1
      change DataW.trod enc Tryz.prog w 0 (fun _ => true) held n2 38 [v1] = some z0 at s0
      change DataW.trod enc Tryz.prog w 0 (fun _ => true) held n2 39 [v2] = some z1 at s1
      obtain ⟨kd, e0, _, wk⟩ := DataW.trod_int Tryz.underlying3 t0
      obtain ⟨A4, l4, c4', e4, r4, q4, m4⟩ := pages_of1 s0
      obtain ⟨u1, e1, _, w1⟩ := DataW.trod_int Tryz.underlying39 s1
      simp only [List.cons.injEq, and_true] at e0 e1
      subst e0 e1 e4
      obtain ⟨u1', rfl⟩ := wf64 w1
      have c0 := hat 0 (by omega)
      have c1 := hat 1 (by omega)
      have c2 := hat 2 (by omega)
      rw [Go.Deep.add_add] at c0 c1 c2
      simp only [List.getElem?_cons_zero, List.getElem?_cons_succ] at c0 c1 c2
      obtain ⟨b, off, spot⟩ := a
      have hspot : spot = none := by
        obtain ⟨cs0, g0, _⟩ := hi 0 (by omega)
        obtain ⟨_, g1, g2⟩ := World.cells?_some g0
        have g3 := g2 0 (by rw [k3]; omega)
        rw [k3] at g1
        rw [List.getElem?_eq_getElem (by omega)] at g3
        exact World.cell?_spot g3
      subst hspot
      rw [Addr.add_lit] at c0 c1 c2
      have hb : b < w.heap.size := by
        rcases Nat.lt_or_ge b w.heap.size with h | h
        · exact h
        · simp [World.cell?, Array.getElem?_eq_none h] at c0
      exact ⟨⟨kd, ⟨l4, u1'⟩⟩, b, off, rfl, hb, A4, c4', c0, ⟨c1, c2, r4, q4, m4⟩, (wfi wk).1, (wfi wk).2⟩
    obtain ⟨l, hll, hp⟩ := choose_list key
    refine ⟨l, hll, fun hne => ?_, hl, hm⟩
    have hpos : 0 < l.length := by cases l; exact absurd rfl hne; simp
    obtain ⟨b, off, rfl, hb, _⟩ := hp 0 hpos
    refine ⟨b, off, rfl, hb, hb, fun i hi => ?_⟩
    obtain ⟨b', off', e, _, h2⟩ := hp i hi
    injection e with e1 e2 _
    subst e1 e2
    exact h2
end Go.Proofs.YtchcmklelmlbgaaGreat

/- The log, in plain Lean: what stands behind what was appended, and that it is read back. No statement is proved here. -/
namespace Go.Proofs.YtchcmklelmlbgaaGreat.Wal
open Go.RowKit
open Go.Proofs.YtchcmklelmlbgaaGreat.Geom
open Go.Proofs.YtchcmklelmlbgaaGreat.Num (putL putL_len getN getN_putL)
open Go.Proofs.YtchcmklelmlbgaaGreat.Disk (St Wr write flush read kept new zero512)
open Go.Proofs.YtchcmklelmlbgaaGreat.Sec (X X0 text rightF)
open Go.Proofs.YtchcmklelmlbgaaGreat.Sup (UpN Gb)
open Go.Proofs.YtchcmklelmlbgaaGreat.Enc (Itm Enf enf enf_of More kept_of rd rd_good rd_zero)
set_option linter.unusedVariables false
/-- one behind the other -/
def takes (np : Int) : List (Nat × X) → Rg → Rg × Bool
  | [], r => (r, true)
  | t :: l, r => if (takeF np r t.1 t.2).2 = true then takes np l (takeF np r t.1 t.2).1 else ((takeF np r t.1 t.2).1, false)
theorem takes_append (np : Int) : ∀ (a b : List (Nat × X)) (r r' : Rg), takes np a r = (r', true) → takes np (a ++ b) r = takes np b r'
  | [], b, r, r', h => by injection h with h _; subst h; rfl
  | t :: a, b, r, r', h => by
    unfold takes at h
    rw [List.cons_append]
    show (if _ then _ else _) = _
    split at h
    · rename_i ht
      rw [if_pos ht]
      exact takes_append np a b _ _ h
    · cases h
theorem takes_fold (np : Int) : ∀ (l : List (Nat × X)) (r' : Rg) (pre : List (Nat × X)), okR np pre → takes np l (foldR np pre) = (r', true) → okR np (pre ++ l) ∧ foldR np (pre ++ l) = r'
  | [], r', pre, ho, h => by injection h with h _; rw [List.append_nil]; exact ⟨ho, h⟩
  | t :: l, r', pre, ho, h => by
    unfold takes at h
    split at h
    · rename_i ht
      have := takes_fold np l r' (pre ++ [t]) (okR_snoc ho ht) (by rw [foldR_snoc]; exact h)
      simpa using this
    · cases h
/-- the sectors of a transaction -/
def dSecs (life : UInt64) (q : Nat) (gen : UInt64) : Nat → List Pg → List X
  | _, [] => []
  | i, x :: r => dX 4 life q i gen x.n.toNat x.body :: dSecs life q gen (i + 1) r
def tSecs (life : UInt64) (q : Nat) (t : Tx) : List X := dSecs life q t.gen 0 t.pages ++ [dX 5 life q t.pages.length t.gen t.pages.length []]
theorem dSecs_len (life : UInt64) (q : Nat) (gen : UInt64) : ∀ (l : List Pg) (i : Nat), (dSecs life q gen i l).length = l.length
  | [], i => rfl
  | x :: r, i => by simp [dSecs, dSecs_len life q gen r (i + 1)]
theorem tSecs_len (life : UInt64) (q : Nat) (t : Tx) : (tSecs life q t).length = t.pages.length + 1 := by simp [tSecs, dSecs_len]
theorem dSecs_get (life : UInt64) (q : Nat) (gen : UInt64) : ∀ (l : List Pg) (i k : Nat) (h : k < (dSecs life q gen i l).length) (h' : k < l.length), (dSecs life q gen i l)[k] = dX 4 life q (i + k) gen l[k].n.toNat l[k].body
  | [], i, k, h, h' => absurd h' (by simp)
  | x :: r, i, 0, h, h' => rfl
  | x :: r, i, k + 1, h, h' => by
    have := dSecs_get life q gen r (i + 1) k (by rw [dSecs_len]; simpa using h') (by simpa using h')
    rw [show i + (k + 1) = i + 1 + k by omega]
    exact this
theorem tSecs_at (life : UInt64) (q : Nat) (t : Tx) (k : Nat) (h : k < (tSecs life q t).length) : (tSecs life q t)[k].life = life ∧ (tSecs life q t)[k].seq = ((q + k : Nat) : Int) := by
  have hk := tSecs_len life q t
  have h0 : k < (dSecs life q t.gen 0 t.pages ++ [dX 5 life q t.pages.length t.gen t.pages.length []]).length := h
  show ((dSecs life q t.gen 0 t.pages ++ [dX 5 life q t.pages.length t.gen t.pages.length []])[k]'h0).life = life ∧ ((dSecs life q t.gen 0 t.pages ++ [dX 5 life q t.pages.length t.gen t.pages.length []])[k]'h0).seq = ((q + k : Nat) : Int)
  by_cases h1 : k < t.pages.length
  · rw [List.getElem_append_left (by rw [dSecs_len]; exact h1), dSecs_get _ _ _ _ _ _ _ h1, Nat.zero_add]
    exact ⟨rfl, rfl⟩
  · obtain rfl : k = t.pages.length := by omega
    rw [List.getElem_append_right (Nat.le_of_eq (dSecs_len _ _ _ _ _))]
    simp only [dSecs_len, Nat.sub_self, List.getElem_cons_zero]
    exact ⟨rfl, rfl⟩
/-- numbered from a number on -/
def num (q : Nat) : List X → List (Nat × X)
  | [] => []
  | x :: r => (q, x) :: num (q + 1) r
theorem num_append (q : Nat) : ∀ (a b : List X), num q (a ++ b) = num q a ++ num (q + a.length) b
  | [], b => by simp [num]
  | x :: a, b => by simp only [List.cons_append, num, List.length_cons]; rw [num_append (q + 1) a b, show q + 1 + a.length = q + (a.length + 1) by omega]
theorem num_range (l : List X) : (List.range l.length).map (fun j => (j, l.getD j X0)) = num 0 l := by
  have h : ∀ (l : List X) (q : Nat) (f : Nat → X), (∀ j (h : j < l.length), f (q + j) = l[j]) → (List.range' q l.length).map (fun j => (j, f j)) = num q l := by
    intro l
    induction l with
    | nil => intro q f hf; rfl
    | cons x l ih =>
      intro q f hf
      rw [List.length_cons, List.range'_succ, List.map_cons, num]
      congr 1
      · rw [show f q = x by have := hf 0 (by simp); rw [Nat.add_zero] at this; exact this]
      · exact ih (q + 1) f (fun j hj => by have := hf (j + 1) (by simpa using hj); rw [show q + 1 + j = q + (j + 1) by omega]; simpa using this)
  rw [List.range_eq_range']
  exact h l 0 _ (fun j hj => by simp [List.getD, hj])
theorem take_dX4 {np : Int} {life : UInt64} {q i n : Nat} {gen : UInt64} {b : List UInt8} (r : Rg) (hq : q < 4294967296) (hn : n < 65536) (hnp : (n : Int) < np) (hf : r.frm = q) (hg : r.now ≠ [] → r.gen = gen) (j : Nat) :
    takeF np r j (dX 4 life q i gen n b) = ({ r with gen := gen, now := r.now ++ [⟨(n : Int), b⟩] }, true) := by
  have e0 : (dX 4 life q i gen n b).body = putL q 4 ++ putL n 2 ++ b := rfl
  have h4 := putL_len q 4
  have h2 := putL_len n 2
  have hl : ¬ (dX 4 life q i gen n b).body.length < 6 := by rw [e0]; simp only [List.length_append]; omega
  have ef : fstN (dX 4 life q i gen n b).body = q := by
    unfold fstN
    rw [e0, List.append_assoc, List.take_append_of_le_length (by omega), List.take_of_length_le (by omega), getN_putL]
    exact Nat.mod_eq_of_lt (by rw [show 256 ^ 4 = 4294967296 from rfl]; exact hq)
  have es : sndN (dX 4 life q i gen n b).body = n := by
    unfold sndN
    rw [e0, List.append_assoc, List.drop_append_of_le_length (by omega), List.drop_of_length_le (by omega), List.nil_append, List.take_append_of_le_length (by omega), List.take_of_length_le (by omega), getN_putL]
    exact Nat.mod_eq_of_lt (by rw [show 256 ^ 2 = 65536 from rfl]; exact hn)
  have ed : (dX 4 life q i gen n b).body.drop 6 = b := by
    rw [e0, List.drop_append, List.drop_of_length_le (by rw [List.length_append]; omega), List.nil_append, List.length_append, h4, h2]; rfl
  unfold takeF
  rw [if_neg (fun h => h.elim hl (fun h => h.2 (hg h.1).symm)), ef, es, ed, if_neg (fun h => h hf.symm), if_pos ⟨rfl, hnp⟩]
  rfl
theorem take_dX5 {np : Int} {life : UInt64} {q n : Nat} {gen : UInt64} (r : Rg) (hq : q < 4294967296) (hn : n < 65536) (hf : r.frm = q) (hg : r.now ≠ [] → r.gen = gen) (hln : r.now.length = n) (j : Nat) :
    takeF np r j (dX 5 life q n gen n []) = (⟨r.all ++ [⟨r.now, gen⟩], [], 0, j + 1⟩, true) := by
  have e0 : (dX 5 life q n gen n []).body = putL q 4 ++ putL n 2 := by show putL q 4 ++ putL n 2 ++ [] = _; rw [List.append_nil]
  have h4 := putL_len q 4
  have h2 := putL_len n 2
  have h6 : (dX 5 life q n gen n []).body.length = 6 := by rw [e0, List.length_append]; omega
  have ef : fstN (dX 5 life q n gen n []).body = q := by
    unfold fstN
    rw [e0, List.take_append_of_le_length (by omega), List.take_of_length_le (by omega), getN_putL]
    exact Nat.mod_eq_of_lt (by rw [show 256 ^ 4 = 4294967296 from rfl]; exact hq)
  have es : sndN (dX 5 life q n gen n []).body = n := by
    unfold sndN
    rw [e0, List.drop_append_of_le_length (by omega), List.drop_of_length_le (by omega), List.nil_append, List.take_of_length_le (by omega), getN_putL]
    exact Nat.mod_eq_of_lt (by rw [show 256 ^ 2 = 65536 from rfl]; exact hn)
  unfold takeF
  rw [if_neg (fun h => h.elim (by omega) (fun h => h.2 (hg h.1).symm)), ef, es, if_neg (fun h => h hf.symm), if_neg (fun h => absurd h.1 (show ¬ (5 : Int) = 4 by decide)), if_pos ⟨rfl, hln.symm, h6⟩]
  rfl
theorem takes_data {np : Int} {life : UInt64} {q : Nat} {gen : UInt64} (hq : q < 4294967296) (hnp : np ≤ 65536) : ∀ (l : List Pg) (i : Nat) (r : Rg), (∀ x ∈ l, 0 ≤ x.n ∧ x.n < np) → r.frm = q → (r.now ≠ [] → r.gen = gen) →
    ∃ g, takes np (num (q + i) (dSecs life q gen i l)) r = (⟨r.all, r.now ++ l, g, q⟩, true) ∧ (r.now ++ l ≠ [] → g = gen)
  | [], i, r, _, hf, hg => ⟨r.gen, by subst hf; simp [dSecs, num, takes], by simpa using hg⟩
  | x :: l, i, r, hx, hf, hg => by
    obtain ⟨h0, h1⟩ := hx x (by simp)
    have ht := take_dX4 (np := np) (life := life) (i := i) (b := x.body) (n := x.n.toNat) r hq (by omega) (by omega) hf hg (q + i)
    obtain ⟨g, e1, e2⟩ := takes_data hq hnp l (i + 1) { r with gen := gen, now := r.now ++ [⟨(x.n.toNat : Int), x.body⟩] } (fun y hy => hx y (by simp [hy])) hf (fun _ => rfl)
    have hxe : (⟨(x.n.toNat : Int), x.body⟩ : Pg) = x := by rw [Int.toNat_of_nonneg h0]
    refine ⟨g, ?_, fun _ => e2 (by simp)⟩
    rw [dSecs, num]
    show (if _ then _ else _) = _
    rw [ht, if_pos rfl, show q + i + 1 = q + (i + 1) by omega, e1, hxe]
    simp
/-- a transaction is read -/
theorem takes_tx {np : Int} {life : UInt64} {q : Nat} {t : Tx} (hq : q < 4294967296) (hnp : np ≤ 65536) (hl : t.pages.length < 65536) (hx : ∀ x ∈ t.pages, 0 ≤ x.n ∧ x.n < np) (A : List Tx) (g : UInt64) :
    takes np (num q (tSecs life q t)) ⟨A, [], g, q⟩ = (⟨A ++ [t], [], 0, q + (t.pages.length + 1)⟩, true) := by
  obtain ⟨g', e1, e2⟩ := takes_data (life := life) (gen := t.gen) hq hnp t.pages 0 ⟨A, [], g, q⟩ hx rfl (fun h => absurd rfl h)
  rw [Nat.add_zero] at e1
  unfold tSecs
  rw [num_append, takes_append np _ _ _ _ e1, dSecs_len]
  show (if _ then _ else _) = _
  have ht := take_dX5 (np := np) (life := life) (n := t.pages.length) (gen := t.gen) ⟨A, [] ++ t.pages, g', q⟩ hq hl rfl (fun h => e2 h) (by simp) (q + t.pages.length)
  rw [ht, if_pos rfl]
  rfl
/-- the sectors of transactions, one behind the other -/
def allSecs (life : UInt64) : Nat → List Tx → List X
  | _, [] => []
  | q, t :: r => tSecs life q t ++ allSecs life (q + (t.pages.length + 1)) r
theorem allSecs_snoc (life : UInt64) : ∀ (l : List Tx) (q : Nat) (t : Tx), allSecs life q (l ++ [t]) = allSecs life q l ++ tSecs life (q + (allSecs life q l).length) t
  | [], q, t => by simp [allSecs]
  | u :: l, q, t => by
    rw [List.cons_append, allSecs, allSecs_snoc life l _ t, allSecs, List.append_assoc, List.length_append, tSecs_len]
    congr 3
    omega
theorem allSecs_at (life : UInt64) : ∀ (l : List Tx) (q k : Nat) (h : k < (allSecs life q l).length), (allSecs life q l)[k].life = life ∧ (allSecs life q l)[k].seq = ((q + k : Nat) : Int)
  | [], q, k, h => absurd h (by simp [allSecs])
  | t :: l, q, k, h => by
    simp only [allSecs] at h ⊢
    by_cases h1 : k < (tSecs life q t).length
    · rw [List.getElem_append_left h1]; exact tSecs_at life q t k h1
    · rw [List.getElem_append_right (by omega)]
      have h2 := tSecs_len life q t
      rw [List.length_append] at h
      have := allSecs_at life l (q + (t.pages.length + 1)) (k - (tSecs life q t).length) (by omega)
      rw [show q + (t.pages.length + 1) + (k - (tSecs life q t).length) = q + k by omega] at this
      exact this
theorem takes_all {np : Int} {life : UInt64} (hnp : np ≤ 65536) : ∀ (l : List Tx) (q : Nat) (A : List Tx) (g : UInt64), q + (allSecs life q l).length < 65536 → (∀ t ∈ l, ∀ x ∈ t.pages, 0 ≤ x.n ∧ x.n < np) →
    ∃ g', takes np (num q (allSecs life q l)) ⟨A, [], g, q⟩ = (⟨A ++ l, [], g', q + (allSecs life q l).length⟩, true)
  | [], q, A, g, _, _ => ⟨g, by simp [allSecs, num, takes]⟩
  | t :: l, q, A, g, hq, hx => by
    simp only [allSecs, List.length_append, tSecs_len] at hq ⊢
    obtain ⟨g', e⟩ := takes_all (life := life) hnp l (q + (t.pages.length + 1)) (A ++ [t]) 0 (by omega) (fun u hu => hx u (by simp [hu]))
    refine ⟨g', ?_⟩
    rw [num_append, takes_append np _ _ _ _ (takes_tx (by omega) hnp (by omega) (hx t (by simp)) A g), tSecs_len, e, List.append_assoc]
    congr 2
    omega
/-- what is scanned where just these stand -/
theorem scan_all {np : Int} {life : UInt64} {rdf : Nat → X} {good : Nat → Bool} {N : Nat} {l : List Tx} (hnp : np ≤ 65536) (hN : (allSecs life 0 l).length ≤ N) (hN1 : N < 65536) (hx : ∀ t ∈ l, ∀ x ∈ t.pages, 0 ≤ x.n ∧ x.n < np)
    (hr : ∀ k (h : k < (allSecs life 0 l).length), rdf k = (allSecs life 0 l)[k] ∧ good k = true) (he : (allSecs life 0 l).length = N ∨ good (allSecs life 0 l).length = false) : (scanH np rdf good N 0 r00).all = l := by
  obtain ⟨g', e⟩ := takes_all (life := life) hnp l 0 [] 0 (by omega) hx
  obtain ⟨e1, e2⟩ := takes_fold np _ _ [] (okR_nil np) e
  rw [List.nil_append] at e1 e2
  have hm : (List.range (allSecs life 0 l).length).map (fun j => (j, rdf j)) = num 0 (allSecs life 0 l) := by
    rw [← num_range]
    apply List.map_congr_left
    intro j hj
    have hj' := List.mem_range.1 hj
    rw [(hr j hj').1]
    simp [List.getD, hj']
  rw [scanH_done hN (fun j hj => (hr j hj).2) (by rw [hm]; exact e1) he, hm, e2]
  simp
end Go.Proofs.YtchcmklelmlbgaaGreat.Wal

/- The log, in plain Lean: what the disk has behind what was appended. No statement is proved here. -/
namespace Go.Proofs.YtchcmklelmlbgaaGreat.Wal
open Go.RowKit
open Go.Proofs.YtchcmklelmlbgaaGreat.Geom
open Go.Proofs.YtchcmklelmlbgaaGreat.Disk (St Wr write flush read kept new zero512)
open Go.Proofs.YtchcmklelmlbgaaGreat.Sec (X X0 text rightF)
open Go.Proofs.YtchcmklelmlbgaaGreat.Sup (UpN Gb)
open Go.Proofs.YtchcmklelmlbgaaGreat.Enc (Itm Enf enf enf_of More kept_of rd rd_good rd_zero)
set_option linter.unusedVariables false
structure EnfUp (n : Nat) (is : List Itm) (l : List (List UInt8)) (s : St) (q : List (List UInt8) × St × Int) : Prop where
  res : q.2.2 = 0
  up : UpN q.2.1 n
  good : ∀ k (h : k < is.length), Sup.Good q.1 is[k].1 is[k].2 (kept q.2.1.all is[k].1.toNat)
  beside : ∀ p : Nat, (∀ i ∈ is, i.1.toNat ≠ p) → kept q.2.1.all p = kept s.all p
  more : More l q.1
theorem enf_up {n : Nat} {is : List Itm} {l : List (List UInt8)} {s : St} (hu : UpN s n) (hi : ∀ i ∈ is, rightF i.1 i.2 = 0 ∧ 0 ≤ i.1 ∧ i.1 < n) (hd : ∀ a b (ha : a < is.length) (hb : b < is.length), is[a].1 = is[b].1 → a = b) : EnfUp n is l s (enf is l s) := by
  obtain ⟨m, e⟩ := enf_of is l s hu.size hu.down hi
  rcases e.res with ⟨_, _, _, _, h⟩ | ⟨h1, h2, h3, h4, h5, h6⟩
  · exact absurd hu.fuse h
  · rw [hu.pend, List.nil_append] at h3
    have hat : ∀ k (h : k < m.length), ∃ h' : k < is.length, m[k].1 = is[k].1.toNat ∧ Sup.Good (enf is l s).1 is[k].1 is[k].2 m[k].2 := fun k h => ⟨by omega, e.at_ k h (by omega)⟩
    refine ⟨h1, ⟨e.size, h4, h2, h6 hu.fuse⟩, fun k h => ?_, fun p hp => ?_, e.more⟩
    · obtain ⟨_, g1, g2⟩ := hat k (by omega)
      rw [h3, ← g1, kept_of s.all m k (by omega) (fun a b ha hb hab => ?_)]
      · exact g2
      · obtain ⟨ha', ea, _⟩ := hat a ha
        obtain ⟨hb', eb, _⟩ := hat b hb
        rw [ea, eb] at hab
        have p1 := (hi _ (List.getElem_mem ha')).2.1
        have p2 := (hi _ (List.getElem_mem hb')).2.1
        exact hd a b ha' hb' (by omega)
    · rw [h3]
      refine Disk.kept_append s.all m p (fun w hw he => ?_)
      obtain ⟨k, hk, rfl⟩ := List.mem_iff_getElem.1 hw
      obtain ⟨hk', g1, _⟩ := hat k hk
      exact hp _ (List.getElem_mem hk') (g1.symm.trans he)
/-- the k-th place of a log -/
abbrev pl (ga gd gl base : Int) (k : Nat) : Int := logAt ga gd gl (base + (k : Int))
theorem pl_eq {ga gd gl base : Int} (hr : right ga gd gl = true) (hb : 0 ≤ base) (k : Nat) : pl ga gd gl base k = 4 + (base + (k : Int)) % gl := by
  unfold pl logAt; rw [if_pos ⟨hr, by omega⟩]
theorem pl_inj {ga gd gl base : Int} (hr : right ga gd gl = true) (hb : 0 ≤ base) {j k : Nat} (hj : (j : Int) < gl) (hk : (k : Int) < gl) (h : pl ga gd gl base j = pl ga gd gl base k) : j = k := by
  rw [pl_eq hr hb, pl_eq hr hb] at h
  have hy := right_yes hr
  have h1 : (base + (j : Int)) % gl = (base + (k : Int)) % gl := by omega
  have h2 := Int.emod_emod_of_dvd
  have h3 : ((j : Int) - k) % gl = 0 := by
    rw [show (j : Int) - k = (base + j) - (base + k) by omega, Int.sub_emod, h1]; simp
  have h4 := Int.emod_add_mul_ediv ((j : Int) - k) gl
  have hb1 : ((j : Int) - k) < gl := by omega
  have hb2 : -gl < ((j : Int) - k) := by omega
  rw [h3] at h4
  rcases Int.lt_trichotomy (((j : Int) - k) / gl) 0 with hq | hq | hq
  · have : gl * (((j : Int) - k) / gl) ≤ gl * (-1) := Int.mul_le_mul_of_nonneg_left (by omega) (by omega)
    omega
  · rw [hq] at h4; omega
  · have : gl * 1 ≤ gl * (((j : Int) - k) / gl) := Int.mul_le_mul_of_nonneg_left (by omega) (by omega)
    omega
/-- the items of sectors from the k-th place on -/
def items (ga gd gl base : Int) : Nat → List X → List Itm
  | _, [] => []
  | q, x :: r => (pl ga gd gl base q, x) :: items ga gd gl base (q + 1) r
theorem items_len (ga gd gl base : Int) : ∀ (l : List X) (q : Nat), (items ga gd gl base q l).length = l.length
  | [], q => rfl
  | x :: r, q => by simp [items, items_len ga gd gl base r (q + 1)]
theorem items_get (ga gd gl base : Int) : ∀ (l : List X) (q k : Nat) (h : k < (items ga gd gl base q l).length) (h' : k < l.length), (items ga gd gl base q l)[k] = (pl ga gd gl base (q + k), l[k])
  | [], q, k, h, h' => absurd h' (by simp)
  | x :: r, q, 0, h, h' => rfl
  | x :: r, q, k + 1, h, h' => by
    have := items_get ga gd gl base r (q + 1) k (by rw [items_len]; simpa using h') (by simpa using h')
    rw [show q + (k + 1) = q + 1 + k by omega]
    exact this
theorem items_data (ga gd gl base : Int) (life : UInt64) (q : Nat) (gen : UInt64) : ∀ (l : List Pg) (i : Nat), items ga gd gl base (q + i) (dSecs life q gen i l) = dItems ga gd gl base life q gen i l
  | [], i => rfl
  | x :: r, i => by rw [dSecs, items, dItems, ← items_data ga gd gl base life q gen r (i + 1)]; rfl
/-- the disk has these sectors in the log's places, and nothing behind them -/
structure LogIs (ga gd gl base : Int) (n : Nat) (l : List (List UInt8)) (s : St) (xs : List X) : Prop where
  up : UpN s n
  good : ∀ k (h : k < xs.length), Sup.Good l (pl ga gd gl base k) xs[k] (kept s.all (pl ga gd gl base k).toNat)
  zero : ∀ k : Nat, xs.length ≤ k → (k : Int) < gl → kept s.all (pl ga gd gl base k).toNat = zero512
theorem LogIs.new (ga gd gl base : Int) (n : Nat) : LogIs ga gd gl base n [] (new n) [] := ⟨Sup.up_new n, fun k h => absurd h (by simp), fun k _ _ => rfl⟩
theorem pl_bd {ga gd gl base : Int} {n : Nat} (hr : right ga gd gl = true) (hb : 0 ≤ base) (hn : (n : Int) = Geom.sizeOf ga gd gl) (k : Nat) : 0 ≤ pl ga gd gl base k ∧ pl ga gd gl base k < n ∧ pl ga gd gl base k ≤ 1023 := by
  have h1 := log_bd (i := base + (k : Int)) hr (by omega)
  have h2 := log_size hr
  exact ⟨h1.1, by show logAt _ _ _ _ < _; omega, h1.2.1⟩
/-- more of them are written and flushed -/
theorem LogIs.more {ga gd gl base : Int} {n : Nat} {l : List (List UInt8)} {s : St} {xs ys : List X} (h : LogIs ga gd gl base n l s xs) (hr : right ga gd gl = true) (hb : 0 ≤ base) (hn : (n : Int) = Geom.sizeOf ga gd gl) (hl : ((xs.length + ys.length : Nat) : Int) ≤ gl)
    (hy : ∀ k (hk : k < ys.length), rightF (pl ga gd gl base (xs.length + k)) ys[k] = 0) : (enf (items ga gd gl base xs.length ys) l s).2.2 = 0 ∧ LogIs ga gd gl base n (enf (items ga gd gl base xs.length ys) l s).1 (enf (items ga gd gl base xs.length ys) l s).2.1 (xs ++ ys) := by
  have hg := fun (k : Nat) (hk : k < ys.length) => items_get ga gd gl base ys xs.length k (by rw [items_len]; exact hk) hk
  have e := enf_up (l := l) (is := items ga gd gl base xs.length ys) h.up (fun i hi => by
    obtain ⟨k, hk, rfl⟩ := List.mem_iff_getElem.1 hi
    rw [items_len] at hk
    rw [hg k hk]
    have := pl_bd hr hb hn (xs.length + k)
    exact ⟨hy k hk, this.1, this.2.1⟩) (fun a b ha hb' hab => by
    rw [items_len] at ha hb'
    rw [hg a ha, hg b hb'] at hab
    have := pl_inj hr hb (j := xs.length + a) (k := xs.length + b) (by omega) (by omega) hab
    omega)
  have hbs : ∀ k : Nat, (k < xs.length ∨ xs.length + ys.length ≤ k) → (k : Int) < gl → kept (enf (items ga gd gl base xs.length ys) l s).2.1.all (pl ga gd gl base k).toNat = kept s.all (pl ga gd gl base k).toNat := fun k hk hkg => e.beside _ (fun i hi he => by
    obtain ⟨j, hj, rfl⟩ := List.mem_iff_getElem.1 hi
    rw [items_len] at hj
    rw [hg j hj] at he
    have p1 := pl_bd hr hb hn (xs.length + j)
    have p2 := pl_bd hr hb hn k
    have := pl_inj hr hb (j := xs.length + j) (k := k) (by omega) hkg (by simp only at he; omega)
    omega)
  refine ⟨e.res, e.up, fun k hk => ?_, fun k hk hkg => ?_⟩
  · rw [List.length_append] at hk
    by_cases h1 : k < xs.length
    · rw [List.getElem_append_left h1, hbs k (.inl h1) (by omega)]
      exact e.more _ _ _ (h.good k h1)
    · rw [List.getElem_append_right (by omega)]
      have h2 := e.good (k - xs.length) (by rw [items_len]; omega)
      rw [hg _ (by omega), show xs.length + (k - xs.length) = k by omega] at h2
      exact h2
  · rw [List.length_append] at hk
    rw [hbs k (.inr hk) hkg]
    exact h.zero k (by omega) hkg
/-- a transaction is appended -/
theorem LogIs.append {ga gd gl base : Int} {n : Nat} {l : List (List UInt8)} {s : St} {xs : List X} {t : Tx} {life : UInt64} (h : LogIs ga gd gl base n l s xs) (hr : right ga gd gl = true) (hb : 0 ≤ base) (hn : (n : Int) = Geom.sizeOf ga gd gl) (hl : (xs.length : Int) + t.pages.length < gl) (hbd : badB ga gd gl t.pages = false) :
    (putF ga gd gl base life xs.length t.gen t.pages l s).2.2 = 0 ∧ LogIs ga gd gl base n (putF ga gd gl base life xs.length t.gen t.pages l s).1 (putF ga gd gl base life xs.length t.gen t.pages l s).2.1 (xs ++ tSecs life xs.length t) := by
  have hy64 := right_yes hr
  have hd := items_data ga gd gl base life xs.length t.gen t.pages 0
  rw [Nat.add_zero] at hd
  obtain ⟨r1, h1⟩ := h.more (ys := dSecs life xs.length t.gen 0 t.pages) hr hb hn (by rw [dSecs_len]; omega) (fun k hk => by
    rw [dSecs_len] at hk
    rw [dSecs_get _ _ _ _ _ _ _ hk, Nat.zero_add]
    have hp := pl_bd hr hb hn (xs.length + k)
    exact dX_right hp.1 hp.2.2 (by decide) (by omega) (badB_of hbd hk).2.2)
  rw [hd] at r1 h1
  obtain ⟨r2, h2⟩ := h1.more (ys := [dX 5 life xs.length t.pages.length t.gen t.pages.length []]) hr hb hn (by simp only [List.length_append, dSecs_len, List.length_singleton]; omega) (fun k hk => by
    obtain rfl : k = 0 := by simp at hk; exact hk
    have hp := pl_bd hr hb hn ((xs ++ dSecs life xs.length t.gen 0 t.pages).length + 0)
    exact dX_right hp.1 hp.2.2 (by decide) (by omega) (by simp))
  rw [List.length_append, dSecs_len] at r2 h2
  unfold putF
  rw [if_pos r1]
  refine ⟨r2, ?_⟩
  have := h2
  rw [List.append_assoc] at this
  exact this
/-- the scan of such a disk -/
theorem LogIs.scan {ga gd gl base : Int} {n : Nat} {l : List (List UInt8)} {s : St} {life : UInt64} {ts : List Tx} (h : LogIs ga gd gl base n l s (allSecs life 0 ts)) (hr : right ga gd gl = true) (hb : 0 ≤ base) (hn : (n : Int) = Geom.sizeOf ga gd gl) (hl : ((allSecs life 0 ts).length : Int) ≤ gl) (hx : ∀ t ∈ ts, ∀ x ∈ t.pages, 0 ≤ x.n ∧ x.n < pagesOf ga gd gl) : scanTx l s ga gd gl base life = ts := by
  have hy := right_yes hr
  have hp := pagesOf_bd ga gd gl
  have hrd : ∀ k (hk : k < (allSecs life 0 ts).length), rdL l s ga gd gl base k = ((allSecs life 0 ts)[k], 0) := fun k hk => by
    have p := pl_bd hr hb hn k
    exact rd_good h.up p.1 p.2.1 (h.good k hk)
  unfold scanTx
  refine scan_all (life := life) (by omega) (by omega) (by omega) hx (fun k hk => ?_) ?_
  · have e := hrd k hk
    have a := allSecs_at life ts 0 k hk
    refine ⟨by rw [e], ?_⟩
    unfold goodL
    rw [e]
    simp only [a.1, a.2]
    simp
  · by_cases hN : (allSecs life 0 ts).length = gl.toNat
    · exact .inl hN
    · right
      have p := pl_bd hr hb hn (allSecs life 0 ts).length
      have e : rdL l s ga gd gl base (allSecs life 0 ts).length = (X0, 7) := rd_zero h.up p.1 p.2.1 (h.zero _ (Nat.le_refl _) (by omega))
      unfold goodL
      rw [e]
      simp
end Go.Proofs.YtchcmklelmlbgaaGreat.Wal

/- The pages of a life: snap.Bad, and what they come to. -/
namespace Go.Proofs.YtchcmklelmlbgaaGreat.Snap
open Go.RowKit Go.Shelf
open Go.Proofs.YtchcmklelmlbgaaGreat.Geom
open Go.Proofs.YtchcmklelmlbgaaGreat.Ch (SeqOk range_ok)
open Go.Proofs.YtchcmklelmlbgaaGreat.Sup (Gb gv gcell srightF gthree)
open Go.Proofs.YtchcmklelmlbgaaGreat.Disk (St DAt Did New8 Told8 read_any)
open Go.Proofs.YtchcmklelmlbgaaGreat.Sec (X SymAt text sumOf sumAfter ckS blankB rightF encode_sym decode_sym right_0 right_2 xv RetX X0 five5x)
attribute [local go_sem] Oper.semAt_some
set_option linter.unusedVariables false
set_option maxRecDepth 100000
theorem infoI : (Tryz.prog.info? 3).map (fun i => (i.zero, i.size, i.bytes)) = some (some (.int .i64 0), 1, 8) := by kernel_rfl
/-- the numbers of those that are not there -/
def bads (l : List It) : List Int := (l.filter (fun x => !x.is)).map (fun x => (x.k : Int))
def badL (l : List (List UInt8)) (s : St) (ga gd gl : Int) (life : UInt64) (N : Nat) : List Int := ((List.range N).filter (fun k => !isPg l s ga gd gl life k)).map (fun k : Nat => (k : Int))
/-- between two rounds of Bad -/
def BInv (w w4 : World) (pre : List It) (X : World) : Prop := ((∃ v, Boxed X (w.heap.size + 1) 66 v ∧ X.ownsRow w4.heap.size 3 1 v (bads pre).length ((bads pre).map (Value.int .i64)) ∧ True) ∧ Boxed X (w.heap.size + 1 + 1) 29 (.int .i64 0) ∧ KpK (w.heap.size + 1) w4.heap.size w4 X ∧ Below w.heap.size w X) ∧ True
theorem BInv.own {w w4 : World} (h1 : w.heap.size + 1 + 1 < w4.heap.size) : OwnFrom w4.heap.size (BInv w w4) := by
  intro pre X X' row hI hg hr
  refine ⟨⟨holdsRow_own w4.heap.size (w.heap.size + 1) 66 3 1 (fun pre : List It => (bads pre).length) (fun pre => (bads pre).map (Value.int .i64)) (fun _ _ => True) pre X X' row hI.1.1 hg (fun g e => (hr g e).2), ?_, kpK_grown hI.1.2.2.1 hg (fun r e => (hr r e).1) (Nat.le_refl _), hI.1.2.2.2.grown hg (by have := hI.1.2.2.2.size; omega) (fun r e => by have := (hr r e).1; omega)⟩, trivial⟩
  exact hI.1.2.1.kept hg (fun e => by have := (hr _ e.symm).1; omega)
end Go.Proofs.YtchcmklelmlbgaaGreat.Snap

/- The pages of a life, in plain Lean: what stands behind a write, and a power that goes. -/
namespace Go.Proofs.YtchcmklelmlbgaaGreat.Snap
open Go.RowKit
open Go.Proofs.YtchcmklelmlbgaaGreat.Geom
open Go.Proofs.YtchcmklelmlbgaaGreat.Disk (St Wr write flush read kept burn restart fates fate keptAt new zero512 arm)
open Go.Proofs.YtchcmklelmlbgaaGreat.Sec (X text text_len sumOf sumOf_len sumAfter ckS rightF X0 place_of)
open Go.Proofs.YtchcmklelmlbgaaGreat.Sup (UpN text_inj)
open Go.Proofs.YtchcmklelmlbgaaGreat.Enc (Itm Enf enf enf_of More kept_of rd rd_good rd_sound restart_up)
set_option linter.unusedVariables false
theorem pItems_get (ga gd gl : Int) (life : UInt64) : ∀ (bs : List (List UInt8)) (n k : Nat) (h : k < (pItems ga gd gl life n bs).length) (h' : k < bs.length), (pItems ga gd gl life n bs)[k] = (areaAt ga gd gl life.toNat ((n + k : Nat) : Int), px life (n + k) bs[k])
  | [], n, k, h, h' => absurd h' (by simp)
  | b :: r, n, 0, h, h' => rfl
  | b :: r, n, k + 1, h, h' => by
    have := pItems_get ga gd gl life r (n + 1) k (by rw [pItems_len]; simpa using h') (by simpa using h')
    rw [show n + (k + 1) = n + 1 + k by omega]
    exact this
/-- pages that may be -/
structure PagesOk (ga gd gl : Int) (n : Nat) (pages : List (List UInt8)) : Prop where
  size : (n : Int) = Geom.sizeOf ga gd gl
  len : (pages.length : Int) = pagesOf ga gd gl
  short : ∀ j (hj : j < pages.length), pages[j].length ≤ 479
theorem PagesOk.small {ga gd gl : Int} {n : Nat} {pages : List (List UInt8)} (h : PagesOk ga gd gl n pages) : pages.length ≤ 85 ∧ n ≤ 238 := by
  have := pagesOf_bd ga gd gl
  have := size_bd ga gd gl
  have := h.size
  have := h.len
  omega
theorem PagesOk.place {ga gd gl : Int} {n : Nat} {pages : List (List UInt8)} (h : PagesOk ga gd gl n pages) (life : UInt64) {k : Nat} (hk : k < pages.length) : 0 ≤ areaAt ga gd gl life.toNat k ∧ areaAt ga gd gl life.toNat k < n ∧ areaAt ga gd gl life.toNat k ≤ 1023 := by
  have := area_ok (ga := ga) (gd := gd) (gl := gl) (life := life) (k := k) (by have := h.len; omega)
  rw [h.size]; exact this
theorem area_eq {ga gd gl : Int} {m k : Nat} (h : (k : Int) < pagesOf ga gd gl) : areaAt ga gd gl m k = 4 + gl + (m : Int) % 2 * pagesOf ga gd gl + k := by unfold areaAt; rw [if_pos ⟨by omega, h⟩]
theorem area_inj {ga gd gl : Int} {m k j : Nat} (hk : (k : Int) < pagesOf ga gd gl) (hj : (j : Int) < pagesOf ga gd gl) (h : areaAt ga gd gl m k = areaAt ga gd gl m j) : k = j := by
  rw [area_eq hk, area_eq hj] at h; omega
theorem area_apart {ga gd gl : Int} {m m' k j : Nat} (hm : m % 2 ≠ m' % 2) (hk : (k : Int) < pagesOf ga gd gl) (hj : (j : Int) < pagesOf ga gd gl) : areaAt ga gd gl m k ≠ areaAt ga gd gl m' j := by
  rw [area_eq hk, area_eq hj]
  rcases (show ((m : Int) % 2 = 0 ∧ (m' : Int) % 2 = 1) ∨ ((m : Int) % 2 = 1 ∧ (m' : Int) % 2 = 0) by omega) with ⟨h1, h2⟩ | ⟨h1, h2⟩ <;> rw [h1, h2] <;> omega
theorem PagesOk.items {ga gd gl : Int} {n : Nat} {pages : List (List UInt8)} (h : PagesOk ga gd gl n pages) (life : UInt64) : ∀ i ∈ pItems ga gd gl life 0 pages, ∃ k, ∃ hk : k < pages.length, i = (areaAt ga gd gl life.toNat k, px life k pages[k]) := by
  intro i hi
  obtain ⟨k, hk, rfl⟩ := List.mem_iff_getElem.1 hi
  rw [pItems_len] at hk
  exact ⟨k, hk, by rw [pItems_get _ _ _ _ _ _ _ _ hk]; simp⟩
theorem PagesOk.pright {ga gd gl : Int} {n : Nat} {pages : List (List UInt8)} (h : PagesOk ga gd gl n pages) (life : UInt64) {k : Nat} (hk : k < pages.length) : rightF (areaAt ga gd gl life.toNat k) (px life k pages[k]) = 0 :=
  px_right (h.place life hk).1 (h.place life hk).2.2 (by have := h.small.1; omega) (h.short k hk)
theorem PagesOk.okI {ga gd gl : Int} {n : Nat} {pages : List (List UInt8)} (h : PagesOk ga gd gl n pages) (life : UInt64) : ∀ i ∈ pItems ga gd gl life 0 pages, rightF i.1 i.2 = 0 ∧ 0 ≤ i.1 ∧ i.1 < n := by
  intro i hi
  obtain ⟨k, hk, rfl⟩ := h.items life i hi
  exact ⟨h.pright life hk, (h.place life hk).1, (h.place life hk).2.1⟩
theorem PagesOk.run {ga gd gl : Int} {n : Nat} {pages : List (List UInt8)} (h : PagesOk ga gd gl n pages) (life : UInt64) (l : List (List UInt8)) {s : St} (h2 : s.size = n) (hd : s.down = false) : ∃ m, Enf n (pItems ga gd gl life 0 pages) l s (snapF ga gd gl life pages l s) m :=
  enf_of _ l s h2 hd (h.okI life)
/-- the writes are at the life's places -/
theorem PagesOk.at_ {ga gd gl : Int} {n : Nat} {pages : List (List UInt8)} (h : PagesOk ga gd gl n pages) {life : UInt64} {l : List (List UInt8)} {s : St} {q : List (List UInt8) × St × Int} {m : List Wr} (e : Enf n (pItems ga gd gl life 0 pages) l s q m) :
    m.length ≤ pages.length ∧ ∀ k (hk : k < m.length) (hk' : k < pages.length), m[k].1 = (areaAt ga gd gl life.toNat k).toNat ∧ Sup.Good q.1 (areaAt ga gd gl life.toNat k) (px life k pages[k]) m[k].2 := by
  have hl := e.len
  rw [pItems_len] at hl
  refine ⟨hl, fun k hk hk' => ?_⟩
  have := e.at_ k hk (by rw [pItems_len]; exact hk')
  rw [pItems_get _ _ _ _ _ _ _ _ hk'] at this
  simpa using this
theorem PagesOk.good {ga gd gl : Int} {n : Nat} {pages : List (List UInt8)} (h : PagesOk ga gd gl n pages) {life : UInt64} {l : List (List UInt8)} {s : St} {q : List (List UInt8) × St × Int} {m : List Wr} (e : Enf n (pItems ga gd gl life 0 pages) l s q m) (hm : m.length = (pItems ga gd gl life 0 pages).length) (all : List Wr) {k : Nat} (hk : k < pages.length) :
    Sup.Good q.1 (areaAt ga gd gl life.toNat k) (px life k pages[k]) (kept (all ++ m) (areaAt ga gd gl life.toNat k).toNat) := by
  rw [pItems_len] at hm
  obtain ⟨_, hat⟩ := h.at_ e
  obtain ⟨h1, h2⟩ := hat k (by omega) hk
  rw [← h1, kept_of all m k (by omega) (fun a b ha hb hab => ?_)]
  · exact h2
  · rw [(hat a ha (by omega)).1, (hat b hb (by omega)).1] at hab
    have p1 := h.place life (k := a) (by omega)
    have p2 := h.place life (k := b) (by omega)
    have hl := h.len
    exact area_inj (m := life.toNat) (k := a) (j := b) (by omega) (by omega) (show areaAt ga gd gl life.toNat a = areaAt ga gd gl life.toNat b by omega)
/-- elsewhere there is what was there -/
theorem PagesOk.beside {ga gd gl : Int} {n : Nat} {pages : List (List UInt8)} (h : PagesOk ga gd gl n pages) {life : UInt64} {l : List (List UInt8)} {s : St} {q : List (List UInt8) × St × Int} {m : List Wr} (e : Enf n (pItems ga gd gl life 0 pages) l s q m) {p : Nat} (hp : ∀ k, k < pages.length → p ≠ (areaAt ga gd gl life.toNat k).toNat) : ∀ w ∈ m, w.1 ≠ p := by
  intro w hw he
  obtain ⟨hl, hat⟩ := h.at_ e
  obtain ⟨k, hk, rfl⟩ := List.mem_iff_getElem.1 hw
  rw [(hat k hk (by omega)).1] at he
  exact hp k (by omega) he.symm
theorem isX_own (life : UInt64) (k : Nat) (b : List UInt8) : isX life k (px life k b) = true := by simp [isX, px]
/-- all pages are there -/
theorem snapR_some {l : List (List UInt8)} {s : St} {ga gd gl : Int} {life : UInt64} {pages : List (List UInt8)} (h : ∀ k (hk : k < pages.length), rdAt l s ga gd gl life k = (px life k pages[k], 0)) :
    snapR l s ga gd gl life pages.length = some pages ∧ badL l s ga gd gl life pages.length = [] := by
  have hp : ∀ k, k < pages.length → isPg l s ga gd gl life k = true := fun k hk => by
    unfold isPg
    rw [h k hk]
    simp [isX_own]
  constructor
  · unfold snapR
    rw [if_pos (by unfold allPg; rw [List.all_eq_true]; intro k hk; exact hp k (List.mem_range.1 hk))]
    congr 1
    unfold bodies
    apply List.ext_getElem
    · simp
    · intro i h1 h2
      simp only [List.getElem_map, List.getElem_range]
      rw [h i h2]; rfl
  · unfold badL
    rw [List.filter_eq_nil_iff.2 (fun k hk => by rw [hp k (List.mem_range.1 hk)]; simp)]
    rfl
/-- each page that is there is the one -/
theorem snapR_or {l : List (List UInt8)} {s : St} {ga gd gl : Int} {life : UInt64} {pages : List (List UInt8)} (h : ∀ k (hk : k < pages.length), isPg l s ga gd gl life k = true → (rdAt l s ga gd gl life k).1.body = pages[k]) :
    snapR l s ga gd gl life pages.length = none ∨ snapR l s ga gd gl life pages.length = some pages := by
  unfold snapR
  split
  · rename_i ha
    right
    congr 1
    unfold allPg at ha
    rw [List.all_eq_true] at ha
    unfold bodies
    apply List.ext_getElem
    · simp
    · intro i h1 h2
      simp only [List.getElem_map, List.getElem_range]
      exact h i h2 (ha i (List.mem_range.2 h2))
  · exact .inl rfl
theorem rdAt_good {s : St} {n : Nat} (hu : UpN s n) {l : List (List UInt8)} {ga gd gl : Int} {life : UInt64} {pages : List (List UInt8)} (h : PagesOk ga gd gl n pages) {k : Nat} (hk : k < pages.length) (hg : Sup.Good l (areaAt ga gd gl life.toNat k) (px life k pages[k]) (kept s.all (areaAt ga gd gl life.toNat k).toNat)) : rdAt l s ga gd gl life k = (px life k pages[k], 0) :=
  rd_good hu (h.place life hk).1 (h.place life hk).2.1 hg
/-- a write while the power is there -/
theorem PagesOk.up {ga gd gl : Int} {n : Nat} {pages : List (List UInt8)} (h : PagesOk ga gd gl n pages) (life : UInt64) (l : List (List UInt8)) {s : St} (hu : UpN s n) :
    (snapF ga gd gl life pages l s).2.2 = 0 ∧ UpN (snapF ga gd gl life pages l s).2.1 n ∧ More l (snapF ga gd gl life pages l s).1 ∧
      (∀ k (hk : k < pages.length), Sup.Good (snapF ga gd gl life pages l s).1 (areaAt ga gd gl life.toNat k) (px life k pages[k]) (kept (snapF ga gd gl life pages l s).2.1.all (areaAt ga gd gl life.toNat k).toNat)) ∧
      (∀ p, (∀ k, k < pages.length → p ≠ (areaAt ga gd gl life.toNat k).toNat) → kept (snapF ga gd gl life pages l s).2.1.all p = kept s.all p) ∧
      ∀ T ∈ (snapF ga gd gl life pages l s).1, T ∈ l ∨ ∃ k, ∃ hk : k < pages.length, T = text (areaAt ga gd gl life.toNat k) (px life k pages[k]) := by
  obtain ⟨m, e⟩ := h.run life l hu.size hu.down
  obtain ⟨q, hq⟩ : ∃ q, q = snapF ga gd gl life pages l s := ⟨_, rfl⟩
  rw [← hq] at e ⊢
  rcases e.res with ⟨_, _, _, _, h5⟩ | ⟨h1, h2, h3, h4, h5, h6⟩
  · exact absurd hu.fuse h5
  · rw [hu.pend, List.nil_append] at h3
    refine ⟨h1, ⟨e.size, h4, h2, h6 hu.fuse⟩, e.more, fun k hk => by rw [h3]; exact h.good e h5 s.all hk, fun p hp => by rw [h3]; exact Disk.kept_append _ _ _ (h.beside e hp), fun T hT => (e.text T hT).imp id ?_⟩
    rintro ⟨i, hi, rfl⟩
    obtain ⟨k, hk, rfl⟩ := h.items life i hi
    exact ⟨k, hk, rfl⟩
theorem next_odd {life : UInt64} (h : life.toNat ≠ 18446744073709551615) : life.toNat % 2 ≠ (life + 1).toNat % 2 := by
  have h1 : (life + 1).toNat = (life.toNat + 1) % 18446744073709551616 := by simp [UInt64.toNat_add]
  have h2 : life.toNat < 18446744073709551616 := life.toNat_lt
  have h3 := Nat.mod_eq_of_lt (show life.toNat + 1 < 18446744073709551616 by omega)
  rw [h1, h3]; omega
/-- a write while the power may go; behind it the power comes back -/
theorem crash {ga gd gl : Int} {n : Nat} {a b : List (List UInt8)} (ha : PagesOk ga gd gl n a) (hb : PagesOk ga gd gl n b) {life : UInt64} (hlife : life.toNat ≠ 18446744073709551615) (fuse : Int) (keep : List Int) (t c : Int)
    {V1 V2 : List (List UInt8) × St × Int} {sA s3 : St} (e1 : V1 = snapF ga gd gl life a [] (new n)) (eA : sA = arm V1.2.1 fuse) (e2 : V2 = snapF ga gd gl (life + 1) b V1.1 sA) (e3 : s3 = restart V2.2.1 keep t c) :
    V1.2.2 = 0 ∧ UpN V1.2.1 n ∧ sA.size = n ∧ UpN s3 n ∧ snapR V2.1 s3 ga gd gl life a.length = some a ∧
      (snapR V2.1 s3 ga gd gl (life + 1) b.length = some b ∨ (V2.2.2 ≠ 0 ∧ snapR V2.1 s3 ga gd gl (life + 1) b.length = none)) := by
  obtain ⟨u1, u2, u3, u4, u5, u6⟩ := ha.up life [] (Sup.up_new n)
  rw [← e1] at u1 u2 u3 u4 u5 u6
  have hsA : sA.size = n := by rw [eA]; exact u2.size
  have hdA : sA.down = false := by rw [eA]; exact u2.down
  have hpA : sA.pend = [] := by rw [eA]; exact u2.pend
  have haA : sA.all = V1.2.1.all := by rw [eA]; rfl
  obtain ⟨m, e⟩ := hb.run (life + 1) V1.1 hsA hdA
  rw [← e2] at e
  have hodd := next_odd hlife
  have hla := ha.len
  have hlb := hb.len
  have hside : ∀ k, k < a.length → ∀ j, j < b.length → (areaAt ga gd gl life.toNat k).toNat ≠ (areaAt ga gd gl (life + 1).toNat j).toNat := fun k hk j hj h => by
    have p1 := ha.place life hk
    have p2 := hb.place (life + 1) hj
    exact area_apart hodd (by omega) (by omega) (show areaAt ga gd gl life.toNat k = areaAt ga gd gl (life + 1).toNat j by omega)
  have hmp : ∀ k, k < a.length → ∀ w ∈ m, w.1 ≠ (areaAt ga gd gl life.toNat k).toNat := fun k hk => hb.beside e (fun j hj => hside k hk j hj)
  obtain ⟨r1, r2, m', r3, r4⟩ := restart_up e.size keep t c
  rw [← e3] at r1 r2 r3
  have htext : ∀ T ∈ V2.1, (∃ k, ∃ hk : k < a.length, T = text (areaAt ga gd gl life.toNat k) (px life k a[k])) ∨ ∃ k, ∃ hk : k < b.length, T = text (areaAt ga gd gl (life + 1).toNat k) (px (life + 1) k b[k]) := fun T hT => by
    rcases e.text T hT with h | ⟨i, hi, rfl⟩
    · rcases u6 T h with h | h
      · cases h
      · exact .inl h
    · obtain ⟨k, hk, rfl⟩ := hb.items (life + 1) i hi
      exact .inr ⟨k, hk, rfl⟩
  have hfirst : (∀ k, k < a.length → kept s3.all (areaAt ga gd gl life.toNat k).toNat = kept V1.2.1.all (areaAt ga gd gl life.toNat k).toNat) → snapR V2.1 s3 ga gd gl life a.length = some a := fun hk0 =>
    (snapR_some (fun k hk => rdAt_good r1 ha hk (by rw [hk0 k hk]; exact e.more _ _ _ (u4 k hk)))).1
  have hsecond : snapR V2.1 s3 ga gd gl (life + 1) b.length = none ∨ snapR V2.1 s3 ga gd gl (life + 1) b.length = some b := by
    refine snapR_or fun k hk hp => ?_
    unfold isPg at hp
    rw [Bool.and_eq_true] at hp
    obtain ⟨g1, g2⟩ := rd_sound (l := V2.1) (s := s3) (p := areaAt ga gd gl (life + 1).toNat k) (of_decide_eq_true hp.1)
    obtain ⟨x, hx⟩ : ∃ x, x = (rdAt V2.1 s3 ga gd gl (life + 1) k).1 := ⟨_, rfl⟩
    have hx' : (rd V2.1 s3 (areaAt ga gd gl (life + 1).toNat k)).1 = x := hx.symm
    rw [hx'] at g1 g2
    rw [← hx]
    rcases htext _ g2 with ⟨j, hj, h⟩ | ⟨j, hj, h⟩
    · have e1 := text_inj g1 (ha.pright life hj) h
      rw [e1] at g1 h
      have := place_of (ha.pright life hj) g1 h
      exact absurd (by rw [this]) (hside j hj k hk)
    · have e1 := text_inj g1 (hb.pright (life + 1) hj) h
      rw [e1] at g1 h
      have := place_of (hb.pright (life + 1) hj) g1 h
      have hjk : k = j := area_inj (m := (life + 1).toNat) (by omega) (by omega) this
      subst hjk
      rw [e1]; rfl
  refine ⟨u1, u2, hsA, r1, ?_⟩
  rcases e.res with ⟨f1, f2, f3, f4, f5⟩ | ⟨f1, f2, f3, f4, f5, f6⟩
  · refine ⟨hfirst fun k hk => ?_, ?_⟩
    · rw [r3, f3, haA]
      refine Disk.kept_append _ _ _ fun w hw he => ?_
      obtain ⟨v, hv, hwv⟩ := r4 w hw
      rw [f4, hpA, List.nil_append] at hv
      exact hmp k hk v hv (by rw [← hwv]; exact he)
    · rcases hsecond with h | h
      · exact .inr ⟨by rw [f1]; decide, h⟩
      · exact .inl h
  · have hall := r2 f4
    rw [f3, hpA, List.nil_append, haA] at hall
    refine ⟨hfirst fun k hk => by rw [hall]; exact Disk.kept_append _ _ _ (hmp k hk), .inl ?_⟩
    exact (snapR_some (fun k hk => rdAt_good r1 hb hk (by rw [hall]; exact hb.good e f5 _ hk))).1
end Go.Proofs.YtchcmklelmlbgaaGreat.Snap

/- The pages of a life: Bad of no disk; rows of bytes compared: Diff and Rows. -/
namespace Go.Proofs.YtchcmklelmlbgaaGreat.Snap
open Go.RowKit
open Go.Proofs.YtchcmklelmlbgaaGreat.Geom
open Go.Proofs.YtchcmklelmlbgaaGreat.Sup (Gb gv gcell srightF gthree)
set_option linter.unusedVariables false
set_option maxRecDepth 100000
end Go.Proofs.YtchcmklelmlbgaaGreat.Snap

/- What the laws on supers share: the reference's Mark, Place and Sector, the example. -/
namespace Go.Proofs.YtchcmklelmlbgaaGreat
end Go.Proofs.YtchcmklelmlbgaaGreat
namespace Go.Proofs.YtchcmklelmlbgaaGreat.Sup
open Go.RowKit
open Go.Proofs.YtchcmklelmlbgaaGreat.Geom
open Go.Proofs.YtchcmklelmlbgaaGreat.Disk (St DAt Did New8 Told8 new)
open Go.Proofs.YtchcmklelmlbgaaGreat.Sec (X SymAt text sumOf sumAfter ckS blankB rightF xv RetX X0 five5x symbolic_any bset5)
set_option linter.unusedVariables false
set_option maxRecDepth 100000
theorem newN_any (n : Nat) (z : Int) (hz : z = (n : Int)) (h1 : 1 ≤ n) (h2 : n ≤ 1024) (w : World) : Calls Tryz.prog 11 #[.int .i64 z] w fun e w' => ∃ g fp, e = .returned (.tuple #[.pointer (some ⟨g, 0, none⟩), .int .i64 0]) ∧ DAt w' g fp (new n) ∧ (∀ j ∈ fp, w.heap.size ≤ j) ∧ Below w.heap.size w w' := by
  subst hz
  refine (Disk.new_any n w (by omega) (by omega)).mono ?_
  rintro e w' ⟨h, b⟩
  rw [if_neg (by omega)] at h
  obtain ⟨g, fp, he, hd, hf⟩ := h
  exact ⟨g, fp, he, by simpa using hd, hf, b⟩
end Go.Proofs.YtchcmklelmlbgaaGreat.Sup

/- The document's comparisons: rows of bytes, rows of numbers. -/
namespace Go.Proofs.YtchcmklelmlbgaaGreat.R20
open Go.RowKit
set_option linter.unusedVariables false
set_option maxRecDepth 100000
theorem take_snoc_eq {α : Type} {a b : List α} {k : Nat} (ha : k < a.length) (hb : k < b.length) : a.take (k + 1) = b.take (k + 1) ↔ (a.take k = b.take k ∧ a[k] = b[k]) := by
  rw [List.take_succ_eq_append_getElem ha, List.take_succ_eq_append_getElem hb]
  constructor
  · intro h
    have h1 := List.append_inj_left h (by simp; omega)
    have h2 := List.append_inj_right h (by simp; omega)
    exact ⟨h1, by simpa using h2⟩
  · rintro ⟨h1, h2⟩
    rw [h1, h2]
def Diffs (d : Bool) (e : Ending) : Prop := ∃ C k c, e = .returned (.slice C k c) ∧ (((k : Nat) : Int) == 0) = d
theorem infoI : (Tryz.prog.info? 3).map (fun i => (i.zero, i.size, i.bytes)) = some (some (.int .i64 0), 1, 8) := by kernel_rfl
set_option maxHeartbeats 1000000 in
theorem diff_any (A B : Option Addr) (a b : List (List UInt8)) (n m ca cb : Nat) (w : World) (ha : Rws w w.heap.size A a) (hb : Rws w w.heap.size B b) (hn : n = a.length) (hm : m = n) (hl : a.length = b.length) (hl1 : n ≤ 1000) (hla : ∀ x ∈ a, x.length ≤ 1000000) (hlb : ∀ x ∈ b, x.length ≤ 1000000) :
    Calls Tryz.prog 56 #[.slice A n ca, .slice B m cb] w fun e w' => Diffs (decide (a = b)) e ∧ Below w.heap.size w w' := by
  subst hm
  obtain ⟨i0, hi0, hz0, hz1, hz2⟩ := info_parts infoI
  have Hn := Lib.hid hn
  have HL := Lib.hid hl
  clear hn hl
  go_enter Tryz.func56, Tryz.ntmps56
  go_wp2_with fail
  go_loopw [5, 6] (fun o i wr => ∃ k : Nat, k ≤ m ∧ i = .int .i64 (k : Int) ∧ Below w.heap.size w wr ∧ ∃ j xs, wr.ownsRow w.heap.size 3 1 o j xs ∧ j ≤ k ∧ Hid ((j = 0) ↔ a.take k = b.take k)) (fun _ i _ => m - (intOf i).toNat)
  case atStart => exact ⟨0, by omega, rfl, Below.refl _ _, 0, [], own_nil _ _ _ _, Nat.le_refl _, Lib.hid (by simp)⟩
  case round =>
    obtain ⟨k, hk, rfl, bel, j, xs, hown, hjk, hj⟩ := hrel
    have hmx : max (m : Int) (m : Int) = (m : Int) := by omega
    have hwk : wrap64 ((k : Int) + 1) = (k : Int) + 1 := by unfold wrap64; omega
    by_cases hlt : k < m
    · have hka : k < a.length := by have := Hn.out; omega
      have hkb : k < b.length := by have := Hn.out; have := HL.out; omega
      have hkm : (k : Int) < (m : Int) := by omega
      have hge : ¬ (m : Int) ≤ (k : Int) := by omega
      obtain ⟨b1, o1, A1, c1, rfl, hb1, hc1, hr1, _, _⟩ := (ha.below bel).get hka
      obtain ⟨b2, o2, A2, c2, rfl, hb2, hc2, hr2, _, _⟩ := (hb.below bel).get hkb
      have hS := fun W (bW : Below wr.heap.size wr W) => R1.same_any A1 A2 a[k] b[k] _ _ c1 c2 W rfl rfl ((hr1.below (bW.mono bel.size)).more (by have := bel.size; have := bW.size; omega)) ((hr2.below (bW.mono bel.size)).more (by have := bel.size; have := bW.size; omega)) (by have := hla _ (List.getElem_mem hka); omega) (by have := hlb _ (List.getElem_mem hkb); omega)
      have hst := take_snoc_eq hka hkb
      have hsame : R1.sameB a[k] b[k] = decide (a[k] = b[k]) := rfl
      obtain ⟨x, hx⟩ : ∃ x, x = a[k] := ⟨_, rfl⟩
      obtain ⟨y, hy⟩ : ∃ y, y = b[k] := ⟨_, rfl⟩
      rw [← hx, ← hy] at hS hst hsame
      rw [← hx] at hc1
      rw [← hy] at hc2
      have hb1' : b1 < wr.heap.size := by have := bel.size; omega
      have hb2' : b2 < wr.heap.size := by have := bel.size; omega
      by_cases he : x = y
      · rw [hsame, decide_eq_true he] at hS
        have HS := Lib.hid hS
        have Hst := Lib.hid hst
        have He := Lib.hid he
        clear hS hst hsame hx hy he hr1 hr2 ha hb
        go_wp2_with fail
        refine region_inb (by kernel_rfl) (by kernel_rfl) ?_
        have inbNe := InB.some
        have inbW := @wrap_small
        have inbU := IntKind.wrap_u8'
        repeat (refine wpQuiet_step (fun K hK => ?_); go_simp; first | (refine hK _ ?_; clear hK K) | (apply Exists.intro; refine ⟨?_, hK _ ?_⟩; (· (intro w' hw'; first | (go_at_call 95; refine (HS.out _ hw'.below).mono ?_; rintro e w1 ⟨rfl, b1⟩; exact ⟨rfl, hw'.on b1⟩) | (have hcw := hw'.cell; go_simp; exact rfl))); clear hK K))
        refine wpQuiet_nil ?_
        intro wq hq
        clear inbNe inbW inbU
        go_wp2
        case roundEnd => exact ⟨⟨k + 1, by omega, rfl, bt bel hq.below, j, xs, own_on hown hq.below, by omega, Lib.hid (by rw [hj.out, Hst.out]; exact ⟨fun h => ⟨h, He.out⟩, fun h => h.1⟩)⟩, by simp only [intOf]; omega⟩
      · rw [hsame, decide_eq_false he] at hS
        have HS := Lib.hid hS
        have Hst := Lib.hid hst
        have He := Lib.hid he
        clear hS hst hsame hx hy he hr1 hr2 ha hb
        obtain ⟨A5, c5, rfl⟩ := own_form hown
        go_wp2_with fail
        refine region_inb (by kernel_rfl) (by kernel_rfl) ?_
        have inbNe := InB.some
        have inbW := @wrap_small
        have inbU := IntKind.wrap_u8'
        repeat (refine wpQuiet_step (fun K hK => ?_); go_simp; first | (refine hK _ ?_; clear hK K) | (apply Exists.intro; refine ⟨?_, hK _ ?_⟩; (· (intro w' hw'; first | (go_at_call 95; refine (HS.out _ hw'.below).mono ?_; rintro e w1 ⟨rfl, b1⟩; exact ⟨rfl, hw'.on b1⟩) | (have hcw := hw'.cell; go_simp; exact rfl))); clear hK K))
        refine wpQuiet_nil ?_
        intro wq hq
        clear inbNe inbW inbU
        have own2 := own_on hown hq.below
        have hsz2 := hq.below.size
        go_wp2_with (refine wpList_append_rd _ rfl _ _ _ rfl w.heap.size 3 i0 _ 1 8 Tryz.underlying66 hi0 hz0 hz1 hz2 rfl (by omega) _ j xs rfl (own2.alloc _) (wq.heap.size + 1) (some ⟨wq.heap.size, 0, none⟩) 1 1 [.int .i64 (k : Int)] rfl rfl (Rd.lit wq _ _ _ _ rfl (by omega)) (one_int _ _) (by simp only [maxLen]; omega) (by omega) (le_alloc (Nat.le_trans bel.size hsz2) _) ?_; intro v2 w2 hown2 hg2 hat2)
        have bel2 : Below w.heap.size w w2 := by
          refine ((bt bel hq.below).alloc (Nat.le_trans bel.size hsz2) _).grown hg2 (le_alloc (Nat.le_trans bel.size hsz2) _) (fun g hg => ?_)
          exact own_block hown hg
        case roundEnd => exact ⟨⟨k + 1, by omega, rfl, bel2, j + 1, _, hown2, by omega, Lib.hid ⟨fun h => absurd h (by omega), fun h => absurd (Hst.out.1 h).2 He.out⟩⟩, by simp only [intOf]; omega⟩
    · have hkm : k = m := by omega
      have hkn : ¬ (k : Int) < (m : Int) := by omega
      obtain ⟨A5, c5, rfl⟩ := own_form hown
      have Hk := Lib.hid hkm
      clear hkm
      go_wp2
      go_ret
      refine ⟨⟨A5, j, c5, rfl, ?_⟩, bel⟩
      have h1 := hj.out
      have h2 := Hk.out
      have h3 := Hn.out
      have h4 := HL.out
      rw [List.take_of_length_le (by omega), List.take_of_length_le (by omega)] at h1
      by_cases hj0 : j = 0
      · rw [beq_yes (by omega), decide_eq_true (h1.1 hj0)]
      · rw [beq_no (by omega), decide_eq_false (fun e => hj0 (h1.2 e))]
theorem rows_any (A B : Option Addr) (a b : List (List UInt8)) (n m ca cb : Nat) (w : World) (ha : Rws w w.heap.size A a) (hb : Rws w w.heap.size B b) (hn : n = a.length) (hm : m = b.length) (hl1 : n ≤ 1000) (hla : ∀ x ∈ a, x.length ≤ 1000000) (hlb : ∀ x ∈ b, x.length ≤ 1000000) :
    Calls Tryz.prog 18 #[.slice A n ca, .slice B m cb] w fun e w' => e = .returned (.bool (decide (a = b))) ∧ Below w.heap.size w w' := by
  by_cases hl : n = m
  · have HD := Lib.hid (diff_any A B a b n m ca cb w ha hb hn hl.symm (by omega) hl1 hla hlb)
    obtain ⟨d, hd⟩ : ∃ d, d = decide (a = b) := ⟨_, rfl⟩
    rw [← hd] at HD ⊢
    have t0 := bne_no (show (n : Int) = (m : Int) by omega)
    clear ha hb hn hm hd hl hla hlb
    go_enter Tryz.func18, Tryz.ntmps18
    go_wp2_with (go_at_call 56; refine HD.out.mono ?_; rintro e w1 ⟨⟨C, k, c, rfl, hk⟩, b1⟩)
    go_ret
    exact ⟨by first | rfl | exact ret_bool hk, b1⟩
  · have hne : decide (a = b) = false := decide_eq_false (fun e => hl (by rw [hn, hm, e]))
    rw [hne]
    have t0 := bne_yes (show (n : Int) ≠ (m : Int) by omega)
    clear ha hb hn hm hl hla hlb hne
    go_enter Tryz.func18, Tryz.ntmps18
    go_wp2
    go_ret
    exact ⟨rfl, Below.refl _ _⟩
end Go.Proofs.YtchcmklelmlbgaaGreat.R20

/- What the laws on pages share: which are light, which may be, the reference's sector, the example. -/
namespace Go.Proofs.YtchcmklelmlbgaaGreat.Snap
open Go.RowKit
open Go.Proofs.YtchcmklelmlbgaaGreat.Geom
open Go.Proofs.YtchcmklelmlbgaaGreat.Disk (St DAt Did New8 Told8 new)
open Go.Proofs.YtchcmklelmlbgaaGreat.Sup (Gb gv gcell srightF gthree newN_any UpN up_new srightF_new)
open Go.Proofs.YtchcmklelmlbgaaGreat.Sec (X SymAt text sumOf sumAfter ckS blankB rightF xv RetX X0 five5x symbolic_any bset5)
set_option linter.unusedVariables false
set_option maxRecDepth 100000
theorem OwnRows.rws {w : World} {base : Nat} {A : Option Addr} {n c : Nat} {l : List (List UInt8)} (h : OwnRows w base (.slice A n c) l) (hn : n = l.length) : Rws w w.heap.size A l := by
  obtain ⟨its, hown, rfl, hall⟩ := h
  rw [List.length_map] at hn
  subst hn
  have hrd := RdQ.own hown
  intro hne
  have hne' : its.map It.sl ≠ [] := by intro e; apply hne; simp at e; simp [e]
  obtain ⟨b, off, rfl, hb, _, hc⟩ := hrd hne'
  refine ⟨b, off, rfl, hb, fun i hi => ?_⟩
  have hi' : i < its.length := by simpa using hi
  have h1 := hc i (by simpa using hi')
  rw [List.getElem_map] at h1
  have h2 := hall _ (List.getElem_mem hi')
  refine ⟨its[i].A, its[i].c, ?_, ?_, ?_, ?_⟩
  · rw [h1]; simp [It.sl]
  · rw [List.getElem_map]; exact Rd.own h2.1
  · rw [List.getElem_map]; exact (own_cap h2.1).1
  · exact (own_cap h2.1).2
theorem OwnRows.on {w w' : World} {base : Nat} {v : Value} {l : List (List UInt8)} (h : OwnRows w base v l) (b : Below w.heap.size w w') : OwnRows w' base v l := by
  obtain ⟨its, hown, hl, hall⟩ := h
  exact ⟨its, own_on hown b, hl, fun x hx => (hall x hx).on b⟩
theorem OwnRows.short {w : World} {base : Nat} {v : Value} {l : List (List UInt8)} (h : OwnRows w base v l) : ∀ x ∈ l, x.length ≤ 1000000 := by
  obtain ⟨its, _, rfl, hall⟩ := h
  intro x hx
  obtain ⟨y, hy, rfl⟩ := List.mem_map.1 hx
  have := (hall y hy).2
  omega
end Go.Proofs.YtchcmklelmlbgaaGreat.Snap

/- The laws of the log: a log beside a disk, and the chapter's example. No statement is proved here. -/
namespace Go.Proofs.YtchcmklelmlbgaaGreat.Wal
open Go.RowKit
open Go.Proofs.YtchcmklelmlbgaaGreat.Geom
open Go.Proofs.YtchcmklelmlbgaaGreat.Sup (Gb gv gcell gthree newN_any UpN up_new)
open Go.Proofs.YtchcmklelmlbgaaGreat.Disk (St DAt new)
open Go.Proofs.YtchcmklelmlbgaaGreat.Sec (X symbolic_any)
set_option linter.unusedVariables false
set_option maxRecDepth 100000
/-- in a law: a log in a block of the law's own, beside the disk -/
structure HereL (w0 w : World) (g : Nat) (fp : List Nat) (s : St) (gS bS : Nat) (l : List (List UInt8)) (L : Nat) (ga gd gl : Int) (life : UInt64) (base : Int) (seq : Nat) : Prop where
  both : Both w g fp s gS bS l
  bel : Below w0.heap.size w0 w
  own : ∀ j ∈ L :: bS :: fp, w0.heap.size ≤ j
  lat : LAt w L g gS ga gd gl life base seq
  nL : L ∉ bS :: gS :: fp
theorem HereL.on {w0 w w' : World} {g : Nat} {fp : List Nat} {s : St} {gS bS : Nat} {l : List (List UInt8)} {L : Nat} {ga gd gl : Int} {life : UInt64} {base : Int} {seq : Nat} (h : HereL w0 w g fp s gS bS l L ga gd gl life base seq) (b : Below w.heap.size w w') : HereL w0 w' g fp s gS bS l L ga gd gl life base seq := ⟨h.both.on b, bt h.bel b, h.own, h.lat.on b, h.nL⟩
theorem HereL.turn {w0 w w' : World} {g : Nat} {fp : List Nat} {s s' : St} {gS bS : Nat} {l l' : List (List UInt8)} {L : Nat} {ga gd gl : Int} {life : UInt64} {base : Int} {seq seq' : Nat} (h : HereL w0 w g fp s gS bS l L ga gd gl life base seq) (t : WTurn w g fp gS bS L ga gd gl life base s' l' seq' w') : ∃ fp', HereL w0 w' g fp' s' gS bS l' L ga gd gl life base seq' := by
  obtain ⟨fp', b, k, f, la⟩ := t
  refine ⟨fp', b, h.bel.trans (k.below h.own h.bel.size), fun j hj => ?_, la, fun hj => ?_⟩
  · rcases List.mem_cons.1 hj with e | hj
    · exact h.own j (by rw [e]; simp)
    rcases List.mem_cons.1 hj with e | hj
    · exact h.own j (by rw [e]; simp)
    · exact f.ge (fun i hi => h.own i (by simp [hi])) h.bel.size j hj
  · rcases List.mem_cons.1 hj with e | hj
    · exact h.nL (by rw [e]; simp)
    rcases List.mem_cons.1 hj with e | hj
    · exact h.nL (by rw [e]; simp)
    · exact f.out h.lat.lt (fun e => h.nL (by simp [e])) hj
theorem HereL.start {w0 w w' : World} {g : Nat} {fp : List Nat} {s : St} {gS bS : Nat} {l : List (List UInt8)} {ga gd gl : Int} {life : UInt64} {base : Int} {L : Nat} (h : Here w0 w g fp s gS bS l) (hL : L = w.heap.size + 1) (ha : LAt w' L g gS ga gd gl life base 0) (b : Below w.heap.size w w') : HereL w0 w' g fp s gS bS l L ga gd gl life base 0 := by
  subst hL
  refine ⟨h.both.on b, bt h.bel b, fun j hj => ?_, ha, fun hj => ?_⟩
  · have := h.bel.size
    rcases List.mem_cons.1 hj with e | hj
    · omega
    · exact h.own j hj
  · have h1 := h.both.sym.lt
    rcases List.mem_cons.1 hj with e | hj
    · omega
    rcases List.mem_cons.1 hj with e | hj
    · omega
    · have := h.both.disk.lt _ hj; omega
theorem HereL.here {w0 w : World} {g : Nat} {fp : List Nat} {s : St} {gS bS : Nat} {l : List (List UInt8)} {L : Nat} {ga gd gl : Int} {life : UInt64} {base : Int} {seq : Nat} (h : HereL w0 w g fp s gS bS l L ga gd gl life base seq) : Here w0 w g fp s gS bS l := ⟨h.both, h.bel, fun j hj => h.own j (by simp only [List.mem_cons] at hj ⊢; exact .inr hj)⟩
end Go.Proofs.YtchcmklelmlbgaaGreat.Wal

/- The laws of the log: which inputs are light, which pages may be, why a transaction is not appended. No statement is proved here. -/
namespace Go.Proofs.YtchcmklelmlbgaaGreat.Wal
open Go.RowKit
open Go.Proofs.YtchcmklelmlbgaaGreat.Geom
open Go.Proofs.YtchcmklelmlbgaaGreat.Sup (Gb gv gcell gthree)
set_option linter.unusedVariables false
set_option maxRecDepth 100000
attribute [local irreducible] wpQuiet
/-- what is light -/
structure LightOk (gl : Int) (l : List Tx) : Prop where
  log : ¬ (16 < gl ∧ gl ≤ 64)
  len : l.length ≤ 20
  pages : ∀ t ∈ l, t.pages.length ≤ 20 ∧ ∀ p ∈ t.pages, p.body.length ≤ 600
def LightRet (gl : Int) (l : List Tx) (e : Ending) : Prop := ∃ B : Bool, e = .returned (.bool B) ∧ (B = true → LightOk gl l)
set_option maxHeartbeats 2000000 in
theorem light_any (Q : Nat → Prop) (A : Option Addr) (l : List Tx) (c : Nat) (ga gd gl : Int) (w : World) (hr : Txs w Q A l) :
    Calls Tryz.prog 33 #[gv ga gd gl, .slice A l.length c] w fun e w' => LightRet gl l e ∧ Below w.heap.size w w' := by
  have FG := Blk.new w (gcell ga gd gl) 23
  have b0 := b1alloc w (.cells (gcell ga gd gl).toArray 23)
  obtain ⟨z0, z1, z2⟩ := gthree FG
  obtain ⟨N, hN⟩ : ∃ N, N = l.length := ⟨_, rfl⟩
  rw [← hN]
  have HN := Lib.hid hN
  have HR := Lib.hid (hr.on b0)
  clear hN hr FG
  by_cases h1 : 16 < gl ∧ gl ≤ 64
  · have h2 := h1.1
    have h3 := h1.2
    clear h1
    go_enter Tryz.func33, Tryz.ntmps33
    go_wp2
    all_goals (go_ret; exact ⟨⟨false, rfl, fun h => (by cases h)⟩, b0⟩)
  by_cases h20 : N ≤ 20
  rotate_left
  · have t2 : (20 : Int) < (N : Int) := by omega
    have t3 : (decide (16 < gl) && decide (gl ≤ 64)) = false := by
      rw [Bool.and_eq_false_iff, decide_eq_false_iff_not, decide_eq_false_iff_not]
      by_cases hx : 16 < gl
      · exact .inr (fun h => h1 ⟨hx, h⟩)
      · exact .inl hx
    clear h1 h20
    by_cases hx : 16 < gl
    · go_enter Tryz.func33, Tryz.ntmps33
      go_wp2
      all_goals (go_ret; exact ⟨⟨false, rfl, fun h => (by cases h)⟩, b0⟩)
    · go_enter Tryz.func33, Tryz.ntmps33
      go_wp2
      all_goals (go_ret; exact ⟨⟨false, rfl, fun h => (by cases h)⟩, b0⟩)
  have t2 : ¬ (20 : Int) < (N : Int) := by omega
  have H1 := Lib.hid h1
  have hsp : (16 < gl ∧ ¬ gl ≤ 64) ∨ ¬ 16 < gl := by
    by_cases hx : 16 < gl
    · exact .inl ⟨hx, fun h => h1 ⟨hx, h⟩⟩
    · exact .inr hx
  clear h1
  rcases hsp with ⟨hx, hy⟩ | hx
  all_goals
    go_enter Tryz.func33, Tryz.ntmps33
    go_wp2_with fail
    go_loopw [5] (fun i wr => ∃ k : Nat, k ≤ N ∧ i = .int .i64 (k : Int) ∧ wr = w.alloc (.cells (gcell ga gd gl).toArray 23) ∧ Hid (∀ t ∈ l.take k, t.pages.length ≤ 20 ∧ ∀ p ∈ t.pages, p.body.length ≤ 600)) (fun i _ => N - (intOf i).toNat)
    case atStart => exact ⟨0, Nat.zero_le _, rfl, rfl, Lib.hid (fun t ht => by simp at ht)⟩
    case round =>
      obtain ⟨k, hk, rfl, rfl, hid⟩ := hrel
      by_cases hlt : k < N
      · have hkm : (k : Int) < (N : Int) := by omega
        have hge : ¬ (N : Int) ≤ (k : Int) := by omega
        have hll : k < l.length := by have := HN.out; omega
        have htk : l.take (k + 1) = l.take k ++ [l[k]] := List.take_succ_eq_append_getElem hll
        obtain ⟨b, off, Ai, ci, rfl, hb, hT⟩ := HR.out.get hll
        obtain ⟨x, hx'⟩ : ∃ x, x = l[k] := ⟨_, rfl⟩
        rw [← hx'] at hT htk
        have c0 := hT.c0
        have HPg := Lib.hid hT.pgs
        have Htk := Lib.hid htk
        obtain ⟨m, hm⟩ : ∃ m, m = x.pages.length := ⟨_, rfl⟩
        rw [← hm] at c0
        have Hm := Lib.hid hm
        clear hm hT htk hx'
        by_cases hm20 : m ≤ 20
        rotate_left
        · have t5 : (20 : Int) < (m : Int) := by omega
          go_wp2
          go_ret
          exact ⟨⟨false, rfl, fun h => (by cases h)⟩, b0⟩
        have t5 : ¬ (20 : Int) < (m : Int) := by omega
        go_wp2_with fail
        go_loopw [6] (fun i wr => ∃ j : Nat, j ≤ m ∧ i = .int .i64 (j : Int) ∧ wr = w.alloc (.cells (gcell ga gd gl).toArray 23) ∧ Hid (∀ p ∈ x.pages.take j, p.body.length ≤ 600)) (fun i _ => m - (intOf i).toNat)
        case atStart => exact ⟨0, Nat.zero_le _, rfl, rfl, Lib.hid (fun t ht => by simp at ht)⟩
        case round =>
          obtain ⟨j, hj, rfl, rfl, hid2⟩ := hrel
          by_cases hjt : j < m
          · have hjm : (j : Int) < (m : Int) := by omega
            have hge2 : ¬ (m : Int) ≤ (j : Int) := by omega
            have hjl : j < x.pages.length := by have := Hm.out; omega
            have htj : x.pages.take (j + 1) = x.pages.take j ++ [x.pages[j]] := List.take_succ_eq_append_getElem hjl
            obtain ⟨b2, off2, Aj, cj, rfl, hb2, hP⟩ := HPg.out.get hjl
            obtain ⟨y, hy'⟩ : ∃ y, y = x.pages[j] := ⟨_, rfl⟩
            rw [← hy'] at hP htj
            have d1 := hP.c1
            have Htj := Lib.hid htj
            by_cases h600 : y.body.length ≤ 600
            · have t6 : ¬ (600 : Int) < (y.body.length : Int) := by omega
              have Hyl := Lib.hid h600
              clear hP htj hy' h600
              go_wp2
              case roundEnd => exact ⟨⟨j + 1, by omega, by go_num, by first | trivial | rfl, Lib.hid (by rw [Htj.out]; intro p hp; rcases List.mem_append.1 hp with hp | hp; (· exact hid2.out p hp); (· rw [List.mem_singleton] at hp; rw [hp]; exact Hyl.out))⟩, by simp only [intOf]; omega⟩
            · have t6 : (600 : Int) < (y.body.length : Int) := by omega
              clear hP htj hy' h600
              go_wp2
              go_ret
              exact ⟨⟨false, rfl, fun h => (by cases h)⟩, b0⟩
          · have hjm : j = m := by omega
            have hjn : ¬ (j : Int) < (m : Int) := by omega
            have Hj := Lib.hid hjm
            clear hjm
            go_wp2
            have hgo := Lib.hid (show ∀ t ∈ l.take (k + 1), t.pages.length ≤ 20 ∧ ∀ p ∈ t.pages, p.body.length ≤ 600 by
              rw [Htk.out]
              intro t ht
              rcases List.mem_append.1 ht with ht | ht
              · exact hid.out t ht
              · rw [List.mem_singleton] at ht
                rw [ht]
                have h2 := hid2.out
                rw [Hj.out, Hm.out, List.take_length] at h2
                exact ⟨by have := Hm.out; omega, h2⟩)
            exact ⟨⟨k + 1, by omega, by go_num, by first | trivial | rfl, Lib.hid hgo.out⟩, by simp only [intOf]; omega⟩
      · have hkm : k = N := by omega
        have hkn : ¬ (k : Int) < (N : Int) := by omega
        have Hk := Lib.hid hkm
        clear hkm
        go_wp2
        go_ret
        refine ⟨⟨true, rfl, fun _ => ⟨H1.out, by have := HN.out; omega, ?_⟩⟩, b0⟩
        have h2 := hid.out
        rw [Hk.out, HN.out, List.take_length] at h2
        exact h2
set_option maxHeartbeats 2000000 in
theorem rpagesOk_any (Q : Nat → Prop) (A : Option Addr) (l : List Pg) (c : Nat) (ga gd gl : Int) (w : World) (hG : Gb ga gd gl) (hr : Pgs w Q A l) (hl : l.length ≤ 1000000) :
    Calls Tryz.prog 61 #[gv ga gd gl, .slice A l.length c] w fun e w' => e = .returned (.bool (!badB ga gd gl l)) ∧ Below w.heap.size w w' := by
  have FG := Blk.new w (gcell ga gd gl) 23
  have b0 := b1alloc w (.cells (gcell ga gd gl).toArray 23)
  have HFG := Lib.hid FG
  have HPg := Lib.hid (fun W => Geom.rpages_any ga gd gl W hG.a0 hG.a1 hG.d0 hG.d1 hG.g0 hG.g1)
  obtain ⟨N, hN⟩ : ∃ N, N = l.length := ⟨_, rfl⟩
  rw [← hN]
  have HN := Lib.hid hN
  have HR := Lib.hid hr
  have hl' : N ≤ 1000000 := by omega
  obtain ⟨R, hR⟩ : ∃ R, R = badB ga gd gl l := ⟨_, rfl⟩
  rw [← hR]
  have HRR := Lib.hid hR
  obtain ⟨q, hq⟩ : ∃ q, q = pagesOf ga gd gl := ⟨_, rfl⟩
  rw [← hq] at HPg
  have Hq := Lib.hid hq
  clear hN hr hl hR hq FG
  go_enter Tryz.func61, Tryz.ntmps61
  go_wp2_with fail
  go_loopw [5] (fun i wr => ∃ k : Nat, k ≤ N ∧ i = .int .i64 (k : Int) ∧ Below w.heap.size w wr ∧ Blk wr w.heap.size (gcell ga gd gl) ∧ Hid (∀ j (hj : j < l.length), j < k → wrongB ga gd gl l[j] = false)) (fun i _ => N - (intOf i).toNat)
  case atStart => exact ⟨0, Nat.zero_le _, rfl, b0, HFG.out, Lib.hid (fun j _ h => absurd h (Nat.not_lt_zero j))⟩
  case round =>
    obtain ⟨k, hk, rfl, bel, hB, hid⟩ := hrel
    clear b0
    by_cases hlt : k < N
    · have hkm : (k : Int) < (N : Int) := by omega
      have hge : ¬ (N : Int) ≤ (k : Int) := by omega
      have hll : k < l.length := by have := HN.out; omega
      obtain ⟨z0, z1, z2⟩ := gthree hB
      have lG := hB.lt
      obtain ⟨b, off, Ai, ci, rfl, hb, hP⟩ := (HR.out.on bel).get hll
      have hW : wrongB ga gd gl l[k] = (decide (l[k].n < 0) || (decide (q ≤ l[k].n) || decide (473 < l[k].body.length))) := by rw [Hq.out]; rfl
      have hgo : wrongB ga gd gl l[k] = false → ∀ j (hj : j < l.length), j < k + 1 → wrongB ga gd gl l[j] = false := fun h j hj hjk => by
        rcases Nat.lt_succ_iff_lt_or_eq.1 hjk with e | e
        · exact hid.out j hj e
        · subst e; exact h
      have hst : wrongB ga gd gl l[k] = true → R = true := fun h => by rw [HRR.out]; exact badB_yes hll h
      obtain ⟨⟨xn, xb⟩, hx⟩ : ∃ x, x = l[k] := ⟨_, rfl⟩
      rw [← hx] at hP hW hgo hst
      simp only at hW
      have c0 := hP.c0
      have c1 := hP.c1
      obtain ⟨m, hm⟩ : ∃ m, m = xb.length := ⟨_, rfl⟩
      simp only at c0 c1
      rw [← hm] at c1 hW
      have HB := Lib.hid hB
      have Hgo := Lib.hid hgo
      have Hst := Lib.hid hst
      by_cases h0 : xn < 0
      · have hf := Lib.hid (hst (by rw [hW, decide_eq_true h0]; rfl))
        clear hP hW hgo hst hx hm hB
        go_wp2_with fail
        refine region_inb (by kernel_rfl) (by kernel_rfl) ?_
        have inbNe := InB.some
        have inbW := @wrap_small
        have inbU := IntKind.wrap_u8'
        repeat (refine wpQuiet_step (fun K hK => ?_); go_simp; first | (refine hK _ ?_; clear hK K) | (apply Exists.intro; refine ⟨?_, hK _ ?_⟩; (· (intro w' hw'; first | fail | (have hcw := hw'.cell; go_simp; exact rfl))); clear hK K))
        refine wpQuiet_nil ?_
        intro wq hq
        clear inbNe inbW inbU
        go_wp2
        go_ret
        exact ⟨by rw [hf.out]; rfl, bt bel hq.below⟩
      by_cases h1 : q ≤ xn
      · have hf := Lib.hid (hst (by rw [hW, decide_eq_true h1]; simp))
        clear hP hW hgo hst hx hm hB
        go_wp2_with fail
        refine region_inb (by kernel_rfl) (by kernel_rfl) ?_
        have inbNe := InB.some
        have inbW := @wrap_small
        have inbU := IntKind.wrap_u8'
        repeat (refine wpQuiet_step (fun K hK => ?_); go_simp; first | (refine hK _ ?_; clear hK K) | (apply Exists.intro; refine ⟨?_, hK _ ?_⟩; (· (intro w' hw'; first | (go_at_call 22; refine (HPg.out _).mono ?_; rintro e w1 ⟨rfl, b1⟩; exact ⟨rfl, hw'.on b1⟩) | (have hcw := hw'.cell; go_simp; exact rfl))); clear hK K))
        refine wpQuiet_nil ?_
        intro wq hq
        clear inbNe inbW inbU
        go_wp2
        go_ret
        exact ⟨by rw [hf.out]; rfl, bt bel hq.below⟩
      by_cases h2 : 473 < m
      · have hf := Lib.hid (hst (by rw [hW, decide_eq_true h2]; simp))
        have t2 : (473 : Int) < (m : Int) := by omega
        clear hP hW hgo hst hx hm hB h2
        go_wp2_with fail
        refine region_inb (by kernel_rfl) (by kernel_rfl) ?_
        have inbNe := InB.some
        have inbW := @wrap_small
        have inbU := IntKind.wrap_u8'
        repeat (refine wpQuiet_step (fun K hK => ?_); go_simp; first | (refine hK _ ?_; clear hK K) | (apply Exists.intro; refine ⟨?_, hK _ ?_⟩; (· (intro w' hw'; first | (go_at_call 22; refine (HPg.out _).mono ?_; rintro e w1 ⟨rfl, b1⟩; exact ⟨rfl, hw'.on b1⟩) | (have hcw := hw'.cell; go_simp; exact rfl))); clear hK K))
        refine wpQuiet_nil ?_
        intro wq hq
        clear inbNe inbW inbU
        go_wp2
        go_ret
        exact ⟨by rw [hf.out]; rfl, bt bel hq.below⟩
      · have hf := Lib.hid (hgo (by rw [hW, decide_eq_false h0, decide_eq_false h1, decide_eq_false h2]; rfl))
        have t2 : ¬ (473 : Int) < (m : Int) := by omega
        clear hP hW hgo hst hx hm hB h2
        go_wp2_with fail
        refine region_inb (by kernel_rfl) (by kernel_rfl) ?_
        have inbNe := InB.some
        have inbW := @wrap_small
        have inbU := IntKind.wrap_u8'
        repeat (refine wpQuiet_step (fun K hK => ?_); go_simp; first | (refine hK _ ?_; clear hK K) | (apply Exists.intro; refine ⟨?_, hK _ ?_⟩; (· (intro w' hw'; first | (go_at_call 22; refine (HPg.out _).mono ?_; rintro e w1 ⟨rfl, b1⟩; exact ⟨rfl, hw'.on b1⟩) | (have hcw := hw'.cell; go_simp; exact rfl))); clear hK K))
        refine wpQuiet_nil ?_
        intro wq hq
        clear inbNe inbW inbU
        go_wp2
        case roundEnd => exact ⟨⟨k + 1, by omega, by go_num, bt bel hq.below, HB.out.on hq.below, Lib.hid hf.out⟩, by simp only [intOf]; omega⟩
    · have hkm : k = N := by omega
      have hkn : ¬ (k : Int) < (N : Int) := by omega
      have Hk := Lib.hid hkm
      clear hkm
      go_wp2
      go_ret
      have hf : R = false := by
        rw [HRR.out]
        exact badB_no (fun j hj => hid.out j hj (by have := Hk.out; have := HN.out; omega))
      exact ⟨by rw [hf]; rfl, bel⟩
end Go.Proofs.YtchcmklelmlbgaaGreat.Wal

/- The store's law: light. No statement is proved here. -/
namespace Go.Proofs.YtchcmklelmlbgaaGreat.Sto
open Go.RowKit
open Go.Proofs.YtchcmklelmlbgaaGreat.Geom
open Go.Proofs.YtchcmklelmlbgaaGreat.Sup (Gb gv gcell gthree)
open Go.Proofs.YtchcmklelmlbgaaGreat.Wal (Tx Txs TxAt LightOk LightRet)
set_option linter.unusedVariables false
set_option maxRecDepth 100000
theorem _root_.Go.Proofs.YtchcmklelmlbgaaGreat.Wal.Txs.one {w : World} {Q : Nat → Prop} {b o : Nat} {x : Tx} {Ai : Option Addr} {ci : Nat} (h : TxAt w Q b o x Ai ci) (t : TypeId) :
    Txs (w.alloc (.cells #[.slice Ai x.pages.length ci, .int .u64 (x.gen.toNat : Int)] t)) (fun j => Q j ∨ j = w.heap.size) (some ⟨w.heap.size, 0, none⟩) [x] := fun _ => by
  have F := Blk.new w [.slice Ai x.pages.length ci, .int .u64 (x.gen.toNat : Int)] t
  refine ⟨w.heap.size, 0, rfl, F.lt, .inr rfl, fun i hi => ?_⟩
  have hi0 : i = 0 := by simpa using hi
  subst hi0
  exact ⟨Ai, ci, F.cell (k := 0) (by simp), F.cell (k := 1) (by simp), (h.pgs.on (b1alloc w _)).imp (fun j _ hj => .inl hj), h.cap, h.max⟩
def SLight (ga gd gl : Int) (l : List Ac) : Prop := l.length ≤ 20 ∧ pagesOf ga gd gl ≤ 30 ∧ ∀ i (h : i < l.length), LightOk gl [l[i].tx]
def SLightRet (ga gd gl : Int) (l : List Ac) (e : Ending) : Prop := ∃ B : Bool, e = .returned (.bool B) ∧ (B = true → SLight ga gd gl l)
set_option maxHeartbeats 1000000 in
theorem slight_any (Q : Nat → Prop) (A : Option Addr) (l : List Ac) (c : Nat) (ga gd gl : Int) (w : World) (hG : Gb ga gd gl) (hr : Acs w Q A l) :
    Calls Tryz.prog 8 #[gv ga gd gl, .slice A l.length c] w fun e w' => SLightRet ga gd gl l e ∧ Below w.heap.size w w' := by
  have FG := Blk.new w (gcell ga gd gl) 23
  have b0 := b1alloc w (.cells (gcell ga gd gl).toArray 23)
  obtain ⟨z0, z1, z2⟩ := gthree FG
  have HP := Lib.hid (fun W => Geom.rpages_any ga gd gl W hG.a0 hG.a1 hG.d0 hG.d1 hG.g0 hG.g1)
  have HR := Lib.hid (hr.on b0)
  have HFG := Lib.hid FG
  have HB0 := Lib.hid b0
  clear hr FG hG
  by_cases h20 : (20 : Int) < (l.length : Int)
  · go_enter Tryz.func8, Tryz.ntmps8
    go_wp2_with fail
    go_ret
    exact ⟨⟨false, rfl, fun h => by cases h⟩, b0⟩
  by_cases h30 : (30 : Int) < pagesOf ga gd gl
  · go_enter Tryz.func8, Tryz.ntmps8
    go_wp2_with (go_at_call 22; refine (HP.out _).mono ?_; rintro e w3 ⟨rfl, b3⟩)
    go_ret
    exact ⟨⟨false, rfl, fun h => by cases h⟩, bt HB0.out b3⟩
  go_enter Tryz.func8, Tryz.ntmps8
  go_upto_region 3 with (go_at_call 22; refine (HP.out _).mono ?_; rintro e w3 ⟨rfl, b3⟩)
  have HB3 := Lib.hid b3
  have H20 := Lib.hid h20
  have H30 := Lib.hid h30
  clear b3 h20 h30 b0 z0 z1 z2
  go_wp2_with fail
  go_loopw [5] (fun i wr => ∃ k : Nat, k ≤ l.length ∧ i = .int .i64 (k : Int) ∧ Below w3.heap.size w3 wr ∧ ∀ j (hj : j < l.length), j < k → LightOk gl [l[j].tx]) (fun i _ => l.length - (intOf i).toNat)
  case atStart => exact ⟨0, by omega, rfl, Below.refl _ _, fun j _ h => absurd h (by omega)⟩
  case round =>
    obtain ⟨k, hk, rfl, kr, hL⟩ := hrel
    have bR := bt HB3.out kr
    by_cases hlt : k < l.length
    · have hkn : (k : Int) < (l.length : Int) := by omega
      obtain ⟨b, off, Ai, ci, rfl, hb, hQb, hx⟩ := (HR.out.on bR).get hlt
      obtain ⟨x, hx0⟩ : ∃ x, x = l[k] := ⟨_, rfl⟩
      rw [← hx0] at hx
      obtain ⟨y0, y1, y2⟩ := gthree (HFG.out.on bR)
      have t0 := hx.t.c0
      have t1 := hx.t.c1
      have HLi := Lib.hid (fun W (bW : Below wr.heap.size wr W) => (Wal.light_any _ (some ⟨W.heap.size, 0, none⟩) [x.tx] 1 ga gd gl _ (Txs.one (w := W) (hx.t.keep (Keep.of_below bW []) (fun j _ _ => by simp) hb hQb) 41) : Calls Tryz.prog 33 #[gv ga gd gl, .slice (some ⟨W.heap.size, 0, none⟩) 1 1] _ _))
      have cz : Below wr.heap.size wr wr.drew := (Below.refl _ _).drew
      have Hk1 := Lib.hid hlt
      have hk20 : (k : Int) < 20 := by have := H20.out; omega
      have HKG := Lib.hid (fun W (bW : Below wr.heap.size wr W) => show W.cell? ⟨w.heap.size, 0, none⟩ = some (.int .i64 ga) ∧ W.cell? ⟨w.heap.size, 1, none⟩ = some (.int .i64 gd) ∧ W.cell? ⟨w.heap.size, 2, none⟩ = some (.int .i64 gl) ∧ W.cell? ⟨b, off + k * 3 + 1, none⟩ = some (.slice Ai x.tx.pages.length ci) ∧ W.cell? ⟨b, off + k * 3 + 1 + 1, none⟩ = some (.int .u64 (x.tx.gen.toNat : Int)) from ⟨(gthree ((HFG.out.on bR).on bW)).1, (gthree ((HFG.out.on bR).on bW)).2.1, (gthree ((HFG.out.on bR).on bW)).2.2, (World.cell?_of_block (bW.block _ hb)).trans t0, (World.cell?_of_block (bW.block _ hb)).trans t1⟩)
      have HL := Lib.hid hL
      have HX := Lib.hid hx0
      clear hL hx hx0
      go_upto_region 6 with (fail)
      go_region_held3 (fun W => W.cell? ⟨w.heap.size, 0, none⟩ = some (.int .i64 ga) ∧ W.cell? ⟨w.heap.size, 1, none⟩ = some (.int .i64 gd) ∧ W.cell? ⟨w.heap.size, 2, none⟩ = some (.int .i64 gl) ∧ W.cell? ⟨b, off + k * 3 + 1, none⟩ = some (.slice Ai x.tx.pages.length ci) ∧ W.cell? ⟨b, off + k * 3 + 1 + 1, none⟩ = some (.int .u64 (x.tx.gen.toNat : Int))) (first | exact HKG.out _ cz | exact HKG.out _ (bt cz (b1alloc _ _)) | exact HKG.out _ b6) ((go_at_call 33; refine (HLi.out _ cz).mono ?_; rintro e w5 ⟨⟨B, rfl, hB⟩, b5⟩; have b6 := bt cz (bt (b1alloc _ _) b5)))
      have HB6 := Lib.hid b6
      have HBB := Lib.hid hB
      have Hkr := Lib.hid kr
      have HbR := Lib.hid bR
      clear b6 hB b5 t0 t1 y0 y1 y2 cz kr bR
      cases B with
      | false =>
        go_wp2_with fail
        go_ret
        exact ⟨⟨false, rfl, fun h => by cases h⟩, bt HB0.out (bt HbR.out HB6.out)⟩
      | true =>
        go_wp2_with fail
        case roundEnd =>
          refine ⟨⟨k + 1, Hk1.out, by go_num, bt Hkr.out HB6.out, fun j hj hlt2 => ?_⟩, by have := Hk1.out; simp only [intOf]; omega⟩
          by_cases e : j < k
          · exact HL.out j hj e
          · obtain rfl : j = k := by omega
            have := HBB.out rfl
            rw [HX.out] at this
            exact this
    · obtain rfl : k = l.length := by omega
      have hkn : ¬ (l.length : Int) < (l.length : Int) := by omega
      have HL := Lib.hid hL
      have HK := Lib.hid bR
      clear hL kr bR
      go_wp2_with fail
      go_ret
      exact ⟨⟨true, rfl, fun _ => ⟨by have := H20.out; omega, by have := H30.out; omega, fun i h => HL.out i h h⟩⟩, bt HB0.out HK.out⟩
end Go.Proofs.YtchcmklelmlbgaaGreat.Sto

/- The log, in plain Lean: what stands where the power went: those that were appended, and perhaps the one that was being appended, are read. No statement is proved here. -/
namespace Go.Proofs.YtchcmklelmlbgaaGreat.Wal
open Go.RowKit
open Go.Proofs.YtchcmklelmlbgaaGreat.Geom
open Go.Proofs.YtchcmklelmlbgaaGreat.Disk (St Wr write flush read kept new zero512 restart)
open Go.Proofs.YtchcmklelmlbgaaGreat.Sec (X X0 text rightF place_of)
open Go.Proofs.YtchcmklelmlbgaaGreat.Sup (UpN Gb text_inj)
open Go.Proofs.YtchcmklelmlbgaaGreat.Enc (Itm Enf enf enf_of More kept_of rd rd_good rd_zero rd_sound restart_up)
set_option linter.unusedVariables false
theorem items_append (ga gd gl base : Int) : ∀ (a b : List X) (q : Nat), items ga gd gl base q (a ++ b) = items ga gd gl base q a ++ items ga gd gl base (q + a.length) b
  | [], b, q => by simp [items]
  | x :: a, b, q => by simp only [List.cons_append, items, List.length_cons]; rw [items_append ga gd gl base a b (q + 1), show q + 1 + a.length = q + (a.length + 1) by omega]
theorem tSecs_items (ga gd gl base : Int) (life : UInt64) (q : Nat) (t : Tx) : items ga gd gl base q (tSecs life q t) = dItems ga gd gl base life q t.gen 0 t.pages ++ [(logAt ga gd gl (base + ((q + t.pages.length : Nat) : Int)), dX 5 life q t.pages.length t.gen t.pages.length [])] := by
  have hd := items_data ga gd gl base life q t.gen t.pages 0
  rw [Nat.add_zero] at hd
  unfold tSecs
  rw [items_append, hd, dSecs_len]; rfl
theorem tSecs_right {ga gd gl base : Int} {life : UInt64} {q : Nat} {t : Tx} {n : Nat} (hr : right ga gd gl = true) (hb : 0 ≤ base) (hn : (n : Int) = Geom.sizeOf ga gd gl) (hl : (q : Int) + t.pages.length < gl) (hbd : badB ga gd gl t.pages = false) (j : Nat) (h : j < (tSecs life q t).length) : rightF (pl ga gd gl base (q + j)) (tSecs life q t)[j] = 0 := by
  have hy := right_yes hr
  have hp := pl_bd (base := base) hr hb hn (q + j)
  have hk := tSecs_len life q t
  have h0 : j < (dSecs life q t.gen 0 t.pages ++ [dX 5 life q t.pages.length t.gen t.pages.length []]).length := h
  show rightF _ ((dSecs life q t.gen 0 t.pages ++ [dX 5 life q t.pages.length t.gen t.pages.length []])[j]'h0) = 0
  by_cases h1 : j < t.pages.length
  · rw [List.getElem_append_left (by rw [dSecs_len]; exact h1), dSecs_get _ _ _ _ _ _ _ h1, Nat.zero_add]
    exact dX_right hp.1 hp.2.2 (by decide) (by omega) (badB_of hbd h1).2.2
  · obtain rfl : j = t.pages.length := by omega
    rw [List.getElem_append_right (Nat.le_of_eq (dSecs_len _ _ _ _ _))]
    simp only [dSecs_len, Nat.sub_self, List.getElem_cons_zero]
    exact dX_right hp.1 hp.2.2 (by decide) (by omega) (by simp)
/-- what becomes of an append, whatever the power does -/
structure PutT (ga gd gl base : Int) (n : Nat) (life : UInt64) (q : Nat) (t : Tx) (sm : List (List UInt8)) (st : St) (V : List (List UInt8) × St × Int) : Prop where
  size : V.2.1.size = n
  more : More sm V.1
  old : ∀ T ∈ sm, T ∈ V.1
  text : ∀ T ∈ V.1, T ∈ sm ∨ ∃ (j : Nat) (h : j < (tSecs life q t).length), T = text (pl ga gd gl base (q + j)) (tSecs life q t)[j]
  res : (V.2.2 = 12 ∧ V.2.1.down = true ∧ ¬ st.fuse < 0 ∧ ∃ m : List Wr, V.2.1.all = st.all ++ m ∧ ∀ w ∈ m ++ V.2.1.pend, ∃ j : Nat, j < (tSecs life q t).length ∧ w.1 = (pl ga gd gl base (q + j)).toNat) ∨
    (V.2.2 = 0 ∧ V.2.1.down = false ∧ V.2.1.pend = [] ∧ (st.fuse < 0 → V.2.1.fuse < 0) ∧ ∃ m : List Wr, V.2.1.all = st.all ++ m ∧ m.length = (tSecs life q t).length ∧ ∀ (j : Nat) (h : j < m.length) (h' : j < (tSecs life q t).length), m[j].1 = (pl ga gd gl base (q + j)).toNat ∧ Sup.Good V.1 (pl ga gd gl base (q + j)) (tSecs life q t)[j] m[j].2)
theorem putF_turn {ga gd gl base : Int} {n : Nat} {life : UInt64} {q : Nat} {t : Tx} {sm : List (List UInt8)} {st : St} (hs : st.size = n) (hp : st.pend = []) (hdn : st.down = false) (hr : right ga gd gl = true) (hb : 0 ≤ base) (hn : (n : Int) = Geom.sizeOf ga gd gl) (hl : (q : Int) + t.pages.length < gl) (hbd : badB ga gd gl t.pages = false) :
    PutT ga gd gl base n life q t sm st (putF ga gd gl base life q t.gen t.pages sm st) := by
  have htl := tSecs_len life q t
  have hit := tSecs_items ga gd gl base life q t
  have hget := fun (j : Nat) (h : j < (tSecs life q t).length) => items_get ga gd gl base (tSecs life q t) q j (by rw [items_len]; exact h) h
  unfold putF
  obtain ⟨I1, hI1⟩ : ∃ I1, I1 = dItems ga gd gl base life q t.gen 0 t.pages := ⟨_, rfl⟩
  obtain ⟨i2, hi2⟩ : ∃ i2 : Itm, i2 = (logAt ga gd gl (base + ((q + t.pages.length : Nat) : Int)), dX 5 life q t.pages.length t.gen t.pages.length []) := ⟨_, rfl⟩
  rw [← hI1, ← hi2] at hit
  rw [← hI1, ← hi2]
  have hl1 : I1.length = t.pages.length := by
    have h1 := congrArg List.length hit
    rw [items_len, htl, List.length_append, List.length_singleton] at h1
    omega
  have g1 : ∀ (j : Nat) (h : j < I1.length), ∃ h' : j < (tSecs life q t).length, I1[j] = (pl ga gd gl base (q + j), (tSecs life q t)[j]) := fun j h => by
    have h' : j < (tSecs life q t).length := by omega
    refine ⟨h', ?_⟩
    have e := hget j h'
    have e2 : (items ga gd gl base q (tSecs life q t))[j]'(by rw [items_len]; exact h') = (I1 ++ [i2])[j]'(by simp; omega) := by simp only [hit]
    rw [e2, List.getElem_append_left h] at e
    exact e
  have g2 : ∃ h' : t.pages.length < (tSecs life q t).length, i2 = (pl ga gd gl base (q + t.pages.length), (tSecs life q t)[t.pages.length]) := by
    have h' : t.pages.length < (tSecs life q t).length := by omega
    refine ⟨h', ?_⟩
    have e := hget _ h'
    have e2 : (items ga gd gl base q (tSecs life q t))[t.pages.length]'(by rw [items_len]; exact h') = (I1 ++ [i2])[t.pages.length]'(by simp; omega) := by simp only [hit]
    rw [e2, List.getElem_append_right (by omega)] at e
    simpa [hl1] using e
  obtain ⟨g2l, g2e⟩ := g2
  clear hget hit
  have hri := fun j h => tSecs_right (base := base) (life := life) hr hb hn hl hbd j h
  have hbdp := fun k => pl_bd (base := base) hr hb hn k
  obtain ⟨m1, e1⟩ := enf_of I1 sm st hs hdn (fun i hi => by
    obtain ⟨j, hj, rfl⟩ := List.mem_iff_getElem.1 hi
    obtain ⟨h', e⟩ := g1 j hj
    rw [e]
    exact ⟨hri j h', (hbdp _).1, (hbdp _).2.1⟩)
  have p1 : ∀ w ∈ m1, ∃ j : Nat, j < (tSecs life q t).length ∧ w.1 = (pl ga gd gl base (q + j)).toNat := fun w hw => by
    obtain ⟨j, hj, rfl⟩ := List.mem_iff_getElem.1 hw
    have hj' : j < I1.length := by have := e1.len; omega
    obtain ⟨h', e⟩ := g1 j hj'
    exact ⟨j, h', by rw [(e1.at_ j hj hj').1, e]⟩
  have t1 : ∀ T ∈ (enf I1 sm st).1, T ∈ sm ∨ ∃ (j : Nat) (h : j < (tSecs life q t).length), T = text (pl ga gd gl base (q + j)) (tSecs life q t)[j] := fun T hT => by
    rcases e1.text T hT with h | ⟨i, hi, h⟩
    · exact .inl h
    · obtain ⟨j, hj, rfl⟩ := List.mem_iff_getElem.1 hi
      obtain ⟨h', e⟩ := g1 j hj
      rw [e] at h
      exact .inr ⟨j, h', h⟩
  rcases e1.res with ⟨r1, r2, r3, r4, r5⟩ | ⟨r1, r2, r3, r4, r5, r6⟩
  · rw [if_neg (by rw [r1]; decide)]
    refine ⟨e1.size, e1.more, e1.old, t1, .inl ⟨r1, r2, r5, [], by rw [r3]; simp, fun w hw => ?_⟩⟩
    rw [List.nil_append, r4, hp, List.nil_append] at hw
    exact p1 w hw
  · rw [if_pos r1]
    rw [hp, List.nil_append] at r3
    obtain ⟨D, hD⟩ : ∃ D, D = enf I1 sm st := ⟨_, rfl⟩
    rw [← hD] at e1 t1 r1 r2 r3 r4 r6
    rw [← hD]
    obtain ⟨m2, e2⟩ := enf_of [i2] D.1 D.2.1 e1.size r2 (fun i hi => by
      rw [List.mem_singleton] at hi
      rw [hi, g2e]
      exact ⟨hri _ g2l, (hbdp _).1, (hbdp _).2.1⟩)
    have p2 : ∀ w ∈ m2, ∃ j : Nat, j < (tSecs life q t).length ∧ w.1 = (pl ga gd gl base (q + j)).toNat := fun w hw => by
      obtain ⟨j, hj, rfl⟩ := List.mem_iff_getElem.1 hw
      have hj' : j < [i2].length := by have := e2.len; omega
      obtain rfl : j = 0 := by simpa using hj'
      refine ⟨t.pages.length, g2l, ?_⟩
      rw [(e2.at_ 0 hj hj').1]
      show i2.1.toNat = _
      rw [g2e]
    have t2 : ∀ T ∈ (enf [i2] D.1 D.2.1).1, T ∈ sm ∨ ∃ (j : Nat) (h : j < (tSecs life q t).length), T = text (pl ga gd gl base (q + j)) (tSecs life q t)[j] := fun T hT => by
      rcases e2.text T hT with h | ⟨i, hi, h⟩
      · exact t1 T h
      · rw [List.mem_singleton] at hi
        rw [hi, g2e] at h
        exact .inr ⟨_, g2l, h⟩
    refine ⟨e2.size, e1.more.trans e2.more, fun T hT => e2.old T (e1.old T hT), t2, ?_⟩
    rcases e2.res with ⟨s1, s2, s3, s4, s5⟩ | ⟨s1, s2, s3, s4, s5, s6⟩
    · refine .inl ⟨s1, s2, fun e => s5 (r6 e), m1, by rw [s3, r3], fun w hw => ?_⟩
      rw [s4, r4, List.nil_append] at hw
      rcases List.mem_append.1 hw with hw | hw
      · exact p1 w hw
      · exact p2 w hw
    · refine .inr ⟨s1, s2, s4, fun e => s6 (r6 e), m1 ++ m2, by rw [s3, r3, r4, List.nil_append, List.append_assoc], by rw [List.length_append, r5, s5, htl, hl1]; rfl, fun j h h' => ?_⟩
      by_cases hj : j < m1.length
      · rw [List.getElem_append_left hj]
        have hj' : j < I1.length := by omega
        obtain ⟨h'', e⟩ := g1 j hj'
        obtain ⟨a1, a2⟩ := e1.at_ j hj hj'
        rw [e] at a1 a2
        exact ⟨a1, e2.more _ _ _ a2⟩
      · have s5' : m2.length = 1 := s5
        obtain rfl : j = t.pages.length := by rw [List.length_append] at h; omega
        obtain ⟨a1, a2⟩ := e2.at_ 0 (by omega) (by simp)
        rw [List.getElem_append_right (by omega)]
        simp only [r5, hl1, Nat.sub_self]
        have g21 : i2.1 = pl ga gd gl base (q + t.pages.length) := by rw [g2e]
        have g22 : i2.2 = (tSecs life q t)[t.pages.length] := by rw [g2e]
        rw [show [i2][0] = i2 from rfl, g21] at a1 a2
        rw [g22] at a2
        exact ⟨a1, a2⟩
/-- the log of a life has these sectors, by what was summed: no other sector of the life is ever read in its places -/
structure LogC (ga gd gl base : Int) (n : Nat) (life : UInt64) (sm : List (List UInt8)) (all : List Wr) (xs ys : List X) : Prop where
  good : ∀ k (h : k < xs.length), Sup.Good sm (pl ga gd gl base k) xs[k] (kept all (pl ga gd gl base k).toNat)
  only : ∀ (k : Nat) (x : X), (k : Int) < gl → rightF (pl ga gd gl base k) x = 0 → text (pl ga gd gl base k) x ∈ sm → x.life = life → (ys)[k]? = some x
theorem text_at {ga gd gl base : Int} {n : Nat} (hr : right ga gd gl = true) (hb : 0 ≤ base) (hn : (n : Int) = Geom.sizeOf ga gd gl) {j k : Nat} (hj : (j : Int) < gl) (hk : (k : Int) < gl) {x y : X} (hx : rightF (pl ga gd gl base k) x = 0) (hy : rightF (pl ga gd gl base j) y = 0) (h : text (pl ga gd gl base k) x = text (pl ga gd gl base j) y) : x = y ∧ k = j := by
  have e := text_inj hx hy h
  subst e
  have e2 := place_of hx hy h.symm
  exact ⟨rfl, (pl_inj hr hb hj hk e2).symm⟩
theorem LogC.kept {ga gd gl base : Int} {n : Nat} {life : UInt64} {sm sm' : List (List UInt8)} {all m : List Wr} {xs ys : List X} (h : LogC ga gd gl base n life sm all xs ys) (hr : right ga gd gl = true) (hb : 0 ≤ base) (hn : (n : Int) = Geom.sizeOf ga gd gl) (hl : (xs.length : Int) ≤ gl) (hm : More sm sm') {q e : Nat} (hq : xs.length ≤ q) (he : ((q + e : Nat) : Int) ≤ gl) (hw : ∀ w ∈ m, ∃ j : Nat, j < e ∧ w.1 = (pl ga gd gl base (q + j)).toNat) : ∀ k (h : k < xs.length), Sup.Good sm' (pl ga gd gl base k) xs[k] (Disk.kept (all ++ m) (pl ga gd gl base k).toNat) := fun k hk => by
  rw [Disk.kept_append all m _ (fun w h1 h2 => by
    obtain ⟨j, hj, e1⟩ := hw w h1
    rw [e1] at h2
    have p1 := pl_bd (base := base) hr hb hn (q + j)
    have p2 := pl_bd (base := base) hr hb hn k
    have := pl_inj hr hb (base := base) (j := q + j) (k := k) (by omega) (by omega) (by omega)
    omega)]
  exact hm _ _ _ (h.good k hk)
theorem LogC.only' {ga gd gl base : Int} {n : Nat} {life : UInt64} {sm sm' : List (List UInt8)} {all : List Wr} {xs : List X} {t : Tx} (h : LogC ga gd gl base n life sm all xs xs) (hr : right ga gd gl = true) (hb : 0 ≤ base) (hn : (n : Int) = Geom.sizeOf ga gd gl) (hl : (xs.length : Int) + t.pages.length < gl) (hbd : badB ga gd gl t.pages = false) (ht : ∀ T ∈ sm', T ∈ sm ∨ ∃ (j : Nat) (h : j < (tSecs life xs.length t).length), T = text (pl ga gd gl base (xs.length + j)) (tSecs life xs.length t)[j]) :
    ∀ (k : Nat) (x : X), (k : Int) < gl → rightF (pl ga gd gl base k) x = 0 → text (pl ga gd gl base k) x ∈ sm' → x.life = life → (xs ++ tSecs life xs.length t)[k]? = some x := fun k x hk hx hT hlf => by
  rcases ht _ hT with h1 | ⟨j, hj, e⟩
  · have h2 := h.only k x hk hx h1 hlf
    have h3 : k < xs.length := by
      rcases Nat.lt_or_ge k xs.length with h4 | h4
      · exact h4
      · rw [List.getElem?_eq_none h4] at h2; cases h2
    rw [List.getElem?_append_left h3]; exact h2
  · have htl := tSecs_len life xs.length t
    obtain ⟨e1, e2⟩ := text_at hr hb hn (j := xs.length + j) (by omega) hk hx (tSecs_right hr hb hn hl hbd j hj) e
    rw [e2, List.getElem?_append_right (by omega), Nat.add_sub_cancel_left, e1, List.getElem?_eq_getElem hj]
/-- an append that is told -/
theorem LogC.append {ga gd gl base : Int} {n : Nat} {life : UInt64} {sm : List (List UInt8)} {st : St} {xs : List X} {t : Tx} {V : List (List UInt8) × St × Int} (h : LogC ga gd gl base n life sm st.all xs xs) (hr : right ga gd gl = true) (hb : 0 ≤ base) (hn : (n : Int) = Geom.sizeOf ga gd gl) (hl : (xs.length : Int) + t.pages.length < gl) (hbd : badB ga gd gl t.pages = false) (hV : PutT ga gd gl base n life xs.length t sm st V) (hz : V.2.2 = 0) : LogC ga gd gl base n life V.1 V.2.1.all (xs ++ tSecs life xs.length t) (xs ++ tSecs life xs.length t) := by
  have htl := tSecs_len life xs.length t
  refine ⟨fun k hk => ?_, h.only' hr hb hn hl hbd hV.text⟩
  rcases hV.res with ⟨r, _⟩ | ⟨_, _, _, _, m, r1, r2, r3⟩
  · rw [r] at hz; cases hz
  have hat : ∀ k (h : k < m.length), ∃ h' : k < (tSecs life xs.length t).length, m[k].1 = (pl ga gd gl base (xs.length + k)).toNat := fun k h => ⟨by omega, (r3 k h (by omega)).1⟩
  rw [r1]
  by_cases h1 : k < xs.length
  · rw [List.getElem_append_left h1]
    exact h.kept hr hb hn (by omega) hV.more (Nat.le_refl _) (e := (tSecs life xs.length t).length) (by omega) (fun w hw => by
      obtain ⟨j, hj, rfl⟩ := List.mem_iff_getElem.1 hw
      obtain ⟨h', e⟩ := hat j hj
      exact ⟨j, h', e⟩) k h1
  · rw [List.length_append] at hk
    rw [List.getElem_append_right (by omega)]
    obtain ⟨a1, a2⟩ := r3 (k - xs.length) (by omega) (by omega)
    rw [show xs.length + (k - xs.length) = k by omega] at a1 a2
    rw [← a1, kept_of st.all m (k - xs.length) (by omega) (fun a b ha hb' hab => ?_)]
    · exact a2
    · obtain ⟨ha', ea⟩ := hat a ha
      obtain ⟨hb'', eb⟩ := hat b hb'
      rw [ea, eb] at hab
      have p1 := pl_bd (base := base) hr hb hn (xs.length + a)
      have p2 := pl_bd (base := base) hr hb hn (xs.length + b)
      have := pl_inj hr hb (base := base) (j := xs.length + a) (k := xs.length + b) (by omega) (by omega) (by omega)
      omega
/-- an append in which the power goes: and behind it, whatever becomes of what was pending -/
theorem LogC.crash {ga gd gl base : Int} {n : Nat} {life : UInt64} {sm : List (List UInt8)} {st : St} {xs : List X} {t : Tx} {V : List (List UInt8) × St × Int} (h : LogC ga gd gl base n life sm st.all xs xs) (hr : right ga gd gl = true) (hb : 0 ≤ base) (hn : (n : Int) = Geom.sizeOf ga gd gl) (hl : (xs.length : Int) + t.pages.length < gl) (hbd : badB ga gd gl t.pages = false) (hV : PutT ga gd gl base n life xs.length t sm st V) (hz : V.2.2 ≠ 0) (keep : List Int) (torn at_ : Int) :
    UpN (restart V.2.1 keep torn at_) n ∧ LogC ga gd gl base n life V.1 (restart V.2.1 keep torn at_).all xs (xs ++ tSecs life xs.length t) := by
  have htl := tSecs_len life xs.length t
  obtain ⟨u, _, m', e, hm'⟩ := restart_up hV.size keep torn at_
  refine ⟨u, fun k hk => ?_, h.only' hr hb hn hl hbd hV.text⟩
  rcases hV.res with ⟨_, _, _, m, r1, r2⟩ | ⟨r, _⟩
  rotate_left
  · exact absurd r hz
  rw [e, r1, List.append_assoc]
  exact h.kept hr hb hn (by omega) hV.more (Nat.le_refl _) (e := (tSecs life xs.length t).length) (by omega) (fun w hw => by
    rcases List.mem_append.1 hw with hw | hw
    · exact r2 w (List.mem_append.2 (.inl hw))
    · obtain ⟨v, hv, e⟩ := hm' w hw
      obtain ⟨j, hj, e2⟩ := r2 v (List.mem_append.2 (.inr hv))
      exact ⟨j, hj, e.trans e2⟩) k hk
end Go.Proofs.YtchcmklelmlbgaaGreat.Wal

/- The log, in plain Lean: what is scanned where the power went. No statement is proved here. -/
namespace Go.Proofs.YtchcmklelmlbgaaGreat.Wal
open Go.RowKit
open Go.Proofs.YtchcmklelmlbgaaGreat.Geom
open Go.Proofs.YtchcmklelmlbgaaGreat.Disk (St Wr write flush read kept new zero512 restart)
open Go.Proofs.YtchcmklelmlbgaaGreat.Sec (X X0 text rightF place_of)
open Go.Proofs.YtchcmklelmlbgaaGreat.Sup (UpN Gb text_inj)
open Go.Proofs.YtchcmklelmlbgaaGreat.Enc (Itm Enf enf enf_of More kept_of rd rd_good rd_zero rd_sound restart_up)
set_option linter.unusedVariables false
theorem find_stop (good : Nat → Bool) : ∀ N : Nat, ∃ K, K ≤ N ∧ (∀ j, j < K → good j = true) ∧ (K = N ∨ good K = false)
  | 0 => ⟨0, Nat.le_refl _, fun j h => absurd h (Nat.not_lt_zero _), .inl rfl⟩
  | N + 1 => by
    obtain ⟨K, h1, h2, h3⟩ := find_stop good N
    rcases h3 with h3 | h3
    · subst h3
      cases hg : good K with
      | true => exact ⟨K + 1, Nat.le_refl _, fun j hj => by
          rcases Nat.lt_or_ge j K with h | h
          · exact h2 j h
          · obtain rfl : j = K := by omega
            exact hg, .inl rfl⟩
      | false => exact ⟨K, by omega, h2, .inr hg⟩
    · exact ⟨K, by omega, h2, .inr h3⟩
theorem dSecs_take (life : UInt64) (q : Nat) (gen : UInt64) : ∀ (l : List Pg) (i j : Nat), (dSecs life q gen i l).take j = dSecs life q gen i (l.take j)
  | [], i, j => by simp [dSecs]
  | x :: r, i, 0 => by simp [dSecs]
  | x :: r, i, j + 1 => by simp only [dSecs, List.take_succ_cons]; rw [dSecs_take life q gen r (i + 1) j]
theorem range_num {rdf : Nat → X} {S : List X} {K : Nat} (hK : K ≤ S.length) (h : ∀ k, k < K → S[k]? = some (rdf k)) : (List.range K).map (fun j => (j, rdf j)) = num 0 (S.take K) := by
  have h1 := num_range (S.take K)
  have h2 : (S.take K).length = K := by rw [List.length_take]; omega
  rw [h2] at h1
  rw [← h1]
  apply List.map_congr_left
  intro j hj
  have hj' := List.mem_range.1 hj
  have h3 : (S.take K).getD j X0 = rdf j := by
    rw [List.getD, List.getElem?_take_of_lt hj', h j hj']; rfl
  rw [h3]
theorem LogC.read {ga gd gl base : Int} {n : Nat} {life : UInt64} {sm : List (List UInt8)} {st : St} {xs ys : List X} (h : LogC ga gd gl base n life sm st.all xs ys) (hu : UpN st n) (hr : right ga gd gl = true) (hb : 0 ≤ base) (hn : (n : Int) = Geom.sizeOf ga gd gl) {k : Nat} (hk : k < xs.length) : rdL sm st ga gd gl base k = (xs[k], 0) := by
  have p := pl_bd (base := base) hr hb hn k
  exact rd_good hu p.1 p.2.1 (h.good k hk)
theorem LogC.sound {ga gd gl base : Int} {n : Nat} {life : UInt64} {sm : List (List UInt8)} {st : St} {xs ys : List X} (h : LogC ga gd gl base n life sm st.all xs ys) {k : Nat} (hk : (k : Int) < gl) (hg : goodL sm st ga gd gl base life k = true) : ys[k]? = some (rdL sm st ga gd gl base k).1 := by
  unfold goodL at hg
  simp only [Bool.and_eq_true, decide_eq_true_eq] at hg
  obtain ⟨r1, r2⟩ := rd_sound hg.1
  exact h.only k _ hk r1 r2 hg.2.1
theorem LogC.isgood {ga gd gl base : Int} {n : Nat} {life : UInt64} {sm : List (List UInt8)} {st : St} {ts : List Tx} {ys : List X} (h : LogC ga gd gl base n life sm st.all (allSecs life 0 ts) ys) (hu : UpN st n) (hr : right ga gd gl = true) (hb : 0 ≤ base) (hn : (n : Int) = Geom.sizeOf ga gd gl) {k : Nat} (hk : k < (allSecs life 0 ts).length) : goodL sm st ga gd gl base life k = true := by
  have e := h.read hu hr hb hn hk
  have a := allSecs_at life ts 0 k hk
  unfold goodL
  rw [e]
  simp only [a.1, a.2]
  simp
/-- what is scanned: just these -/
theorem LogC.scan {ga gd gl base : Int} {n : Nat} {life : UInt64} {sm : List (List UInt8)} {st : St} {ts : List Tx} (h : LogC ga gd gl base n life sm st.all (allSecs life 0 ts) (allSecs life 0 ts)) (hu : UpN st n) (hr : right ga gd gl = true) (hb : 0 ≤ base) (hn : (n : Int) = Geom.sizeOf ga gd gl) (hl : ((allSecs life 0 ts).length : Int) ≤ gl) (hx : ∀ t ∈ ts, ∀ x ∈ t.pages, 0 ≤ x.n ∧ x.n < pagesOf ga gd gl) : scanTx sm st ga gd gl base life = ts := by
  have hy := right_yes hr
  have hp := pagesOf_bd ga gd gl
  unfold scanTx
  refine scan_all (life := life) (by omega) (by omega) (by omega) hx (fun k hk => ?_) ?_
  · exact ⟨by rw [h.read hu hr hb hn hk], h.isgood hu hr hb hn hk⟩
  · by_cases hN : (allSecs life 0 ts).length = gl.toNat
    · exact .inl hN
    · right
      cases hg : goodL sm st ga gd gl base life (allSecs life 0 ts).length with
      | false => rfl
      | true =>
        have := h.sound (by omega) hg
        rw [List.getElem?_eq_none (Nat.le_refl _)] at this; cases this
/-- all that was summed is of one life -/
def Lives (life : UInt64) (sm : List (List UInt8)) : Prop := ∀ (p : Int) (x : X), rightF p x = 0 → text p x ∈ sm → x.life = life
theorem Lives.put {ga gd gl base : Int} {n : Nat} {life : UInt64} {q : Nat} {t : Tx} {sm : List (List UInt8)} {st : St} {V : List (List UInt8) × St × Int} (h : Lives life sm) (hV : PutT ga gd gl base n life q t sm st V) (hr : right ga gd gl = true) (hb : 0 ≤ base) (hn : (n : Int) = Geom.sizeOf ga gd gl) (hl : (q : Int) + t.pages.length < gl) (hbd : badB ga gd gl t.pages = false) : Lives life V.1 := fun p x hx hT => by
  rcases hV.text _ hT with h1 | ⟨j, hj, e⟩
  · exact h p x hx h1
  · rw [text_inj hx (tSecs_right hr hb hn hl hbd j hj) e]
    exact (tSecs_at life q t j hj).1
theorem putF_lim (ga gd gl base : Int) (life : UInt64) (q : Nat) (t : Tx) (sm : List (List UInt8)) (st : St) : (putF ga gd gl base life q t.gen t.pages sm st).1.length ≤ sm.length + (t.pages.length + 1) ∧ (putF ga gd gl base life q t.gen t.pages sm st).2.1.sz ≤ st.sz + 2 * (t.pages.length + 2) := by
  have hd := items_data ga gd gl base life q t.gen t.pages 0
  rw [Nat.add_zero] at hd
  have hl : (dItems ga gd gl base life q t.gen 0 t.pages).length = t.pages.length := by rw [← hd, items_len, dSecs_len]
  obtain ⟨l1, l2⟩ := Enc.enf_lim (dItems ga gd gl base life q t.gen 0 t.pages) sm st
  rw [hl] at l1 l2
  unfold putF
  split
  · obtain ⟨l3, l4⟩ := Enc.enf_lim [(logAt ga gd gl (base + ((q + t.pages.length : Nat) : Int)), dX 5 life q t.pages.length t.gen t.pages.length [])] (enf (dItems ga gd gl base life q t.gen 0 t.pages) sm st).1 (enf (dItems ga gd gl base life q t.gen 0 t.pages) sm st).2.1
    simp only [List.length_cons, List.length_nil] at l3 l4
    omega
  · omega
end Go.Proofs.YtchcmklelmlbgaaGreat.Wal
