/- The walk of the reference's Of. -/
import Derived.Test.YtdkcdojcglmlbaaSec4
import Derived.Deep.RegionHeld3
import Derived.Deep.RegionWith
namespace Go.Proofs.Ytdkcdojcglmlbaa.Sec
open Go.RowKit
open Go.Proofs.Ytdkcdojcglmlbaa.Num (putL getN)
set_option linter.unusedVariables false
set_option maxRecDepth 100000
/-- a sector comes back, its bytes readable, and something beside it -/
def RetY (x : X) (t : Value) (e : Ending) (w' : World) : Prop := ∃ A c, e = .returned (.tuple #[xv x A c, t]) ∧ Rd w' w'.heap.size A (x.body.map e8)
theorem RetY.zero (t : Value) (w' : World) : RetY X0 t (.returned (.tuple #[.agg #[.int .i64 0, .int .u64 0, .int .i64 0, .int .u64 0, .slice none 0 0], t])) w' := ⟨none, 0, rfl, Rd.nil _ _ _⟩
theorem bset5 {B g : Nat} {a W : World} {v0 v1 v2 v3 v4 : Value} (h : Below B a W) (hB : B ≤ g) : Below B a (((((W.setCell ⟨g, 0, none⟩ v0).setCell ⟨g, 1, none⟩ v1).setCell ⟨g, 2, none⟩ v2).setCell ⟨g, 3, none⟩ v3).setCell ⟨g, 4, none⟩ v4) := bset (bset (bset (bset (bset h hB _) hB _) hB _) hB _) hB _
/-- what comes back of bytes that may be a sector's -/
def RetO : Option X → Ending → World → Prop
  | some x, e, w' => RetY x (.bool true) e w'
  | none, e, w' => RetY X0 (.bool false) e w'
theorem rd_cut {w : World} {B blk off : Nat} {b : List UInt8} (h : Rd w B (some ⟨blk, off, none⟩) (b.map e8)) (i n : Nat) : Rd w B (some ⟨blk, off + i, none⟩) ((cut b i n).map e8) := by
  have := (h.drop i).take n
  rw [← List.map_drop, ← List.map_take] at this
  simpa [Addr.add_lit, cut] using this
theorem reads_no {p : Int} {b : List UInt8} (h : 479 < lenB b) : reads p b = none := if_neg (by omega)
theorem reads_bad {p : Int} {b : List UInt8} (h : rightF p (ofB b) ≠ 0) : reads p b = none := if_neg (fun e => h e.2.1)
theorem reads_un {p : Int} {b : List UInt8} (h : text p (ofB b) ≠ b) : reads p b = none := if_neg (fun e => h e.2.2)
theorem reads_yes {p : Int} {b : List UInt8} (h0 : lenB b ≤ 479) (h1 : rightF p (ofB b) = 0) (h : text p (ofB b) = b) : reads p b = some (ofB b) := if_pos ⟨h0, h1, h⟩
set_option maxHeartbeats 4000000 in
theorem rof_any (p : Int) (blk off : Nat) (b : List UInt8) (n c : Nat) (w : World) (hp0 : -9223372036854775808 ≤ p) (hp1 : p ≤ 9223372036854775807) (hn : n = b.length) (hr : Rd w w.heap.size (some ⟨blk, off, none⟩) (b.map e8)) (h5 : 504 ≤ b.length) (h55 : b.length ≤ 100000) (hc : n ≤ c) (hcm : c ≤ maxLen) :
    Calls Try.prog 49 #[.int .i64 p, .slice (some ⟨blk, off, none⟩) n c] w fun e w' => RetO (reads p b) e w' ∧ Below w.heap.size w w' := by
  subst hn
  obtain ⟨g0, g11, gl, e3, e15, g3, g15⟩ := nums (b := b) (by omega)
  unfold maxLen at hcm
  have rN := fun W (bW : Below w.heap.size w W) i s d (hs : 1 ≤ s) (h8 : s ≤ 8) (hi : i + s ≤ b.length) => Num.rget_any (some ⟨blk, off + i, none⟩) (cut b i s) s d W.heap.size W (cut_len hi).symm ((rd_cut hr i s).on bW) (by rw [cut_len hi]; omega) (by rw [cut_len hi]; omega)
  have rM := fun W (bW : Below w.heap.size w W) i s d (hs : 1 ≤ s) (h8 : s ≤ 7) (hi : i + s ≤ b.length) => number_any (some ⟨blk, off + i, none⟩) (cut b i s) s d W.heap.size W (cut_len hi).symm ((rd_cut hr i s).on bW) (by rw [cut_len hi]; omega) (by rw [cut_len hi]; omega)
  obtain ⟨_, _, hh, hbb, hcell⟩ := hr.get (k := 0) (by rw [List.length_map]; omega)
  injection hh with hh
  injection hh with hh1 hh2
  subst hh1 hh2
  obtain ⟨k0, hk0⟩ : ∃ k, k = getN (cut b 0 1) := ⟨_, rfl⟩
  have hcell2 : w.cell? ⟨blk, off, none⟩ = some (.int .u8 (k0 : Int)) := by
    rw [Nat.add_zero, List.getElem_map] at hcell
    rw [hcell, hk0]
    have : cut b 0 1 = [b[0]'(by omega)] := by
      cases b with
      | nil => simp at h5
      | cons x xs => simp [cut]
    rw [this]; simp [getN, e8]
  obtain ⟨k11, hk11⟩ : ∃ k, k = getN (cut b 11 4) := ⟨_, rfl⟩
  obtain ⟨k3, hk3⟩ : ∃ k, k = getN (cut b 3 8) := ⟨_, rfl⟩
  obtain ⟨k15, hk15⟩ : ∃ k, k = getN (cut b 15 8) := ⟨_, rfl⟩
  obtain ⟨m, hm⟩ : ∃ k, k = lenB b := ⟨_, rfl⟩
  rw [← hk0] at g0; rw [← hk11] at g11; rw [← hk3] at g3 e3; rw [← hk15] at g15 e15; rw [← hm] at gl
  have RN := Lib.hid rN
  have RM := Lib.hid rM
  have hxv : m ≤ 479 → ∀ A c', xv (ofB b) A c' = .agg #[.int .i64 (k0 : Int), .int .u64 (k3 : Int), .int .i64 (k11 : Int), .int .u64 (k15 : Int), .slice A m c'] := fun h A c' => by
    have : (ofB b).body.length = m := by rw [hm]; exact cut_len (by omega)
    unfold xv
    rw [e3, e15, this, hk0, hk11]; rfl
  have Hx := Lib.hid hxv
  have H0 := Lib.hid hk0
  have H3 := Lib.hid hk3
  have H11 := Lib.hid hk11
  have H15 := Lib.hid hk15
  have Hm := Lib.hid hm
  have Hr := Lib.hid hr
  clear hcell hxv hk0 hk3 hk11 hk15 hm e3 e15 rN rM hr
  go_enter Try.func49, Try.ntmps49
  go_wp2_with fail
  refine (RN.out _ (b1alloc _ _) 3 8 _ (by omega) (by omega) (by omega)).mono ?_
  rintro e w1 ⟨rfl, rfl⟩
  rw [← H3.out]
  go_wp2_with fail
  refine (RN.out _ (b1alloc _ _) 15 8 _ (by omega) (by omega) (by omega)).mono ?_
  rintro e w1 ⟨rfl, rfl⟩
  rw [← H15.out]
  go_wp2_with fail
  refine (RM.out _ (b1alloc _ _) 23 2 _ (by omega) (by omega) (by omega)).mono ?_
  rintro e w1 ⟨rfl, rfl⟩
  rw [show getN (cut b 23 2) = m from Hm.out.symm]
  have B1 := Blk.new w [.int .i64 0, .int .u64 0, .int .i64 0, .int .u64 0, .slice none 0 0] 83
  obtain ⟨c0, c1, c2, c3, c4, fr⟩ := five5 B1
  by_cases hm : m ≤ 479
  · have hcW := Lib.hid (fun W (bW : Below w.heap.size w W) => (bW.cell (p := ⟨blk, off, none⟩) hbb).trans hcell2)
    have hm' : (m : Int) ≤ 479 := by omega
    have hlI : (504 : Int) ≤ (b.length : Int) := by omega
    clear hcell2
    go_wp2_with fail
    have bw1 := b1alloc w (.cells #[.int .i64 0, .int .u64 0, .int .i64 0, .int .u64 0, .slice none 0 0] 83)
    obtain ⟨w1, hw1⟩ : ∃ w1, w1 = w.alloc (.cells #[.int .i64 0, .int .u64 0, .int .i64 0, .int .u64 0, .slice none 0 0] 83) := ⟨_, rfl⟩
    rw [← hw1] at bw1 B1 ⊢
    have hs1 : w.heap.size < w1.heap.size := B1.lt
    have hs1' : w.heap.size ≤ w1.heap.size := Nat.le_of_lt hs1
    have bd : Below w.heap.size w w1.drew := bw1.drew
    obtain ⟨q, hq⟩ : ∃ q : Nat, q = 25 + m := ⟨_, rfl⟩
    have hwr : IntKind.i64.wrap ((25 : Int) + (m : Int)) = (q : Int) := by rw [wrap_small (by omega) (by omega)]; omega
    have hq1 : (25 : Int) ≤ (q : Int) := by omega
    have hq2 : (q : Int) ≤ 504 := by omega
    have hq3 : (q : Int) ≤ (b.length : Int) := by omega
    have hq4 : (q : Int) ≤ (c : Int) := by omega
    have hq5 : q ≤ c := by omega
    have hk0w : IntKind.i64.wrap (k0 : Int) = (k0 : Int) := wrap_small (by omega) (by omega)
    have hb0 : 0 < b.length := by omega
    have hb0' : (0 : Int) < (b.length : Int) := by omega
    have hb15 : (15 : Int) ≤ (b.length : Int) := by omega
    have hc15 : (15 : Int) ≤ (c : Int) := by omega
    have hb15' : 15 ≤ b.length := by omega
    have hc15' : 15 ≤ c := by omega
    have hc11 : ¬ c = 11 := by omega
    have hc25 : ¬ c = 25 := by omega
    have hc11' : ¬ (c : Int) = 11 := by omega
    have hc25' : ¬ (c : Int) = 25 := by omega
    have Hq := Lib.hid hq
    clear hw1 c0 c1 c2 c3 c4 fr hq
    go_region_held3 (fun w' => w'.cell? ⟨blk, off, none⟩ = some (.int .u8 (k0 : Int))) (first | exact hcW.out _ bd | exact hcW.out _ (bt bd (b1alloc _ _)) | exact hcW.out _ (bset (bset (bset (bset (bset (bt bd (b1alloc _ _)) hs1' _) hs1' _) hs1' _) hs1' _) hs1' _)) ((go_at_call 107; (first | refine (RM.out _ bd 11 4 _ (by omega) (by omega) (by omega)).mono ?_ | refine (RM.out _ (bt bd (b1alloc _ _)) 11 4 _ (by omega) (by omega) (by omega)).mono ?_); rintro e w2 ⟨rfl, rfl⟩; rw [← H11.out]))
    all_goals
      have hqm : q - 25 = m := by rw [Hq.out]; omega
      simp only [hqm]
      have B2 : Blk (w1.alloc (.cells #[.int .i64 (k0 : Int), .int .u64 (k3 : Int), .int .i64 (k11 : Int), .int .u64 (k15 : Int), .slice (some ⟨blk, off + 25, none⟩) m (c - 25)] 83)).drew w1.heap.size [.int .i64 (k0 : Int), .int .u64 (k3 : Int), .int .i64 (k11 : Int), .int .u64 (k15 : Int), .slice (some ⟨blk, off + 25, none⟩) m (c - 25)] := Blk.new w1 _ _
      have B1' : Blk (w1.alloc (.cells #[.int .i64 (k0 : Int), .int .u64 (k3 : Int), .int .i64 (k11 : Int), .int .u64 (k15 : Int), .slice (some ⟨blk, off + 25, none⟩) m (c - 25)] 83)).drew w.heap.size [.int .i64 0, .int .u64 0, .int .i64 0, .int .u64 0, .slice none 0 0] := B1.alloc _
      have bw2 : Below w.heap.size w (w1.alloc (.cells #[.int .i64 (k0 : Int), .int .u64 (k3 : Int), .int .i64 (k11 : Int), .int .u64 (k15 : Int), .slice (some ⟨blk, off + 25, none⟩) m (c - 25)] 83)).drew := (bt bw1 (b1alloc _ _)).drew
      obtain ⟨w2, hw2⟩ : ∃ w2, w2 = (w1.alloc (.cells #[.int .i64 (k0 : Int), .int .u64 (k3 : Int), .int .i64 (k11 : Int), .int .u64 (k15 : Int), .slice (some ⟨blk, off + 25, none⟩) m (c - 25)] 83)).drew := ⟨_, rfl⟩
      rw [← hw2] at B2 B1' bw2 ⊢
      clear hw2 hwr hq1 hq2 hq3 hq4 hq5 hqm hc11 hc11' hc25 hc25' hk0w hb0 hb0' hb15 hb15' hc15 hc15' B1
      have hRD : Rd w2 w2.heap.size (some ⟨blk, off + 25, none⟩) ((ofB b).body.map e8) := by
        have := rd_cut (Hr.out.on bw2) 25 m
        rw [Hm.out] at this; exact this
      have hlm : (ofB b).body.length = m := by rw [Hm.out]; exact cut_len (by rw [← Hm.out]; omega)
      have hRight := rright_any p (ofB b) (some ⟨blk, off + 25, none⟩) (c - 25) w2
      have hText := fun W (bW : Below w2.heap.size w2 W) (h : rightF p (ofB b) = 0) => rtext_any p (ofB b) (some ⟨blk, off + 25, none⟩) (c - 25) W (hRD.on bW) h
      have ex := Hx.out hm (some ⟨blk, off + 25, none⟩) (c - 25)
      unfold xv at ex
      rw [ex] at hRight hText
      have HRight := Lib.hid hRight
      have HText := Lib.hid hText
      have HRD := Lib.hid hRD
      obtain ⟨c0, c1, c2, c3, c4, fr⟩ := five5 B2
      obtain ⟨T, hT⟩ : ∃ T, T = text p (ofB b) := ⟨_, rfl⟩
      have hTl : T.length = 504 := by rw [hT, text_len]
      obtain ⟨f, hf⟩ : ∃ f, f = rightF p (ofB b) := ⟨_, rfl⟩
      have HTl := Lib.hid hTl
      have HT := Lib.hid hT
      have Hf := Lib.hid hf
      clear ex hRight hText hRD hlm hT hf hTl
      by_cases h0 : f = 0
      · have hf0 := beq_yes h0
        have hf1 := bne_no h0
        by_cases hTb : T = b
        · have hres := Lib.hid (reads_yes (p := p) (b := b) (by rw [← Hm.out]; exact hm) (by rw [← Hf.out]; exact h0) (by rw [← HT.out]; exact hTb))
          have HS := Lib.hid (R1.sameB_of hTb)
          clear hTb
          go_wp2_with (first
          | (go_at_call 60; refine (HRight.out).mono ?_; rintro e w3 ⟨rfl, b3⟩; rw [← Hf.out]; have B3 := B1'.on b3; obtain ⟨e0, e1, e2, e3, e4, fr3⟩ := five5 B3; have bw3 := bt bw2 b3; obtain ⟨d0, d1, d2, d3, d4, fd⟩ := five5 (B2.on b3))
          | (go_at_call 62; refine (HText.out _ b3 (by rw [← Hf.out]; exact h0)).mono ?_; rintro e w4 ⟨A4, d4', rfl, own4, b4⟩; rw [← HT.out] at own4 ⊢; have bw4 := bt bw3 b4; have B3 := B3.on b4; obtain ⟨e0, e1, e2, e3, e4, fr3⟩ := five5 B3; have rd4 := Rd.own own4; have rdb := Hr.out.on bw4)
          | (go_at_call 19; refine (R1.same_any A4 (some ⟨blk, off, none⟩) T b _ _ d4' c w4 rfl rfl rd4 rdb (by rw [HTl.out]; omega) (by omega)).mono ?_; rintro e w5 ⟨rfl, b5⟩; rw [HS.out]; have bw5 := bt bw4 b5; have B3 := B3.on b5; obtain ⟨e0, e1, e2, e3, e4, fr3⟩ := five5 B3; obtain ⟨d0, d1, d2, d3, d4, fd⟩ := five5 ((B2.on b3).on (bt b4 b5))))
          have B4 := ((((B3.set (k := 0) (.int .i64 (k0 : Int))).set (k := 1) (.int .u64 (k3 : Int))).set (k := 2) (.int .i64 (k11 : Int))).set (k := 3) (.int .u64 (k15 : Int))).set (k := 4) (.slice (some ⟨blk, off + 25, none⟩) m (c - 25))
          obtain ⟨z0, z1, z2, z3, z4, zf⟩ := five5 B4
          refine bodyPost_ret (v := .tuple #[.agg #[.int .i64 (k0 : Int), .int .u64 (k3 : Int), .int .i64 (k11 : Int), .int .u64 (k15 : Int), .slice (some ⟨blk, off + 25, none⟩) m (c - 25)], .bool true]) (by simp [results, Try.results49, go_sem, z0, z1, z2, z3, z4]) rfl ?_
          rw [hres.out]
          have hb9 := bset5 (v0 := .int .i64 (k0 : Int)) (v1 := .int .u64 (k3 : Int)) (v2 := .int .i64 (k11 : Int)) (v3 := .int .u64 (k15 : Int)) (v4 := .slice (some ⟨blk, off + 25, none⟩) m (c - 25)) bw5 (Nat.le_refl _)
          refine ⟨⟨_, _, by rw [Hx.out hm], ?_⟩, hb9⟩
          have e9 : (ofB b).body = cut b 25 m := by rw [Hm.out]; rfl
          rw [e9]
          exact rd_cut (Hr.out.on hb9) 25 m
        · have hres := Lib.hid (reads_un (p := p) (b := b) (by rw [← HT.out]; exact hTb))
          have HS := Lib.hid (show R1.sameB T b = false by unfold R1.sameB; rw [decide_eq_false_iff_not]; exact hTb)
          clear hTb
          go_wp2_with (first
          | (go_at_call 60; refine (HRight.out).mono ?_; rintro e w3 ⟨rfl, b3⟩; rw [← Hf.out]; have B3 := B1'.on b3; obtain ⟨e0, e1, e2, e3, e4, fr3⟩ := five5 B3; have bw3 := bt bw2 b3; obtain ⟨d0, d1, d2, d3, d4, fd⟩ := five5 (B2.on b3))
          | (go_at_call 62; refine (HText.out _ b3 (by rw [← Hf.out]; exact h0)).mono ?_; rintro e w4 ⟨A4, d4', rfl, own4, b4⟩; rw [← HT.out] at own4 ⊢; have bw4 := bt bw3 b4; have B3 := B3.on b4; obtain ⟨e0, e1, e2, e3, e4, fr3⟩ := five5 B3; have rd4 := Rd.own own4; have rdb := Hr.out.on bw4)
          | (go_at_call 19; refine (R1.same_any A4 (some ⟨blk, off, none⟩) T b _ _ d4' c w4 rfl rfl rd4 rdb (by rw [HTl.out]; omega) (by omega)).mono ?_; rintro e w5 ⟨rfl, b5⟩; rw [HS.out]; have bw5 := bt bw4 b5; have B3 := B3.on b5; obtain ⟨e0, e1, e2, e3, e4, fr3⟩ := five5 B3; obtain ⟨d0, d1, d2, d3, d4, fd⟩ := five5 ((B2.on b3).on (bt b4 b5))))
          have B4 := ((((B3.set (k := 0) (.int .i64 0)).set (k := 1) (.int .u64 0)).set (k := 2) (.int .i64 0)).set (k := 3) (.int .u64 0)).set (k := 4) (.slice none 0 0)
          obtain ⟨z0, z1, z2, z3, z4, zf⟩ := five5 B4
          refine bodyPost_ret (v := .tuple #[.agg #[.int .i64 0, .int .u64 0, .int .i64 0, .int .u64 0, .slice none 0 0], .bool false]) (by simp [results, Try.results49, go_sem, z0, z1, z2, z3, z4]) rfl ?_
          rw [hres.out]
          exact ⟨RetY.zero _ _, bset5 bw5 (Nat.le_refl _)⟩
      · have hres := Lib.hid (reads_bad (p := p) (b := b) (by rw [← Hf.out]; exact h0))
        have hf1 := bne_yes h0
        go_wp2_with (go_at_call 60; refine (HRight.out).mono ?_; rintro e w3 ⟨rfl, b3⟩; rw [← Hf.out]; have B3 := B1'.on b3; obtain ⟨e0, e1, e2, e3, e4, fr3⟩ := five5 B3; have bw3 := bt bw2 b3; obtain ⟨d0, d1, d2, d3, d4, fd⟩ := five5 (B2.on b3))
        have B4 := ((((B3.set (k := 0) (.int .i64 0)).set (k := 1) (.int .u64 0)).set (k := 2) (.int .i64 0)).set (k := 3) (.int .u64 0)).set (k := 4) (.slice none 0 0)
        obtain ⟨z0, z1, z2, z3, z4, zf⟩ := five5 B4
        refine bodyPost_ret (v := .tuple #[.agg #[.int .i64 0, .int .u64 0, .int .i64 0, .int .u64 0, .slice none 0 0], .bool false]) (by simp [results, Try.results49, go_sem, z0, z1, z2, z3, z4]) rfl ?_
        rw [hres.out]
        exact ⟨RetY.zero _ _, bset5 bw3 (Nat.le_refl _)⟩
  · have h479 : 479 < m := by omega
    have hno := Lib.hid (reads_no (p := p) (show 479 < lenB b by rw [← Hm.out]; exact h479))
    go_wp2
    refine bodyPost_ret (v := .tuple #[.agg #[.int .i64 0, .int .u64 0, .int .i64 0, .int .u64 0, .slice none 0 0], .bool false]) (by simp [results, Try.results49, go_sem]) rfl ?_
    rw [hno.out]
    exact ⟨RetY.zero _ _, b1alloc _ _⟩
end Go.Proofs.Ytdkcdojcglmlbaa.Sec
