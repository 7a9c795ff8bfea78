/- The walk of sector.read. -/
import Derived.Test.YtkapamolligmkaaSec3
namespace Go.Proofs.Ytkapamolligmkaa.Sec
open Go.RowKit
open Go.Proofs.Ytkapamolligmkaa.Num (putL getN)
set_option linter.unusedVariables false
set_option maxRecDepth 100000
theorem cut_drop (b : List UInt8) (i n : Nat) : (b.drop i).take n = cut b i n := rfl
theorem getN_lt' (l : List UInt8) : getN l < 256 ^ l.length := by
  have := Num.getN_lt l l.length (Nat.le_refl _)
  rwa [List.take_length] at this
theorem ofN (n : Nat) (h : n < 18446744073709551616) : (UInt64.ofNat n).toNat = n := by rw [UInt64.toNat_ofNat']; exact Nat.mod_eq_of_lt h
/-- what the numbers of 512 bytes are -/
theorem nums {b : List UInt8} (h : 25 ≤ b.length) : (getN (cut b 0 1) : Int) ≤ 255 ∧ (getN (cut b 11 4) : Int) ≤ 4294967295 ∧ lenB b ≤ 65535 ∧ (ofB b).life.toNat = getN (cut b 3 8) ∧ (ofB b).gen.toNat = getN (cut b 15 8) ∧ (getN (cut b 3 8) : Int) ≤ 18446744073709551615 ∧ (getN (cut b 15 8) : Int) ≤ 18446744073709551615 := by
  have h0 := getN_lt' (cut b 0 1); rw [cut_len (by omega)] at h0
  have h1 := getN_lt' (cut b 11 4); rw [cut_len (by omega)] at h1
  have h2 := getN_lt' (cut b 23 2); rw [cut_len (by omega)] at h2
  have h3 := getN_lt' (cut b 3 8); rw [cut_len (by omega)] at h3
  have h4 := getN_lt' (cut b 15 8); rw [cut_len (by omega)] at h4
  simp only [Nat.reducePow] at h0 h1 h2 h3 h4
  refine ⟨by omega, by omega, by unfold lenB; omega, ofN _ h3, ofN _ h4, by omega, by omega⟩
theorem five5 {w : World} {g : Nat} {v0 v1 v2 v3 v4 : Value} (h : Blk w g [v0, v1, v2, v3, v4]) :
    w.cell? ⟨g, 0, none⟩ = some v0 ∧ w.cell? ⟨g, 1, none⟩ = some v1 ∧ w.cell? ⟨g, 2, none⟩ = some v2 ∧ w.cell? ⟨g, 3, none⟩ = some v3 ∧ w.cell? ⟨g, 4, none⟩ = some v4 ∧ ∀ o, w.frozen? ⟨g, o, none⟩ = false := h.elim fun _ h => five h
/-- while a sector is read: the struct in the first new block, the taker in the second -/
def Rk (w W : World) (b : List UInt8) (blk off c i : Nat) (xs : List Value) : Prop := Blk W w.heap.size xs ∧ Box W (w.heap.size + 1) (.slice (some ⟨blk, off + i, none⟩) (b.length - i) (c - i)) ∧ Below w.heap.size w W
theorem Rk.set {w W : World} {b : List UInt8} {blk off c i : Nat} {xs : List Value} (h : Rk w W b blk off c i xs) (k : Nat) (u : Value) : Rk w (W.setCell ⟨w.heap.size, k, none⟩ u) b blk off c i (xs.set k u) :=
  ⟨h.1.set u, h.2.1.keep (Keep.of_grown (fp := [w.heap.size]) (grown_set W ⟨w.heap.size, k, none⟩ u) (fun g e => by cases e; simp)) (by simp), bset_new h.2.2 k u⟩
/-- a sector comes back, its bytes the call's own, and something beside it -/
def RetX (x : X) (t : Value) (w : World) (e : Ending) (w' : World) : Prop := ∃ A c, e = .returned (.tuple #[xv x A c, t]) ∧ w'.ownsRow w.heap.size 5 1 (.slice A x.body.length c) x.body.length (x.body.map e8)
def X0 : X := ⟨0, 0, 0, 0, []⟩
theorem xv0 : xv X0 none 0 = .agg #[.int .i64 0, .int .u64 0, .int .i64 0, .int .u64 0, .slice none 0 0] := rfl
theorem RetX.zero (t : Value) (w w' : World) : RetX X0 t w (.returned (.tuple #[.agg #[.int .i64 0, .int .u64 0, .int .i64 0, .int .u64 0, .slice none 0 0], t])) w' := ⟨none, 0, rfl, own_nil _ _ _ _⟩
theorem Rk.take {w W : World} {b : List UInt8} {blk off c i : Nat} {xs : List Value} (h : Rk w W b blk off c i xs) (hr : Rd w w.heap.size (some ⟨blk, off, none⟩) (b.map e8)) (s : Nat) (hs : 1 ≤ s) (h8 : s ≤ 8) (hb : i + s < b.length) (hc : b.length ≤ c) (hcm : c ≤ maxLen) :
    Calls Try.prog 49 #[.pointer (some ⟨w.heap.size + 1, 0, none⟩), .int .i64 (s : Int)] W fun e W' => e = .returned (.int .u64 (getN (cut b i s) : Int)) ∧ Rk w W' b blk off c (i + s) xs := by
  have hr2 : Rd W W.heap.size (some ⟨blk, off + i, none⟩) ((b.drop i).map e8) := by
    have := ((hr.below h.2.2).more h.2.2.size).drop i
    rw [← List.map_drop] at this
    simpa [Addr.add_lit] using this
  refine (take_any (w.heap.size + 1) blk (off + i) (b.drop i) (b.length - i) (c - i) s _ rfl W h.2.1 (by simp) hr2 hs h8 (by simp; omega) (by omega) (by omega)).mono ?_
  rintro e W' ⟨rfl, h1, h2⟩
  refine ⟨rfl, ?_, ?_, ?_⟩
  · exact h.1.grown h2 (by simp)
  · rw [Nat.add_assoc, Nat.sub_sub, Nat.sub_sub] at h1; exact h1
  · exact h.2.2.grown h2 h.2.2.size (fun z hz => by injection hz with hz; omega)
set_option maxHeartbeats 800000 in
theorem read_any (blk off : Nat) (b : List UInt8) (n c : Nat) (w : World) (hn : n = b.length) (hr : Rd w w.heap.size (some ⟨blk, off, none⟩) (b.map e8)) (h5 : 512 ≤ b.length) (hc : n ≤ c) (hcm : c ≤ maxLen) :
    Calls Try.prog 33 #[.slice (some ⟨blk, off, none⟩) n c] w fun e w' => (if lenB b ≤ 479 then RetX (ofB b) (.bool true) w e w' else RetX X0 (.bool false) w e w') ∧ Below w.heap.size w w' := by
  subst hn
  obtain ⟨g0, g11, gl, e3, e15, g3, g15⟩ := nums (b := b) (by omega)
  have T : ∀ W i xs, Rk w W b blk off c i xs → ∀ s i', i + s = i' → 1 ≤ s → s ≤ 8 → i + s < b.length → Calls Try.prog 49 #[.pointer (some ⟨w.heap.size + 1, 0, none⟩), .int .i64 (s : Int)] W fun e W' => e = .returned (.int .u64 (getN (cut b i s) : Int)) ∧ Rk w W' b blk off c i' xs := fun W i xs h s i' hi h1 h2 h3 => by subst hi; exact Rk.take h hr s h1 h2 h3 hc hcm
  obtain ⟨k0, hk0⟩ : ∃ k, k = getN (cut b 0 1) := ⟨_, rfl⟩
  obtain ⟨k11, hk11⟩ : ∃ k, k = getN (cut b 11 4) := ⟨_, rfl⟩
  obtain ⟨k3, hk3⟩ : ∃ k, k = getN (cut b 3 8) := ⟨_, rfl⟩
  obtain ⟨k15, hk15⟩ : ∃ k, k = getN (cut b 15 8) := ⟨_, rfl⟩
  obtain ⟨m, hm⟩ : ∃ k, k = lenB b := ⟨_, rfl⟩
  rw [← hk0] at g0; rw [← hk11] at g11; rw [← hk3] at g3 e3; rw [← hk15] at g15 e15; rw [← hm] at gl ⊢
  have hbl : (ofB b).body.length = lenB b ∨ 479 < lenB b := by
    by_cases h : lenB b ≤ 479
    · left; exact cut_len (by omega)
    · right; omega
  have hxv := fun A c' (h : m ≤ 479) => show xv (ofB b) A c' = .agg #[.int .i64 (k0 : Int), .int .u64 (k3 : Int), .int .i64 (k11 : Int), .int .u64 (k15 : Int), .slice A m c'] by
    have : (ofB b).body.length = m := by omega
    unfold xv
    rw [e3, e15, this, hk0, hk11]; rfl
  have Hx := Lib.hid hxv
  have H0 := Lib.hid hk0
  have H3 := Lib.hid hk3
  have H11 := Lib.hid hk11
  have H15 := Lib.hid hk15
  have Hm := Lib.hid hm
  have hown : m ≤ 479 → ∀ (W : World) (A : Option Addr) (d : Nat), W.ownsRow w.heap.size 5 1 (.slice A m d) m ((cut b 25 m).map e8) → W.ownsRow w.heap.size 5 1 (.slice A (ofB b).body.length d) (ofB b).body.length ((ofB b).body.map e8) := fun h W A d ho => by
    have e1 : (ofB b).body.length = m := by omega
    rw [e1, show (ofB b).body = cut b 25 m by rw [hm]; rfl]; exact ho
  have Hown := Lib.hid hown
  clear hown hxv hk0 hk3 hk11 hk15 hm e3 e15 hbl
  have I : Rk w ((w.alloc (.cells #[.int .i64 0, .int .u64 0, .int .i64 0, .int .u64 0, .slice none 0 0] 38)).alloc (.cells #[.slice (some ⟨blk, off, none⟩) b.length c] 101)) b blk off c 0 [.int .i64 0, .int .u64 0, .int .i64 0, .int .u64 0, .slice none 0 0] :=
    ⟨(Blk.new w [.int .i64 0, .int .u64 0, .int .i64 0, .int .u64 0, .slice none 0 0] 38).alloc _, by simpa using Box.new (w.alloc (.cells #[.int .i64 0, .int .u64 0, .int .i64 0, .int .u64 0, .slice none 0 0] 38)) 101 (.slice (some ⟨blk, off, none⟩) b.length c), b2alloc _ _ _⟩
  have hmf : ∀ (g : Nat) (w : World), Sem.run Try.prog (callFunc 49 #[.pointer (some ⟨g, 0, none⟩)]) w = .ok (.enter 49 #[.pointer (some ⟨g, 0, none⟩)]) w := by intro g w; simp [go_sem]
  go_enter Try.func33, Try.ntmps33
  go_wp2_with fail
  refine (T _ _ _ I 1 1 rfl (by omega) (by omega) (by omega)).mono ?_
  rintro e w1 ⟨rfl, I1⟩
  rw [← H0.out]
  obtain ⟨c0, c1, c2, c3, c4, fr⟩ := five5 I1.1
  go_wp2_with fail
  refine (T _ _ _ (I1.set 0 _) 2 3 rfl (by omega) (by omega) (by omega)).mono ?_
  rintro e w2 ⟨rfl, I2⟩
  go_wp2_with fail
  refine (T _ _ _ I2 8 11 rfl (by omega) (by omega) (by omega)).mono ?_
  rintro e w3 ⟨rfl, I3⟩
  rw [← H3.out]
  go_wp2_with fail
  refine (T _ _ _ I3 4 15 rfl (by omega) (by omega) (by omega)).mono ?_
  rintro e w4 ⟨rfl, I4⟩
  rw [← H11.out]
  clear c0 c1 c2 c3 c4 fr
  go_wp2_with fail
  refine (T _ _ _ I4 8 23 rfl (by omega) (by omega) (by omega)).mono ?_
  rintro e w5 ⟨rfl, I5⟩
  rw [← H15.out]
  obtain ⟨c0, c1, c2, c3, c4, fr⟩ := five5 I5.1
  go_wp2_with fail
  refine (T _ _ _ (((I5.set 1 _).set 2 _).set 3 _) 2 25 rfl (by omega) (by omega) (by omega)).mono ?_
  rintro e w6 ⟨rfl, I6⟩
  rw [show getN (cut b 23 2) = m from Hm.out.symm]
  clear c0 c1 c2 c3 c4 fr
  obtain ⟨c0, c1, c2, c3, c4, fr⟩ := five5 I6.1
  by_cases hm : m ≤ 479
  · have hb6 := I6.2.1.cell
    have hrr : Rd w6 w6.heap.size (some ⟨blk, off + 25, none⟩) ((cut b 25 m).map e8) := by
      have := (((hr.below I6.2.2).more I6.2.2.size).drop 25).take m
      rw [← List.map_drop, ← List.map_take] at this
      simpa [Addr.add_lit, cut] using this
    have hlen : m = (cut b 25 m).length := (cut_len (by omega)).symm
    have hcl := fun d => Sl.clone_any (some ⟨blk, off + 25, none⟩) (cut b 25 m) m d w6 hlen hrr (by rw [← hlen]; omega)
    have Hcl := Lib.hid hcl
    have hln := Lib.hid hlen
    clear hcl hlen
    unfold maxLen at hcm
    go_wp2_with fail
    refine (Hcl.out _).mono ?_
    rintro e w7 ⟨A7, d7, rfl, own7, b7⟩
    rw [← hln.out]
    clear c0 c1 c2 c3 c4 fr hb6
    have B7 := I6.1.on b7
    have bw7 := bt I6.2.2 b7
    obtain ⟨c0, c1, c2, c3, c4, fr⟩ := five5 B7
    have rd7 := Rd.own own7
    have B8 := B7.set (k := 4) (.slice A7 m d7)
    obtain ⟨y0, y1, y2, y3, y4, yf⟩ := five5 B8
    have hs6 : w.heap.size < w6.heap.size := I6.1.lt
    go_wp2_with fail
    have B9 := ((((B8.set (k := 0) (.int .i64 (k0 : Int))).set (k := 1) (.int .u64 (k3 : Int))).set (k := 2) (.int .i64 (k11 : Int))).set (k := 3) (.int .u64 (k15 : Int))).set (k := 4) (.slice A7 m d7)
    obtain ⟨z0, z1, z2, z3, z4, zf⟩ := five5 B9
    have k9 : Keep [w.heap.size] w7 ((((((w7.setCell ⟨w.heap.size, 4, none⟩ (.slice A7 m d7)).setCell ⟨w.heap.size, 0, none⟩ (.int .i64 (k0 : Int))).setCell ⟨w.heap.size, 1, none⟩ (.int .u64 (k3 : Int))).setCell ⟨w.heap.size, 2, none⟩ (.int .i64 (k11 : Int))).setCell ⟨w.heap.size, 3, none⟩ (.int .u64 (k15 : Int))).setCell ⟨w.heap.size, 4, none⟩ (.slice A7 m d7)) :=
      (((((((Keep.refl _ _).set (p := ⟨w.heap.size, 4, none⟩) (.inl (by simp)) _).set (p := ⟨w.heap.size, 0, none⟩) (.inl (by simp)) _).set (p := ⟨w.heap.size, 1, none⟩) (.inl (by simp)) _).set (p := ⟨w.heap.size, 2, none⟩) (.inl (by simp)) _).set (p := ⟨w.heap.size, 3, none⟩) (.inl (by simp)) _).set (p := ⟨w.heap.size, 4, none⟩) (.inl (by simp)) _)
    rw [← hln.out] at own7
    have own9' := own_keep own7 k9 (fun g hg e => by have := own_block own7 hg; simp at e; omega)
    refine bodyPost_ret (v := .tuple #[.agg #[.int .i64 (k0 : Int), .int .u64 (k3 : Int), .int .i64 (k11 : Int), .int .u64 (k15 : Int), .slice A7 m d7], .bool true]) (by simp [results, Try.results33, go_sem, z0, z1, z2, z3, z4]) rfl ?_
    refine ⟨⟨A7, d7, by rw [Hx.out _ _ hm], Hown.out hm _ _ _ (own_base own9' I6.2.2.size)⟩, bset_new (bset_new (bset_new (bset_new (bset_new (bset_new bw7 _ _) _ _) _ _) _ _) _ _) _ _⟩
  · have h479 : 479 < m := by omega
    go_wp2
    have B := ((((I6.1.set (k := 0) (.int .i64 0)).set (k := 1) (.int .u64 0)).set (k := 2) (.int .i64 0)).set (k := 3) (.int .u64 0)).set (k := 4) (.slice none 0 0)
    obtain ⟨z0, z1, z2, z3, z4, zf⟩ := five5 B
    refine bodyPost_ret (v := .tuple #[.agg #[.int .i64 0, .int .u64 0, .int .i64 0, .int .u64 0, .slice none 0 0], .bool false]) (by simp [results, Try.results33, go_sem, z0, z1, z2, z3, z4]) rfl ?_
    exact ⟨RetX.zero _ _ _, bset_new (bset_new (bset_new (bset_new (bset_new I6.2.2 _ _) _ _) _ _) _ _) _ _⟩
end Go.Proofs.Ytkapamolligmkaa.Sec
