/- SuperReads: for every input the law returns true: which super is read of any sectors at both places, and what is at each. No condition. -/
import Derived.Test.YtmpmibcdpkolkaaSuperReadsE
namespace Go.Proofs.Ytmpmibcdpkolkaa.SuperReads
open Go.ChangeShapes Go.WideShapes Go.ChangeAt Go.RowKit Go.Joins
open Go.ChangeMaps (open_string shut_string)
open Go.Proofs.Ytmpmibcdpkolkaa.Sup
open Go.Proofs.Ytmpmibcdpkolkaa.Geom (lo hi)
open Go.Proofs.Ytmpmibcdpkolkaa.Sec (symbolic_any RetX five5x X rightF)
set_option linter.unusedVariables false
set_option maxRecDepth 100000
theorem ten {w : World} {g : Nat} {v0 v1 v2 v3 v4 v5 v6 v7 v8 v9 : Value} (h : Blk w g [v0, v1, v2, v3, v4, v5, v6, v7, v8, v9]) : w.cell? ⟨g, 0, none⟩ = some v0 ∧ w.cell? ⟨g, 1, none⟩ = some v1 ∧ w.cell? ⟨g, 2, none⟩ = some v2 ∧ w.cell? ⟨g, 3, none⟩ = some v3 ∧ w.cell? ⟨g, 4, none⟩ = some v4 ∧ w.cell? ⟨g, 5, none⟩ = some v5 ∧ w.cell? ⟨g, 6, none⟩ = some v6 ∧ w.cell? ⟨g, 7, none⟩ = some v7 ∧ w.cell? ⟨g, 8, none⟩ = some v8 ∧ w.cell? ⟨g, 9, none⟩ = some v9 :=
  ⟨h.cell (k := 0) (by simp), h.cell (k := 1) (by simp), h.cell (k := 2) (by simp), h.cell (k := 3) (by simp), h.cell (k := 4) (by simp), h.cell (k := 5) (by simp), h.cell (k := 6) (by simp), h.cell (k := 7) (by simp), h.cell (k := 8) (by simp), h.cell (k := 9) (by simp)⟩
theorem six6 {w : World} {g : Nat} {v0 v1 v2 v3 v4 v5 : Value} (h : Blk w g [v0, v1, v2, v3, v4, v5]) : w.cell? ⟨g, 0, none⟩ = some v0 ∧ w.cell? ⟨g, 1, none⟩ = some v1 ∧ w.cell? ⟨g, 2, none⟩ = some v2 ∧ w.cell? ⟨g, 3, none⟩ = some v3 ∧ w.cell? ⟨g, 4, none⟩ = some v4 ∧ w.cell? ⟨g, 5, none⟩ = some v5 :=
  ⟨h.cell (k := 0) (by simp), h.cell (k := 1) (by simp), h.cell (k := 2) (by simp), h.cell (k := 3) (by simp), h.cell (k := 4) (by simp), h.cell (k := 5) (by simp)⟩
theorem two2 {w : World} {g : Nat} {v0 v1 : Value} (h : Blk w g [v0, v1]) : w.cell? ⟨g, 0, none⟩ = some v0 ∧ w.cell? ⟨g, 1, none⟩ = some v1 := ⟨h.cell (k := 0) (by simp), h.cell (k := 1) (by simp)⟩
abbrev c6 (o p : Option SV) : List Value := [.int .u64 ((oV o).life.toNat : Int), .int .i64 (oV o).base, .int .u64 ((oV o).gen.toNat : Int), .int .u64 ((oV p).life.toNat : Int), .int .i64 (oV p).base, .int .u64 ((oV p).gen.toNat : Int)]
abbrev c2 (o p : Option SV) : List Value := [.bool o.isSome, .bool p.isSome]
theorem st3 {W : World} {g b i j k : Nat} {xs : List Value} (h : Blk W g xs) (n : g ≠ b) (u v x : Value) : Blk (((W.setCell ⟨b, i, none⟩ u).setCell ⟨b, j, none⟩ v).setCell ⟨b, k, none⟩ x) g xs := Blk.other (Blk.other (Blk.other h u n) v n) x n
theorem st4 {W : World} {g b b' i j k l : Nat} {xs : List Value} (h : Blk W g xs) (n : g ≠ b) (n' : g ≠ b') (u v x y : Value) : Blk ((((W.setCell ⟨b, i, none⟩ u).setCell ⟨b, j, none⟩ v).setCell ⟨b, k, none⟩ x).setCell ⟨b', l, none⟩ y) g xs := Blk.other (st3 h n u v x) y n'
theorem _root_.Go.Proofs.Ytmpmibcdpkolkaa.Here.aside {w0 w w' : World} {g : Nat} {fp : List Nat} {s : Disk.St} {gS bS : Nat} {l : List (List UInt8)} {bl : List Nat} (h : Here w0 w g fp s gS bS l) (k : Keep bl w w') (hb : ∀ j ∈ bl, j ∉ bS :: fp ∧ j ≠ gS ∧ w0.heap.size ≤ j) : Here w0 w' g fp s gS bS l :=
  ⟨⟨h.both.disk.keep k (fun j hj e => (hb j e).1 (List.mem_cons_of_mem _ hj)), h.both.sym.keepK k (fun e => (hb _ e).2.1 rfl) (fun e => (hb _ e).1 (by simp)), h.both.nS, h.both.nB⟩, h.bel.trans (k.below (fun j hj => (hb j hj).2.2) h.bel.size), h.own⟩
theorem keep4 (W : World) (b b' i j k l : Nat) (u v x y : Value) : Keep [b, b'] W ((((W.setCell ⟨b, i, none⟩ u).setCell ⟨b, j, none⟩ v).setCell ⟨b, k, none⟩ x).setCell ⟨b', l, none⟩ y) :=
  ((((Keep.refl _ _).set (.inl (by simp)) _).set (.inl (by simp)) _).set (.inl (by simp)) _).set (.inl (by simp)) _
theorem out5 {w : World} {fp fp5 : List Nat} {bS h : Nat} (f : Fresh w fp fp5) (hl : h < w.heap.size) (hn : h ∉ bS :: fp) : h ∉ bS :: fp5 := fun e => by
  rcases List.mem_cons.1 e with e | e
  · exact hn (by rw [e]; simp)
  · exact f.out hl (fun e2 => hn (List.mem_cons_of_mem _ e2)) e
theorem ofV_form (o : Option SV) : ofV o = .tuple #[.agg #[.int .u64 ((oV o).life.toNat : Int), .int .i64 (oV o).base, .int .u64 ((oV o).gen.toNat : Int)], .bool o.isSome] := by cases o <;> rfl
theorem atV_all (o : Option SV) : atV o = .tuple #[.agg #[.int .u64 ((oV o).life.toNat : Int), .int .i64 (oV o).base, .int .u64 ((oV o).gen.toNat : Int)], .bool o.isSome, .int .i64 0] := by cases o <;> rfl
theorem rdV_form (o : Option SV) : ∃ (y : SV) (f : Int), rdV o = .tuple #[.agg #[.int .u64 (y.life.toNat : Int), .int .i64 y.base, .int .u64 (y.gen.toNat : Int)], .int .i64 f] := by
  cases o with
  | none => exact ⟨SV.zero, 11, rfl⟩
  | some x => exact ⟨x, 0, rfl⟩
theorem atV_form (o : Option SV) : ∃ (y : SV) (b : Bool), atV o = .tuple #[.agg #[.int .u64 (y.life.toNat : Int), .int .i64 y.base, .int .u64 (y.gen.toNat : Int)], .bool b, .int .i64 0] := by
  cases o with
  | none => exact ⟨SV.zero, false, rfl⟩
  | some x => exact ⟨x, true, rfl⟩
set_option maxHeartbeats 8000000 in
theorem walk (ga gd gl : Int) (a : X) (A : Option Addr) (c : Nat) (b : X) (B : Option Addr) (d : Nat) (pl : Int) (w : World) (ha0 : -9223372036854775808 ≤ ga) (ha1 : ga ≤ 9223372036854775807) (hd0 : -9223372036854775808 ≤ gd) (hd1 : gd ≤ 9223372036854775807) (hg0 : -9223372036854775808 ≤ gl) (hg1 : gl ≤ 9223372036854775807)
    (hr : Rd w w.heap.size A (a.body.map e8)) (hc : a.body.length ≤ c) (hcm : c ≤ maxLen) (hs : Rd w w.heap.size B (b.body.map e8)) (hd : b.body.length ≤ d) (hdm : d ≤ maxLen) (hp0 : -9223372036854775808 ≤ pl) (hp1 : pl ≤ 9223372036854775807) :
    Calls Try.prog 6 #[gv ga gd gl, .agg #[.int .i64 a.kind, .int .u64 (a.life.toNat : Int), .int .i64 a.seq, .int .u64 (a.gen.toNat : Int), .slice A a.body.length c], .agg #[.int .i64 b.kind, .int .u64 (b.life.toNat : Int), .int .i64 b.seq, .int .u64 (b.gen.toNat : Int), .slice B b.body.length d], .int .i64 pl] w fun e w' => e = .returned (.bool true) ∧ Below w.heap.size w w' := by
  have hG : Gb ga gd gl := ⟨ha0, ha1, hd0, hd1, hg0, hg1⟩
  have FG : Blk (((w.alloc (.cells (gcell ga gd gl).toArray 23)).alloc (.cells ([.int .i64 a.kind, .int .u64 (a.life.toNat : Int), .int .i64 a.seq, .int .u64 (a.gen.toNat : Int), .slice A a.body.length c] : List Value).toArray 49)).alloc (.cells ([.int .i64 b.kind, .int .u64 (b.life.toNat : Int), .int .i64 b.seq, .int .u64 (b.gen.toNat : Int), .slice B b.body.length d] : List Value).toArray 49)) w.heap.size (gcell ga gd gl) := ((Blk.new w (gcell ga gd gl) 23).alloc _).alloc _
  have FA : Blk (((w.alloc (.cells (gcell ga gd gl).toArray 23)).alloc (.cells ([.int .i64 a.kind, .int .u64 (a.life.toNat : Int), .int .i64 a.seq, .int .u64 (a.gen.toNat : Int), .slice A a.body.length c] : List Value).toArray 49)).alloc (.cells ([.int .i64 b.kind, .int .u64 (b.life.toNat : Int), .int .i64 b.seq, .int .u64 (b.gen.toNat : Int), .slice B b.body.length d] : List Value).toArray 49)) (w.heap.size + 1) [.int .i64 a.kind, .int .u64 (a.life.toNat : Int), .int .i64 a.seq, .int .u64 (a.gen.toNat : Int), .slice A a.body.length c] := by simpa using (Blk.new (w.alloc (.cells (gcell ga gd gl).toArray 23)) [.int .i64 a.kind, .int .u64 (a.life.toNat : Int), .int .i64 a.seq, .int .u64 (a.gen.toNat : Int), .slice A a.body.length c] 49).alloc (.cells ([.int .i64 b.kind, .int .u64 (b.life.toNat : Int), .int .i64 b.seq, .int .u64 (b.gen.toNat : Int), .slice B b.body.length d] : List Value).toArray 49)
  have FB : Blk (((w.alloc (.cells (gcell ga gd gl).toArray 23)).alloc (.cells ([.int .i64 a.kind, .int .u64 (a.life.toNat : Int), .int .i64 a.seq, .int .u64 (a.gen.toNat : Int), .slice A a.body.length c] : List Value).toArray 49)).alloc (.cells ([.int .i64 b.kind, .int .u64 (b.life.toNat : Int), .int .i64 b.seq, .int .u64 (b.gen.toNat : Int), .slice B b.body.length d] : List Value).toArray 49)) (w.heap.size + 1 + 1) [.int .i64 b.kind, .int .u64 (b.life.toNat : Int), .int .i64 b.seq, .int .u64 (b.gen.toNat : Int), .slice B b.body.length d] := by simpa using Blk.new ((w.alloc (.cells (gcell ga gd gl).toArray 23)).alloc (.cells ([.int .i64 a.kind, .int .u64 (a.life.toNat : Int), .int .i64 a.seq, .int .u64 (a.gen.toNat : Int), .slice A a.body.length c] : List Value).toArray 49)) [.int .i64 b.kind, .int .u64 (b.life.toNat : Int), .int .i64 b.seq, .int .u64 (b.gen.toNat : Int), .slice B b.body.length d] 49
  have bw := b3alloc w (.cells (gcell ga gd gl).toArray 23) (.cells ([.int .i64 a.kind, .int .u64 (a.life.toNat : Int), .int .i64 a.seq, .int .u64 (a.gen.toNat : Int), .slice A a.body.length c] : List Value).toArray 49) (.cells ([.int .i64 b.kind, .int .u64 (b.life.toNat : Int), .int .i64 b.seq, .int .u64 (b.gen.toNat : Int), .slice B b.body.length d] : List Value).toArray 49)
  have HR := Lib.hid (fun W => Geom.rright_any ga gd gl W hG.a0 hG.a1 hG.d0 hG.d1 hG.g0 hG.g1)
  have HS := Lib.hid (fun W => Geom.rsize_any ga gd gl W hG.a0 hG.a1 hG.d0 hG.d1 hG.g0 hG.g1)
  obtain ⟨a0, a1, a2, a3, a4⟩ := five5x FA
  obtain ⟨b0, b1, b2, b3, b4⟩ := five5x FB
  obtain ⟨z0, z1, z2⟩ := gthree FG
  have HG := Lib.hid FG
  have HAa := Lib.hid FA
  have HBb := Lib.hid FB
  have hlG : w.heap.size < (((w.alloc (.cells (gcell ga gd gl).toArray 23)).alloc (.cells ([.int .i64 a.kind, .int .u64 (a.life.toNat : Int), .int .i64 a.seq, .int .u64 (a.gen.toNat : Int), .slice A a.body.length c] : List Value).toArray 49)).alloc (.cells ([.int .i64 b.kind, .int .u64 (b.life.toNat : Int), .int .i64 b.seq, .int .u64 (b.gen.toNat : Int), .slice B b.body.length d] : List Value).toArray 49)).heap.size := FG.lt
  have hlA : w.heap.size + 1 < (((w.alloc (.cells (gcell ga gd gl).toArray 23)).alloc (.cells ([.int .i64 a.kind, .int .u64 (a.life.toNat : Int), .int .i64 a.seq, .int .u64 (a.gen.toNat : Int), .slice A a.body.length c] : List Value).toArray 49)).alloc (.cells ([.int .i64 b.kind, .int .u64 (b.life.toNat : Int), .int .i64 b.seq, .int .u64 (b.gen.toNat : Int), .slice B b.body.length d] : List Value).toArray 49)).heap.size := FA.lt
  have hlB : w.heap.size + 1 + 1 < (((w.alloc (.cells (gcell ga gd gl).toArray 23)).alloc (.cells ([.int .i64 a.kind, .int .u64 (a.life.toNat : Int), .int .i64 a.seq, .int .u64 (a.gen.toNat : Int), .slice A a.body.length c] : List Value).toArray 49)).alloc (.cells ([.int .i64 b.kind, .int .u64 (b.life.toNat : Int), .int .i64 b.seq, .int .u64 (b.gen.toNat : Int), .slice B b.body.length d] : List Value).toArray 49)).heap.size := FB.lt
  clear FG FA FB
  by_cases h1 : 600 < a.body.length
  · go_enter Try.func6, Try.ntmps6
    go_wp2_with (go_at_call 20; refine (alive_any _).mono ?_; rintro e w2 ⟨rfl, t2⟩)
    go_ret
    exact ⟨rfl, bt bw t2⟩
  by_cases h2 : 600 < b.body.length
  · go_enter Try.func6, Try.ntmps6
    go_wp2_with (go_at_call 20; refine (alive_any _).mono ?_; rintro e w2 ⟨rfl, t2⟩)
    go_ret
    exact ⟨rfl, bt bw t2⟩
  by_cases hq : Geom.right ga gd gl = true
  rotate_left
  · have hq : Geom.right ga gd gl = false := by simpa using hq
    go_enter Try.func6, Try.ntmps6
    go_wp2_with (first
      | (go_at_call 19; refine (HR.out _).mono ?_; rintro e w1 ⟨rfl, t1⟩; rw [hq]; clear z0 z1 z2 a0 a1 a2 a3 a4 b0 b1 b2 b3 b4; obtain ⟨a0, a1, a2, a3, a4⟩ := five5x (HAa.out.on t1); obtain ⟨b0, b1, b2, b3, b4⟩ := five5x (HBb.out.on t1); obtain ⟨z0, z1, z2⟩ := gthree (HG.out.on t1))
      | (go_at_call 20; refine (alive_any _).mono ?_; rintro e w2 ⟨rfl, t2⟩))
    go_ret
    exact ⟨rfl, bt bw (bt t1 t2)⟩
  have hsb := Geom.size_bd ga gd gl
  have hsg := size_ge hq
  obtain ⟨n, hn⟩ : ∃ n : Nat, (n : Int) = Geom.sizeOf ga gd gl := ⟨(Geom.sizeOf ga gd gl).toNat, by omega⟩
  have hn7 : 7 ≤ n ∧ n ≤ 238 := by omega
  rw [← hn] at HS
  have HN := Lib.hid (fun W => newN_any n (n : Int) rfl (by omega) (by omega) W)
  obtain ⟨q1, eq1⟩ : ∃ q, q = stp ([], Disk.new n) 2 a := ⟨_, rfl⟩
  obtain ⟨q2, eq2⟩ : ∃ q, q = stp q1 3 b := ⟨_, rfl⟩
  have o1 := one (n := n) (by omega) ga gd gl a
  have w2 := two (n := n) (by omega) ga gd gl a b
  rw [← eq1] at o1 w2
  rw [← eq2] at w2
  have r1 : srightF q1.2 ga gd gl = 0 := srightF_new hq o1.up.size hn
  have r2 : srightF q2.2 ga gd gl = 0 := srightF_new hq w2.up.size hn
  have l1 := o1.len
  have s1 := o1.sz
  have l2 := w2.len
  have s2 := w2.sz
  have u1 := o1.up
  have u2 := w2.up
  have at2 := o1.at2 (by omega)
  have bt2 := w2.at2
  have bt3 := w2.at3
  obtain ⟨o2, eo2⟩ : ∃ o, o = ofAt ga gd gl 2 a := ⟨_, rfl⟩
  obtain ⟨o3, eo3⟩ : ∃ o, o = ofAt ga gd gl 3 b := ⟨_, rfl⟩
  have hne : ∀ x y, o2 = some x → o3 = some y → x.life ≠ y.life := fun x y h h' => ofAt_ne (eo2 ▸ h) (eo3 ▸ h')
  rw [← eo2] at at2 bt2
  rw [← eo3] at bt3
  have hA2 := fun g fp gS bS W h => at_any g fp q1.2 gS bS q1.1 ga gd gl 2 W hG h (by omega) (by omega) r1 u1.down (by omega) (by omega)
  have hA3 := fun g fp gS bS W h => at_any g fp q2.2 gS bS q2.1 ga gd gl 3 W hG h (by omega) (by omega) r2 u2.down (by omega) (by omega)
  rw [at2] at hA2
  rw [bt3] at hA3
  rw [atV_all] at hA2 hA3
  have hRd := fun g fp gS bS W h => readSup_any g fp q2.2 gS bS q2.1 ga gd gl W hG h (by omega) (by omega) r2 u2.down
  rw [bt2, bt3] at hRd
  have HLb := Lib.hid (fun W => lbest_any o2 o3 W hne)
  have HA2 := Lib.hid hA2
  have HA3 := Lib.hid hA3
  have HRd := Lib.hid hRd
  have Eq1 := Lib.hid eq1
  have Eq2 := Lib.hid eq2
  have Eo2 := Lib.hid eo2
  have Eo3 := Lib.hid eo3
  have Hn := Lib.hid hn
  clear hA2 hA3 hRd eq1 eq2 eo2 eo3 hn at2 bt2 bt3 hne hsb hsg o1 w2
  go_enter Try.func6, Try.ntmps6
  go_wp2_with (first
      | (go_at_call 19; refine (HR.out _).mono ?_; rintro e w1 ⟨rfl, t1⟩; rw [hq]; clear z0 z1 z2 a0 a1 a2 a3 a4 b0 b1 b2 b3 b4; obtain ⟨a0, a1, a2, a3, a4⟩ := five5x (HAa.out.on t1); obtain ⟨b0, b1, b2, b3, b4⟩ := five5x (HBb.out.on t1); obtain ⟨z0, z1, z2⟩ := gthree (HG.out.on t1))
      | (go_at_call 13; refine (HS.out _).mono ?_; rintro e w2 ⟨rfl, t2⟩; have t12 := bt t1 t2; clear a0 a1 a2 a3 a4 b0 b1 b2 b3 b4; obtain ⟨a0, a1, a2, a3, a4⟩ := five5x (HAa.out.on t12); obtain ⟨b0, b1, b2, b3, b4⟩ := five5x (HBb.out.on t12))
      | (go_at_call 12; refine (HN.out _).mono ?_; rintro e w3 ⟨g, fp, rfl, hD, hfp, t3⟩; have t13 := bt t12 t3; have hfp' := fun j hj => Nat.le_trans t12.size (hfp j hj))
      | (go_at_call 14; refine (symbolic_any _).mono ?_; rintro e w4 ⟨gS, bS, rfl, hS, hgS, hbS, t4⟩; have H4 := Here.start hD hfp' t13 hS hgS hbS t4; clear a0 a1 a2 a3 a4 b0 b1 b2 b3 b4; obtain ⟨a0, a1, a2, a3, a4⟩ := five5x (HAa.out.below H4.bel hlA); obtain ⟨b0, b1, b2, b3, b4⟩ := five5x (HBb.out.below H4.bel hlB); clear z0 z1 z2; obtain ⟨z0, z1, z2⟩ := gthree (HG.out.below H4.bel hlG)))
  have Q1 := Blk.new w4 [.int .i64 a.kind, .int .u64 (a.life.toNat : Int), .int .i64 a.seq, .int .u64 (a.gen.toNat : Int), .slice A a.body.length c, .int .i64 b.kind, .int .u64 (b.life.toNat : Int), .int .i64 b.seq, .int .u64 (b.gen.toNat : Int), .slice B b.body.length d] 49
  have e1 := b1alloc w4 (.cells ([.int .i64 a.kind, .int .u64 (a.life.toNat : Int), .int .i64 a.seq, .int .u64 (a.gen.toNat : Int), .slice A a.body.length c, .int .i64 b.kind, .int .u64 (b.life.toNat : Int), .int .i64 b.seq, .int .u64 (b.gen.toNat : Int), .slice B b.body.length d] : List Value).toArray 49)
  obtain ⟨w5, hw5⟩ : ∃ q, q = w4.alloc (.cells ([.int .i64 a.kind, .int .u64 (a.life.toNat : Int), .int .i64 a.seq, .int .u64 (a.gen.toNat : Int), .slice A a.body.length c, .int .i64 b.kind, .int .u64 (b.life.toNat : Int), .int .i64 b.seq, .int .u64 (b.gen.toNat : Int), .slice B b.body.length d] : List Value).toArray 49) := ⟨_, rfl⟩
  rw [show w4.alloc (.cells #[.int .i64 a.kind, .int .u64 (a.life.toNat : Int), .int .i64 a.seq, .int .u64 (a.gen.toNat : Int), .slice A a.body.length c, .int .i64 b.kind, .int .u64 (b.life.toNat : Int), .int .i64 b.seq, .int .u64 (b.gen.toNat : Int), .slice B b.body.length d] 49) = w5 from hw5.symm]
  have hz5 : w5.heap.size = w4.heap.size + 1 := by rw [hw5]; simp
  rw [← hw5] at Q1 e1
  have Q2 := (Blk.new w5 [.int .u64 0, .int .i64 0, .int .u64 0, .int .u64 0, .int .i64 0, .int .u64 0] 72).alloc (.cells #[.bool false, .bool false] 73)
  have Q3 := Blk.new (w5.alloc (.cells #[.int .u64 0, .int .i64 0, .int .u64 0, .int .u64 0, .int .i64 0, .int .u64 0] 72)) [.bool false, .bool false] 73
  have e2 := b2alloc w5 (.cells #[.int .u64 0, .int .i64 0, .int .u64 0, .int .u64 0, .int .i64 0, .int .u64 0] 72) (.cells #[.bool false, .bool false] 73)
  rw [show (w5.alloc (.cells #[.int .u64 0, .int .i64 0, .int .u64 0, .int .u64 0, .int .i64 0, .int .u64 0] 72)).heap.size = w4.heap.size + 1 + 1 by simp [hz5]] at Q3
  rw [hz5] at Q2
  have Q1' := Q1.on e2
  have H5 := H4.on (bt e1 e2)
  obtain ⟨w6, hw6⟩ : ∃ q, q = (w5.alloc (.cells #[.int .u64 0, .int .i64 0, .int .u64 0, .int .u64 0, .int .i64 0, .int .u64 0] 72)).alloc (.cells #[.bool false, .bool false] 73) := ⟨_, rfl⟩
  rw [← hw6]
  have Q2' : Blk w6 (w4.heap.size + 1) (c6 none none) := by rw [hw6]; exact Q2
  have Q3' : Blk w6 (w4.heap.size + 1 + 1) (c2 none none) := by rw [hw6]; exact Q3
  have Q1'' : Blk w6 w4.heap.size [.int .i64 a.kind, .int .u64 (a.life.toNat : Int), .int .i64 a.seq, .int .u64 (a.gen.toNat : Int), .slice A a.body.length c, .int .i64 b.kind, .int .u64 (b.life.toNat : Int), .int .i64 b.seq, .int .u64 (b.gen.toNat : Int), .slice B b.body.length d] := by rw [hw6]; exact Q1'
  have H6 : Here (((w.alloc (.cells (gcell ga gd gl).toArray 23)).alloc (.cells ([.int .i64 a.kind, .int .u64 (a.life.toNat : Int), .int .i64 a.seq, .int .u64 (a.gen.toNat : Int), .slice A a.body.length c] : List Value).toArray 49)).alloc (.cells ([.int .i64 b.kind, .int .u64 (b.life.toNat : Int), .int .i64 b.seq, .int .u64 (b.gen.toNat : Int), .slice B b.body.length d] : List Value).toArray 49)) w6 g fp (Disk.new n) gS bS [] := by rw [hw6]; exact H5
  have lt4 := H4.both.sym.lt.2
  have dlt := H4.both.disk.lt
  obtain ⟨hL, ehL⟩ : ∃ q, q = w4.heap.size := ⟨_, rfl⟩
  obtain ⟨hX, ehX⟩ : ∃ q, q = w4.heap.size + 1 := ⟨_, rfl⟩
  obtain ⟨hI, ehI⟩ : ∃ q, q = w4.heap.size + 1 + 1 := ⟨_, rfl⟩
  have n0 : hL ∉ bS :: fp ∧ hX ∉ bS :: fp ∧ hI ∉ bS :: fp := by
    refine ⟨?_, ?_, ?_⟩ <;> (intro e; rcases List.mem_cons.1 e with e | e; omega; have := dlt _ e; omega)
  have nS : hX ≠ gS ∧ hI ≠ gS := by have := H4.both.sym.lt.1; exact ⟨by omega, by omega⟩
  have hd3 : hL ≠ hX ∧ hL ≠ hI ∧ hX ≠ hI := ⟨by omega, by omega, by omega⟩
  have h0h : (((w.alloc (.cells (gcell ga gd gl).toArray 23)).alloc (.cells ([.int .i64 a.kind, .int .u64 (a.life.toNat : Int), .int .i64 a.seq, .int .u64 (a.gen.toNat : Int), .slice A a.body.length c] : List Value).toArray 49)).alloc (.cells ([.int .i64 b.kind, .int .u64 (b.life.toNat : Int), .int .i64 b.seq, .int .u64 (b.gen.toNat : Int), .slice B b.body.length d] : List Value).toArray 49)).heap.size ≤ hX ∧ (((w.alloc (.cells (gcell ga gd gl).toArray 23)).alloc (.cells ([.int .i64 a.kind, .int .u64 (a.life.toNat : Int), .int .i64 a.seq, .int .u64 (a.gen.toNat : Int), .slice A a.body.length c] : List Value).toArray 49)).alloc (.cells ([.int .i64 b.kind, .int .u64 (b.life.toNat : Int), .int .i64 b.seq, .int .u64 (b.gen.toNat : Int), .slice B b.body.length d] : List Value).toArray 49)).heap.size ≤ hI := ⟨Nat.le_trans H4.bel.size (by omega), Nat.le_trans H4.bel.size (by omega)⟩
  rw [← ehI] at Q3' ⊢
  rw [← ehX] at Q2' ⊢
  rw [← ehL] at Q1'' ⊢
  clear Q1 Q2 Q3 Q1' hw5 hw6 e1 e2 ehL ehX ehI H5 H4 hz5 a0 a1 a2 a3 a4 b0 b1 b2 b3 b4 z0 z1 z2 t1 t2 t12 t3 t13 t4 hD hfp hfp' hS hgS hbS lt4 dlt
  go_loopw [15] (fun i wr => ∃ (k : Nat) (fpk : List Nat), k ≤ 2 ∧ i = .int .i64 k ∧ Blk wr hL [.int .i64 a.kind, .int .u64 (a.life.toNat : Int), .int .i64 a.seq, .int .u64 (a.gen.toNat : Int), .slice A a.body.length c, .int .i64 b.kind, .int .u64 (b.life.toNat : Int), .int .i64 b.seq, .int .u64 (b.gen.toNat : Int), .slice B b.body.length d] ∧ (hL ∉ bS :: fpk ∧ hX ∉ bS :: fpk ∧ hI ∉ bS :: fpk) ∧ ((k = 0 ∧ Blk wr hX (c6 none none) ∧ Blk wr hI (c2 none none) ∧ Here (((w.alloc (.cells (gcell ga gd gl).toArray 23)).alloc (.cells ([.int .i64 a.kind, .int .u64 (a.life.toNat : Int), .int .i64 a.seq, .int .u64 (a.gen.toNat : Int), .slice A a.body.length c] : List Value).toArray 49)).alloc (.cells ([.int .i64 b.kind, .int .u64 (b.life.toNat : Int), .int .i64 b.seq, .int .u64 (b.gen.toNat : Int), .slice B b.body.length d] : List Value).toArray 49)) wr g fpk (Disk.new n) gS bS []) ∨ (k = 1 ∧ Blk wr hX (c6 o2 none) ∧ Blk wr hI (c2 o2 none) ∧ Here (((w.alloc (.cells (gcell ga gd gl).toArray 23)).alloc (.cells ([.int .i64 a.kind, .int .u64 (a.life.toNat : Int), .int .i64 a.seq, .int .u64 (a.gen.toNat : Int), .slice A a.body.length c] : List Value).toArray 49)).alloc (.cells ([.int .i64 b.kind, .int .u64 (b.life.toNat : Int), .int .i64 b.seq, .int .u64 (b.gen.toNat : Int), .slice B b.body.length d] : List Value).toArray 49)) wr g fpk q1.2 gS bS q1.1) ∨ (k = 2 ∧ Blk wr hX (c6 o2 o3) ∧ Blk wr hI (c2 o2 o3) ∧ Here (((w.alloc (.cells (gcell ga gd gl).toArray 23)).alloc (.cells ([.int .i64 a.kind, .int .u64 (a.life.toNat : Int), .int .i64 a.seq, .int .u64 (a.gen.toNat : Int), .slice A a.body.length c] : List Value).toArray 49)).alloc (.cells ([.int .i64 b.kind, .int .u64 (b.life.toNat : Int), .int .i64 b.seq, .int .u64 (b.gen.toNat : Int), .slice B b.body.length d] : List Value).toArray 49)) wr g fpk q2.2 gS bS q2.1))) (fun i _ => 2 - (intOf i).toNat)
  case atStart => exact ⟨0, fp, by omega, rfl, Q1'', n0, .inl ⟨rfl, Q2', Q3', H6⟩⟩
  case round =>
    obtain ⟨k, fpk, hk, rfl, hT, nf, hcs⟩ := hrel
    clear Q1'' Q2' Q3' n0 H6
    rcases hcs with ⟨rfl, hXb, hIb, H⟩ | ⟨rfl, hXb, hIb, H⟩ | ⟨rfl, hXb, hIb, H⟩
    · have hsz : ((([], Disk.new n) : List (List UInt8) × Disk.St)).2.sz ≤ 2 := Nat.zero_le _
      have hln : ((([], Disk.new n) : List (List UInt8) × Disk.St)).1.length ≤ 1000000 := by simp
      have bz : Below wr.heap.size wr wr.drew := (Below.refl _ _).drew
      obtain ⟨t0, t1, t2, t3, t4, t5, t6, t7, t8, t9⟩ := ten hT
      obtain ⟨z0, z1, z2⟩ := gthree (HG.out.below H.bel hlG)
      by_cases hf : rightF 2 a = 0
      rotate_left
      · have HE := Lib.hid (fun W => Sec.encode_bad 2 gS a A c W hf)
        have hq' : q1 = (([], Disk.new n) : List (List UInt8) × Disk.St) := by rw [Eq1.out]; exact stp_no hf
        have ho : o2 = none := by rw [Eo2.out]; exact if_neg hf
        have H' : Here (((w.alloc (.cells (gcell ga gd gl).toArray 23)).alloc (.cells ([.int .i64 a.kind, .int .u64 (a.life.toNat : Int), .int .i64 a.seq, .int .u64 (a.gen.toNat : Int), .slice A a.body.length c] : List Value).toArray 49)).alloc (.cells ([.int .i64 b.kind, .int .u64 (b.life.toNat : Int), .int .i64 b.seq, .int .u64 (b.gen.toNat : Int), .slice B b.body.length d] : List Value).toArray 49)) wr g fpk q1.2 gS bS q1.1 := by rw [hq']; exact H
        have Ho := Lib.hid ho
        obtain ⟨f0, hf0⟩ : ∃ f0, f0 = rightF 2 a := ⟨_, rfl⟩
        rw [← hf0] at HE hf
        have tf := bne_yes hf
        clear hf0 hq' ho
        go_wp2_with fail
        go_region_held3 (fun w' => w'.cell? ⟨hL, 0, none⟩ = some (.int .i64 a.kind) ∧ w'.cell? ⟨hL, 1, none⟩ = some (.int .u64 (a.life.toNat : Int)) ∧ w'.cell? ⟨hL, 2, none⟩ = some (.int .i64 a.seq) ∧ w'.cell? ⟨hL, 3, none⟩ = some (.int .u64 (a.gen.toNat : Int)) ∧ w'.cell? ⟨hL, 4, none⟩ = some (.slice A a.body.length c) ∧ w'.cell? ⟨hL, 5, none⟩ = some (.int .i64 b.kind) ∧ w'.cell? ⟨hL, 6, none⟩ = some (.int .u64 (b.life.toNat : Int)) ∧ w'.cell? ⟨hL, 7, none⟩ = some (.int .i64 b.seq) ∧ w'.cell? ⟨hL, 8, none⟩ = some (.int .u64 (b.gen.toNat : Int)) ∧ w'.cell? ⟨hL, 9, none⟩ = some (.slice B b.body.length d)) (first | exact ten (hT.on bz) | exact ten (hT.on c4)) ((go_at_call 42; refine (HE.out _).mono ?_; rintro e w7 ⟨rfl, y4⟩; have c4 := bt bz y4))
        go_wp2_with fail
        case roundEnd => exact ⟨⟨1, fpk, by omega, rfl, hT.on c4, nf, .inr (.inl ⟨rfl, by rw [Ho.out]; exact hXb.on c4, by rw [Ho.out]; exact hIb.on c4, H'.on c4⟩)⟩, by simp [intOf]⟩
      have HE := Lib.hid (fun W hS hR => Sec.encode_sym 2 gS bS ((([], Disk.new n) : List (List UInt8) × Disk.St)).1 a A c W hS hln hR hf)
      have HPu := Lib.hid (fun W A' c' hD hR => Disk.put_any g fpk ((([], Disk.new n) : List (List UInt8) × Disk.St)).2 2 A' 512 c' (bytesAt ((([], Disk.new n) : List (List UInt8) × Disk.St)) 2 a) W hD (by omega) (bytesAt_len ((([], Disk.new n) : List (List UInt8) × Disk.St)) 2 a).symm hR)
      have hq' : q1 = (Sec.sumAfter ((([], Disk.new n) : List (List UInt8) × Disk.St)).1 (Sec.text 2 a), (Disk.put ((([], Disk.new n) : List (List UInt8) × Disk.St)).2 2 (bytesAt ((([], Disk.new n) : List (List UInt8) × Disk.St)) 2 a)).1) := by rw [Eq1.out]; exact stp_yes hf
      have hq2 := congrArg Prod.snd hq'
      have hq1 := congrArg Prod.fst hq'
      simp only [] at hq1 hq2
      rw [show Sec.text 2 a ++ Sec.sumOf ((([], Disk.new n) : List (List UInt8) × Disk.St)).1 (Sec.text 2 a) = bytesAt ((([], Disk.new n) : List (List UInt8) × Disk.St)) 2 a from rfl, ← hq1] at HE
      obtain ⟨R, hR⟩ : ∃ R, R = Disk.put ((([], Disk.new n) : List (List UInt8) × Disk.St)).2 2 (bytesAt ((([], Disk.new n) : List (List UInt8) × Disk.St)) 2 a) := ⟨_, rfl⟩
      rw [← hR] at HPu hq2
      obtain ⟨bb, hbb⟩ : ∃ bb, bb = bytesAt ((([], Disk.new n) : List (List UInt8) × Disk.St)) 2 a := ⟨_, rfl⟩
      rw [← hbb] at HPu HE
      have Hq2 := Lib.hid hq2
      have hoR : ofR ga gd gl 2 a = o2 := by rw [Eo2.out]; exact (if_pos hf).symm
      have hOf := fun A' c' W hR => rof_any ga gd gl 2 a A' c' W hG hR (by omega)
      rw [hoR, ofV_form] at hOf
      have HOf := Lib.hid hOf
      clear hq' hq1 hR hbb hq2 hoR hOf
      go_wp2_with fail
      go_region_held3 (fun w' => w'.cell? ⟨hL, 0, none⟩ = some (.int .i64 a.kind) ∧ w'.cell? ⟨hL, 1, none⟩ = some (.int .u64 (a.life.toNat : Int)) ∧ w'.cell? ⟨hL, 2, none⟩ = some (.int .i64 a.seq) ∧ w'.cell? ⟨hL, 3, none⟩ = some (.int .u64 (a.gen.toNat : Int)) ∧ w'.cell? ⟨hL, 4, none⟩ = some (.slice A a.body.length c) ∧ w'.cell? ⟨hL, 5, none⟩ = some (.int .i64 b.kind) ∧ w'.cell? ⟨hL, 6, none⟩ = some (.int .u64 (b.life.toNat : Int)) ∧ w'.cell? ⟨hL, 7, none⟩ = some (.int .i64 b.seq) ∧ w'.cell? ⟨hL, 8, none⟩ = some (.int .u64 (b.gen.toNat : Int)) ∧ w'.cell? ⟨hL, 9, none⟩ = some (.slice B b.body.length d)) (first | exact ten (hT.on bz) | exact ten hT4) (((go_at_call 42; refine (HE.out _ (H.on bz).both.sym ((H.on bz).rd (hr.on bw))).mono ?_; rintro e w7 ⟨A4, c4, rfl, own4, k4, s4⟩; have H4 := (H.on bz).summed s4 k4; have hT4 := (hT.on bz).keepK k4 (fun e => nf.1 (by rw [List.mem_singleton] at e; rw [e]; simp)); have hX4 := (hXb.on bz).keepK k4 (fun e => nf.2.1 (by rw [List.mem_singleton] at e; rw [e]; simp)); have hI4 := (hIb.on bz).keepK k4 (fun e => nf.2.2 (by rw [List.mem_singleton] at e; rw [e]; simp)))))
      go_wp2_with (first
        | (go_at_call 43; refine (HPu.out _ _ _ H4.both.disk (Rd.own own4)).mono ?_; rintro e w8 d5; obtain ⟨rfl, fp5, H5, k5, f5⟩ := H4.did d5; have hT5 := hT4.keepK k5 nf.1; have hX5 := hX4.keepK k5 nf.2.1; have hI5 := hI4.keepK k5 nf.2.2; have nf5 : hL ∉ bS :: fp5 ∧ hX ∉ bS :: fp5 ∧ hI ∉ bS :: fp5 := ⟨out5 f5 hT4.lt nf.1, out5 f5 hX4.lt nf.2.1, out5 f5 hI4.lt nf.2.2⟩; clear t0 t1 t2 t3 t4 t5 t6 t7 t8 t9 z0 z1 z2; obtain ⟨t0, t1, t2, t3, t4, t5, t6, t7, t8, t9⟩ := ten hT5; obtain ⟨z0, z1, z2⟩ := gthree (HG.out.below H5.bel hlG); obtain ⟨x0, x1, x2, x3, x4, x5⟩ := six6 hX5; obtain ⟨i0, i1⟩ := two2 hI5; have fx := hX5.free; have fi := hI5.free))
      have ltX := hX5.lt
      have ltI := hI5.lt
      have cz : Below w8.heap.size w8 w8.drew := (Below.refl _ _).drew
      have FG8 := HG.out.below H5.bel hlG
      have nGX : w.heap.size ≠ hX ∧ w.heap.size ≠ hI := ⟨by omega, by omega⟩
      clear hX4 hI4 hT4 H4 H HLb HRd HA3 HN HR HS Eq1 Eq2 Eo2 Eo3 Hn hXb hIb hT own4 k4 s4 k5 f5
      refine wp_region_held_drew (S := (fun w' => (w'.cell? ⟨w.heap.size, 0, none⟩ = some (.int .i64 ga) ∧ w'.cell? ⟨w.heap.size, 1, none⟩ = some (.int .i64 gd) ∧ w'.cell? ⟨w.heap.size, 2, none⟩ = some (.int .i64 gl)) ∧ (w'.cell? ⟨hL, 0, none⟩ = some (.int .i64 a.kind) ∧ w'.cell? ⟨hL, 1, none⟩ = some (.int .u64 (a.life.toNat : Int)) ∧ w'.cell? ⟨hL, 2, none⟩ = some (.int .i64 a.seq) ∧ w'.cell? ⟨hL, 3, none⟩ = some (.int .u64 (a.gen.toNat : Int)) ∧ w'.cell? ⟨hL, 4, none⟩ = some (.slice A a.body.length c) ∧ w'.cell? ⟨hL, 5, none⟩ = some (.int .i64 b.kind) ∧ w'.cell? ⟨hL, 6, none⟩ = some (.int .u64 (b.life.toNat : Int)) ∧ w'.cell? ⟨hL, 7, none⟩ = some (.int .i64 b.seq) ∧ w'.cell? ⟨hL, 8, none⟩ = some (.int .u64 (b.gen.toNat : Int)) ∧ w'.cell? ⟨hL, 9, none⟩ = some (.slice B b.body.length d)))) (by kernel_rfl) (by exact ⟨gthree (FG8.on cz), ten (hT5.on cz)⟩) (fun hHeld => ?_)
      refine wpAnyH_take (i := 0) (oi := { dst := some 103, op := Op.move (Operand.tmp 15), type := 3, pos := "law.go:55", after := #[], guard := none }) (v := ?_) rfl (by kernel_rfl) (by kernel_rfl) (by kernel_rfl) (fun _ _ _ h => h) (Or.inl ⟨by rfl, ?_⟩) (by assumption) ?_; rotate_left; · ((intro w hSw; (try dsimp only at hSw); go_simp) <;> with_reducible rfl)
      try simp only [Act.put, List.setIfInBounds_toArray, List.set_cons_zero, List.set_cons_succ]
      refine wpAnyH_take (i := 1) (oi := { dst := some 104, op := Op.move (Operand.tmp 15), type := 3, pos := "law.go:55", after := #[{ on := 14, ground := Ground.gcOnly Go.Departure.lateStores }], guard := none }) (v := ?_) rfl (by kernel_rfl) (by kernel_rfl) (by kernel_rfl) (fun _ _ _ h => h) (Or.inl ⟨by rfl, ?_⟩) (by assumption) ?_; rotate_left; · ((intro w hSw; (try dsimp only at hSw); go_simp) <;> with_reducible rfl)
      try simp only [Act.put, List.setIfInBounds_toArray, List.set_cons_zero, List.set_cons_succ]
      refine wpAnyH_take (i := 2) (oi := { dst := some 105, op := Op.load 23 (Operand.tmp 4), type := 23, pos := "law.go:55", after := #[], guard := none }) (v := ?_) rfl (by kernel_rfl) (by kernel_rfl) (by kernel_rfl) (fun _ _ _ h => h) (Or.inl ⟨by rfl, ?_⟩) (by assumption) ?_; rotate_left; · ((intro w hSw; (try dsimp only at hSw); go_simp) <;> with_reducible rfl)
      try simp only [Act.put, List.setIfInBounds_toArray, List.set_cons_zero, List.set_cons_succ]
      refine wpAnyH_take (i := 3) (oi := { dst := some 106, op := Op.move (Operand.tmp 15), type := 3, pos := "law.go:55", after := #[], guard := none }) (v := ?_) rfl (by kernel_rfl) (by kernel_rfl) (by kernel_rfl) (fun _ _ _ h => h) (Or.inl ⟨by rfl, ?_⟩) (by assumption) ?_; rotate_left; · ((intro w hSw; (try dsimp only at hSw); go_simp) <;> with_reducible rfl)
      try simp only [Act.put, List.setIfInBounds_toArray, List.set_cons_zero, List.set_cons_succ]
      refine wpAnyH_take (i := 4) (oi := { dst := some 107, op := Op.binOp BinOp.add 3 (Operand.const (Value.int IntKind.i64 2)) (Operand.tmp 106) 3, type := 3, pos := "law.go:55", after := #[{ on := 3, ground := Ground.data }], guard := none }) (v := ?_) rfl (by kernel_rfl) (by kernel_rfl) (by kernel_rfl) (fun _ _ _ h => h) (Or.inl ⟨by rfl, ?_⟩) (by assumption) ?_; rotate_left; · ((intro w hSw; (try dsimp only at hSw); go_simp) <;> with_reducible rfl)
      try simp only [Act.put, List.setIfInBounds_toArray, List.set_cons_zero, List.set_cons_succ]
      refine wpAnyH_take (i := 5) (oi := { dst := some 108, op := Op.move (Operand.tmp 12), type := 71, pos := "law.go:55", after := #[], guard := none }) (v := ?_) rfl (by kernel_rfl) (by kernel_rfl) (by kernel_rfl) (fun _ _ _ h => h) (Or.inl ⟨by rfl, ?_⟩) (by assumption) ?_; rotate_left; · ((intro w hSw; (try dsimp only at hSw); go_simp) <;> with_reducible rfl)
      try simp only [Act.put, List.setIfInBounds_toArray, List.set_cons_zero, List.set_cons_succ]
      refine wpAnyH_take (i := 6) (oi := { dst := some 109, op := Op.move (Operand.tmp 15), type := 3, pos := "law.go:55", after := #[], guard := none }) (v := ?_) rfl (by kernel_rfl) (by kernel_rfl) (by kernel_rfl) (fun _ _ _ h => h) (Or.inl ⟨by rfl, ?_⟩) (by assumption) ?_; rotate_left; · ((intro w hSw; (try dsimp only at hSw); go_simp) <;> with_reducible rfl)
      try simp only [Act.put, List.setIfInBounds_toArray, List.set_cons_zero, List.set_cons_succ]
      refine wpAnyH_take (i := 7) (oi := { dst := some 110, op := Op.indexAddr 71 (Operand.tmp 108) (Operand.tmp 109), type := 0, pos := "law.go:55", after := #[{ on := 5, ground := Ground.data }, { on := 6, ground := Ground.data }], guard := none }) (v := ?_) rfl (by kernel_rfl) (by kernel_rfl) (by kernel_rfl) (fun _ _ _ h => h) (Or.inl ⟨by rfl, ?_⟩) (by assumption) ?_; rotate_left; · ((intro w hSw; (try dsimp only at hSw); go_simp) <;> with_reducible rfl)
      try simp only [Act.put, List.setIfInBounds_toArray, List.set_cons_zero, List.set_cons_succ]
      refine wpAnyH_take (i := 8) (oi := { dst := some 111, op := Op.load 49 (Operand.tmp 110), type := 49, pos := "law.go:55", after := #[{ on := 7, ground := Ground.data }], guard := none }) (v := ?_) rfl (by kernel_rfl) (by kernel_rfl) (by kernel_rfl) (fun _ _ _ h => h) (Or.inl ⟨by rfl, ?_⟩) (by assumption) ?_; rotate_left; · ((intro w hSw; (try dsimp only at hSw); go_simp) <;> with_reducible rfl)
      try simp only [Act.put, List.setIfInBounds_toArray, List.set_cons_zero, List.set_cons_succ]
      refine wpAnyH_ready (rs := [9]) (by kernel_rfl) (by simp) ?_
      refine AllReadyH.cons (o := { dst := some 112, op := Op.call { callee := Callee.value (Operand.func 44), args := #[Operand.tmp 105, Operand.tmp 107, Operand.tmp 111], argTypes := #[23, 3, 49] }, type := 77, pos := "law.go:55", after := #[{ on := 2, ground := Ground.data }, { on := 4, ground := Ground.data }, { on := 8, ground := Ground.data }], guard := none }) rfl (fun K hK => ?_) AllReadyH.nil
      go_simp; (first | ((go_at_call 44; refine (HOf.out A c _ ((H5.on cz).rd (hr.on bw))).mono ?_; rintro e w9 ⟨rfl, y9⟩; have c9 := bt cz y9; obtain ⟨x0', x1', x2', x3', x4', x5'⟩ := six6 (hX5.on c9); obtain ⟨i0', i1'⟩ := two2 (hI5.on c9); have fx' := (hX5.on c9).free; have fi' := (hI5.on c9).free)) | skip); (try (go_wp2_with fail)); refine hK.out _ _ (by first | (first | with_reducible exact ⟨gthree (FG8.on c9), ten (hT5.on c9)⟩ | with_reducible exact ⟨gthree (st3 (FG8.on c9) nGX.1 _ _ _), ten (st3 (hT5.on c9) hd3.1 _ _ _)⟩ | with_reducible exact ⟨gthree (st4 (FG8.on c9) nGX.1 nGX.2 _ _ _ _), ten (st4 (hT5.on c9) hd3.1 hd3.2.1 _ _ _ _)⟩) | ((try dsimp only); (first | with_reducible exact ⟨gthree (FG8.on c9), ten (hT5.on c9)⟩ | with_reducible exact ⟨gthree (st3 (FG8.on c9) nGX.1 _ _ _), ten (st3 (hT5.on c9) hd3.1 _ _ _)⟩ | with_reducible exact ⟨gthree (st4 (FG8.on c9) nGX.1 nGX.2 _ _ _ _), ten (st4 (hT5.on c9) hd3.1 hd3.2.1 _ _ _ _)⟩))) (fun hHeld => ?_)
      clear hK K
      try simp only [Act.put, List.setIfInBounds_toArray, List.set_cons_zero, List.set_cons_succ]
      refine wpAnyH_take (i := 10) (oi := { dst := some 102, op := Op.move (Operand.tmp 112), type := 77, pos := "law.go:55", after := #[{ on := 9, ground := Ground.data }], guard := none }) (v := ?_) rfl (by kernel_rfl) (by kernel_rfl) (by kernel_rfl) (fun _ _ _ h => h) (Or.inl ⟨by rfl, ?_⟩) (by assumption) ?_; rotate_left; · ((intro w hSw; (try dsimp only at hSw); go_simp) <;> with_reducible rfl)
      try simp only [Act.put, List.setIfInBounds_toArray, List.set_cons_zero, List.set_cons_succ]
      refine wpAnyH_take (i := 11) (oi := { dst := some 113, op := Op.extract (Operand.tmp 102) 0, type := 26, pos := "law.go:55", after := #[{ on := 10, ground := Ground.data }], guard := none }) (v := ?_) rfl (by kernel_rfl) (by kernel_rfl) (by kernel_rfl) (fun _ _ _ h => h) (Or.inl ⟨by rfl, ?_⟩) (by assumption) ?_; rotate_left; · ((intro w hSw; (try dsimp only at hSw); go_simp) <;> with_reducible rfl)
      try simp only [Act.put, List.setIfInBounds_toArray, List.set_cons_zero, List.set_cons_succ]
      refine wpAnyH_take (i := 12) (oi := { dst := some 114, op := Op.extract (Operand.tmp 102) 1, type := 4, pos := "law.go:55", after := #[{ on := 10, ground := Ground.data }, { on := 14, ground := Ground.gcOnly Go.Departure.lateStores }], guard := none }) (v := ?_) rfl (by kernel_rfl) (by kernel_rfl) (by kernel_rfl) (fun _ _ _ h => h) (Or.inl ⟨by rfl, ?_⟩) (by assumption) ?_; rotate_left; · ((intro w hSw; (try dsimp only at hSw); go_simp) <;> with_reducible rfl)
      try simp only [Act.put, List.setIfInBounds_toArray, List.set_cons_zero, List.set_cons_succ]
      refine wpAnyH_take (i := 13) (oi := { dst := some 115, op := Op.indexAddr 72 (Operand.tmp 13) (Operand.tmp 103), type := 0, pos := "law.go:55", after := #[{ on := 0, ground := Ground.data }, { on := 0, ground := Ground.phase }, { on := 1, ground := Ground.textOnly Go.Departure.lateStores }, { on := 2, ground := Ground.phase }, { on := 3, ground := Ground.phase }, { on := 4, ground := Ground.phase }, { on := 5, ground := Ground.phase }, { on := 6, ground := Ground.phase }, { on := 7, ground := Ground.phase }, { on := 8, ground := Ground.phase }, { on := 9, ground := Ground.phase }, { on := 10, ground := Ground.phase }, { on := 11, ground := Ground.phase }, { on := 12, ground := Ground.textOnly Go.Departure.lateStores }], guard := none }) (v := ?_) rfl (by kernel_rfl) (by kernel_rfl) (by kernel_rfl) (fun _ _ _ h => h) (Or.inl ⟨by rfl, ?_⟩) (by assumption) ?_; rotate_left; · ((intro w hSw; (try dsimp only at hSw); go_simp) <;> with_reducible rfl)
      try simp only [Act.put, List.setIfInBounds_toArray, List.set_cons_zero, List.set_cons_succ]
      refine wpAnyH_ready (rs := [14]) (by kernel_rfl) (by simp) ?_
      refine AllReadyH.cons (o := { dst := none, op := Op.store 26 (Operand.tmp 115) (Operand.tmp 113), type := 0, pos := "law.go:55", after := #[{ on := 13, ground := Ground.data }, { on := 11, ground := Ground.data }, { on := 9, ground := Ground.chain }, { on := 0, ground := Ground.phase }, { on := 1, ground := Ground.textOnly Go.Departure.lateStores }, { on := 2, ground := Ground.phase }, { on := 3, ground := Ground.phase }, { on := 4, ground := Ground.phase }, { on := 5, ground := Ground.phase }, { on := 6, ground := Ground.phase }, { on := 7, ground := Ground.phase }, { on := 8, ground := Ground.phase }, { on := 9, ground := Ground.phase }, { on := 10, ground := Ground.phase }, { on := 11, ground := Ground.phase }, { on := 12, ground := Ground.textOnly Go.Departure.lateStores }], guard := none }) rfl (fun K hK => ?_) AllReadyH.nil
      go_simp; (first | ((go_at_call 44; refine (HOf.out A c _ ((H5.on cz).rd (hr.on bw))).mono ?_; rintro e w9 ⟨rfl, y9⟩; have c9 := bt cz y9; obtain ⟨x0', x1', x2', x3', x4', x5'⟩ := six6 (hX5.on c9); obtain ⟨i0', i1'⟩ := two2 (hI5.on c9); have fx' := (hX5.on c9).free; have fi' := (hI5.on c9).free)) | skip); (try (go_wp2_with fail)); refine hK.out _ _ (by first | (first | with_reducible exact ⟨gthree (FG8.on c9), ten (hT5.on c9)⟩ | with_reducible exact ⟨gthree (st3 (FG8.on c9) nGX.1 _ _ _), ten (st3 (hT5.on c9) hd3.1 _ _ _)⟩ | with_reducible exact ⟨gthree (st4 (FG8.on c9) nGX.1 nGX.2 _ _ _ _), ten (st4 (hT5.on c9) hd3.1 hd3.2.1 _ _ _ _)⟩) | ((try dsimp only); (first | with_reducible exact ⟨gthree (FG8.on c9), ten (hT5.on c9)⟩ | with_reducible exact ⟨gthree (st3 (FG8.on c9) nGX.1 _ _ _), ten (st3 (hT5.on c9) hd3.1 _ _ _)⟩ | with_reducible exact ⟨gthree (st4 (FG8.on c9) nGX.1 nGX.2 _ _ _ _), ten (st4 (hT5.on c9) hd3.1 hd3.2.1 _ _ _ _)⟩))) (fun hHeld => ?_)
      clear hK K
      try simp only [Act.put, List.setIfInBounds_toArray, List.set_cons_zero, List.set_cons_succ]
      refine wpAnyH_take (i := 15) (oi := { dst := some 116, op := Op.indexAddr 73 (Operand.tmp 14) (Operand.tmp 104), type := 0, pos := "law.go:55", after := #[{ on := 1, ground := Ground.data }, { on := 0, ground := Ground.phase }, { on := 1, ground := Ground.phase }, { on := 2, ground := Ground.phase }, { on := 3, ground := Ground.phase }, { on := 4, ground := Ground.phase }, { on := 5, ground := Ground.phase }, { on := 6, ground := Ground.phase }, { on := 7, ground := Ground.phase }, { on := 8, ground := Ground.phase }, { on := 9, ground := Ground.phase }, { on := 10, ground := Ground.phase }, { on := 11, ground := Ground.phase }, { on := 12, ground := Ground.phase }, { on := 13, ground := Ground.phase }, { on := 14, ground := Ground.phase }], guard := none }) (v := ?_) rfl (by kernel_rfl) (by kernel_rfl) (by kernel_rfl) (fun _ _ _ h => h) (Or.inl ⟨by rfl, ?_⟩) (by assumption) ?_; rotate_left; · ((intro w hSw; (try dsimp only at hSw); go_simp) <;> with_reducible rfl)
      try simp only [Act.put, List.setIfInBounds_toArray, List.set_cons_zero, List.set_cons_succ]
      refine wpAnyH_ready (rs := [16]) (by kernel_rfl) (by simp) ?_
      refine AllReadyH.cons (o := { dst := none, op := Op.store 4 (Operand.tmp 116) (Operand.tmp 114), type := 0, pos := "law.go:55", after := #[{ on := 15, ground := Ground.data }, { on := 12, ground := Ground.data }, { on := 14, ground := Ground.chain }, { on := 0, ground := Ground.phase }, { on := 1, ground := Ground.phase }, { on := 2, ground := Ground.phase }, { on := 3, ground := Ground.phase }, { on := 4, ground := Ground.phase }, { on := 5, ground := Ground.phase }, { on := 6, ground := Ground.phase }, { on := 7, ground := Ground.phase }, { on := 8, ground := Ground.phase }, { on := 9, ground := Ground.phase }, { on := 10, ground := Ground.phase }, { on := 11, ground := Ground.phase }, { on := 12, ground := Ground.phase }, { on := 13, ground := Ground.phase }, { on := 14, ground := Ground.phase }], guard := none }) rfl (fun K hK => ?_) AllReadyH.nil
      go_simp; (first | ((go_at_call 44; refine (HOf.out A c _ ((H5.on cz).rd (hr.on bw))).mono ?_; rintro e w9 ⟨rfl, y9⟩; have c9 := bt cz y9; obtain ⟨x0', x1', x2', x3', x4', x5'⟩ := six6 (hX5.on c9); obtain ⟨i0', i1'⟩ := two2 (hI5.on c9); have fx' := (hX5.on c9).free; have fi' := (hI5.on c9).free)) | skip); (try (go_wp2_with fail)); refine hK.out _ _ (by first | (first | with_reducible exact ⟨gthree (FG8.on c9), ten (hT5.on c9)⟩ | with_reducible exact ⟨gthree (st3 (FG8.on c9) nGX.1 _ _ _), ten (st3 (hT5.on c9) hd3.1 _ _ _)⟩ | with_reducible exact ⟨gthree (st4 (FG8.on c9) nGX.1 nGX.2 _ _ _ _), ten (st4 (hT5.on c9) hd3.1 hd3.2.1 _ _ _ _)⟩) | ((try dsimp only); (first | with_reducible exact ⟨gthree (FG8.on c9), ten (hT5.on c9)⟩ | with_reducible exact ⟨gthree (st3 (FG8.on c9) nGX.1 _ _ _), ten (st3 (hT5.on c9) hd3.1 _ _ _)⟩ | with_reducible exact ⟨gthree (st4 (FG8.on c9) nGX.1 nGX.2 _ _ _ _), ten (st4 (hT5.on c9) hd3.1 hd3.2.1 _ _ _ _)⟩))) (fun hHeld => ?_)
      clear hK K
      try simp only [Act.put, List.setIfInBounds_toArray, List.set_cons_zero, List.set_cons_succ]
      refine wpAnyH_done (by kernel_rfl) ?_ _
      have k6 := keep4 w9 hX hI 0 1 2 0 (.int .u64 ((oV o2).life.toNat : Int)) (.int .i64 (oV o2).base) (.int .u64 ((oV o2).gen.toNat : Int)) (.bool o2.isSome)
      have HTa := st4 (i := 0) (j := 1) (k := 2) (l := 0) (hT5.on c9) hd3.1 hd3.2.1 (.int .u64 ((oV o2).life.toNat : Int)) (.int .i64 (oV o2).base) (.int .u64 ((oV o2).gen.toNat : Int)) (.bool o2.isSome)
      have HXa := Blk.other (k := 0) ((((hX5.on c9).set (k := 0) (.int .u64 ((oV o2).life.toNat : Int))).set (k := 1) (.int .i64 (oV o2).base)).set (k := 2) (.int .u64 ((oV o2).gen.toNat : Int))) (.bool o2.isSome) hd3.2.2
      have HIa := (st3 (i := 0) (j := 1) (k := 2) (hI5.on c9) (fun e => hd3.2.2 e.symm) (.int .u64 ((oV o2).life.toNat : Int)) (.int .i64 (oV o2).base) (.int .u64 ((oV o2).gen.toNat : Int))).set (k := 0) (.bool o2.isSome)
      have HHa := (H5.on c9).aside k6 (fun j hj => by
        rcases List.mem_cons.1 hj with e | e
        · rw [e]; exact ⟨nf5.2.1, nS.1, h0h.1⟩
        · rw [List.mem_singleton] at e; rw [e]; exact ⟨nf5.2.2, nS.2, h0h.2⟩)
      obtain ⟨wA, ewA⟩ : ∃ q, q = ((((w9.setCell ⟨hX, 0, none⟩ (.int .u64 ((oV o2).life.toNat : Int))).setCell ⟨hX, 1, none⟩ (.int .i64 (oV o2).base)).setCell ⟨hX, 2, none⟩ (.int .u64 ((oV o2).gen.toNat : Int))).setCell ⟨hI, 0, none⟩ (.bool o2.isSome)) := ⟨_, rfl⟩
      rw [← ewA] at HTa HXa HIa HHa ⊢
      rw [← Hq2.out] at HHa
      have HXa' : Blk wA hX (c6 o2 none) := HXa
      have HIa' : Blk wA hI (c2 o2 none) := HIa
      clear ewA k6 HXa HIa x0' x1' x2' x3' x4' x5' i0' i1' fx' fi' x0 x1 x2 x3 x4 x5 i0 i1 fx fi z0 z1 z2 t0 t1 t2 t3 t4 t5 t6 t7 t8 t9 c9 y9 cz FG8 hT5 hX5 hI5 H5
      obtain ⟨z0, z1, z2⟩ := gthree (HG.out.below HHa.bel hlG)
      go_wp2_with (first
        | (go_at_call 45; refine (HA2.out _ _ _ _ _ HHa.both).mono ?_; rintro e w10 ⟨rfl, t10⟩; have tb := bt t10 (b1alloc w10 (.cells (scell (oV o2).life (oV o2).base (oV o2).gen).toArray 35)); have HHb := HHa.on tb; have HTb := HTa.on tb; have HXb := HXa'.on tb; have HIb := HIa'.on tb; obtain ⟨x0, x1, x2, x3, x4, x5⟩ := six6 HXb; obtain ⟨i0, i1⟩ := two2 HIb))
      have NB := Blk.new w10 (scell (oV o2).life (oV o2).base (oV o2).gen) 35
      obtain ⟨wB, ewB⟩ : ∃ q, q = w10.alloc (.cells #[.int .u64 ((oV o2).life.toNat : Int), .int .i64 (oV o2).base, .int .u64 ((oV o2).gen.toNat : Int)] 35) := ⟨_, rfl⟩
      rw [← ewB]
      rw [show w10.alloc (.cells (scell (oV o2).life (oV o2).base (oV o2).gen).toArray 35) = wB from ewB.symm] at NB tb HHb HTb HXb HIb x0 x1 x2 x3 x4 x5 i0 i1
      obtain ⟨hN, ehN⟩ : ∃ q, q = w10.heap.size := ⟨_, rfl⟩
      rw [← ehN] at NB ⊢
      clear ewB ehN
      obtain ⟨y0, y1, y2⟩ := gthree NB
      have ly := NB.lt
      have lx := HXb.lt
      have li := HIb.lt
      refine region_inb (by kernel_rfl) (by kernel_rfl) ?_
      have inbNe := InB.some
      have inbW := @wrap_small
      have inbU := IntKind.wrap_u8'
      repeat (refine wpQuiet_step (fun K hK => ?_); go_simp; first | (refine hK _ ?_; clear hK K) | (apply Exists.intro; refine ⟨?_, hK _ ?_⟩; (· (intro w' hw'; first | fail | (have hcw := hw'.cell; go_simp; exact rfl))); clear hK K))
      refine wpQuiet_nil ?_
      intro wq hq
      clear inbNe inbW inbU
      go_wp2_with fail
      case roundEnd => exact ⟨⟨1, fp5, by omega, rfl, HTb.on hq.below, nf5, .inr (.inl ⟨rfl, HXb.on hq.below, HIb.on hq.below, HHb.on hq.below⟩)⟩, by simp [intOf]⟩
    · have hsz : (q1).2.sz ≤ 2 := by omega
      have hln : (q1).1.length ≤ 1000000 := by omega
      have bz : Below wr.heap.size wr wr.drew := (Below.refl _ _).drew
      obtain ⟨t0, t1, t2, t3, t4, t5, t6, t7, t8, t9⟩ := ten hT
      obtain ⟨z0, z1, z2⟩ := gthree (HG.out.below H.bel hlG)
      by_cases hf : rightF 3 b = 0
      rotate_left
      · have HE := Lib.hid (fun W => Sec.encode_bad 3 gS b B d W hf)
        have hq' : q2 = q1 := by rw [Eq2.out]; exact stp_no hf
        have ho : o3 = none := by rw [Eo3.out]; exact if_neg hf
        have H' : Here (((w.alloc (.cells (gcell ga gd gl).toArray 23)).alloc (.cells ([.int .i64 a.kind, .int .u64 (a.life.toNat : Int), .int .i64 a.seq, .int .u64 (a.gen.toNat : Int), .slice A a.body.length c] : List Value).toArray 49)).alloc (.cells ([.int .i64 b.kind, .int .u64 (b.life.toNat : Int), .int .i64 b.seq, .int .u64 (b.gen.toNat : Int), .slice B b.body.length d] : List Value).toArray 49)) wr g fpk q2.2 gS bS q2.1 := by rw [hq']; exact H
        have Ho := Lib.hid ho
        obtain ⟨f0, hf0⟩ : ∃ f0, f0 = rightF 3 b := ⟨_, rfl⟩
        rw [← hf0] at HE hf
        have tf := bne_yes hf
        clear hf0 hq' ho
        go_wp2_with fail
        go_region_held3 (fun w' => w'.cell? ⟨hL, 0, none⟩ = some (.int .i64 a.kind) ∧ w'.cell? ⟨hL, 1, none⟩ = some (.int .u64 (a.life.toNat : Int)) ∧ w'.cell? ⟨hL, 2, none⟩ = some (.int .i64 a.seq) ∧ w'.cell? ⟨hL, 3, none⟩ = some (.int .u64 (a.gen.toNat : Int)) ∧ w'.cell? ⟨hL, 4, none⟩ = some (.slice A a.body.length c) ∧ w'.cell? ⟨hL, 5, none⟩ = some (.int .i64 b.kind) ∧ w'.cell? ⟨hL, 6, none⟩ = some (.int .u64 (b.life.toNat : Int)) ∧ w'.cell? ⟨hL, 7, none⟩ = some (.int .i64 b.seq) ∧ w'.cell? ⟨hL, 8, none⟩ = some (.int .u64 (b.gen.toNat : Int)) ∧ w'.cell? ⟨hL, 9, none⟩ = some (.slice B b.body.length d)) (first | exact ten (hT.on bz) | exact ten (hT.on c4)) ((go_at_call 42; refine (HE.out _).mono ?_; rintro e w7 ⟨rfl, y4⟩; have c4 := bt bz y4))
        go_wp2_with fail
        case roundEnd => exact ⟨⟨2, fpk, by omega, rfl, hT.on c4, nf, .inr (.inr ⟨rfl, by rw [Ho.out]; exact hXb.on c4, by rw [Ho.out]; exact hIb.on c4, H'.on c4⟩)⟩, by simp [intOf]⟩
      have HE := Lib.hid (fun W hS hR => Sec.encode_sym 3 gS bS (q1).1 b B d W hS hln hR hf)
      have HPu := Lib.hid (fun W A' c' hD hR => Disk.put_any g fpk (q1).2 3 A' 512 c' (bytesAt (q1) 3 b) W hD (by omega) (bytesAt_len (q1) 3 b).symm hR)
      have hq' : q2 = (Sec.sumAfter (q1).1 (Sec.text 3 b), (Disk.put (q1).2 3 (bytesAt (q1) 3 b)).1) := by rw [Eq2.out]; exact stp_yes hf
      have hq2 := congrArg Prod.snd hq'
      have hq1 := congrArg Prod.fst hq'
      simp only [] at hq1 hq2
      rw [show Sec.text 3 b ++ Sec.sumOf (q1).1 (Sec.text 3 b) = bytesAt (q1) 3 b from rfl, ← hq1] at HE
      obtain ⟨R, hR⟩ : ∃ R, R = Disk.put (q1).2 3 (bytesAt (q1) 3 b) := ⟨_, rfl⟩
      rw [← hR] at HPu hq2
      obtain ⟨bb, hbb⟩ : ∃ bb, bb = bytesAt (q1) 3 b := ⟨_, rfl⟩
      rw [← hbb] at HPu HE
      have Hq2 := Lib.hid hq2
      have hoR : ofR ga gd gl 3 b = o3 := by rw [Eo3.out]; exact (if_pos hf).symm
      have hOf := fun A' c' W hR => rof_any ga gd gl 3 b A' c' W hG hR (by omega)
      rw [hoR, ofV_form] at hOf
      have HOf := Lib.hid hOf
      clear hq' hq1 hR hbb hq2 hoR hOf
      go_wp2_with fail
      go_region_held3 (fun w' => w'.cell? ⟨hL, 0, none⟩ = some (.int .i64 a.kind) ∧ w'.cell? ⟨hL, 1, none⟩ = some (.int .u64 (a.life.toNat : Int)) ∧ w'.cell? ⟨hL, 2, none⟩ = some (.int .i64 a.seq) ∧ w'.cell? ⟨hL, 3, none⟩ = some (.int .u64 (a.gen.toNat : Int)) ∧ w'.cell? ⟨hL, 4, none⟩ = some (.slice A a.body.length c) ∧ w'.cell? ⟨hL, 5, none⟩ = some (.int .i64 b.kind) ∧ w'.cell? ⟨hL, 6, none⟩ = some (.int .u64 (b.life.toNat : Int)) ∧ w'.cell? ⟨hL, 7, none⟩ = some (.int .i64 b.seq) ∧ w'.cell? ⟨hL, 8, none⟩ = some (.int .u64 (b.gen.toNat : Int)) ∧ w'.cell? ⟨hL, 9, none⟩ = some (.slice B b.body.length d)) (first | exact ten (hT.on bz) | exact ten hT4) (((go_at_call 42; refine (HE.out _ (H.on bz).both.sym ((H.on bz).rd (hs.on bw))).mono ?_; rintro e w7 ⟨A4, c4, rfl, own4, k4, s4⟩; have H4 := (H.on bz).summed s4 k4; have hT4 := (hT.on bz).keepK k4 (fun e => nf.1 (by rw [List.mem_singleton] at e; rw [e]; simp)); have hX4 := (hXb.on bz).keepK k4 (fun e => nf.2.1 (by rw [List.mem_singleton] at e; rw [e]; simp)); have hI4 := (hIb.on bz).keepK k4 (fun e => nf.2.2 (by rw [List.mem_singleton] at e; rw [e]; simp)))))
      go_wp2_with (first
        | (go_at_call 43; refine (HPu.out _ _ _ H4.both.disk (Rd.own own4)).mono ?_; rintro e w8 d5; obtain ⟨rfl, fp5, H5, k5, f5⟩ := H4.did d5; have hT5 := hT4.keepK k5 nf.1; have hX5 := hX4.keepK k5 nf.2.1; have hI5 := hI4.keepK k5 nf.2.2; have nf5 : hL ∉ bS :: fp5 ∧ hX ∉ bS :: fp5 ∧ hI ∉ bS :: fp5 := ⟨out5 f5 hT4.lt nf.1, out5 f5 hX4.lt nf.2.1, out5 f5 hI4.lt nf.2.2⟩; clear t0 t1 t2 t3 t4 t5 t6 t7 t8 t9 z0 z1 z2; obtain ⟨t0, t1, t2, t3, t4, t5, t6, t7, t8, t9⟩ := ten hT5; obtain ⟨z0, z1, z2⟩ := gthree (HG.out.below H5.bel hlG); obtain ⟨x0, x1, x2, x3, x4, x5⟩ := six6 hX5; obtain ⟨i0, i1⟩ := two2 hI5; have fx := hX5.free; have fi := hI5.free))
      have ltX := hX5.lt
      have ltI := hI5.lt
      have cz : Below w8.heap.size w8 w8.drew := (Below.refl _ _).drew
      have FG8 := HG.out.below H5.bel hlG
      have nGX : w.heap.size ≠ hX ∧ w.heap.size ≠ hI := ⟨by omega, by omega⟩
      clear hX4 hI4 hT4 H4 H HLb HRd HA2 HN HR HS Eq1 Eq2 Eo2 Eo3 Hn hXb hIb hT own4 k4 s4 k5 f5
      refine wp_region_held_drew (S := (fun w' => (w'.cell? ⟨w.heap.size, 0, none⟩ = some (.int .i64 ga) ∧ w'.cell? ⟨w.heap.size, 1, none⟩ = some (.int .i64 gd) ∧ w'.cell? ⟨w.heap.size, 2, none⟩ = some (.int .i64 gl)) ∧ (w'.cell? ⟨hL, 0, none⟩ = some (.int .i64 a.kind) ∧ w'.cell? ⟨hL, 1, none⟩ = some (.int .u64 (a.life.toNat : Int)) ∧ w'.cell? ⟨hL, 2, none⟩ = some (.int .i64 a.seq) ∧ w'.cell? ⟨hL, 3, none⟩ = some (.int .u64 (a.gen.toNat : Int)) ∧ w'.cell? ⟨hL, 4, none⟩ = some (.slice A a.body.length c) ∧ w'.cell? ⟨hL, 5, none⟩ = some (.int .i64 b.kind) ∧ w'.cell? ⟨hL, 6, none⟩ = some (.int .u64 (b.life.toNat : Int)) ∧ w'.cell? ⟨hL, 7, none⟩ = some (.int .i64 b.seq) ∧ w'.cell? ⟨hL, 8, none⟩ = some (.int .u64 (b.gen.toNat : Int)) ∧ w'.cell? ⟨hL, 9, none⟩ = some (.slice B b.body.length d)))) (by kernel_rfl) (by exact ⟨gthree (FG8.on cz), ten (hT5.on cz)⟩) (fun hHeld => ?_)
      refine wpAnyH_take (i := 0) (oi := { dst := some 103, op := Op.move (Operand.tmp 15), type := 3, pos := "law.go:55", after := #[], guard := none }) (v := ?_) rfl (by kernel_rfl) (by kernel_rfl) (by kernel_rfl) (fun _ _ _ h => h) (Or.inl ⟨by rfl, ?_⟩) (by assumption) ?_; rotate_left; · ((intro w hSw; (try dsimp only at hSw); go_simp) <;> with_reducible rfl)
      try simp only [Act.put, List.setIfInBounds_toArray, List.set_cons_zero, List.set_cons_succ]
      refine wpAnyH_take (i := 1) (oi := { dst := some 104, op := Op.move (Operand.tmp 15), type := 3, pos := "law.go:55", after := #[{ on := 14, ground := Ground.gcOnly Go.Departure.lateStores }], guard := none }) (v := ?_) rfl (by kernel_rfl) (by kernel_rfl) (by kernel_rfl) (fun _ _ _ h => h) (Or.inl ⟨by rfl, ?_⟩) (by assumption) ?_; rotate_left; · ((intro w hSw; (try dsimp only at hSw); go_simp) <;> with_reducible rfl)
      try simp only [Act.put, List.setIfInBounds_toArray, List.set_cons_zero, List.set_cons_succ]
      refine wpAnyH_take (i := 2) (oi := { dst := some 105, op := Op.load 23 (Operand.tmp 4), type := 23, pos := "law.go:55", after := #[], guard := none }) (v := ?_) rfl (by kernel_rfl) (by kernel_rfl) (by kernel_rfl) (fun _ _ _ h => h) (Or.inl ⟨by rfl, ?_⟩) (by assumption) ?_; rotate_left; · ((intro w hSw; (try dsimp only at hSw); go_simp) <;> with_reducible rfl)
      try simp only [Act.put, List.setIfInBounds_toArray, List.set_cons_zero, List.set_cons_succ]
      refine wpAnyH_take (i := 3) (oi := { dst := some 106, op := Op.move (Operand.tmp 15), type := 3, pos := "law.go:55", after := #[], guard := none }) (v := ?_) rfl (by kernel_rfl) (by kernel_rfl) (by kernel_rfl) (fun _ _ _ h => h) (Or.inl ⟨by rfl, ?_⟩) (by assumption) ?_; rotate_left; · ((intro w hSw; (try dsimp only at hSw); go_simp) <;> with_reducible rfl)
      try simp only [Act.put, List.setIfInBounds_toArray, List.set_cons_zero, List.set_cons_succ]
      refine wpAnyH_take (i := 4) (oi := { dst := some 107, op := Op.binOp BinOp.add 3 (Operand.const (Value.int IntKind.i64 2)) (Operand.tmp 106) 3, type := 3, pos := "law.go:55", after := #[{ on := 3, ground := Ground.data }], guard := none }) (v := ?_) rfl (by kernel_rfl) (by kernel_rfl) (by kernel_rfl) (fun _ _ _ h => h) (Or.inl ⟨by rfl, ?_⟩) (by assumption) ?_; rotate_left; · ((intro w hSw; (try dsimp only at hSw); go_simp) <;> with_reducible rfl)
      try simp only [Act.put, List.setIfInBounds_toArray, List.set_cons_zero, List.set_cons_succ]
      refine wpAnyH_take (i := 5) (oi := { dst := some 108, op := Op.move (Operand.tmp 12), type := 71, pos := "law.go:55", after := #[], guard := none }) (v := ?_) rfl (by kernel_rfl) (by kernel_rfl) (by kernel_rfl) (fun _ _ _ h => h) (Or.inl ⟨by rfl, ?_⟩) (by assumption) ?_; rotate_left; · ((intro w hSw; (try dsimp only at hSw); go_simp) <;> with_reducible rfl)
      try simp only [Act.put, List.setIfInBounds_toArray, List.set_cons_zero, List.set_cons_succ]
      refine wpAnyH_take (i := 6) (oi := { dst := some 109, op := Op.move (Operand.tmp 15), type := 3, pos := "law.go:55", after := #[], guard := none }) (v := ?_) rfl (by kernel_rfl) (by kernel_rfl) (by kernel_rfl) (fun _ _ _ h => h) (Or.inl ⟨by rfl, ?_⟩) (by assumption) ?_; rotate_left; · ((intro w hSw; (try dsimp only at hSw); go_simp) <;> with_reducible rfl)
      try simp only [Act.put, List.setIfInBounds_toArray, List.set_cons_zero, List.set_cons_succ]
      refine wpAnyH_take (i := 7) (oi := { dst := some 110, op := Op.indexAddr 71 (Operand.tmp 108) (Operand.tmp 109), type := 0, pos := "law.go:55", after := #[{ on := 5, ground := Ground.data }, { on := 6, ground := Ground.data }], guard := none }) (v := ?_) rfl (by kernel_rfl) (by kernel_rfl) (by kernel_rfl) (fun _ _ _ h => h) (Or.inl ⟨by rfl, ?_⟩) (by assumption) ?_; rotate_left; · ((intro w hSw; (try dsimp only at hSw); go_simp) <;> with_reducible rfl)
      try simp only [Act.put, List.setIfInBounds_toArray, List.set_cons_zero, List.set_cons_succ]
      refine wpAnyH_take (i := 8) (oi := { dst := some 111, op := Op.load 49 (Operand.tmp 110), type := 49, pos := "law.go:55", after := #[{ on := 7, ground := Ground.data }], guard := none }) (v := ?_) rfl (by kernel_rfl) (by kernel_rfl) (by kernel_rfl) (fun _ _ _ h => h) (Or.inl ⟨by rfl, ?_⟩) (by assumption) ?_; rotate_left; · ((intro w hSw; (try dsimp only at hSw); go_simp) <;> with_reducible rfl)
      try simp only [Act.put, List.setIfInBounds_toArray, List.set_cons_zero, List.set_cons_succ]
      refine wpAnyH_ready (rs := [9]) (by kernel_rfl) (by simp) ?_
      refine AllReadyH.cons (o := { dst := some 112, op := Op.call { callee := Callee.value (Operand.func 44), args := #[Operand.tmp 105, Operand.tmp 107, Operand.tmp 111], argTypes := #[23, 3, 49] }, type := 77, pos := "law.go:55", after := #[{ on := 2, ground := Ground.data }, { on := 4, ground := Ground.data }, { on := 8, ground := Ground.data }], guard := none }) rfl (fun K hK => ?_) AllReadyH.nil
      go_simp; (first | ((go_at_call 44; refine (HOf.out B d _ ((H5.on cz).rd (hs.on bw))).mono ?_; rintro e w9 ⟨rfl, y9⟩; have c9 := bt cz y9; obtain ⟨x0', x1', x2', x3', x4', x5'⟩ := six6 (hX5.on c9); obtain ⟨i0', i1'⟩ := two2 (hI5.on c9); have fx' := (hX5.on c9).free; have fi' := (hI5.on c9).free)) | skip); (try (go_wp2_with fail)); refine hK.out _ _ (by first | (first | with_reducible exact ⟨gthree (FG8.on c9), ten (hT5.on c9)⟩ | with_reducible exact ⟨gthree (st3 (FG8.on c9) nGX.1 _ _ _), ten (st3 (hT5.on c9) hd3.1 _ _ _)⟩ | with_reducible exact ⟨gthree (st4 (FG8.on c9) nGX.1 nGX.2 _ _ _ _), ten (st4 (hT5.on c9) hd3.1 hd3.2.1 _ _ _ _)⟩) | ((try dsimp only); (first | with_reducible exact ⟨gthree (FG8.on c9), ten (hT5.on c9)⟩ | with_reducible exact ⟨gthree (st3 (FG8.on c9) nGX.1 _ _ _), ten (st3 (hT5.on c9) hd3.1 _ _ _)⟩ | with_reducible exact ⟨gthree (st4 (FG8.on c9) nGX.1 nGX.2 _ _ _ _), ten (st4 (hT5.on c9) hd3.1 hd3.2.1 _ _ _ _)⟩))) (fun hHeld => ?_)
      clear hK K
      try simp only [Act.put, List.setIfInBounds_toArray, List.set_cons_zero, List.set_cons_succ]
      refine wpAnyH_take (i := 10) (oi := { dst := some 102, op := Op.move (Operand.tmp 112), type := 77, pos := "law.go:55", after := #[{ on := 9, ground := Ground.data }], guard := none }) (v := ?_) rfl (by kernel_rfl) (by kernel_rfl) (by kernel_rfl) (fun _ _ _ h => h) (Or.inl ⟨by rfl, ?_⟩) (by assumption) ?_; rotate_left; · ((intro w hSw; (try dsimp only at hSw); go_simp) <;> with_reducible rfl)
      try simp only [Act.put, List.setIfInBounds_toArray, List.set_cons_zero, List.set_cons_succ]
      refine wpAnyH_take (i := 11) (oi := { dst := some 113, op := Op.extract (Operand.tmp 102) 0, type := 26, pos := "law.go:55", after := #[{ on := 10, ground := Ground.data }], guard := none }) (v := ?_) rfl (by kernel_rfl) (by kernel_rfl) (by kernel_rfl) (fun _ _ _ h => h) (Or.inl ⟨by rfl, ?_⟩) (by assumption) ?_; rotate_left; · ((intro w hSw; (try dsimp only at hSw); go_simp) <;> with_reducible rfl)
      try simp only [Act.put, List.setIfInBounds_toArray, List.set_cons_zero, List.set_cons_succ]
      refine wpAnyH_take (i := 12) (oi := { dst := some 114, op := Op.extract (Operand.tmp 102) 1, type := 4, pos := "law.go:55", after := #[{ on := 10, ground := Ground.data }, { on := 14, ground := Ground.gcOnly Go.Departure.lateStores }], guard := none }) (v := ?_) rfl (by kernel_rfl) (by kernel_rfl) (by kernel_rfl) (fun _ _ _ h => h) (Or.inl ⟨by rfl, ?_⟩) (by assumption) ?_; rotate_left; · ((intro w hSw; (try dsimp only at hSw); go_simp) <;> with_reducible rfl)
      try simp only [Act.put, List.setIfInBounds_toArray, List.set_cons_zero, List.set_cons_succ]
      refine wpAnyH_take (i := 13) (oi := { dst := some 115, op := Op.indexAddr 72 (Operand.tmp 13) (Operand.tmp 103), type := 0, pos := "law.go:55", after := #[{ on := 0, ground := Ground.data }, { on := 0, ground := Ground.phase }, { on := 1, ground := Ground.textOnly Go.Departure.lateStores }, { on := 2, ground := Ground.phase }, { on := 3, ground := Ground.phase }, { on := 4, ground := Ground.phase }, { on := 5, ground := Ground.phase }, { on := 6, ground := Ground.phase }, { on := 7, ground := Ground.phase }, { on := 8, ground := Ground.phase }, { on := 9, ground := Ground.phase }, { on := 10, ground := Ground.phase }, { on := 11, ground := Ground.phase }, { on := 12, ground := Ground.textOnly Go.Departure.lateStores }], guard := none }) (v := ?_) rfl (by kernel_rfl) (by kernel_rfl) (by kernel_rfl) (fun _ _ _ h => h) (Or.inl ⟨by rfl, ?_⟩) (by assumption) ?_; rotate_left; · ((intro w hSw; (try dsimp only at hSw); go_simp) <;> with_reducible rfl)
      try simp only [Act.put, List.setIfInBounds_toArray, List.set_cons_zero, List.set_cons_succ]
      refine wpAnyH_ready (rs := [14]) (by kernel_rfl) (by simp) ?_
      refine AllReadyH.cons (o := { dst := none, op := Op.store 26 (Operand.tmp 115) (Operand.tmp 113), type := 0, pos := "law.go:55", after := #[{ on := 13, ground := Ground.data }, { on := 11, ground := Ground.data }, { on := 9, ground := Ground.chain }, { on := 0, ground := Ground.phase }, { on := 1, ground := Ground.textOnly Go.Departure.lateStores }, { on := 2, ground := Ground.phase }, { on := 3, ground := Ground.phase }, { on := 4, ground := Ground.phase }, { on := 5, ground := Ground.phase }, { on := 6, ground := Ground.phase }, { on := 7, ground := Ground.phase }, { on := 8, ground := Ground.phase }, { on := 9, ground := Ground.phase }, { on := 10, ground := Ground.phase }, { on := 11, ground := Ground.phase }, { on := 12, ground := Ground.textOnly Go.Departure.lateStores }], guard := none }) rfl (fun K hK => ?_) AllReadyH.nil
      go_simp; (first | ((go_at_call 44; refine (HOf.out B d _ ((H5.on cz).rd (hs.on bw))).mono ?_; rintro e w9 ⟨rfl, y9⟩; have c9 := bt cz y9; obtain ⟨x0', x1', x2', x3', x4', x5'⟩ := six6 (hX5.on c9); obtain ⟨i0', i1'⟩ := two2 (hI5.on c9); have fx' := (hX5.on c9).free; have fi' := (hI5.on c9).free)) | skip); (try (go_wp2_with fail)); refine hK.out _ _ (by first | (first | with_reducible exact ⟨gthree (FG8.on c9), ten (hT5.on c9)⟩ | with_reducible exact ⟨gthree (st3 (FG8.on c9) nGX.1 _ _ _), ten (st3 (hT5.on c9) hd3.1 _ _ _)⟩ | with_reducible exact ⟨gthree (st4 (FG8.on c9) nGX.1 nGX.2 _ _ _ _), ten (st4 (hT5.on c9) hd3.1 hd3.2.1 _ _ _ _)⟩) | ((try dsimp only); (first | with_reducible exact ⟨gthree (FG8.on c9), ten (hT5.on c9)⟩ | with_reducible exact ⟨gthree (st3 (FG8.on c9) nGX.1 _ _ _), ten (st3 (hT5.on c9) hd3.1 _ _ _)⟩ | with_reducible exact ⟨gthree (st4 (FG8.on c9) nGX.1 nGX.2 _ _ _ _), ten (st4 (hT5.on c9) hd3.1 hd3.2.1 _ _ _ _)⟩))) (fun hHeld => ?_)
      clear hK K
      try simp only [Act.put, List.setIfInBounds_toArray, List.set_cons_zero, List.set_cons_succ]
      refine wpAnyH_take (i := 15) (oi := { dst := some 116, op := Op.indexAddr 73 (Operand.tmp 14) (Operand.tmp 104), type := 0, pos := "law.go:55", after := #[{ on := 1, ground := Ground.data }, { on := 0, ground := Ground.phase }, { on := 1, ground := Ground.phase }, { on := 2, ground := Ground.phase }, { on := 3, ground := Ground.phase }, { on := 4, ground := Ground.phase }, { on := 5, ground := Ground.phase }, { on := 6, ground := Ground.phase }, { on := 7, ground := Ground.phase }, { on := 8, ground := Ground.phase }, { on := 9, ground := Ground.phase }, { on := 10, ground := Ground.phase }, { on := 11, ground := Ground.phase }, { on := 12, ground := Ground.phase }, { on := 13, ground := Ground.phase }, { on := 14, ground := Ground.phase }], guard := none }) (v := ?_) rfl (by kernel_rfl) (by kernel_rfl) (by kernel_rfl) (fun _ _ _ h => h) (Or.inl ⟨by rfl, ?_⟩) (by assumption) ?_; rotate_left; · ((intro w hSw; (try dsimp only at hSw); go_simp) <;> with_reducible rfl)
      try simp only [Act.put, List.setIfInBounds_toArray, List.set_cons_zero, List.set_cons_succ]
      refine wpAnyH_ready (rs := [16]) (by kernel_rfl) (by simp) ?_
      refine AllReadyH.cons (o := { dst := none, op := Op.store 4 (Operand.tmp 116) (Operand.tmp 114), type := 0, pos := "law.go:55", after := #[{ on := 15, ground := Ground.data }, { on := 12, ground := Ground.data }, { on := 14, ground := Ground.chain }, { on := 0, ground := Ground.phase }, { on := 1, ground := Ground.phase }, { on := 2, ground := Ground.phase }, { on := 3, ground := Ground.phase }, { on := 4, ground := Ground.phase }, { on := 5, ground := Ground.phase }, { on := 6, ground := Ground.phase }, { on := 7, ground := Ground.phase }, { on := 8, ground := Ground.phase }, { on := 9, ground := Ground.phase }, { on := 10, ground := Ground.phase }, { on := 11, ground := Ground.phase }, { on := 12, ground := Ground.phase }, { on := 13, ground := Ground.phase }, { on := 14, ground := Ground.phase }], guard := none }) rfl (fun K hK => ?_) AllReadyH.nil
      go_simp; (first | ((go_at_call 44; refine (HOf.out B d _ ((H5.on cz).rd (hs.on bw))).mono ?_; rintro e w9 ⟨rfl, y9⟩; have c9 := bt cz y9; obtain ⟨x0', x1', x2', x3', x4', x5'⟩ := six6 (hX5.on c9); obtain ⟨i0', i1'⟩ := two2 (hI5.on c9); have fx' := (hX5.on c9).free; have fi' := (hI5.on c9).free)) | skip); (try (go_wp2_with fail)); refine hK.out _ _ (by first | (first | with_reducible exact ⟨gthree (FG8.on c9), ten (hT5.on c9)⟩ | with_reducible exact ⟨gthree (st3 (FG8.on c9) nGX.1 _ _ _), ten (st3 (hT5.on c9) hd3.1 _ _ _)⟩ | with_reducible exact ⟨gthree (st4 (FG8.on c9) nGX.1 nGX.2 _ _ _ _), ten (st4 (hT5.on c9) hd3.1 hd3.2.1 _ _ _ _)⟩) | ((try dsimp only); (first | with_reducible exact ⟨gthree (FG8.on c9), ten (hT5.on c9)⟩ | with_reducible exact ⟨gthree (st3 (FG8.on c9) nGX.1 _ _ _), ten (st3 (hT5.on c9) hd3.1 _ _ _)⟩ | with_reducible exact ⟨gthree (st4 (FG8.on c9) nGX.1 nGX.2 _ _ _ _), ten (st4 (hT5.on c9) hd3.1 hd3.2.1 _ _ _ _)⟩))) (fun hHeld => ?_)
      clear hK K
      try simp only [Act.put, List.setIfInBounds_toArray, List.set_cons_zero, List.set_cons_succ]
      refine wpAnyH_done (by kernel_rfl) ?_ _
      have k6 := keep4 w9 hX hI 3 4 5 1 (.int .u64 ((oV o3).life.toNat : Int)) (.int .i64 (oV o3).base) (.int .u64 ((oV o3).gen.toNat : Int)) (.bool o3.isSome)
      have HTa := st4 (i := 3) (j := 4) (k := 5) (l := 1) (hT5.on c9) hd3.1 hd3.2.1 (.int .u64 ((oV o3).life.toNat : Int)) (.int .i64 (oV o3).base) (.int .u64 ((oV o3).gen.toNat : Int)) (.bool o3.isSome)
      have HXa := Blk.other (k := 1) ((((hX5.on c9).set (k := 3) (.int .u64 ((oV o3).life.toNat : Int))).set (k := 4) (.int .i64 (oV o3).base)).set (k := 5) (.int .u64 ((oV o3).gen.toNat : Int))) (.bool o3.isSome) hd3.2.2
      have HIa := (st3 (i := 3) (j := 4) (k := 5) (hI5.on c9) (fun e => hd3.2.2 e.symm) (.int .u64 ((oV o3).life.toNat : Int)) (.int .i64 (oV o3).base) (.int .u64 ((oV o3).gen.toNat : Int))).set (k := 1) (.bool o3.isSome)
      have HHa := (H5.on c9).aside k6 (fun j hj => by
        rcases List.mem_cons.1 hj with e | e
        · rw [e]; exact ⟨nf5.2.1, nS.1, h0h.1⟩
        · rw [List.mem_singleton] at e; rw [e]; exact ⟨nf5.2.2, nS.2, h0h.2⟩)
      obtain ⟨wA, ewA⟩ : ∃ q, q = ((((w9.setCell ⟨hX, 3, none⟩ (.int .u64 ((oV o3).life.toNat : Int))).setCell ⟨hX, 4, none⟩ (.int .i64 (oV o3).base)).setCell ⟨hX, 5, none⟩ (.int .u64 ((oV o3).gen.toNat : Int))).setCell ⟨hI, 1, none⟩ (.bool o3.isSome)) := ⟨_, rfl⟩
      rw [← ewA] at HTa HXa HIa HHa ⊢
      rw [← Hq2.out] at HHa
      have HXa' : Blk wA hX (c6 o2 o3) := HXa
      have HIa' : Blk wA hI (c2 o2 o3) := HIa
      clear ewA k6 HXa HIa x0' x1' x2' x3' x4' x5' i0' i1' fx' fi' x0 x1 x2 x3 x4 x5 i0 i1 fx fi z0 z1 z2 t0 t1 t2 t3 t4 t5 t6 t7 t8 t9 c9 y9 cz FG8 hT5 hX5 hI5 H5
      obtain ⟨z0, z1, z2⟩ := gthree (HG.out.below HHa.bel hlG)
      go_wp2_with (first
        | (go_at_call 45; refine (HA3.out _ _ _ _ _ HHa.both).mono ?_; rintro e w10 ⟨rfl, t10⟩; have tb := bt t10 (b1alloc w10 (.cells (scell (oV o3).life (oV o3).base (oV o3).gen).toArray 35)); have HHb := HHa.on tb; have HTb := HTa.on tb; have HXb := HXa'.on tb; have HIb := HIa'.on tb; obtain ⟨x0, x1, x2, x3, x4, x5⟩ := six6 HXb; obtain ⟨i0, i1⟩ := two2 HIb))
      have NB := Blk.new w10 (scell (oV o3).life (oV o3).base (oV o3).gen) 35
      obtain ⟨wB, ewB⟩ : ∃ q, q = w10.alloc (.cells #[.int .u64 ((oV o3).life.toNat : Int), .int .i64 (oV o3).base, .int .u64 ((oV o3).gen.toNat : Int)] 35) := ⟨_, rfl⟩
      rw [← ewB]
      rw [show w10.alloc (.cells (scell (oV o3).life (oV o3).base (oV o3).gen).toArray 35) = wB from ewB.symm] at NB tb HHb HTb HXb HIb x0 x1 x2 x3 x4 x5 i0 i1
      obtain ⟨hN, ehN⟩ : ∃ q, q = w10.heap.size := ⟨_, rfl⟩
      rw [← ehN] at NB ⊢
      clear ewB ehN
      obtain ⟨y0, y1, y2⟩ := gthree NB
      have ly := NB.lt
      have lx := HXb.lt
      have li := HIb.lt
      refine region_inb (by kernel_rfl) (by kernel_rfl) ?_
      have inbNe := InB.some
      have inbW := @wrap_small
      have inbU := IntKind.wrap_u8'
      repeat (refine wpQuiet_step (fun K hK => ?_); go_simp; first | (refine hK _ ?_; clear hK K) | (apply Exists.intro; refine ⟨?_, hK _ ?_⟩; (· (intro w' hw'; first | fail | (have hcw := hw'.cell; go_simp; exact rfl))); clear hK K))
      refine wpQuiet_nil ?_
      intro wq hq
      clear inbNe inbW inbU
      go_wp2_with fail
      case roundEnd => exact ⟨⟨2, fp5, by omega, rfl, HTb.on hq.below, nf5, .inr (.inr ⟨rfl, HXb.on hq.below, HIb.on hq.below, HHb.on hq.below⟩)⟩, by simp [intOf]⟩
    · obtain ⟨Y, fY, hY⟩ := rdV_form (best (best none o2) o3)
      rw [hY] at HLb HRd
      obtain ⟨z0, z1, z2⟩ := gthree (HG.out.below H.bel hlG)
      obtain ⟨x0, x1, x2, x3, x4, x5⟩ := six6 hXb
      obtain ⟨i0, i1⟩ := two2 hIb
      have hcase : ∃ (y : SV) (bo : Bool) (kf : Int), (∀ g fp gS bS W, Both W g fp q2.2 gS bS q2.1 → Calls Try.prog 45 #[.pointer (some ⟨g, 0, none⟩), .pointer (some ⟨gS, 0, none⟩), gv ga gd gl, .int .i64 pl] W fun e w' => e = .returned (.tuple #[.agg #[.int .u64 (y.life.toNat : Int), .int .i64 y.base, .int .u64 (y.gen.toNat : Int)], .bool bo, .int .i64 kf]) ∧ Below W.heap.size W w') ∧ ((pl = 2 ∧ kf = 0) ∨ (pl = 3 ∧ kf = 0) ∨ (pl ≠ 2 ∧ pl ≠ 3 ∧ kf = 2)) := by
        by_cases h2 : pl = 2 ∨ pl = 3
        · obtain ⟨y, bo, hy⟩ := atV_form (atR q2.1 q2.2 ga gd gl pl)
          refine ⟨y, bo, 0, fun g fp gS bS W h => ?_, by omega⟩
          have := at_any g fp q2.2 gS bS q2.1 ga gd gl pl W hG h (by omega) (by omega) r2 u2.down (by omega) (by omega)
          rw [hy] at this; exact this
        · refine ⟨SV.zero, false, 2, fun g fp gS bS W h => ?_, by omega⟩
          exact at_else g fp q2.2 gS ga gd gl pl W hG h.disk r2 hp0 hp1 (by
            unfold Geom.whereW
            split
            · simp
            · split
              · simp
              · split
                · omega
                · split <;> simp)
      obtain ⟨y, bo, kf, hAt, hk3⟩ := hcase
      have HAt := Lib.hid hAt
      have tR : True := trivial
      have tN : True := trivial
      clear hAt hY HA2 HA3 HN HR HS Eq1 Eq2 Eo2 Eo3
      rcases hk3 with ⟨rfl, rfl⟩ | ⟨rfl, rfl⟩ | ⟨p2, p3, rfl⟩
      · go_wp2_with (first
          | (go_at_call 46; refine (HLb.out _).mono ?_; rintro e w10 ⟨rfl, t10⟩; have s1' := bt t10 (b1alloc w10 (.cells (scell Y.life Y.base Y.gen).toArray 26)); have N1 := Blk.new w10 (scell Y.life Y.base Y.gen) 26; have H1 := H.on s1'; clear z0 z1 z2; obtain ⟨z0, z1, z2⟩ := gthree (HG.out.below H1.bel hlG))
          | (go_at_call 24; have _t := tR; refine (HRd.out _ _ _ _ _ H1.both).mono ?_; rintro e w11 ⟨rfl, t11⟩; have s2' := bt t11 (b1alloc w11 (.cells (scell Y.life Y.base Y.gen).toArray 35)); have N2 := N1.on s2'; have M2 := Blk.new w11 (scell Y.life Y.base Y.gen) 35; have H2 := H1.on s2'; clear z0 z1 z2; obtain ⟨z0, z1, z2⟩ := gthree (HG.out.below H2.bel hlG); obtain ⟨j0, j1, j2⟩ := gthree N2; obtain ⟨k0, k1, k2⟩ := gthree M2; clear tR)
          | (go_at_call 45; refine (HAt.out _ _ _ _ _ H2.both).mono ?_; rintro e w12 ⟨rfl, t12⟩; have H3 := H2.on (bt t12 (b1alloc w12 (.cells (scell y.life y.base y.gen).toArray 35))); clear z0 z1 z2; obtain ⟨z0, z1, z2⟩ := gthree (HG.out.below H3.bel hlG))
          | (go_at_call 24; have _t := tN; refine (readD_nil _ _ _ _ _).mono ?_; rintro e w13 ⟨rfl, t13⟩; unfold SV.v; have H4 := H3.on (bt t13 (b1alloc w13 (.cells (scell SV.zero.life SV.zero.base SV.zero.gen).toArray 35))); clear z0 z1 z2; obtain ⟨z0, z1, z2⟩ := gthree (HG.out.below H4.bel hlG); clear tN)
          | (go_at_call 24; refine (readS_nil _ _ _ _ _).mono ?_; rintro e w14 ⟨rfl, t14⟩; unfold SV.v; have H5 := H4.on (bt t14 (b1alloc w14 (.cells (scell SV.zero.life SV.zero.base SV.zero.gen).toArray 35))); clear z0 z1 z2; obtain ⟨z0, z1, z2⟩ := gthree (HG.out.below H5.bel hlG))
          | (go_at_call 27; refine (clear_nil _ _ _ _).mono ?_; rintro e w15 ⟨rfl, t15⟩)
          | (go_at_call 20; refine (alive_any _).mono ?_; rintro e w16 ⟨rfl, t16⟩))
        go_ret
        exact ⟨rfl, bt bw (bt (bt H5.bel t15) t16)⟩
      · go_wp2_with (first
          | (go_at_call 46; refine (HLb.out _).mono ?_; rintro e w10 ⟨rfl, t10⟩; have s1' := bt t10 (b1alloc w10 (.cells (scell Y.life Y.base Y.gen).toArray 26)); have N1 := Blk.new w10 (scell Y.life Y.base Y.gen) 26; have H1 := H.on s1'; clear z0 z1 z2; obtain ⟨z0, z1, z2⟩ := gthree (HG.out.below H1.bel hlG))
          | (go_at_call 24; have _t := tR; refine (HRd.out _ _ _ _ _ H1.both).mono ?_; rintro e w11 ⟨rfl, t11⟩; have s2' := bt t11 (b1alloc w11 (.cells (scell Y.life Y.base Y.gen).toArray 35)); have N2 := N1.on s2'; have M2 := Blk.new w11 (scell Y.life Y.base Y.gen) 35; have H2 := H1.on s2'; clear z0 z1 z2; obtain ⟨z0, z1, z2⟩ := gthree (HG.out.below H2.bel hlG); obtain ⟨j0, j1, j2⟩ := gthree N2; obtain ⟨k0, k1, k2⟩ := gthree M2; clear tR)
          | (go_at_call 45; refine (HAt.out _ _ _ _ _ H2.both).mono ?_; rintro e w12 ⟨rfl, t12⟩; have H3 := H2.on (bt t12 (b1alloc w12 (.cells (scell y.life y.base y.gen).toArray 35))); clear z0 z1 z2; obtain ⟨z0, z1, z2⟩ := gthree (HG.out.below H3.bel hlG))
          | (go_at_call 24; have _t := tN; refine (readD_nil _ _ _ _ _).mono ?_; rintro e w13 ⟨rfl, t13⟩; unfold SV.v; have H4 := H3.on (bt t13 (b1alloc w13 (.cells (scell SV.zero.life SV.zero.base SV.zero.gen).toArray 35))); clear z0 z1 z2; obtain ⟨z0, z1, z2⟩ := gthree (HG.out.below H4.bel hlG); clear tN)
          | (go_at_call 24; refine (readS_nil _ _ _ _ _).mono ?_; rintro e w14 ⟨rfl, t14⟩; unfold SV.v; have H5 := H4.on (bt t14 (b1alloc w14 (.cells (scell SV.zero.life SV.zero.base SV.zero.gen).toArray 35))); clear z0 z1 z2; obtain ⟨z0, z1, z2⟩ := gthree (HG.out.below H5.bel hlG))
          | (go_at_call 27; refine (clear_nil _ _ _ _).mono ?_; rintro e w15 ⟨rfl, t15⟩)
          | (go_at_call 20; refine (alive_any _).mono ?_; rintro e w16 ⟨rfl, t16⟩))
        go_ret
        exact ⟨rfl, bt bw (bt (bt H5.bel t15) t16)⟩
      · have t2 := beq_no p2
        have t3 := beq_no p3
        go_wp2_with (first
          | (go_at_call 46; refine (HLb.out _).mono ?_; rintro e w10 ⟨rfl, t10⟩; have s1' := bt t10 (b1alloc w10 (.cells (scell Y.life Y.base Y.gen).toArray 26)); have N1 := Blk.new w10 (scell Y.life Y.base Y.gen) 26; have H1 := H.on s1'; clear z0 z1 z2; obtain ⟨z0, z1, z2⟩ := gthree (HG.out.below H1.bel hlG))
          | (go_at_call 24; have _t := tR; refine (HRd.out _ _ _ _ _ H1.both).mono ?_; rintro e w11 ⟨rfl, t11⟩; have s2' := bt t11 (b1alloc w11 (.cells (scell Y.life Y.base Y.gen).toArray 35)); have N2 := N1.on s2'; have M2 := Blk.new w11 (scell Y.life Y.base Y.gen) 35; have H2 := H1.on s2'; clear z0 z1 z2; obtain ⟨z0, z1, z2⟩ := gthree (HG.out.below H2.bel hlG); obtain ⟨j0, j1, j2⟩ := gthree N2; obtain ⟨k0, k1, k2⟩ := gthree M2; clear tR)
          | (go_at_call 45; refine (HAt.out _ _ _ _ _ H2.both).mono ?_; rintro e w12 ⟨rfl, t12⟩; have H3 := H2.on (bt t12 (b1alloc w12 (.cells (scell y.life y.base y.gen).toArray 35))); clear z0 z1 z2; obtain ⟨z0, z1, z2⟩ := gthree (HG.out.below H3.bel hlG))
          | (go_at_call 24; have _t := tN; refine (readD_nil _ _ _ _ _).mono ?_; rintro e w13 ⟨rfl, t13⟩; unfold SV.v; have H4 := H3.on (bt t13 (b1alloc w13 (.cells (scell SV.zero.life SV.zero.base SV.zero.gen).toArray 35))); clear z0 z1 z2; obtain ⟨z0, z1, z2⟩ := gthree (HG.out.below H4.bel hlG); clear tN)
          | (go_at_call 24; refine (readS_nil _ _ _ _ _).mono ?_; rintro e w14 ⟨rfl, t14⟩; unfold SV.v; have H5 := H4.on (bt t14 (b1alloc w14 (.cells (scell SV.zero.life SV.zero.base SV.zero.gen).toArray 35))); clear z0 z1 z2; obtain ⟨z0, z1, z2⟩ := gthree (HG.out.below H5.bel hlG))
          | (go_at_call 27; refine (clear_nil _ _ _ _).mono ?_; rintro e w15 ⟨rfl, t15⟩)
          | (go_at_call 20; refine (alive_any _).mono ?_; rintro e w16 ⟨rfl, t16⟩))
        go_ret
        exact ⟨rfl, bt bw (bt (bt H5.bel t15) t16)⟩
set_option maxRecDepth 100000 in
theorem lifted (os : Os) (started : os.Started) (H : Type) (enc : TypeId × Value → H) :
    ReturnsInHanded {} Try.checked os 6 .any (Rows.superReadsSpec.pre6 enc Try.prog Try.f6 Rows.superReadsRow.domain false) (Rows.superReadsSpec.post enc Try.prog Try.f6 false true false false) := by
  refine returnsInHanded_of_change (C := Try.checked) own started (by kernel_rfl) Try.func6
    (ChangeSpec.witness6 (enc := enc) (C := Try.checked) false ⟨#[], #[.agg #[.int .i64 0, .int .i64 0, .int .i64 0], .agg #[.int .i64 0, .int .u64 0, .int .i64 0, .int .u64 0, .slice none 0 0], .agg #[.int .i64 0, .int .u64 0, .int .i64 0, .int .u64 0, .slice none 0 0], .int .i64 0], []⟩ 8 (by kernel_rfl) (by kernel_rfl) (by kernel_rfl) (by kernel_rfl)) ?_
  intro W base args ds gs before hval0 hW hcnd _
  have hval : ∀ (j : Nat) t v, Try.f6.params[j]? = some t → args[j]? = some v → Value.okWide Try.prog W .any base t v := hval0
  have hW' := hW
  obtain ⟨p, q, hA0, hV, rfl, hfz, hnd⟩ := hW
  have hA : DataW.TrodAll enc Try.prog W 0 (fun _ => true) true Try.f6.params.toList args.toList ds p := hA0
  rw [Try.params6] at hA hval
  obtain ⟨v0, vs0, d0, ds0, p0, q0, hargs, rfl, rfl, h0, r0⟩ := trodAll_cons hA
  obtain ⟨v1, vs1, d1, ds1, p1, q1, rfl, rfl, rfl, h1, r1⟩ := trodAll_cons r0
  obtain ⟨v2, vs2, d2, ds2, p2, q2, rfl, rfl, rfl, h2, r2⟩ := trodAll_cons r1
  obtain ⟨v3, vs3, d3, ds3, p3, q3, rfl, rfl, rfl, h3, r3⟩ := trodAll_cons r2
  obtain ⟨rfl, rfl, rfl⟩ := trodAll_nil r3
  obtain rfl : args = #[v0, v1, v2, v3] := by cases args; simp_all
  obtain ⟨rfl, rfl⟩ := trodVars_none hV
  have k0 := h0
  have lt0 := places_lt k0
  obtain ⟨c0a, c0b, c0c, y0a, y0b, y0c, m0, rfl, _, _, hy0a, hy0b, hy0c⟩ := open_agg3 Try.underlying23 (by kernel_rfl) (by kernel_rfl) (hval 0 23 v0 rfl rfl) h0
  obtain ⟨n0a, e0a, _, w0a⟩ := DataW.trod_int Try.underlying3 hy0a
  simp only [List.cons.injEq, and_true] at e0a
  subst e0a
  obtain ⟨n0b, e0b, _, w0b⟩ := DataW.trod_int Try.underlying3 hy0b
  simp only [List.cons.injEq, and_true] at e0b
  subst e0b
  obtain ⟨n0c, e0c, _, w0c⟩ := DataW.trod_int Try.underlying3 hy0c
  simp only [List.cons.injEq, and_true] at e0c
  subst e0c
  have k1 := h1
  have lt1 := places_lt k1
  obtain ⟨x1, a1, cap1, rfl, rr1, rc1, rm1⟩ := sector_of (hval 1 49 v1 rfl rfl) h1
  have k2 := h2
  have lt2 := places_lt k2
  obtain ⟨x2, a2, cap2, rfl, rr2, rc2, rm2⟩ := sector_of (hval 2 49 v2 rfl rfl) h2
  have k3 := h3
  have lt3 := places_lt k3
  obtain ⟨n3, rfl, _, _, w3⟩ := open_int Try.underlying3 (hval 3 3 v3 rfl rfl) h3
  clear hA0 hval0
  refine (walk n0a n0b n0c x1 a1 cap1 x2 a2 cap2 n3 W (wfi w0a).1 (wfi w0a).2 (wfi w0b).1 (wfi w0b).2 (wfi w0c).1 (wfi w0c).2 rr1 rc1 rm1 rr2 rc2 rm2 (wfi w3).1 (wfi w3).2).mono fun e W' ⟨he, bel⟩ => ?_
  subst he
  exact ⟨_, rfl, _, _, _, [], _, [], hW', trodAll_mk1 (shut_bool Try.underlying4 _), (trodAll_cons_mk (Below.trod laidOut (by kernel_rfl) (of_decide_eq_true (by kernel_rfl)) k0 bel lt0) (trodAll_cons_mk (Below.trod laidOut (by kernel_rfl) (of_decide_eq_true (by kernel_rfl)) k1 bel lt1) (trodAll_cons_mk (Below.trod laidOut (by kernel_rfl) (of_decide_eq_true (by kernel_rfl)) k2 bel lt2) (trodAll_cons_mk (Below.trod laidOut (by kernel_rfl) (of_decide_eq_true (by kernel_rfl)) k3 bel lt3) trodAll_mk0)))), rfl, bel.frame _, fun h => by cases h⟩

theorem proved : Rows.SuperReadsSaid :=
  OpenClaim.holds_of_wide 6 Try.f6 rfl rfl rfl rfl rfl rfl rfl ⟨rfl, rfl, rfl, rfl, rfl⟩ rfl rfl rfl rfl rfl (by kernel_rfl) Try.func6 (by kernel_rfl)
    (of_decide_eq_true (by kernel_rfl)) (by unfold Func.isWrapper; first | (rw [if_pos (by decide +kernel)]; kernel_rfl) | (rw [if_neg (by decide +kernel)]; exact ⟨rfl, rfl⟩))
    (fun os started H enc _ => lifted os started H enc)
#print axioms proved
end Go.Proofs.Ytmpmibcdpkolkaa.SuperReads
