/- Texts of this claim, joined: StoR4Q, StoR5Q, StoL3Q, StoA2Q, StoA3Q, StoB1Q. -/
import Derived.Test.YtchcmklelmlbgaaGreatStorePlaysH
import Derived.Test.YtchcmklelmlbgaaGreatStorePlaysF
/- The document's store: Commit, what is not due. Printed by mkrc.py. No statement is proved here. -/
namespace Go.Proofs.YtchcmklelmlbgaaGreat.Sto
open Go.RowKit
open Go.Proofs.YtchcmklelmlbgaaGreat.Geom
open Go.Proofs.YtchcmklelmlbgaaGreat.Sup (Gb gv gcell gthree)
open Go.Proofs.YtchcmklelmlbgaaGreat.Wal (badB fitsB whyF rpagesOk_any rfits_any)
set_option linter.unusedVariables false
set_option maxRecDepth 100000
theorem RMid.on {w w1 w2 : World} {ga gd gl : Int} {y : RS} {A : Option Addr} {c : Nat} (h : RMid w w1 ga gd gl y A c) (b : Below w1.heap.size w1 w2) : RMid w w2 ga gd gl y A c := by
  obtain ⟨a0, a1, a2, a3, a4, a5, a6, a7, a8, a9, G⟩ := h.res
  exact ⟨h.box.on b, ⟨_, _, _, _, _, _, _, _, _, _, G.on b⟩, bt h.below b⟩
theorem set10_keep {w0 w : World} {fp : List Nat} {X : Nat} (h : Keep fp w0 w) (hX : X ∈ fp) (b0 b1 b2 b3 b4 b5 b6 b7 b8 b9 : Value) : Keep fp w0 (set10 w X b0 b1 b2 b3 b4 b5 b6 b7 b8 b9) := by
  unfold set10
  repeat (refine Keep.set ?_ (.inl hX) _)
  exact h
set_option maxHeartbeats 1000000 in
theorem rcommit_bad (Q : Nat → Prop) (ga gd gl : Int) (y : RS) (A : Option Addr) (c : Nat) (A1 : Option Addr) (pages : List Pg) (c1 : Nat) (gen : UInt64) (w : World) (hG : Gb ga gd gl) (hd : y.due = false) (hT : Pgs w Q A1 pages) (hcl : pages.length ≤ 1000000) (hb : badB ga gd gl pages = true) :
    Calls Tryz.prog 25 #[RV ga gd gl y A c, .slice A1 pages.length c1, .int .u64 (gen.toNat : Int)] w fun e w' => e = .returned (.tuple #[RV ga gd gl y A c, .int .i64 2]) ∧ Below w.heap.size w w' := by
  obtain ⟨w1, hw1⟩ : ∃ q, q = ((w.alloc (.cells #[.int .i64 ga, .int .i64 gd, .int .i64 gl, .slice A y.pages.length c, .int .u64 (y.gen.toNat : Int), .int .u64 (y.life.toNat : Int), .int .i64 y.base, .int .u64 (y.began.toNat : Int), .int .i64 (y.seq : Int), .bool y.due] 56)).alloc (.cells #[.int .i64 0, .int .i64 0, .int .i64 0, .slice none 0 0, .int .u64 0, .int .u64 0, .int .i64 0, .int .u64 0, .int .i64 0, .bool false] 56)) := ⟨_, rfl⟩
  have M : RMid w w1 ga gd gl y A c := by rw [hw1]; exact rmid0 w ga gd gl y A c
  have Hd := Lib.hid hd
  have HRV := Lib.hid (show RV ga gd gl y A c = .agg #[.int .i64 ga, .int .i64 gd, .int .i64 gl, .slice A y.pages.length c, .int .u64 (y.gen.toNat : Int), .int .u64 (y.life.toNat : Int), .int .i64 y.base, .int .u64 (y.began.toNat : Int), .int .i64 (y.seq : Int), .bool false] from by rw [← hd])
  have HPg := Lib.hid (fun W (bW : Below w.heap.size w W) => rpagesOk_any Q A1 pages c1 ga gd gl W hG (hT.on bW) hcl)
  have HFi := Lib.hid (fun W => rfits_any ga gd gl (pages.length : Int) W hG)
  have Hbad := Lib.hid (show (!badB ga gd gl pages) = false from by rw [hb]; rfl)
  clear hb
  have HT := Lib.hid hT
  obtain ⟨z0, z1, z2, z3, z4, z5, z6, z7, z8, z9⟩ := ten M.box
  obtain ⟨a0, a1, a2, a3, a4, a5, a6, a7, a8, a9, G⟩ := M.res
  obtain ⟨r0, r1, r2, r3, r4, r5, r6, r7, r8, r9⟩ := ten G
  have fr := G.free
  have fz := M.box.free
  have lr := G.lt
  have HG := Lib.hid G
  have HM := Lib.hid M
  rw [Hd.out] at z9
  clear G M
  have HW := Lib.hid hw1
  clear hw1 hd hT
  go_enter Tryz.func25, Tryz.ntmps25
  go_upto_region 1 with (fail)
  rw [← HW.out]
  go_upto_region 3 with (fail)
  go_wp2_with (go_at_call 61; refine (HPg.out _ HM.out.below).mono ?_; rintro e w3 ⟨rfl, b3⟩; rw [Hbad.out]; have M := HM.out.on b3; clear z0 z1 z2 z3 z4 z5 z6 z7 z8 z9 r0 r1 r2 r3 r4 r5 r6 r7 r8 r9 fr fz lr b3; obtain ⟨z0, z1, z2, z3, z4, z5, z6, z7, z8, z9⟩ := ten M.box; obtain ⟨a0, a1, a2, a3, a4, a5, a6, a7, a8, a9, G⟩ := M.res; obtain ⟨r0, r1, r2, r3, r4, r5, r6, r7, r8, r9⟩ := ten G; have fr := G.free; have fz := M.box.free; have lr := G.lt; have HG := Lib.hid G; have HM := Lib.hid M; rw [Hd.out] at z9; clear G M; skip)
  obtain ⟨wF, hwF⟩ : ∃ q, q = set10 w3 (w.heap.size + 1) (.int .i64 ga) (.int .i64 gd) (.int .i64 gl) (.slice A y.pages.length c) (.int .u64 (y.gen.toNat : Int)) (.int .u64 (y.life.toNat : Int)) (.int .i64 y.base) (.int .u64 (y.began.toNat : Int)) (.int .i64 (y.seq : Int)) (.bool false) := ⟨_, rfl⟩
  have FF := set10_blk HG.out (.int .i64 ga) (.int .i64 gd) (.int .i64 gl) (.slice A y.pages.length c) (.int .u64 (y.gen.toNat : Int)) (.int .u64 (y.life.toNat : Int)) (.int .i64 y.base) (.int .u64 (y.began.toNat : Int)) (.int .i64 (y.seq : Int)) (.bool false)
  have BF := set10_below HM.out.below (Nat.le_succ _) (.int .i64 ga) (.int .i64 gd) (.int .i64 gl) (.slice A y.pages.length c) (.int .u64 (y.gen.toNat : Int)) (.int .u64 (y.life.toNat : Int)) (.int .i64 y.base) (.int .u64 (y.began.toNat : Int)) (.int .i64 (y.seq : Int)) (.bool false)
  rw [← hwF] at FF BF
  unfold set10 at hwF
  rw [← hwF]
  clear hwF z0 z1 z2 z3 z4 z5 z6 z7 z8 z9 r0 r1 r2 r3 r4 r5 r6 r7 r8 r9 fr
  obtain ⟨r0, r1, r2, r3, r4, r5, r6, r7, r8, r9⟩ := ten FF
  rw [HRV.out]
  refine bodyPost_ret (v := .tuple #[.agg #[.int .i64 ga, .int .i64 gd, .int .i64 gl, .slice A y.pages.length c, .int .u64 (y.gen.toNat : Int), .int .u64 (y.life.toNat : Int), .int .i64 y.base, .int .u64 (y.began.toNat : Int), .int .i64 (y.seq : Int), .bool false], .int .i64 2]) (by simp [results, Tryz.results25, go_sem, r0, r1, r2, r3, r4, r5, r6, r7, r8, r9]) rfl ⟨rfl, BF⟩
set_option maxHeartbeats 1000000 in
theorem rcommit_fit (Q : Nat → Prop) (ga gd gl : Int) (y : RS) (A : Option Addr) (c : Nat) (A1 : Option Addr) (pages : List Pg) (c1 : Nat) (gen : UInt64) (w : World) (hG : Gb ga gd gl) (hd : y.due = false) (hT : Pgs w Q A1 pages) (hcl : pages.length ≤ 1000000) (hb : badB ga gd gl pages = false) (hf : fitsB ga gd gl pages.length = false) :
    Calls Tryz.prog 25 #[RV ga gd gl y A c, .slice A1 pages.length c1, .int .u64 (gen.toNat : Int)] w fun e w' => e = .returned (.tuple #[RV ga gd gl y A c, .int .i64 6]) ∧ Below w.heap.size w w' := by
  obtain ⟨w1, hw1⟩ : ∃ q, q = ((w.alloc (.cells #[.int .i64 ga, .int .i64 gd, .int .i64 gl, .slice A y.pages.length c, .int .u64 (y.gen.toNat : Int), .int .u64 (y.life.toNat : Int), .int .i64 y.base, .int .u64 (y.began.toNat : Int), .int .i64 (y.seq : Int), .bool y.due] 56)).alloc (.cells #[.int .i64 0, .int .i64 0, .int .i64 0, .slice none 0 0, .int .u64 0, .int .u64 0, .int .i64 0, .int .u64 0, .int .i64 0, .bool false] 56)) := ⟨_, rfl⟩
  have M : RMid w w1 ga gd gl y A c := by rw [hw1]; exact rmid0 w ga gd gl y A c
  have Hd := Lib.hid hd
  have HRV := Lib.hid (show RV ga gd gl y A c = .agg #[.int .i64 ga, .int .i64 gd, .int .i64 gl, .slice A y.pages.length c, .int .u64 (y.gen.toNat : Int), .int .u64 (y.life.toNat : Int), .int .i64 y.base, .int .u64 (y.began.toNat : Int), .int .i64 (y.seq : Int), .bool false] from by rw [← hd])
  have HPg := Lib.hid (fun W (bW : Below w.heap.size w W) => rpagesOk_any Q A1 pages c1 ga gd gl W hG (hT.on bW) hcl)
  have HFi := Lib.hid (fun W => rfits_any ga gd gl (pages.length : Int) W hG)
  have Hbad := Lib.hid (show (!badB ga gd gl pages) = true from by rw [hb]; rfl)
  have Hfit := Lib.hid hf
  clear hb hf
  have HT := Lib.hid hT
  obtain ⟨z0, z1, z2, z3, z4, z5, z6, z7, z8, z9⟩ := ten M.box
  obtain ⟨a0, a1, a2, a3, a4, a5, a6, a7, a8, a9, G⟩ := M.res
  obtain ⟨r0, r1, r2, r3, r4, r5, r6, r7, r8, r9⟩ := ten G
  have fr := G.free
  have fz := M.box.free
  have lr := G.lt
  have HG := Lib.hid G
  have HM := Lib.hid M
  rw [Hd.out] at z9
  clear G M
  have HW := Lib.hid hw1
  clear hw1 hd hT
  go_enter Tryz.func25, Tryz.ntmps25
  go_upto_region 1 with (fail)
  rw [← HW.out]
  go_upto_region 3 with (fail)
  go_upto_region 5 with (go_at_call 61; refine (HPg.out _ HM.out.below).mono ?_; rintro e w3 ⟨rfl, b3⟩; rw [Hbad.out]; have M := HM.out.on b3; clear z0 z1 z2 z3 z4 z5 z6 z7 z8 z9 r0 r1 r2 r3 r4 r5 r6 r7 r8 r9 fr fz lr b3; obtain ⟨z0, z1, z2, z3, z4, z5, z6, z7, z8, z9⟩ := ten M.box; obtain ⟨a0, a1, a2, a3, a4, a5, a6, a7, a8, a9, G⟩ := M.res; obtain ⟨r0, r1, r2, r3, r4, r5, r6, r7, r8, r9⟩ := ten G; have fr := G.free; have fz := M.box.free; have lr := G.lt; have HG := Lib.hid G; have HM := Lib.hid M; rw [Hd.out] at z9; clear G M)
  go_wp2_with (go_at_call 62; refine (HFi.out _).mono ?_; rintro e w5 ⟨rfl, b5⟩; rw [Hfit.out]; have M := HM.out.on b5; clear z0 z1 z2 z3 z4 z5 z6 z7 z8 z9 r0 r1 r2 r3 r4 r5 r6 r7 r8 r9 fr fz lr b5; obtain ⟨z0, z1, z2, z3, z4, z5, z6, z7, z8, z9⟩ := ten M.box; obtain ⟨a0, a1, a2, a3, a4, a5, a6, a7, a8, a9, G⟩ := M.res; obtain ⟨r0, r1, r2, r3, r4, r5, r6, r7, r8, r9⟩ := ten G; have fr := G.free; have fz := M.box.free; have lr := G.lt; have HG := Lib.hid G; have HM := Lib.hid M; rw [Hd.out] at z9; clear G M)
  obtain ⟨wF, hwF⟩ : ∃ q, q = set10 w5 (w.heap.size + 1) (.int .i64 ga) (.int .i64 gd) (.int .i64 gl) (.slice A y.pages.length c) (.int .u64 (y.gen.toNat : Int)) (.int .u64 (y.life.toNat : Int)) (.int .i64 y.base) (.int .u64 (y.began.toNat : Int)) (.int .i64 (y.seq : Int)) (.bool false) := ⟨_, rfl⟩
  have FF := set10_blk HG.out (.int .i64 ga) (.int .i64 gd) (.int .i64 gl) (.slice A y.pages.length c) (.int .u64 (y.gen.toNat : Int)) (.int .u64 (y.life.toNat : Int)) (.int .i64 y.base) (.int .u64 (y.began.toNat : Int)) (.int .i64 (y.seq : Int)) (.bool false)
  have BF := set10_below HM.out.below (Nat.le_succ _) (.int .i64 ga) (.int .i64 gd) (.int .i64 gl) (.slice A y.pages.length c) (.int .u64 (y.gen.toNat : Int)) (.int .u64 (y.life.toNat : Int)) (.int .i64 y.base) (.int .u64 (y.began.toNat : Int)) (.int .i64 (y.seq : Int)) (.bool false)
  rw [← hwF] at FF BF
  unfold set10 at hwF
  rw [← hwF]
  clear hwF z0 z1 z2 z3 z4 z5 z6 z7 z8 z9 r0 r1 r2 r3 r4 r5 r6 r7 r8 r9 fr
  obtain ⟨r0, r1, r2, r3, r4, r5, r6, r7, r8, r9⟩ := ten FF
  rw [HRV.out]
  refine bodyPost_ret (v := .tuple #[.agg #[.int .i64 ga, .int .i64 gd, .int .i64 gl, .slice A y.pages.length c, .int .u64 (y.gen.toNat : Int), .int .u64 (y.life.toNat : Int), .int .i64 y.base, .int .u64 (y.began.toNat : Int), .int .i64 (y.seq : Int), .bool false], .int .i64 6]) (by simp [results, Tryz.results25, go_sem, r0, r1, r2, r3, r4, r5, r6, r7, r8, r9]) rfl ⟨rfl, BF⟩
set_option maxHeartbeats 1000000 in
theorem rcommit_room (Q : Nat → Prop) (ga gd gl : Int) (y : RS) (A : Option Addr) (c : Nat) (A1 : Option Addr) (pages : List Pg) (c1 : Nat) (gen : UInt64) (w : World) (hG : Gb ga gd gl) (hd : y.due = false) (hT : Pgs w Q A1 pages) (hcl : pages.length ≤ 1000000) (hb : badB ga gd gl pages = false) (hf : fitsB ga gd gl pages.length = true) (hP : Rw w Q A y.pages) (hp0 : 0 < y.pages.length) (hpl : y.pages.length ≤ 100000) (hp : ∀ k (hk : k < pages.length), 0 ≤ pages[k].n ∧ pages[k].n < y.pages.length ∧ pages[k].body.length ≤ 1000000) (hq : y.seq ≤ 1000000) (hg0 : 1 ≤ gl) (hg1 : gl ≤ 100000) (hroom : ¬ gl - (y.seq : Int) < (pages.length : Int) + 1) :
    Calls Tryz.prog 25 #[RV ga gd gl y A c, .slice A1 pages.length c1, .int .u64 (gen.toNat : Int)] w fun e w' => ∃ R c', e = .returned (.tuple #[RV ga gd gl (y.put pages gen) (some ⟨R, 0, none⟩) c', .int .i64 0]) ∧ w.heap.size ≤ R ∧ SRow w' R c' (putP y.pages pages) (fun j => Q j ∧ j < w.heap.size) ∧ Below w.heap.size w w' := by
  obtain ⟨w1, hw1⟩ : ∃ q, q = ((w.alloc (.cells #[.int .i64 ga, .int .i64 gd, .int .i64 gl, .slice A y.pages.length c, .int .u64 (y.gen.toNat : Int), .int .u64 (y.life.toNat : Int), .int .i64 y.base, .int .u64 (y.began.toNat : Int), .int .i64 (y.seq : Int), .bool y.due] 56)).alloc (.cells #[.int .i64 0, .int .i64 0, .int .i64 0, .slice none 0 0, .int .u64 0, .int .u64 0, .int .i64 0, .int .u64 0, .int .i64 0, .bool false] 56)) := ⟨_, rfl⟩
  have M : RMid w w1 ga gd gl y A c := by rw [hw1]; exact rmid0 w ga gd gl y A c
  have Hd := Lib.hid hd
  have HRV := Lib.hid (show RV ga gd gl y A c = .agg #[.int .i64 ga, .int .i64 gd, .int .i64 gl, .slice A y.pages.length c, .int .u64 (y.gen.toNat : Int), .int .u64 (y.life.toNat : Int), .int .i64 y.base, .int .u64 (y.began.toNat : Int), .int .i64 (y.seq : Int), .bool false] from by rw [← hd])
  have HPg := Lib.hid (fun W (bW : Below w.heap.size w W) => rpagesOk_any Q A1 pages c1 ga gd gl W hG (hT.on bW) hcl)
  have HFi := Lib.hid (fun W => rfits_any ga gd gl (pages.length : Int) W hG)
  have Hbad := Lib.hid (show (!badB ga gd gl pages) = true from by rw [hb]; rfl)
  have Hfit := Lib.hid hf
  clear hb hf
  have hPq : Rw w (fun j => Q j ∧ j < w.heap.size) A y.pages := hP.imp (fun j hj hq => ⟨hq, hj⟩)
  have hTq : Pgs w (fun j => Q j ∧ j < w.heap.size) A1 pages := hT.imp (fun j hj hq => ⟨hq, hj⟩)
  have HPut := Lib.hid (fun W (bW : Below w.heap.size w W) => rput_any (fun j => Q j ∧ j < w.heap.size) A A1 y.pages c pages c1 W (hPq.on bW) (hTq.on bW) hp0 hpl hcl hp)
  have Hpl := Lib.hid hpl
  clear hPq hTq hp hP hpl
  have HT := Lib.hid hT
  obtain ⟨z0, z1, z2, z3, z4, z5, z6, z7, z8, z9⟩ := ten M.box
  obtain ⟨a0, a1, a2, a3, a4, a5, a6, a7, a8, a9, G⟩ := M.res
  obtain ⟨r0, r1, r2, r3, r4, r5, r6, r7, r8, r9⟩ := ten G
  have fr := G.free
  have fz := M.box.free
  have lr := G.lt
  have HG := Lib.hid G
  have HM := Lib.hid M
  rw [Hd.out] at z9
  clear G M
  have HW := Lib.hid hw1
  clear hw1 hd hT
  go_enter Tryz.func25, Tryz.ntmps25
  go_upto_region 1 with (fail)
  rw [← HW.out]
  go_upto_region 3 with (fail)
  have hs1 : IntKind.i64.wrap (gl - (y.seq : Int)) = gl - (y.seq : Int) := wrap_small (by omega) (by omega)
  have hs2 : IntKind.i64.wrap ((pages.length : Int) + 1) = (pages.length : Int) + 1 := wrap_small (by omega) (by omega)
  have hs3 : IntKind.i64.wrap ((y.seq : Int) + (pages.length : Int)) = (y.seq : Int) + (pages.length : Int) := wrap_small (by omega) (by omega)
  have hs4 : IntKind.i64.wrap ((y.seq : Int) + (pages.length : Int) + 1) = (y.seq : Int) + (pages.length : Int) + 1 := wrap_small (by omega) (by omega)
  clear hq hg0 hg1 hcl
  go_upto_region 5 with (go_at_call 61; refine (HPg.out _ HM.out.below).mono ?_; rintro e w3 ⟨rfl, b3⟩; rw [Hbad.out]; have M := HM.out.on b3; clear z0 z1 z2 z3 z4 z5 z6 z7 z8 z9 r0 r1 r2 r3 r4 r5 r6 r7 r8 r9 fr fz lr b3; obtain ⟨z0, z1, z2, z3, z4, z5, z6, z7, z8, z9⟩ := ten M.box; obtain ⟨a0, a1, a2, a3, a4, a5, a6, a7, a8, a9, G⟩ := M.res; obtain ⟨r0, r1, r2, r3, r4, r5, r6, r7, r8, r9⟩ := ten G; have fr := G.free; have fz := M.box.free; have lr := G.lt; have HG := Lib.hid G; have HM := Lib.hid M; rw [Hd.out] at z9; clear G M)
  go_upto_region 9 with (go_at_call 62; refine (HFi.out _).mono ?_; rintro e w5 ⟨rfl, b5⟩; rw [Hfit.out]; have M := HM.out.on b5; clear z0 z1 z2 z3 z4 z5 z6 z7 z8 z9 r0 r1 r2 r3 r4 r5 r6 r7 r8 r9 fr fz lr b5; obtain ⟨z0, z1, z2, z3, z4, z5, z6, z7, z8, z9⟩ := ten M.box; obtain ⟨a0, a1, a2, a3, a4, a5, a6, a7, a8, a9, G⟩ := M.res; obtain ⟨r0, r1, r2, r3, r4, r5, r6, r7, r8, r9⟩ := ten G; have fr := G.free; have fz := M.box.free; have lr := G.lt; have HG := Lib.hid G; have HM := Lib.hid M; rw [Hd.out] at z9; clear G M)
  go_upto_region 12 with (go_at_call 63; refine (HPut.out _ HM.out.below).mono ?_; rintro e w7 ⟨R, c', rfl, hR, hS, b7⟩; have hR2 : w.heap.size + 1 < R := by { have := lr; omega }; have M := HM.out.on b7; have HS := Lib.hid hS; clear z0 z1 z2 z3 z4 z5 z6 z7 z8 z9 r0 r1 r2 r3 r4 r5 r6 r7 r8 r9 fr fz lr b7 hS hR; obtain ⟨z0, z1, z2, z3, z4, z5, z6, z7, z8, z9⟩ := ten M.box; obtain ⟨a0, a1, a2, a3, a4, a5, a6, a7, a8, a9, G⟩ := M.res; obtain ⟨r0, r1, r2, r3, r4, r5, r6, r7, r8, r9⟩ := ten G; have fr := G.free; have fz := M.box.free; have lr := G.lt; have HG := Lib.hid G; have HM := Lib.hid M; rw [Hd.out] at z9; clear G M)
  obtain ⟨w12, hw12⟩ : ∃ q, q = (((w7.setCell ⟨w.heap.size, 3, none⟩ (.slice (some ⟨R, 0, none⟩) y.pages.length c')).setCell ⟨w.heap.size, 8, none⟩ (.int .i64 ((y.seq : Int) + (pages.length : Int) + 1))).setCell ⟨w.heap.size, 4, none⟩ (.int .u64 (gen.toNat : Int))) := ⟨_, rfl⟩
  have F12 : Blk w12 w.heap.size [.int .i64 ga, .int .i64 gd, .int .i64 gl, .slice (some ⟨R, 0, none⟩) y.pages.length c', .int .u64 (gen.toNat : Int), .int .u64 (y.life.toNat : Int), .int .i64 y.base, .int .u64 (y.began.toNat : Int), .int .i64 ((y.seq : Int) + (pages.length : Int) + 1), .bool y.due] := by rw [hw12]; exact (((HM.out.box.set (k := 3) _).set (k := 8) _).set (k := 4) _ : Blk _ w.heap.size _)
  have hn6 : w.heap.size + 1 ≠ w.heap.size := by omega
  have G12 : Blk w12 (w.heap.size + 1) [a0, a1, a2, a3, a4, a5, a6, a7, a8, a9] := by rw [hw12]; exact ((HG.out.other _ hn6).other _ hn6).other _ hn6
  have B12 : Below w.heap.size w w12 := by rw [hw12]; exact bset (bset (bset HM.out.below (Nat.le_refl _) _) (Nat.le_refl _) _) (Nat.le_refl _) _
  have K12 : Keep [w.heap.size, w.heap.size + 1] w7 w12 := by rw [hw12]; exact (((Keep.refl _ _).set (.inl (by simp)) _).set (.inl (by simp)) _).set (.inl (by simp)) _
  have HB12 := Lib.hid B12
  have HK12 := Lib.hid K12
  have HW12 := Lib.hid hw12
  clear hw12 B12 K12 hn6 z0 z1 z2 z3 z4 z5 z6 z7 z8 z9 r0 r1 r2 r3 r4 r5 r6 r7 r8 r9 fr fz lr
  rw [← HW12.out]
  clear HG
  obtain ⟨z0, z1, z2, z3, z4, z5, z6, z7, z8, z9⟩ := ten F12
  obtain ⟨r0, r1, r2, r3, r4, r5, r6, r7, r8, r9⟩ := ten G12
  rw [Hd.out] at z9
  have fr := G12.free
  have lr := G12.lt
  have HG := Lib.hid G12
  clear F12 G12
  go_wp2_with fail
  obtain ⟨wF, hwF⟩ : ∃ q, q = set10 w12 (w.heap.size + 1) (.int .i64 ga) (.int .i64 gd) (.int .i64 gl) (.slice (some ⟨R, 0, none⟩) y.pages.length c') (.int .u64 (gen.toNat : Int)) (.int .u64 (y.life.toNat : Int)) (.int .i64 y.base) (.int .u64 (y.began.toNat : Int)) (.int .i64 ((y.seq : Int) + (pages.length : Int) + 1)) (.bool false) := ⟨_, rfl⟩
  have FF := set10_blk HG.out (.int .i64 ga) (.int .i64 gd) (.int .i64 gl) (.slice (some ⟨R, 0, none⟩) y.pages.length c') (.int .u64 (gen.toNat : Int)) (.int .u64 (y.life.toNat : Int)) (.int .i64 y.base) (.int .u64 (y.began.toNat : Int)) (.int .i64 ((y.seq : Int) + (pages.length : Int) + 1)) (.bool false)
  have BF := set10_below HB12.out (Nat.le_succ _) (.int .i64 ga) (.int .i64 gd) (.int .i64 gl) (.slice (some ⟨R, 0, none⟩) y.pages.length c') (.int .u64 (gen.toNat : Int)) (.int .u64 (y.life.toNat : Int)) (.int .i64 y.base) (.int .u64 (y.began.toNat : Int)) (.int .i64 ((y.seq : Int) + (pages.length : Int) + 1)) (.bool false)
  have KF := set10_keep HK12.out (X := w.heap.size + 1) (by simp) (.int .i64 ga) (.int .i64 gd) (.int .i64 gl) (.slice (some ⟨R, 0, none⟩) y.pages.length c') (.int .u64 (gen.toNat : Int)) (.int .u64 (y.life.toNat : Int)) (.int .i64 y.base) (.int .u64 (y.began.toNat : Int)) (.int .i64 ((y.seq : Int) + (pages.length : Int) + 1)) (.bool false)
  rw [← hwF] at FF BF KF
  unfold set10 at hwF
  rw [← hwF]
  have SF := HS.out.keep KF (by simp; omega) (fun j hj _ => by have := hj.2; simp; omega)
  clear hwF z0 z1 z2 z3 z4 z5 z6 z7 z8 z9 r0 r1 r2 r3 r4 r5 r6 r7 r8 r9 fr
  obtain ⟨r0, r1, r2, r3, r4, r5, r6, r7, r8, r9⟩ := ten FF
  refine bodyPost_ret (v := .tuple #[.agg #[.int .i64 ga, .int .i64 gd, .int .i64 gl, .slice (some ⟨R, 0, none⟩) y.pages.length c', .int .u64 (gen.toNat : Int), .int .u64 (y.life.toNat : Int), .int .i64 y.base, .int .u64 (y.began.toNat : Int), .int .i64 ((y.seq : Int) + (pages.length : Int) + 1), .bool false], .int .i64 0]) (by simp [results, Tryz.results25, go_sem, r0, r1, r2, r3, r4, r5, r6, r7, r8, r9]) rfl ⟨R, c', by rw [show RV ga gd gl (y.put pages gen) (some ⟨R, 0, none⟩) c' = .agg #[.int .i64 ga, .int .i64 gd, .int .i64 gl, .slice (some ⟨R, 0, none⟩) y.pages.length c', .int .u64 (gen.toNat : Int), .int .u64 (y.life.toNat : Int), .int .i64 y.base, .int .u64 (y.began.toNat : Int), .int .i64 ((y.seq : Int) + (pages.length : Int) + 1), .bool false] from by unfold RS.put RV; simp only [putP_len, Hd.out]; rw [show (((y.seq + (pages.length + 1) : Nat)) : Int) = (y.seq : Int) + (pages.length : Int) + 1 from by omega]], by omega, SF.imp (fun j _ hj => ⟨hj.1.1, hj.1.2⟩), BF⟩
set_option maxHeartbeats 1000000 in
theorem rcommit_renew (Q : Nat → Prop) (ga gd gl : Int) (y : RS) (A : Option Addr) (c : Nat) (A1 : Option Addr) (pages : List Pg) (c1 : Nat) (gen : UInt64) (w : World) (hG : Gb ga gd gl) (hd : y.due = false) (hT : Pgs w Q A1 pages) (hcl : pages.length ≤ 1000000) (hb : badB ga gd gl pages = false) (hf : fitsB ga gd gl pages.length = true) (hP : Rw w Q A y.pages) (hp0 : 0 < y.pages.length) (hpl : y.pages.length ≤ 100000) (hp : ∀ k (hk : k < pages.length), 0 ≤ pages[k].n ∧ pages[k].n < y.pages.length ∧ pages[k].body.length ≤ 1000000) (hq : y.seq ≤ 100000) (hg0 : 1 ≤ gl) (hg1 : gl ≤ 100000) (hlife : y.life.toNat < 4611686018427387904) (hbs : 0 ≤ y.base ∧ y.base ≤ 1073741824) (hroom : gl - (y.seq : Int) < (pages.length : Int) + 1) :
    Calls Tryz.prog 25 #[RV ga gd gl y A c, .slice A1 pages.length c1, .int .u64 (gen.toNat : Int)] w fun e w' => ∃ R c', e = .returned (.tuple #[RV ga gd gl ((y.renew gl).put pages gen) (some ⟨R, 0, none⟩) c', .int .i64 0]) ∧ w.heap.size ≤ R ∧ SRow w' R c' (putP y.pages pages) (fun j => Q j ∧ j < w.heap.size) ∧ Below w.heap.size w w' := by
  obtain ⟨w1, hw1⟩ : ∃ q, q = ((w.alloc (.cells #[.int .i64 ga, .int .i64 gd, .int .i64 gl, .slice A y.pages.length c, .int .u64 (y.gen.toNat : Int), .int .u64 (y.life.toNat : Int), .int .i64 y.base, .int .u64 (y.began.toNat : Int), .int .i64 (y.seq : Int), .bool y.due] 56)).alloc (.cells #[.int .i64 0, .int .i64 0, .int .i64 0, .slice none 0 0, .int .u64 0, .int .u64 0, .int .i64 0, .int .u64 0, .int .i64 0, .bool false] 56)) := ⟨_, rfl⟩
  have M : RMid w w1 ga gd gl y A c := by rw [hw1]; exact rmid0 w ga gd gl y A c
  have Hd := Lib.hid hd
  have HRV := Lib.hid (show RV ga gd gl y A c = .agg #[.int .i64 ga, .int .i64 gd, .int .i64 gl, .slice A y.pages.length c, .int .u64 (y.gen.toNat : Int), .int .u64 (y.life.toNat : Int), .int .i64 y.base, .int .u64 (y.began.toNat : Int), .int .i64 (y.seq : Int), .bool false] from by rw [← hd])
  have HPg := Lib.hid (fun W (bW : Below w.heap.size w W) => rpagesOk_any Q A1 pages c1 ga gd gl W hG (hT.on bW) hcl)
  have HFi := Lib.hid (fun W => rfits_any ga gd gl (pages.length : Int) W hG)
  have Hbad := Lib.hid (show (!badB ga gd gl pages) = true from by rw [hb]; rfl)
  have Hfit := Lib.hid hf
  clear hb hf
  obtain ⟨y2, hy2⟩ : ∃ y2, y2 = y.renew gl := ⟨_, rfl⟩
  have e1 : y.pages = y2.pages := by rw [hy2]; rfl
  have Hd2 := Lib.hid (show y2.due = false from by rw [hy2]; rfl)
  have hq2 : y2.seq = 0 := by rw [hy2]; rfl
  have HRen := Lib.hid (fun W => (by rw [← HRV.out, hy2]; exact rrenew_any ga gd gl y A c W hlife hq hbs hg0 hg1 : Calls Tryz.prog 26 #[.agg #[.int .i64 ga, .int .i64 gd, .int .i64 gl, .slice A y.pages.length c, .int .u64 (y.gen.toNat : Int), .int .u64 (y.life.toNat : Int), .int .i64 y.base, .int .u64 (y.began.toNat : Int), .int .i64 (y.seq : Int), .bool false]] W fun e w' => e = .returned (RV ga gd gl y2 A c) ∧ Below W.heap.size W w'))
  have hPq : Rw w (fun j => Q j ∧ j < w.heap.size) A y2.pages := e1 ▸ hP.imp (fun j hj hq => ⟨hq, hj⟩)
  have hTq : Pgs w (fun j => Q j ∧ j < w.heap.size) A1 pages := hT.imp (fun j hj hq => ⟨hq, hj⟩)
  have HPut := Lib.hid (fun W (bW : Below w.heap.size w W) => rput_any (fun j => Q j ∧ j < w.heap.size) A A1 y2.pages c pages c1 W (hPq.on bW) (hTq.on bW) (e1 ▸ hp0) (e1 ▸ hpl) hcl (e1 ▸ hp))
  have E1 := Lib.hid e1
  have HY2 := Lib.hid hy2
  clear hPq hTq hp hP hpl hlife hbs hp0 e1 hy2
  have HT := Lib.hid hT
  obtain ⟨z0, z1, z2, z3, z4, z5, z6, z7, z8, z9⟩ := ten M.box
  obtain ⟨a0, a1, a2, a3, a4, a5, a6, a7, a8, a9, G⟩ := M.res
  obtain ⟨r0, r1, r2, r3, r4, r5, r6, r7, r8, r9⟩ := ten G
  have fr := G.free
  have fz := M.box.free
  have lr := G.lt
  have HG := Lib.hid G
  have HM := Lib.hid M
  rw [Hd.out] at z9
  clear G M
  have HW := Lib.hid hw1
  clear hw1 hd hT
  go_enter Tryz.func25, Tryz.ntmps25
  go_upto_region 1 with (fail)
  rw [← HW.out]
  go_upto_region 3 with (fail)
  have hs1 : IntKind.i64.wrap (gl - (y.seq : Int)) = gl - (y.seq : Int) := wrap_small (by omega) (by omega)
  have hs2 : IntKind.i64.wrap ((pages.length : Int) + 1) = (pages.length : Int) + 1 := wrap_small (by omega) (by omega)
  have hs3 : IntKind.i64.wrap ((y2.seq : Int) + (pages.length : Int)) = (y2.seq : Int) + (pages.length : Int) := wrap_small (by omega) (by omega)
  have hs4 : IntKind.i64.wrap ((y2.seq : Int) + (pages.length : Int) + 1) = (y2.seq : Int) + (pages.length : Int) + 1 := wrap_small (by omega) (by omega)
  have HQ2 := Lib.hid hq2
  clear hq hg0 hg1 hcl hq2
  go_upto_region 5 with (go_at_call 61; refine (HPg.out _ HM.out.below).mono ?_; rintro e w3 ⟨rfl, b3⟩; rw [Hbad.out]; have M := HM.out.on b3; clear z0 z1 z2 z3 z4 z5 z6 z7 z8 z9 r0 r1 r2 r3 r4 r5 r6 r7 r8 r9 fr fz lr b3; obtain ⟨z0, z1, z2, z3, z4, z5, z6, z7, z8, z9⟩ := ten M.box; obtain ⟨a0, a1, a2, a3, a4, a5, a6, a7, a8, a9, G⟩ := M.res; obtain ⟨r0, r1, r2, r3, r4, r5, r6, r7, r8, r9⟩ := ten G; have fr := G.free; have fz := M.box.free; have lr := G.lt; have HG := Lib.hid G; have HM := Lib.hid M; rw [Hd.out] at z9; clear G M)
  go_upto_region 8 with (go_at_call 62; refine (HFi.out _).mono ?_; rintro e w5 ⟨rfl, b5⟩; rw [Hfit.out]; have M := HM.out.on b5; clear z0 z1 z2 z3 z4 z5 z6 z7 z8 z9 r0 r1 r2 r3 r4 r5 r6 r7 r8 r9 fr fz lr b5; obtain ⟨z0, z1, z2, z3, z4, z5, z6, z7, z8, z9⟩ := ten M.box; obtain ⟨a0, a1, a2, a3, a4, a5, a6, a7, a8, a9, G⟩ := M.res; obtain ⟨r0, r1, r2, r3, r4, r5, r6, r7, r8, r9⟩ := ten G; have fr := G.free; have fz := M.box.free; have lr := G.lt; have HG := Lib.hid G; have HM := Lib.hid M; rw [Hd.out] at z9; clear G M)
  go_upto_region 9 with (go_at_call 26; refine (HRen.out _).mono ?_; rintro e w6 ⟨rfl, b6⟩; have M := HM.out.on b6; clear z0 z1 z2 z3 z4 z5 z6 z7 z8 z9 r0 r1 r2 r3 r4 r5 r6 r7 r8 r9 fr fz lr b6; obtain ⟨z0, z1, z2, z3, z4, z5, z6, z7, z8, z9⟩ := ten M.box; obtain ⟨a0, a1, a2, a3, a4, a5, a6, a7, a8, a9, G⟩ := M.res; obtain ⟨r0, r1, r2, r3, r4, r5, r6, r7, r8, r9⟩ := ten G; have fr := G.free; have fz := M.box.free; have lr := G.lt; have HG := Lib.hid G; have HM := Lib.hid M; rw [Hd.out] at z9; clear G M)
  obtain ⟨w8, hw8⟩ : ∃ q, q = set10 w6 w.heap.size (.int .i64 ga) (.int .i64 gd) (.int .i64 gl) (.slice A y2.pages.length c) (.int .u64 (y2.gen.toNat : Int)) (.int .u64 (y2.life.toNat : Int)) (.int .i64 y2.base) (.int .u64 (y2.began.toNat : Int)) (.int .i64 (y2.seq : Int)) (.bool y2.due) := ⟨_, rfl⟩
  have M : RMid w w8 ga gd gl y2 A c := by
    rw [hw8]
    exact ⟨set10_blk HM.out.box _ _ _ _ _ _ _ _ _ _, ⟨_, _, _, _, _, _, _, _, _, _, set10_other HG.out (by omega) _ _ _ _ _ _ _ _ _ _⟩, set10_below HM.out.below (Nat.le_refl _) _ _ _ _ _ _ _ _ _ _⟩
  unfold set10 at hw8
  have HW8 := Lib.hid hw8
  clear hw8 z0 z1 z2 z3 z4 z5 z6 z7 z8 z9 r0 r1 r2 r3 r4 r5 r6 r7 r8 r9 fr fz lr HG HM
  rw [← HW8.out]
  obtain ⟨z0, z1, z2, z3, z4, z5, z6, z7, z8, z9⟩ := ten M.box
  obtain ⟨a0, a1, a2, a3, a4, a5, a6, a7, a8, a9, G⟩ := M.res
  obtain ⟨r0, r1, r2, r3, r4, r5, r6, r7, r8, r9⟩ := ten G
  have fr := G.free
  have fz := M.box.free
  have lr := G.lt
  have HG := Lib.hid G
  have HM := Lib.hid M
  rw [Hd2.out] at z9
  clear G M
  go_upto_region 12 with (go_at_call 63; refine (HPut.out _ HM.out.below).mono ?_; rintro e w7 ⟨R, c', rfl, hR, hS, b7⟩; have hR2 : w.heap.size + 1 < R := by { have := lr; omega }; have M := HM.out.on b7; have HS := Lib.hid hS; clear z0 z1 z2 z3 z4 z5 z6 z7 z8 z9 r0 r1 r2 r3 r4 r5 r6 r7 r8 r9 fr fz lr b7 hS hR; obtain ⟨z0, z1, z2, z3, z4, z5, z6, z7, z8, z9⟩ := ten M.box; obtain ⟨a0, a1, a2, a3, a4, a5, a6, a7, a8, a9, G⟩ := M.res; obtain ⟨r0, r1, r2, r3, r4, r5, r6, r7, r8, r9⟩ := ten G; have fr := G.free; have fz := M.box.free; have lr := G.lt; have HG := Lib.hid G; have HM := Lib.hid M; rw [Hd2.out] at z9; clear G M)
  obtain ⟨w12, hw12⟩ : ∃ q, q = (((w7.setCell ⟨w.heap.size, 3, none⟩ (.slice (some ⟨R, 0, none⟩) y2.pages.length c')).setCell ⟨w.heap.size, 8, none⟩ (.int .i64 ((y2.seq : Int) + (pages.length : Int) + 1))).setCell ⟨w.heap.size, 4, none⟩ (.int .u64 (gen.toNat : Int))) := ⟨_, rfl⟩
  have F12 : Blk w12 w.heap.size [.int .i64 ga, .int .i64 gd, .int .i64 gl, .slice (some ⟨R, 0, none⟩) y2.pages.length c', .int .u64 (gen.toNat : Int), .int .u64 (y2.life.toNat : Int), .int .i64 y2.base, .int .u64 (y2.began.toNat : Int), .int .i64 ((y2.seq : Int) + (pages.length : Int) + 1), .bool y2.due] := by rw [hw12]; exact (((HM.out.box.set (k := 3) _).set (k := 8) _).set (k := 4) _ : Blk _ w.heap.size _)
  have hn6 : w.heap.size + 1 ≠ w.heap.size := by omega
  have G12 : Blk w12 (w.heap.size + 1) [a0, a1, a2, a3, a4, a5, a6, a7, a8, a9] := by rw [hw12]; exact ((HG.out.other _ hn6).other _ hn6).other _ hn6
  have B12 : Below w.heap.size w w12 := by rw [hw12]; exact bset (bset (bset HM.out.below (Nat.le_refl _) _) (Nat.le_refl _) _) (Nat.le_refl _) _
  have K12 : Keep [w.heap.size, w.heap.size + 1] w7 w12 := by rw [hw12]; exact (((Keep.refl _ _).set (.inl (by simp)) _).set (.inl (by simp)) _).set (.inl (by simp)) _
  have HB12 := Lib.hid B12
  have HK12 := Lib.hid K12
  have HW12 := Lib.hid hw12
  clear hw12 B12 K12 hn6 z0 z1 z2 z3 z4 z5 z6 z7 z8 z9 r0 r1 r2 r3 r4 r5 r6 r7 r8 r9 fr fz lr
  rw [← HW12.out]
  clear HG
  obtain ⟨z0, z1, z2, z3, z4, z5, z6, z7, z8, z9⟩ := ten F12
  obtain ⟨r0, r1, r2, r3, r4, r5, r6, r7, r8, r9⟩ := ten G12
  rw [Hd2.out] at z9
  have fr := G12.free
  have lr := G12.lt
  have HG := Lib.hid G12
  clear F12 G12
  go_wp2_with fail
  obtain ⟨wF, hwF⟩ : ∃ q, q = set10 w12 (w.heap.size + 1) (.int .i64 ga) (.int .i64 gd) (.int .i64 gl) (.slice (some ⟨R, 0, none⟩) y2.pages.length c') (.int .u64 (gen.toNat : Int)) (.int .u64 (y2.life.toNat : Int)) (.int .i64 y2.base) (.int .u64 (y2.began.toNat : Int)) (.int .i64 ((y2.seq : Int) + (pages.length : Int) + 1)) (.bool false) := ⟨_, rfl⟩
  have FF := set10_blk HG.out (.int .i64 ga) (.int .i64 gd) (.int .i64 gl) (.slice (some ⟨R, 0, none⟩) y2.pages.length c') (.int .u64 (gen.toNat : Int)) (.int .u64 (y2.life.toNat : Int)) (.int .i64 y2.base) (.int .u64 (y2.began.toNat : Int)) (.int .i64 ((y2.seq : Int) + (pages.length : Int) + 1)) (.bool false)
  have BF := set10_below HB12.out (Nat.le_succ _) (.int .i64 ga) (.int .i64 gd) (.int .i64 gl) (.slice (some ⟨R, 0, none⟩) y2.pages.length c') (.int .u64 (gen.toNat : Int)) (.int .u64 (y2.life.toNat : Int)) (.int .i64 y2.base) (.int .u64 (y2.began.toNat : Int)) (.int .i64 ((y2.seq : Int) + (pages.length : Int) + 1)) (.bool false)
  have KF := set10_keep HK12.out (X := w.heap.size + 1) (by simp) (.int .i64 ga) (.int .i64 gd) (.int .i64 gl) (.slice (some ⟨R, 0, none⟩) y2.pages.length c') (.int .u64 (gen.toNat : Int)) (.int .u64 (y2.life.toNat : Int)) (.int .i64 y2.base) (.int .u64 (y2.began.toNat : Int)) (.int .i64 ((y2.seq : Int) + (pages.length : Int) + 1)) (.bool false)
  rw [← hwF] at FF BF KF
  unfold set10 at hwF
  rw [← hwF]
  have SF := (E1.out ▸ HS.out).keep KF (by simp; omega) (fun j hj _ => by have := hj.2; simp; omega)
  clear hwF z0 z1 z2 z3 z4 z5 z6 z7 z8 z9 r0 r1 r2 r3 r4 r5 r6 r7 r8 r9 fr
  obtain ⟨r0, r1, r2, r3, r4, r5, r6, r7, r8, r9⟩ := ten FF
  refine bodyPost_ret (v := .tuple #[.agg #[.int .i64 ga, .int .i64 gd, .int .i64 gl, .slice (some ⟨R, 0, none⟩) y2.pages.length c', .int .u64 (gen.toNat : Int), .int .u64 (y2.life.toNat : Int), .int .i64 y2.base, .int .u64 (y2.began.toNat : Int), .int .i64 ((y2.seq : Int) + (pages.length : Int) + 1), .bool false], .int .i64 0]) (by simp [results, Tryz.results25, go_sem, r0, r1, r2, r3, r4, r5, r6, r7, r8, r9]) rfl ⟨R, c', by rw [show RV ga gd gl ((y.renew gl).put pages gen) (some ⟨R, 0, none⟩) c' = .agg #[.int .i64 ga, .int .i64 gd, .int .i64 gl, .slice (some ⟨R, 0, none⟩) y2.pages.length c', .int .u64 (gen.toNat : Int), .int .u64 (y2.life.toNat : Int), .int .i64 y2.base, .int .u64 (y2.began.toNat : Int), .int .i64 ((y2.seq : Int) + (pages.length : Int) + 1), .bool false] from by rw [← HY2.out]; unfold RS.put RV; simp only [putP_len, Hd2.out]; rw [show (((y2.seq + (pages.length + 1) : Nat)) : Int) = (y2.seq : Int) + (pages.length : Int) + 1 from by omega]], by omega, SF.imp (fun j _ hj => ⟨hj.1.1, hj.1.2⟩), BF⟩
end Go.Proofs.YtchcmklelmlbgaaGreat.Sto

/- The document's store: Commit, whole; New. No statement is proved here. -/
namespace Go.Proofs.YtchcmklelmlbgaaGreat.Sto
open Go.RowKit
open Go.Proofs.YtchcmklelmlbgaaGreat.Geom
open Go.Proofs.YtchcmklelmlbgaaGreat.Sup (Gb gv gcell gthree)
open Go.Proofs.YtchcmklelmlbgaaGreat.Wal (badB fitsB whyF wrongB)
set_option linter.unusedVariables false
set_option maxRecDepth 100000
theorem badB_all {ga gd gl : Int} {l : List Pg} (h : badB ga gd gl l = false) (k : Nat) (hk : k < l.length) : 0 ≤ l[k].n ∧ l[k].n < pagesOf ga gd gl ∧ l[k].body.length ≤ 473 := by
  have := List.any_eq_false.mp h l[k] (List.getElem_mem hk)
  simp [wrongB] at this
  omega
theorem rcommit_any (Q : Nat → Prop) (ga gd gl : Int) (y : RS) (A : Option Addr) (c : Nat) (A1 : Option Addr) (pages : List Pg) (c1 : Nat) (gen : UInt64) (w : World) (hG : Gb ga gd gl) (hT : Pgs w Q A1 pages) (hcl : pages.length ≤ 1000000)
    (hP : Rw w Q A y.pages) (hr : right ga gd gl = true) (hpl : (y.pages.length : Int) = pagesOf ga gd gl) (hpb : y.pages.length ≤ 100000) (hp0 : 0 < y.pages.length) (hq : y.seq ≤ 100000) (hg1 : gl ≤ 100000) (hg0 : 1 ≤ gl) (hlife : y.life.toNat < 4611686018427387904) (hbs : 0 ≤ y.base ∧ y.base ≤ 1073741824) :
    Calls Tryz.prog 25 #[RV ga gd gl y A c, .slice A1 pages.length c1, .int .u64 (gen.toNat : Int)] w fun e w' => ∃ A' c', e = .returned (.tuple #[RV ga gd gl (y.commit ga gd gl pages gen).1 A' c', .int .i64 (y.commit ga gd gl pages gen).2]) ∧ Rw w' (fun j => (Q j ∧ j < w.heap.size) ∨ w.heap.size ≤ j) A' (y.commit ga gd gl pages gen).1.pages ∧ Below w.heap.size w w' := by
  have hPn : ∀ w', Below w.heap.size w w' → Rw w' (fun j => (Q j ∧ j < w.heap.size) ∨ w.heap.size ≤ j) A y.pages := fun w' b => (hP.imp (fun j hj hq => .inl ⟨hq, hj⟩)).on b
  cases hd : y.due with
  | true =>
    have e : y.commit ga gd gl pages gen = (y, 14) := by unfold RS.commit; rw [if_pos hd]
    rw [e]
    refine (rcommit_due ga gd gl y A c A1 pages.length c1 gen w hd).mono ?_
    rintro e w' ⟨rfl, b⟩
    exact ⟨A, c, rfl, hPn w' b, b⟩
  | false =>
    have hnd : ¬ y.due = true := by rw [hd]; decide
    cases hb : badB ga gd gl pages with
    | true =>
      have e : y.commit ga gd gl pages gen = (y, 2) := by unfold RS.commit whyF; rw [if_neg hnd, if_pos hb]; rfl
      rw [e]
      refine (rcommit_bad Q ga gd gl y A c A1 pages c1 gen w hG hd hT hcl hb).mono ?_
      rintro e w' ⟨rfl, b⟩
      exact ⟨A, c, rfl, hPn w' b, b⟩
    | false =>
      have hnb : ¬ badB ga gd gl pages = true := by rw [hb]; decide
      cases hf : fitsB ga gd gl pages.length with
      | false =>
        have e : y.commit ga gd gl pages gen = (y, 6) := by unfold RS.commit whyF; rw [if_neg hnd, if_neg hnb, if_pos hf]; rfl
        rw [e]
        refine (rcommit_fit Q ga gd gl y A c A1 pages c1 gen w hG hd hT hcl hb hf).mono ?_
        rintro e w' ⟨rfl, b⟩
        exact ⟨A, c, rfl, hPn w' b, b⟩
      | true =>
        have hnf : ¬ fitsB ga gd gl pages.length = false := by rw [hf]; decide
        have hp : ∀ k (hk : k < pages.length), 0 ≤ pages[k].n ∧ pages[k].n < y.pages.length ∧ pages[k].body.length ≤ 1000000 := fun k hk => by
          obtain ⟨h1, h2, h3⟩ := badB_all hb k hk
          rw [hpl]; exact ⟨h1, h2, by omega⟩
        by_cases hroom : gl - (y.seq : Int) ≤ (pages.length : Int)
        · have e : y.commit ga gd gl pages gen = ((y.renew gl).put pages gen, 0) := by unfold RS.commit whyF; rw [if_neg hnd, if_neg hnb, if_neg hnf, if_pos hroom]; rfl
          rw [e]
          refine (rcommit_renew Q ga gd gl y A c A1 pages c1 gen w hG hd hT hcl hb hf hP hp0 hpb hp hq hg0 hg1 hlife hbs (by omega)).mono ?_
          rintro e w' ⟨R, c', rfl, hR, hS, b⟩
          have hl : ((y.renew gl).put pages gen).pages = putP y.pages pages := rfl
          exact ⟨_, c', rfl, by rw [hl]; exact hS.rw (fun j _ hj => .inl hj) (.inr hR), b⟩
        · have e : y.commit ga gd gl pages gen = (y.put pages gen, 0) := by unfold RS.commit whyF; rw [if_neg hnd, if_neg hnb, if_neg hnf, if_neg hroom]; rfl
          rw [e]
          refine (rcommit_room Q ga gd gl y A c A1 pages c1 gen w hG hd hT hcl hb hf hP hp0 hpb hp (by omega) hg0 hg1 (by omega)).mono ?_
          rintro e w' ⟨R, c', rfl, hR, hS, b⟩
          exact ⟨_, c', rfl, hS.rw (fun j _ hj => .inl hj) (.inr hR), b⟩
theorem mkS_run (n : Nat) (hn : n ≤ 100000) : ∃ O : Obj, (∀ W, (Instr.makeSlice 47 (.int .i64 (n : Int)) (.int .i64 (n : Int))).run Tryz.prog W = .ok (.slice (some ⟨W.heap.size, 0, none⟩) n n) (W.alloc O)) ∧ ∀ W : World, Blk (W.alloc O) W.heap.size (List.replicate n (.slice none 0 0)) := by
  obtain ⟨i0, hi0, hz0, hz1, hz2⟩ := info_parts Snap.infoS
  refine ⟨.cells (madeCells (Value.slice none 0 0).cells (n * i0.size)) 51, fun W => ?_, fun W => ⟨51, ?_⟩⟩
  · have hr := run_make (P := Tryz.prog) W 47 51 i0 _ Tryz.underlying47 hi0 hz0 .i64 .i64 n n (by omega) (by omega) (by rw [hz2]; omega) (by omega)
    simpa using hr
  · have h1 : (madeCells (Value.slice none 0 0).cells (n * i0.size)) = (List.replicate n (Value.slice none 0 0)).toArray := by
      apply Array.ext'
      rw [hz1, Snap.made_nil]
    rw [h1]
    exact heap_alloc_new W _
def y0 (n : Nat) : RS := ⟨List.replicate n [], 0, 1, 0, 0, 0, false⟩
set_option maxHeartbeats 1000000 in
theorem rnew_any (ga gd gl : Int) (w : World) (n : Nat) (hG : Gb ga gd gl) (hn : pagesOf ga gd gl = (n : Int)) (hn1 : n ≤ 100000) (hn0 : 0 < n) :
    Calls Tryz.prog 23 #[gv ga gd gl] w fun e w' => ∃ R c, e = .returned (RV ga gd gl (y0 n) (some ⟨R, 0, none⟩) c) ∧ w.heap.size ≤ R ∧ Rw w' (fun j => w.heap.size ≤ j) (some ⟨R, 0, none⟩) (y0 n).pages ∧ Below w.heap.size w w' := by
  obtain ⟨w1, hw1⟩ : ∃ q, q = ((w.alloc (.cells (gcell ga gd gl).toArray 23)).alloc (.cells #[.int .i64 0, .int .i64 0, .int .i64 0, .slice none 0 0, .int .u64 0, .int .u64 0, .int .i64 0, .int .u64 0, .int .i64 0, .bool false] 56)) := ⟨_, rfl⟩
  have b0 : Below w.heap.size w w1 := by rw [hw1]; exact b2alloc w _ _
  have F : Blk w1 w.heap.size (gcell ga gd gl) := by rw [hw1]; exact (Blk.new w (gcell ga gd gl) 23).alloc _
  have G : Blk w1 (w.heap.size + 1) [.int .i64 0, .int .i64 0, .int .i64 0, .slice none 0 0, .int .u64 0, .int .u64 0, .int .i64 0, .int .u64 0, .int .i64 0, .bool false] := by
    rw [hw1]
    simpa using Blk.new (w.alloc (.cells (gcell ga gd gl).toArray 23)) [.int .i64 0, .int .i64 0, .int .i64 0, .slice none 0 0, .int .u64 0, .int .u64 0, .int .i64 0, .int .u64 0, .int .i64 0, .bool false] 56
  obtain ⟨z0, z1, z2⟩ := gthree F
  have HP := Lib.hid (fun W => Geom.rpages_any ga gd gl W hG.a0 hG.a1 hG.d0 hG.d1 hG.g0 hG.g1)
  have HF := Lib.hid F
  have HG := Lib.hid G
  have HW := Lib.hid hw1
  have Hn := Lib.hid hn
  have Hb := Lib.hid b0
  obtain ⟨O, hO, hOB⟩ := mkS_run n hn1
  have HK := Lib.hid (fun W (bW : Below w1.heap.size w1 W) => gthree (F.on bW))
  have HK2 := Lib.hid (fun W (bW : Below w1.heap.size w1 W) b0 b1 b2 b3 b4 b5 b6 b7 b8 b9 => gthree (set10_other (X := w.heap.size + 1) ((F.on bW).alloc O) (by omega) b0 b1 b2 b3 b4 b5 b6 b7 b8 b9))
  have cz : Below w1.heap.size w1 w1.drew := (Below.refl _ _).drew
  clear hw1 F G hn b0
  go_enter Tryz.func23, Tryz.ntmps23
  go_upto_region 1 with (fail)
  rw [← HW.out]
  go_region_with (go_at_call 22; refine (HP.out _).mono ?_; rintro e w3 ⟨rfl, b3⟩; rw [Hn.out]; have b4 : Below w1.heap.size w1 w3 := bt cz b3; obtain ⟨q0, q1, q2⟩ := HK.out _ b4; obtain ⟨q3, q4, q5⟩ := HK.out _ (bt b4 (b1alloc w3 O)); have G4 := (HG.out.on b4).alloc O; have HG4 := Lib.hid G4; have fr := G4.free; have lr := G4.lt; obtain ⟨r0, r1, r2, r3, r4, r5, r6, r7, r8, r9⟩ := ten G4; clear G4)
  all_goals
    have hne : w3.heap.size ≠ w.heap.size + 1 := by have := HG.out.lt; have := b4.size; omega
    obtain ⟨wF, hwF⟩ : ∃ q, q = set10 (w3.alloc O) (w.heap.size + 1) (.int .i64 ga) (.int .i64 gd) (.int .i64 gl) (.slice (some ⟨w3.heap.size, 0, none⟩) n n) (.int .u64 0) (.int .u64 1) (.int .i64 0) (.int .u64 0) (.int .i64 0) (.bool false) := ⟨_, rfl⟩
    have FF := set10_blk HG4.out (.int .i64 ga) (.int .i64 gd) (.int .i64 gl) (.slice (some ⟨w3.heap.size, 0, none⟩) n n) (.int .u64 0) (.int .u64 1) (.int .i64 0) (.int .u64 0) (.int .i64 0) (.bool false)
    have BF := set10_below (bt Hb.out (bt b4 (b1alloc w3 O))) (Nat.le_succ _) (.int .i64 ga) (.int .i64 gd) (.int .i64 gl) (.slice (some ⟨w3.heap.size, 0, none⟩) n n) (.int .u64 0) (.int .u64 1) (.int .i64 0) (.int .u64 0) (.int .i64 0) (.bool false)
    have RF := set10_other (X := w.heap.size + 1) (hOB w3) hne (.int .i64 ga) (.int .i64 gd) (.int .i64 gl) (.slice (some ⟨w3.heap.size, 0, none⟩) n n) (.int .u64 0) (.int .u64 1) (.int .i64 0) (.int .u64 0) (.int .i64 0) (.bool false)
    rw [← hwF] at FF BF RF
    unfold set10 at hwF
    rw [← hwF]
    have hR : w.heap.size ≤ w3.heap.size := by have := b4.size; have := Hb.out.size; omega
    have HFF := Lib.hid FF
    clear hwF r0 r1 r2 r3 r4 r5 r6 r7 r8 r9 fr lr q0 q1 q2 q3 q4 q5 z0 z1 z2 FF
    go_wp2_with fail
    obtain ⟨r0, r1, r2, r3, r4, r5, r6, r7, r8, r9⟩ := ten HFF.out
    refine bodyPost_ret (v := .agg #[.int .i64 ga, .int .i64 gd, .int .i64 gl, .slice (some ⟨w3.heap.size, 0, none⟩) n n, .int .u64 0, .int .u64 1, .int .i64 0, .int .u64 0, .int .i64 0, .bool false]) (by simp [results, Tryz.results23, go_sem, r0, r1, r2, r3, r4, r5, r6, r7, r8, r9]) rfl ⟨w3.heap.size, n, by simp [y0], hR, fun _ => ⟨w3.heap.size, 0, rfl, RF.lt, hR, fun i hi => ?_⟩, BF⟩
    have hi' : i < n := by simpa [y0] using hi
    refine ⟨none, 0, ?_, by simp [y0]; exact RdQ.nil _ _ _, by simp [y0], by unfold maxLen; omega⟩
    have := RF.cell (k := i) (by simpa using hi')
    simpa [y0] using this
end Go.Proofs.YtchcmklelmlbgaaGreat.Sto

/- The store: the chapter's example. No statement is proved here. -/
namespace Go.Proofs.YtchcmklelmlbgaaGreat.Sto
open Go.RowKit
open Go.Proofs.YtchcmklelmlbgaaGreat.Geom
open Go.Proofs.YtchcmklelmlbgaaGreat.Disk (St DAt Did new)
open Go.Proofs.YtchcmklelmlbgaaGreat.Sup (Gb gv gcell gthree srightF UpN up_new srightF_new newN_any)
open Go.Proofs.YtchcmklelmlbgaaGreat.Sec (symbolic_any)
open Go.Proofs.YtchcmklelmlbgaaGreat.Wal (whyF)
set_option linter.unusedVariables false
set_option maxRecDepth 100000
theorem SH.page {w0 w : World} {X R L g : Nat} {fp : List Nat} {gS bS : Nat} {ga gd gl : Int} {n : Nat} {y : RS} {t : Nat} (h : SH w0 w X R L g fp gS bS ga gd gl n y t) (k : Nat) (hk : k < y.pages.length) : Calls Tryz.prog 27 #[.pointer (some ⟨X, 0, none⟩), .int .i64 (k : Int)] w fun e w' => RetB 5 w y.pages[k] e w' := by
  obtain ⟨z, s, l, h1, h2, _⟩ := h
  obtain ⟨zo, e1, _⟩ := h2.zok
  have hpb := pagesOf_bd ga gd gl
  have hzl := zo.len
  have hk' : k < z.pages.length := by rw [← e1]; exact hk
  have e : y.pages[k] = z.pages[k] := by simp [e1]
  rw [e]
  exact page_in X R L g fp gS bS ga gd gl z s l k w h1 hk' (by omega) (by have := h2.pageLen _ (List.getElem_mem hk'); omega)
theorem SH.pageOut {w0 w : World} {X R L g : Nat} {fp : List Nat} {gS bS : Nat} {ga gd gl : Int} {n : Nat} {y : RS} {t : Nat} (h : SH w0 w X R L g fp gS bS ga gd gl n y t) (k : Int) (hk : k < 0 ∨ (y.pages.length : Int) ≤ k) : Calls Tryz.prog 27 #[.pointer (some ⟨X, 0, none⟩), .int .i64 k] w fun e w' => e = .returned (.slice none 0 0) ∧ w = w' := by
  obtain ⟨z, s, l, h1, h2, _⟩ := h
  obtain ⟨zo, e1, _⟩ := h2.zok
  have hpb := pagesOf_bd ga gd gl
  have hzl := zo.len
  exact page_out X R L g fp gS bS ga gd gl z s l k w h1 (by rw [← e1]; exact hk) (by omega)
theorem lit9 (w : World) : Pgs ((w.alloc (.cells #[.int .u8 9] 5)).alloc (.cells #[.int .i64 2, .slice (some ⟨w.heap.size, 0, none⟩) 1 1] 53)) (fun j => w.heap.size ≤ j) (some ⟨w.heap.size + 1, 0, none⟩) [⟨2, [9]⟩] := by
  intro _
  have h1 : Blk ((w.alloc (.cells #[.int .u8 9] 5)).alloc (.cells #[.int .i64 2, .slice (some ⟨w.heap.size, 0, none⟩) 1 1] 53)) w.heap.size [.int .u8 9] := (Blk.new w [.int .u8 9] 5).alloc _
  have h2 : Blk ((w.alloc (.cells #[.int .u8 9] 5)).alloc (.cells #[.int .i64 2, .slice (some ⟨w.heap.size, 0, none⟩) 1 1] 53)) (w.heap.size + 1) [.int .i64 2, .slice (some ⟨w.heap.size, 0, none⟩) 1 1] := by simpa using Blk.new (w.alloc (.cells #[.int .u8 9] 5)) [.int .i64 2, .slice (some ⟨w.heap.size, 0, none⟩) 1 1] 53
  refine ⟨w.heap.size + 1, 0, rfl, h2.lt, by show w.heap.size ≤ w.heap.size + 1; omega, fun i hi => ?_⟩
  obtain rfl : i = 0 := by simp at hi; exact hi
  refine ⟨some ⟨w.heap.size, 0, none⟩, 1, h2.cell (k := 0) (by simp), h2.cell (k := 1) (by simp), fun _ => ⟨w.heap.size, 0, rfl, h1.lt, Nat.le_refl _, fun k hk => ?_⟩, by simp, by unfold maxLen; omega, by simp, by simp⟩
  obtain rfl : k = 0 := by simp at hk; exact hk
  exact h1.cell (k := 0) (by simp)
set_option maxHeartbeats 2000000 in
theorem alive_any (w : World) : Calls Tryz.prog 10 #[] w fun e w' => e = .returned (.bool true) ∧ Below w.heap.size w w' := by
  have hn : ((13 : Nat) : Int) = Geom.sizeOf 2 1 3 := by decide
  have hr : right 2 1 3 = true := by decide
  have hm : ((3 : Nat) : Int) = pagesOf 2 1 3 := by decide
  have hG : Gb 2 1 3 := by constructor <;> decide
  have hc : (RS.new 3).commit 2 1 3 [⟨2, [9]⟩] 4 = (⟨[[], [], [9]], 4, 1, 0, 0, 2, false⟩, 0) := by
    unfold RS.commit
    rw [if_neg (by decide), if_pos (show whyF 2 1 3 (RS.new 3).seq [⟨2, [9]⟩] = 0 by decide)]
    rfl
  obtain ⟨wA, hwA⟩ : ∃ q, q = w.alloc (.cells #[.int .i64 2, .int .i64 1, .int .i64 3] 23) := ⟨_, rfl⟩
  have HF := Lib.hid (fun W g fp gS bS (h : Both W g fp (new 13) gS bS []) hb ho => format_law (w0 := wA) (t := 0) hG h (up_new 13) hr hn hm (by simp) (by simp [new, Disk.St.sz]) (by omega) hb ho)
  have HC := Lib.hid (fun W X R L g fp gS bS (h : SH wA W X R L g fp gS bS 2 1 3 13 (RS.new 3) 1) Q A c hp hQ => h.commit hG hr hn (by omega) Q A [⟨2, [9]⟩] c 4 hp hQ (by simp))
  rw [hc] at HC
  have HO := Lib.hid (fun W X R L g fp gS bS y (h : SH wA W X R L g fp gS bS 2 1 3 13 y 2) => h.opens hG hr hn (by omega))
  clear hc hn hr hm hG
  have F := Lib.hid (show Blk wA w.heap.size (gcell 2 1 3) from by rw [hwA]; exact Blk.new w (gcell 2 1 3) 23)
  have hltF := F.out.lt
  have b0 : Below w.heap.size w wA := by rw [hwA]; exact b1alloc w _
  have HWA := Lib.hid hwA
  clear hwA
  go_enter Tryz.func10, Tryz.ntmps10
  go_upto_region 2 with (fail)
  rw [← HWA.out]
  go_wp2_with (first
    | (go_at_call 11; refine (newN_any 13 13 rfl (by omega) (by omega) _).mono ?_; rintro e w1 ⟨g, fp, rfl, hD, hfp, b1⟩)
    | (go_at_call 13; refine (symbolic_any _).mono ?_; rintro e w2 ⟨gS, bS, rfl, hS, hgS, hbS, b2⟩; have H2 := Here.start hD hfp b1 hS hgS hbS b2; have Hown := Lib.hid (show ∀ j ∈ bS :: gS :: fp, wA.heap.size ≤ j from fun j hj => by (have hs1 := b1.size; simp only [List.mem_cons] at hj; rcases hj with e | e | e; (omega); (omega); (exact hfp j e))); obtain ⟨m0, m1, m2⟩ := gthree (F.out.below H2.bel hltF))
    | (go_at_call 14; refine (HF.out _ g fp gS bS H2.both H2.bel Hown.out).mono ?_; rintro e w3 ⟨X, R, L, fp3, rfl, H3, _, _, _, _, _⟩; clear m0 m1 m2; obtain ⟨m0, m1, m2⟩ := gthree (F.out.below H3.bel hltF))
    | (go_at_call 15; refine (HC.out _ X R L g fp3 gS bS (H3.on (b2alloc _ _ _)) (fun j => w3.heap.size ≤ j) _ _ (lit9 w3) (fun j hj _ => H3.offNew hj)).mono ?_; rintro e w5 ⟨rfl, L5, fp5, H5, _, _⟩; clear m0 m1 m2; obtain ⟨m0, m1, m2⟩ := gthree (F.out.below H5.bel hltF))
    | (go_at_call 17; refine (HO.out _ X R L5 g fp5 gS bS _ H5).mono ?_; rintro e w6 ⟨X6, R6, rfl, H6, b6, _, _⟩)
    | (go_at_call 27; refine (H6.page 2 (by simp [RS.isDue])).mono ?_; rintro e w7 ⟨A7, c7, rfl, o7, b7⟩; obtain ⟨G7, c8, e7, hG7⟩ := own_some o7 (by simp [RS.isDue]); injection e7 with e1 e2 e3; subst e1; have x7 := World.ownsRow.cellAt o7 0 (by simp [RS.isDue]); simp [RS.isDue] at x7)
    | (go_at_call 20; refine ((H6.on b7).gen).mono ?_; rintro e w8 ⟨rfl, rfl⟩))
  go_ret
  exact ⟨by first | rfl | decide, bt b0 (bt H6.bel b7)⟩
end Go.Proofs.YtchcmklelmlbgaaGreat.Sto

/- The store's law: like. No statement is proved here. -/
namespace Go.Proofs.YtchcmklelmlbgaaGreat.Sto
open Go.RowKit
open Go.Proofs.YtchcmklelmlbgaaGreat.Geom
open Go.Proofs.YtchcmklelmlbgaaGreat.Sup (Gb gv gcell gthree)
set_option linter.unusedVariables false
set_option maxRecDepth 100000
attribute [local irreducible] wpQuiet
set_option maxHeartbeats 1000000 in
theorem like_any (pd ps : Value) (X : Nat) (ga gd gl : Int) (y : RS) (A : Option Addr) (c : Nat) (w : World) (hP : Rws w w.heap.size A y.pages) (hpl : y.pages.length ≤ 1000) (hpm : ∀ x ∈ y.pages, x.length ≤ 1000000) (hq : y.seq ≤ 100000) (hg : 0 ≤ gl) (hg1 : gl ≤ 100000)
    (hSup : ∀ W, Below w.heap.size w W → Calls Tryz.prog 51 #[pd, ps, gv ga gd gl] W fun e w' => e = .returned (.tuple #[.agg #[.int .u64 (y.life.toNat : Int), .int .i64 y.base, .int .u64 (y.began.toNat : Int)], .int .i64 0]) ∧ Below W.heap.size W w')
    (hPag : ∀ W, Below w.heap.size w W → Calls Tryz.prog 19 #[.pointer (some ⟨X, 0, none⟩)] W fun e w' => ∃ A c, e = .returned (.slice A y.pages.length c) ∧ Rws w' w'.heap.size A y.pages ∧ Below W.heap.size W w')
    (hGen : ∀ W, Below w.heap.size w W → Calls Tryz.prog 20 #[.pointer (some ⟨X, 0, none⟩)] W fun e w' => e = .returned (.int .u64 (y.gen.toNat : Int)) ∧ W = w')
    (hLife : ∀ W, Below w.heap.size w W → Calls Tryz.prog 21 #[.pointer (some ⟨X, 0, none⟩)] W fun e w' => e = .returned (.int .u64 (y.life.toNat : Int)) ∧ W = w')
    (hRoom : ∀ W, Below w.heap.size w W → Calls Tryz.prog 28 #[.pointer (some ⟨X, 0, none⟩)] W fun e w' => e = .returned (.int .i64 (y.room gl)) ∧ Below W.heap.size W w')
    (hDead : ∀ W, Below w.heap.size w W → Calls Tryz.prog 29 #[.pointer (some ⟨X, 0, none⟩)] W fun e w' => e = .returned (.bool false) ∧ W = w') :
    Calls Tryz.prog 24 #[pd, ps, .pointer (some ⟨X, 0, none⟩), RV ga gd gl y A c] w fun e w' => e = .returned (.bool true) ∧ Below w.heap.size w w' := by
  obtain ⟨w1, hw1⟩ : ∃ q, q = w.alloc (.cells #[.int .i64 ga, .int .i64 gd, .int .i64 gl, .slice A y.pages.length c, .int .u64 (y.gen.toNat : Int), .int .u64 (y.life.toNat : Int), .int .i64 y.base, .int .u64 (y.began.toNat : Int), .int .i64 (y.seq : Int), .bool y.due] 56) := ⟨_, rfl⟩
  have b0 : Below w.heap.size w w1 := by rw [hw1]; exact b1alloc w _
  have F : Blk w1 w.heap.size (rcl ga gd gl y A c) := by rw [hw1]; exact Blk.new w (rcl ga gd gl y A c) 56
  obtain ⟨z0, z1, z2, z3, z4, z5, z6, z7, z8, z9⟩ := ten F
  have HW := Lib.hid hw1
  have HB0 := Lib.hid b0
  have HF := Lib.hid F
  have HSup := Lib.hid hSup
  have HPag := Lib.hid hPag
  have HGen := Lib.hid hGen
  have HLife := Lib.hid hLife
  have HRoom := Lib.hid hRoom
  have HDead := Lib.hid hDead
  have HP := Lib.hid hP
  clear hSup hPag hGen hLife hRoom hDead hP hw1 F b0
  go_enter Tryz.func24, Tryz.ntmps24
  go_upto_region 1 with (fail)
  rw [← HW.out]
  go_upto_region 4 with (go_at_call 51; refine (HSup.out _ HB0.out).mono ?_; rintro e w3 ⟨rfl, b3⟩; have b4 := bt b3 (b1alloc w3 (.cells #[.int .u64 (y.life.toNat : Int), .int .i64 y.base, .int .u64 (y.began.toNat : Int)] 90)); have HB4 := Lib.hid b4; have HW4 := Lib.hid (ten (HF.out.on b4)); obtain ⟨x0, x1, x2, x3, x4, x5, x6, x7, x8, x9⟩ := HW4.out; clear z0 z1 z2 z3 z4 z5 z6 z7 z8 z9 b4)
  obtain ⟨w4, hw4⟩ : ∃ q, q = w3.alloc (.cells #[.int .u64 (y.life.toNat : Int), .int .i64 y.base, .int .u64 (y.began.toNat : Int)] 90) := ⟨_, rfl⟩
  have HW5 := Lib.hid hw4
  have HB5 := Lib.hid (show Below w.heap.size w w4 from by rw [hw4]; exact bt HB0.out HB4.out)
  have HK := Lib.hid (fun W (bW : Below w4.heap.size w4 W) => ten ((HF.out.on (show Below w1.heap.size w1 w4 from by rw [hw4]; exact HB4.out)).on bW))
  clear hw4 x0 x1 x2 x3 x4 x5 x6 x7 x8 x9 b3
  rw [← HW5.out]
  have cz : Below w4.heap.size w4 w4.drew := (Below.refl _ _).drew
  have HRo := Lib.hid (fun W (A6 : Option Addr) (d6 : Nat) (h1 : Rws W W.heap.size A6 y.pages) (bW : Below w.heap.size w W) => (by
    refine (R20.rows_any A6 A y.pages y.pages y.pages.length y.pages.length d6 c W h1 (HP.out.on bW) rfl rfl hpl hpm hpm).mono ?_
    rintro e w7 ⟨rfl, b7⟩
    exact ⟨by simp, b7⟩ : Calls Tryz.prog 18 #[.slice A6 y.pages.length d6, .slice A y.pages.length c] W fun e w' => e = .returned (.bool true) ∧ Below W.heap.size W w'))
  have HRR := Lib.hid (fun W => rroom_any ga gd gl y A c W hq hg hg1)
  clear hpl hpm hq hg hg1
  go_region_held3 (fun W => W.cell? ⟨w.heap.size, 0, none⟩ = some (.int .i64 ga) ∧ W.cell? ⟨w.heap.size, 1, none⟩ = some (.int .i64 gd) ∧ W.cell? ⟨w.heap.size, 2, none⟩ = some (.int .i64 gl) ∧ W.cell? ⟨w.heap.size, 3, none⟩ = some (.slice A y.pages.length c) ∧ W.cell? ⟨w.heap.size, 4, none⟩ = some (.int .u64 (y.gen.toNat : Int)) ∧ W.cell? ⟨w.heap.size, 5, none⟩ = some (.int .u64 (y.life.toNat : Int)) ∧ W.cell? ⟨w.heap.size, 6, none⟩ = some (.int .i64 y.base) ∧ W.cell? ⟨w.heap.size, 7, none⟩ = some (.int .u64 (y.began.toNat : Int)) ∧ W.cell? ⟨w.heap.size, 8, none⟩ = some (.int .i64 (y.seq : Int)) ∧ W.cell? ⟨w.heap.size, 9, none⟩ = some (.bool y.due)) (first | exact HK.out _ cz | exact HK.out _ c6 | exact HK.out _ c7 | exact HK.out _ c9 | exact HK.out _ c10) ((first
    | (go_at_call 19; refine (HPag.out _ (bt HB5.out cz)).mono ?_; rintro e w6 ⟨A6, d6, rfl, hR6, b6⟩; have c6 := bt cz b6; have HR6 := Lib.hid hR6; clear hR6)
    | (go_at_call 18; refine (HRo.out _ _ _ HR6.out (bt HB5.out c6)).mono ?_; rintro e w7 ⟨rfl, b7⟩; have c7 := bt c6 b7)
    | (go_at_call 20; refine (HGen.out _ (bt HB5.out c7)).mono ?_; rintro e w8 ⟨rfl, rfl⟩)
    | (go_at_call 21; refine (HLife.out _ (bt HB5.out c7)).mono ?_; rintro e w8 ⟨rfl, rfl⟩)
    | (go_at_call 28; refine (HRoom.out _ (bt HB5.out c7)).mono ?_; rintro e w9 ⟨rfl, b9⟩; have c9 := bt c7 b9)
    | (go_at_call 60; refine (HRR.out _).mono ?_; rintro e w10 ⟨rfl, b10⟩; have c10 := bt c9 b10)
    | (go_at_call 29; refine (HDead.out _ (bt HB5.out c10)).mono ?_; rintro e w11 ⟨rfl, rfl⟩)))
  have C10 := Lib.hid c10
  clear c6 c7 c9 c10 cz
  go_wp2_with fail
  go_ret
  exact ⟨rfl, bt HB5.out C10.out⟩
end Go.Proofs.YtchcmklelmlbgaaGreat.Sto

/- The store's law: like, of a store that the law holds. No statement is proved here. -/
namespace Go.Proofs.YtchcmklelmlbgaaGreat.Sto
open Go.RowKit
open Go.Proofs.YtchcmklelmlbgaaGreat.Geom
open Go.Proofs.YtchcmklelmlbgaaGreat.Disk (St DAt new)
open Go.Proofs.YtchcmklelmlbgaaGreat.Sup (Gb gv gcell gthree srightF UpN srightF_new rdV SV)
set_option linter.unusedVariables false
set_option maxRecDepth 100000
theorem SH.dead {w0 w : World} {X R L g : Nat} {fp : List Nat} {gS bS : Nat} {ga gd gl : Int} {n : Nat} {y : RS} {t : Nat} (h : SH w0 w X R L g fp gS bS ga gd gl n y t) : Calls Tryz.prog 29 #[.pointer (some ⟨X, 0, none⟩)] w fun e w' => e = .returned (.bool false) ∧ w = w' := by
  obtain ⟨z, s, l, h1, h2, _⟩ := h
  rw [← h2.alive]
  exact dead_any X R L g fp gS bS ga gd gl z s l w h1
theorem SH.sup {w0 w : World} {X R L g : Nat} {fp : List Nat} {gS bS : Nat} {ga gd gl : Int} {n : Nat} {y : RS} {t : Nat} (h : SH w0 w X R L g fp gS bS ga gd gl n y t) (hG : Gb ga gd gl) (hr : right ga gd gl = true) (hn : (n : Int) = Geom.sizeOf ga gd gl) (ht : t ≤ 100) :
    Calls Tryz.prog 51 #[.pointer (some ⟨g, 0, none⟩), .pointer (some ⟨gS, 0, none⟩), gv ga gd gl] w fun e w' => e = .returned (.tuple #[.agg #[.int .u64 (y.life.toNat : Int), .int .i64 y.base, .int .u64 (y.began.toNat : Int)], .int .i64 0]) ∧ Below w.heap.size w w' := by
  obtain ⟨z, s, l, h1, h2, h3, h4, h5, h6, h7⟩ := h
  have hf : srightF s ga gd gl = 0 := srightF_new hr h2.up.size hn
  have hsz := Sup.size_ge hr
  obtain ⟨gen0, P0, ts, b1, b2, b3, b4, b5, b6, b7, b8, b9⟩ := h2.opens hr (by omega)
  obtain ⟨_, _, _, _, _, _, _, _, hy⟩ := h2.ex
  refine (Sup.readSup_any g fp s gS bS l ga gd gl w hG h1.both (by omega) (by omega) hf h2.up.down).mono ?_
  rintro e w' ⟨rfl, b⟩
  refine ⟨?_, b⟩
  rw [b1, b8, hy]
  rfl
theorem room_due (X R L g : Nat) (fp : List Nat) (gS bS : Nat) (ga gd gl : Int) (z : Z) (s : St) (l : List (List UInt8)) (w : World) (h : SAt w X R L g fp gS bS ga gd gl z s l) (hd : z.due = true) :
    Calls Tryz.prog 28 #[.pointer (some ⟨X, 0, none⟩)] w fun e w' => e = .returned (.int .i64 0) ∧ Below w.heap.size w w' := by
  obtain ⟨lv, c, h1, h2, h3⟩ := h.blk
  obtain ⟨z0, z1, z2, z3, z4, z5, z6, z7, z8, z9, z10, z11, z12⟩ := thirteen h1
  rw [hd] at z11
  clear hd
  go_enter Tryz.func28, Tryz.ntmps28
  go_wp2_with fail
  go_ret
  exact ⟨rfl, Below.refl _ _⟩
theorem SH.room {w0 w : World} {X R L g : Nat} {fp : List Nat} {gS bS : Nat} {ga gd gl : Int} {n : Nat} {y : RS} {t : Nat} (h : SH w0 w X R L g fp gS bS ga gd gl n y t) (hr : right ga gd gl = true) :
    Calls Tryz.prog 28 #[.pointer (some ⟨X, 0, none⟩)] w fun e w' => e = .returned (.int .i64 (y.room gl)) ∧ Below w.heap.size w w' := by
  obtain ⟨z, s, l, h1, h2, _⟩ := h
  have hy := right_yes hr
  have hyd : y.due = z.due := by obtain ⟨_, _, _, _, _, _, _, _, e⟩ := h2.ex; rw [e]
  unfold RS.room
  rw [hyd]
  cases hd : z.due with
  | true =>
    rw [if_pos rfl]
    exact room_due X R L g fp gS bS ga gd gl z s l w h1 hd
  | false =>
    obtain ⟨e1, e2⟩ := h2.seqIs hd
    rw [if_neg (by simp)]
    refine (room_any X R L g fp gS bS ga gd gl z s l w h1 (by omega) (by omega) (by omega) h2.has).mono ?_
    rintro e w' ⟨rfl, b⟩
    rw [hd, if_neg (by simp), e1]
    exact ⟨rfl, b⟩
theorem SH.like {w0 w : World} {X R L g : Nat} {fp : List Nat} {gS bS : Nat} {ga gd gl : Int} {n : Nat} {y : RS} {t : Nat} (h : SH w0 w X R L g fp gS bS ga gd gl n y t) (hG : Gb ga gd gl) (hr : right ga gd gl = true) (hn : (n : Int) = Geom.sizeOf ga gd gl) (ht : t ≤ 100) (A : Option Addr) (c : Nat) (hP : Rws w w.heap.size A y.pages) (hpl : y.pages.length ≤ 1000) (hpm : ∀ x ∈ y.pages, x.length ≤ 1000000) (hq : y.seq ≤ 100000) :
    Calls Tryz.prog 24 #[.pointer (some ⟨g, 0, none⟩), .pointer (some ⟨gS, 0, none⟩), .pointer (some ⟨X, 0, none⟩), RV ga gd gl y A c] w fun e w' => e = .returned (.bool true) ∧ Below w.heap.size w w' := by
  have hy := right_yes hr
  exact like_any _ _ X ga gd gl y A c w hP hpl hpm hq (by omega) (by omega) (fun W b => (h.on b).sup hG hr hn ht) (fun W b => (h.on b).pages hr) (fun W b => (h.on b).gen) (fun W b => (h.on b).life) (fun W b => (h.on b).room hr) (fun W b => (h.on b).dead)
end Go.Proofs.YtchcmklelmlbgaaGreat.Sto

/- A store beside the document's state in a block of the law's: what stays of both. No statement is proved here. -/
namespace Go.Proofs.YtchcmklelmlbgaaGreat.Sto
open Go.RowKit
open Go.Proofs.YtchcmklelmlbgaaGreat.Geom
open Go.Proofs.YtchcmklelmlbgaaGreat.Disk (St DAt new)
open Go.Proofs.YtchcmklelmlbgaaGreat.Sup (Gb gv gcell gthree srightF UpN)
set_option linter.unusedVariables false
set_option maxRecDepth 100000
/-- bytes do not lie in a block of other things -/
theorem _root_.Go.Proofs.YtchcmklelmlbgaaGreat.RdQ.notIn {w : World} {Q : Nat → Prop} {A : Option Addr} {l : List UInt8} {S : Nat} {xs : List Value} (h : RdQ w Q A (l.map e8)) (hB : Blk w S xs) (hx : ∀ u, e8 u ∉ xs) : RdQ w (fun j => Q j ∧ j ≠ S) A (l.map e8) := fun hne => by
  obtain ⟨b, off, rfl, hlt, hQ, hc⟩ := h hne
  refine ⟨b, off, rfl, hlt, ⟨hQ, fun e => ?_⟩, hc⟩
  subst e
  have hp : 0 < l.length := by
    cases l with
    | nil => exact absurd rfl hne
    | cons a t => simp
  have h0 := hc 0 (by simpa using hp)
  obtain ⟨t, hh⟩ := hB
  have h1 : w.cell? ⟨b, off + 0, none⟩ = xs[off + 0]? := by simp [World.cell?, hh]
  rw [h1] at h0
  exact hx _ (by rw [List.getElem_map] at h0; exact List.mem_of_getElem? h0)
theorem rcl_not (ga gd gl : Int) (y : RS) (A : Option Addr) (c : Nat) (u : UInt8) : e8 u ∉ rcl ga gd gl y A c := by
  simp [rcl, e8]
theorem SRow.notIn {w : World} {R c : Nat} {P : List (List UInt8)} {Q : Nat → Prop} {S : Nat} {xs : List Value} (h : SRow w R c P Q) (hB : Blk w S xs) (hx : ∀ u, e8 u ∉ xs) : SRow w R c P (fun j => Q j ∧ j ≠ S) := by
  obtain ⟨ys, h1, h2⟩ := h
  refine ⟨ys, h1, fun i hi => ?_⟩
  obtain ⟨Ai, ci, a, b, d⟩ := h2 i hi
  exact ⟨Ai, ci, a, b.notIn hB hx, d⟩
/-- a block apart from it is turned -/
theorem SAt.aside {w w' : World} {X R L g : Nat} {fp : List Nat} {gS bS : Nat} {ga gd gl : Int} {z : Z} {s : St} {l : List (List UInt8)} {S : Nat} {xs : List Value} (h : SAt w X R L g fp gS bS ga gd gl z s l) (ho : Off X R L bS gS fp S) (hB : Blk w S xs) (hx : ∀ u, e8 u ∉ xs) (k : Keep [S] w w') : SAt w' X R L g fp gS bS ga gd gl z s l := by
  obtain ⟨lv, c, h1, h2, h3⟩ := h.blk
  obtain ⟨o1, o2, o3, o4, o5, o6⟩ := ho
  have hn : ∀ j, j ≠ S → j ∉ [S] := fun j h e => h (by simpa using e)
  refine ⟨⟨h.both.disk.keep k (fun j hj e => o6 (by rw [List.mem_singleton] at e; exact e ▸ hj)), h.both.sym.keepK k (hn _ o5.symm) (hn _ o4.symm), h.both.nS, h.both.nB⟩, ⟨lv, c, h1.keepK k (hn _ o1.symm), h2, ?_⟩, fun hd => ⟨(h.log hd).1.keepK k (hn _ o3.symm), (h.log hd).2⟩, h.nX, h.nR, h.nL, Nat.lt_of_lt_of_le h.lt k.size⟩
  exact ((h3.notIn hB hx).keep k (hn _ o2.symm) (fun j hj _ => hn j hj.2)).imp (fun j _ hj => hj.1)
theorem SH.aside {w0 w w' : World} {X R L g : Nat} {fp : List Nat} {gS bS : Nat} {ga gd gl : Int} {n : Nat} {y : RS} {t : Nat} {S : Nat} {xs : List Value} (h : SH w0 w X R L g fp gS bS ga gd gl n y t) (hS0 : w0.heap.size ≤ S) (ho : Off X R L bS gS fp S) (hB : Blk w S xs) (hx : ∀ u, e8 u ∉ xs) (k : Keep [S] w w') : SH w0 w' X R L g fp gS bS ga gd gl n y t := by
  obtain ⟨z, s, l, h1, h2, h3, h4, h5, h6, h7⟩ := h
  exact ⟨z, s, l, h1.aside ho hB hx k, h2, h3, h4, h5, h6.trans (k.below (fun j hj => by rw [List.mem_singleton] at hj; omega) h6.size), h7⟩
/-- the document's numbers -/
theorem SH.nums {w0 w : World} {X R L g : Nat} {fp : List Nat} {gS bS : Nat} {ga gd gl : Int} {n : Nat} {y : RS} {t : Nat} (h : SH w0 w X R L g fp gS bS ga gd gl n y t) (hr : right ga gd gl = true) : (y.pages.length : Int) = pagesOf ga gd gl ∧ (y.seq : Int) ≤ gl ∧ 0 ≤ y.base ∧ y.base ≤ 1073741824 ∧ y.life.toNat ≤ t ∧ ∀ b ∈ y.pages, b.length ≤ 479 := by
  obtain ⟨z, s, l, h1, h2, h3, h4, h5, h6, h7⟩ := h
  obtain ⟨zo, e1, e2, e3, e4, e5⟩ := h2.zok
  have hb := h2.hb
  have hq : (y.seq : Int) ≤ gl := by
    obtain ⟨P0, ts, gen0, hI, _, _, _, _, rfl⟩ := h2.ex
    exact hI.len
  exact ⟨by rw [e1]; exact zo.len, hq, by rw [e5]; exact hb.1, by rw [e5]; exact hb.2, h5, by rw [e1]; exact h2.pageLen⟩
/-- a store as the document's state y has it, and a block S with the document's state q -/
structure PL (w0 w : World) (X R L g : Nat) (fp : List Nat) (gS bS : Nat) (ga gd gl : Int) (n : Nat) (y : RS) (t S : Nat) (q : RS) (A : Option Addr) (c : Nat) : Prop where
  sh : SH w0 w X R L g fp gS bS ga gd gl n y t
  blk : Blk w S (rcl ga gd gl q A c)
  rw : Rw w (fun j => Off X R L bS gS fp j ∧ j ≠ S) A q.pages
  off : Off X R L bS gS fp S
  new : w0.heap.size ≤ S
theorem PL.on {w0 w w' : World} {X R L g : Nat} {fp : List Nat} {gS bS : Nat} {ga gd gl : Int} {n : Nat} {y : RS} {t S : Nat} {q : RS} {A : Option Addr} {c : Nat} (h : PL w0 w X R L g fp gS bS ga gd gl n y t S q A c) (b : Below w.heap.size w w') : PL w0 w' X R L g fp gS bS ga gd gl n y t S q A c :=
  ⟨h.sh.on b, h.blk.on b, h.rw.on b, h.off, h.new⟩
theorem PL.put {w0 w w' : World} {X R L g : Nat} {fp : List Nat} {gS bS : Nat} {ga gd gl : Int} {n : Nat} {y : RS} {t S : Nat} {q q' : RS} {A A' : Option Addr} {c c' : Nat} (h : PL w0 w X R L g fp gS bS ga gd gl n y t S q A c) (k : Keep [S] w w') (hb : Blk w' S (rcl ga gd gl q' A' c')) (hr : Rw w (fun j => Off X R L bS gS fp j ∧ j ≠ S) A' q'.pages) : PL w0 w' X R L g fp gS bS ga gd gl n y t S q' A' c' :=
  ⟨h.sh.aside h.new h.off h.blk (rcl_not ga gd gl q A c) k, hb, hr.keep k (fun j hj _ e => hj.2 (by simpa using e)), h.off, h.new⟩
/-- it is turned by a call of the store's -/
theorem PL.turn {w0 w w' : World} {X R L g : Nat} {fp : List Nat} {gS bS : Nat} {ga gd gl : Int} {n : Nat} {y y' : RS} {t t' S : Nat} {q : RS} {A : Option Addr} {c : Nat} (h : PL w0 w X R L g fp gS bS ga gd gl n y t S q A c) (ht : SHT w0 w X R L g fp gS bS ga gd gl n y' t' w') : ∃ L' fp', PL w0 w' X R L' g fp' gS bS ga gd gl n y' t' S q A c := by
  obtain ⟨L', fp', h1, k, f⟩ := ht
  have hm : ∀ j, j < w.heap.size → Off X R L bS gS fp j → Off X R L' bS gS fp' j := fun j hj o => by
    obtain ⟨o1, o2, o3, o4, o5, o6⟩ := o
    refine ⟨o1, o2, fun e => ?_, o4, o5, f.1.out hj o6⟩
    rcases f.2 with e2 | e2
    · exact o3 (by rw [e, e2])
    · omega
  have hn : ∀ j, Off X R L bS gS fp j → j ∉ X :: R :: L :: bS :: fp := fun j o e => by
    simp only [List.mem_cons] at e
    rcases e with e | e | e | e | e
    · exact o.1 e
    · exact o.2.1 e
    · exact o.2.2.1 e
    · exact o.2.2.2.1 e
    · exact o.2.2.2.2.2 e
  exact ⟨L', fp', h1, h.blk.keepK k (hn _ h.off), ((h.rw.imp (Q' := fun j => (Off X R L bS gS fp j ∧ j ≠ S) ∧ Off X R L' bS gS fp' j) (fun j hj o => ⟨o, hm j hj o.1⟩)).keep k (fun j hj _ => hn j hj.1.1)).imp (fun j _ hj => ⟨hj.2, hj.1.2⟩), hm S h.blk.lt h.off, h.new⟩
/-- opened anew -/
theorem PL.anew {w0 w w' : World} {X R L g X' R' : Nat} {fp : List Nat} {gS bS : Nat} {ga gd gl : Int} {n : Nat} {y y' : RS} {t t' S : Nat} {q : RS} {A : Option Addr} {c : Nat} (h : PL w0 w X R L g fp gS bS ga gd gl n y t S q A c) (h1 : SH w0 w' X' R' X' g fp gS bS ga gd gl n y' t') (b : Below w.heap.size w w') (hX : w.heap.size ≤ X') (hR : w.heap.size ≤ R') : PL w0 w' X' R' X' g fp gS bS ga gd gl n y' t' S q A c := by
  have hm : ∀ j, j < w.heap.size → Off X R L bS gS fp j → Off X' R' X' bS gS fp j := fun j hj o => ⟨by omega, by omega, by omega, o.2.2.2.1, o.2.2.2.2.1, o.2.2.2.2.2⟩
  exact ⟨h1, h.blk.on b, (h.rw.imp (fun j hj o => ⟨hm j hj o.1, o.2⟩)).on b, hm S h.blk.lt h.off, h.new⟩
theorem PL.mono {w0 w : World} {X R L g : Nat} {fp : List Nat} {gS bS : Nat} {ga gd gl : Int} {n : Nat} {y : RS} {t t' S : Nat} {q : RS} {A : Option Addr} {c : Nat} (h : PL w0 w X R L g fp gS bS ga gd gl n y t S q A c) (ht : t ≤ t') : PL w0 w X R L g fp gS bS ga gd gl n y t' S q A c := by
  obtain ⟨⟨z, s, l, h1, h2, h3, h4, h5, h6, h7⟩, h8, h9, h10, h11⟩ := h
  exact ⟨⟨z, s, l, h1, h2, by omega, by omega, by omega, h6, h7⟩, h8, h9, h10, h11⟩
/-- like, of both -/
theorem PL.like {w0 w : World} {X R L g : Nat} {fp : List Nat} {gS bS : Nat} {ga gd gl : Int} {n : Nat} {y : RS} {t S : Nat} {A : Option Addr} {c : Nat} (h : PL w0 w X R L g fp gS bS ga gd gl n y t S y A c) (hG : Gb ga gd gl) (hr : right ga gd gl = true) (hn : (n : Int) = Geom.sizeOf ga gd gl) (ht : t ≤ 100) :
    Calls Tryz.prog 24 #[.pointer (some ⟨g, 0, none⟩), .pointer (some ⟨gS, 0, none⟩), .pointer (some ⟨X, 0, none⟩), RV ga gd gl y A c] w fun e w' => e = .returned (.bool true) ∧ Below w.heap.size w w' := by
  obtain ⟨n1, n2, n3, n4, n5, n6⟩ := h.sh.nums hr
  have hp := pagesOf_bd ga gd gl
  have hy := right_yes hr
  exact h.sh.like hG hr hn ht A c h.rw.rws (by omega) (fun x hx => by have := n6 x hx; omega) (by omega)
/-- the document's Commit, of both -/
theorem PL.rcommit {w0 w : World} {X R L g : Nat} {fp : List Nat} {gS bS : Nat} {ga gd gl : Int} {n : Nat} {y : RS} {t S : Nat} {A : Option Addr} {c : Nat} (h : PL w0 w X R L g fp gS bS ga gd gl n y t S y A c) (hG : Gb ga gd gl) (hr : right ga gd gl = true) (ht : t ≤ 100) (A1 : Option Addr) (pages : List Pg) (c1 : Nat) (gen : UInt64) (hp : Pgs w (fun j => j < w0.heap.size) A1 pages) (hcl : pages.length ≤ 1000) (W : World) (bW : Below w.heap.size w W) :
    Calls Tryz.prog 25 #[RV ga gd gl y A c, .slice A1 pages.length c1, .int .u64 (gen.toNat : Int)] W fun e w' => ∃ A' c', e = .returned (.tuple #[RV ga gd gl (y.commit ga gd gl pages gen).1 A' c', .int .i64 (y.commit ga gd gl pages gen).2]) ∧ Rw w' (fun j => (Off X R L bS gS fp j ∧ j ≠ S) ∧ (j < w.heap.size ∨ W.heap.size ≤ j)) A' (y.commit ga gd gl pages gen).1.pages ∧ Below W.heap.size W w' := by
  obtain ⟨n1, n2, n3, n4, n5, n6⟩ := h.sh.nums hr
  have hpb := pagesOf_bd ga gd gl
  have hp0 := pages_pos hr
  have hy := right_yes hr
  have hS := h.new
  have hlt := h.blk.lt
  have hbs := h.sh.bel.size
  have hWs := bW.size
  refine (rcommit_any (fun j => (Off X R L bS gS fp j ∧ j ≠ S) ∧ j < w.heap.size) ga gd gl y A c A1 pages c1 gen W hG ((hp.imp (fun j _ hj => ⟨⟨h.sh.off hj, by omega⟩, by omega⟩)).on bW) (by omega) ((h.rw.imp (fun j hj o => ⟨o, hj⟩)).on bW) hr n1 (by omega) (by omega) (by omega) (by omega) (by omega) (by omega) ⟨n3, n4⟩).mono ?_
  rintro e w' ⟨A', c', rfl, h1, b⟩
  refine ⟨A', c', rfl, h1.imp (fun j hj o => ?_), b⟩
  rcases o with o | o
  · exact ⟨o.1.1, .inl o.1.2⟩
  · exact ⟨⟨h.sh.offNew (by omega), by omega⟩, .inr o⟩
/-- the document's Renew -/
theorem PL.rrenew {w0 w : World} {X R L g : Nat} {fp : List Nat} {gS bS : Nat} {ga gd gl : Int} {n : Nat} {y : RS} {t S : Nat} {A : Option Addr} {c : Nat} (h : PL w0 w X R L g fp gS bS ga gd gl n y t S y A c) (hr : right ga gd gl = true) (ht : t ≤ 100) (W : World) :
    Calls Tryz.prog 26 #[RV ga gd gl y A c] W fun e w' => e = .returned (RV ga gd gl (y.renew gl) A c) ∧ Below W.heap.size W w' := by
  obtain ⟨n1, n2, n3, n4, n5, n6⟩ := h.sh.nums hr
  have hy := right_yes hr
  exact rrenew_any ga gd gl y A c W (by omega) (by omega) ⟨n3, n4⟩ (by omega) (by omega)
end Go.Proofs.YtchcmklelmlbgaaGreat.Sto
