/- RootReads: for every input the law returns true: which key is read of any sectors at both places, and that behind Settle there is no other. No condition. -/
import Derived.Test.YtkapamolligmkaaRootReadsD
namespace Go.Proofs.Ytkapamolligmkaa.RootReads
open Go.ChangeShapes Go.WideShapes Go.ChangeAt Go.RowKit Go.Joins
open Go.ChangeMaps (open_string shut_string)
open Go.Proofs.Ytkapamolligmkaa.Rt
open Go.Proofs.Ytkapamolligmkaa.Sec (symbolic_any RetX five5x X rightF)
set_option linter.unusedVariables false
set_option maxRecDepth 100000
theorem ten {w : World} {g : Nat} {v0 v1 v2 v3 v4 v5 v6 v7 v8 v9 : Value} (h : Blk w g [v0, v1, v2, v3, v4, v5, v6, v7, v8, v9]) : w.cell? ⟨g, 0, none⟩ = some v0 ∧ w.cell? ⟨g, 1, none⟩ = some v1 ∧ w.cell? ⟨g, 2, none⟩ = some v2 ∧ w.cell? ⟨g, 3, none⟩ = some v3 ∧ w.cell? ⟨g, 4, none⟩ = some v4 ∧ w.cell? ⟨g, 5, none⟩ = some v5 ∧ w.cell? ⟨g, 6, none⟩ = some v6 ∧ w.cell? ⟨g, 7, none⟩ = some v7 ∧ w.cell? ⟨g, 8, none⟩ = some v8 ∧ w.cell? ⟨g, 9, none⟩ = some v9 :=
  ⟨h.cell (k := 0) (by simp), h.cell (k := 1) (by simp), h.cell (k := 2) (by simp), h.cell (k := 3) (by simp), h.cell (k := 4) (by simp), h.cell (k := 5) (by simp), h.cell (k := 6) (by simp), h.cell (k := 7) (by simp), h.cell (k := 8) (by simp), h.cell (k := 9) (by simp)⟩
theorem placem (gen : UInt64) : (0 ≤ (gen.toNat : Int) % 2) ∧ (gen.toNat : Int) % 2 ≤ 1 := by omega
set_option maxHeartbeats 4000000 in
theorem walk (a : X) (A : Option Addr) (c : Nat) (b : X) (B : Option Addr) (d : Nat) (gen : UInt64) (w : World) (hr : Rd w w.heap.size A (a.body.map e8)) (hc : a.body.length ≤ c) (hcm : c ≤ maxLen) (hs : Rd w w.heap.size B (b.body.map e8)) (hd : b.body.length ≤ d) (hdm : d ≤ maxLen) :
    Calls Try.prog 4 #[.agg #[.int .i64 a.kind, .int .u64 (a.life.toNat : Int), .int .i64 a.seq, .int .u64 (a.gen.toNat : Int), .slice A a.body.length c], .agg #[.int .i64 b.kind, .int .u64 (b.life.toNat : Int), .int .i64 b.seq, .int .u64 (b.gen.toNat : Int), .slice B b.body.length d], .int .u64 (gen.toNat : Int)] w fun e w' => e = .returned (.bool true) ∧ Below w.heap.size w w' := by
  have FA : Blk ((w.alloc (.cells #[.int .i64 a.kind, .int .u64 (a.life.toNat : Int), .int .i64 a.seq, .int .u64 (a.gen.toNat : Int), .slice A a.body.length c] 43)).alloc (.cells #[.int .i64 b.kind, .int .u64 (b.life.toNat : Int), .int .i64 b.seq, .int .u64 (b.gen.toNat : Int), .slice B b.body.length d] 43)) w.heap.size [.int .i64 a.kind, .int .u64 (a.life.toNat : Int), .int .i64 a.seq, .int .u64 (a.gen.toNat : Int), .slice A a.body.length c] := (Blk.new w [.int .i64 a.kind, .int .u64 (a.life.toNat : Int), .int .i64 a.seq, .int .u64 (a.gen.toNat : Int), .slice A a.body.length c] 43).alloc _
  have FB : Blk ((w.alloc (.cells #[.int .i64 a.kind, .int .u64 (a.life.toNat : Int), .int .i64 a.seq, .int .u64 (a.gen.toNat : Int), .slice A a.body.length c] 43)).alloc (.cells #[.int .i64 b.kind, .int .u64 (b.life.toNat : Int), .int .i64 b.seq, .int .u64 (b.gen.toNat : Int), .slice B b.body.length d] 43)) (w.heap.size + 1) [.int .i64 b.kind, .int .u64 (b.life.toNat : Int), .int .i64 b.seq, .int .u64 (b.gen.toNat : Int), .slice B b.body.length d] := by simpa using Blk.new (w.alloc (.cells #[.int .i64 a.kind, .int .u64 (a.life.toNat : Int), .int .i64 a.seq, .int .u64 (a.gen.toNat : Int), .slice A a.body.length c] 43)) [.int .i64 b.kind, .int .u64 (b.life.toNat : Int), .int .i64 b.seq, .int .u64 (b.gen.toNat : Int), .slice B b.body.length d] 43
  have b0 := b2alloc w (.cells #[.int .i64 a.kind, .int .u64 (a.life.toNat : Int), .int .i64 a.seq, .int .u64 (a.gen.toNat : Int), .slice A a.body.length c] 43) (.cells #[.int .i64 b.kind, .int .u64 (b.life.toNat : Int), .int .i64 b.seq, .int .u64 (b.gen.toNat : Int), .slice B b.body.length d] 43)
  obtain ⟨z0, z1, z2, z3, z4⟩ := five5x FA
  obtain ⟨y0, y1, y2, y3, y4⟩ := five5x FB
  have HA := Lib.hid FA
  have HB := Lib.hid FB
  clear FA FB
  by_cases h1 : 600 < a.body.length
  · go_enter Try.func4, Try.ntmps4
    go_wp2_with (go_at_call 6; refine (alive_any _).mono ?_; rintro e w' ⟨rfl, hw⟩)
    go_ret
    exact ⟨rfl, bt b0 hw⟩
  by_cases h2 : 600 < b.body.length
  · go_enter Try.func4, Try.ntmps4
    go_wp2_with (go_at_call 6; refine (alive_any _).mono ?_; rintro e w' ⟨rfl, hw⟩)
    go_ret
    exact ⟨rfl, bt b0 hw⟩
  have hpl : (gen.toNat : Int) % 2 = (gen.toNat : Int).tmod 2 := by rw [Int.tmod_eq_emod_of_nonneg (by omega)]
  have hpw : IntKind.i64.wrap ((gen.toNat : Int) % 2) = (gen.toNat : Int) % 2 := wrap_small (by omega) (by omega)
  go_enter Try.func4, Try.ntmps4
  go_wp2_with (first
      | (go_at_call 7; refine (new2_any _).mono ?_; rintro e w1 ⟨g, fp, rfl, hD, hfp, b1⟩)
      | (go_at_call 8; refine (symbolic_any _).mono ?_; rintro e w2 ⟨gS, bS, rfl, hS, hgS, hbS, b2⟩; have H2 := Here.start hD hfp b1 hS hgS hbS b2; clear z0 z1 z2 z3 z4 y0 y1 y2 y3 y4; obtain ⟨z0, z1, z2, z3, z4⟩ := five5x (HA.out.below H2.bel (by first | (simp; done) | (simp; omega))); obtain ⟨y0, y1, y2, y3, y4⟩ := five5x (HB.out.below H2.bel (by first | (simp; done) | (simp; omega)))))
  clear hpl hpw z0 z1 z2 z3 z4 y0 y1 y2 y3 y4
  have hm := placem gen
  obtain ⟨m, em⟩ : ∃ m, m = (gen.toNat : Int) % 2 := ⟨_, rfl⟩
  rw [← em] at hm ⊢
  have Hm := Lib.hid em
  clear em
  have hT0 := Blk.new w2 [.int .i64 a.kind, .int .u64 (a.life.toNat : Int), .int .i64 a.seq, .int .u64 (a.gen.toNat : Int), .slice A a.body.length c, .int .i64 b.kind, .int .u64 (b.life.toNat : Int), .int .i64 b.seq, .int .u64 (b.gen.toNat : Int), .slice B b.body.length d] 43
  have b3 := b1alloc w2 (.cells ([.int .i64 a.kind, .int .u64 (a.life.toNat : Int), .int .i64 a.seq, .int .u64 (a.gen.toNat : Int), .slice A a.body.length c, .int .i64 b.kind, .int .u64 (b.life.toNat : Int), .int .i64 b.seq, .int .u64 (b.gen.toNat : Int), .slice B b.body.length d] : List Value).toArray 43)
  have nL0 : w2.heap.size ∉ fp := fun e => by have := H2.both.disk.lt _ e; omega
  have nB : w2.heap.size ∉ [bS] := by have := H2.both.sym.lt.2; rw [List.mem_singleton]; omega
  have H3 := H2.on b3
  obtain ⟨w3, hw3⟩ : ∃ w3, w3 = w2.alloc (.cells ([.int .i64 a.kind, .int .u64 (a.life.toNat : Int), .int .i64 a.seq, .int .u64 (a.gen.toNat : Int), .slice A a.body.length c, .int .i64 b.kind, .int .u64 (b.life.toNat : Int), .int .i64 b.seq, .int .u64 (b.gen.toNat : Int), .slice B b.body.length d] : List Value).toArray 43) := ⟨_, rfl⟩
  obtain ⟨hL, hhL⟩ : ∃ hL, hL = w2.heap.size := ⟨_, rfl⟩
  rw [← hw3] at hT0 H3
  rw [show w2.alloc (.cells #[.int .i64 a.kind, .int .u64 (a.life.toNat : Int), .int .i64 a.seq, .int .u64 (a.gen.toNat : Int), .slice A a.body.length c, .int .i64 b.kind, .int .u64 (b.life.toNat : Int), .int .i64 b.seq, .int .u64 (b.gen.toNat : Int), .slice B b.body.length d] 43) = w3 from hw3.symm]
  rw [← hhL] at hT0 nL0 nB ⊢
  have nB' : ¬ hL = bS := fun e => nB (by rw [e]; simp)
  obtain ⟨q1, hQ1⟩ : ∃ q, q = stp ([], Disk.new 2) 0 a := ⟨_, rfl⟩
  obtain ⟨q2, hQ2⟩ : ∃ q, q = stp q1 1 b := ⟨_, rfl⟩
  obtain ⟨v1, hv1⟩ : ∃ v : Value, v = if rightF 0 a = 0 ∧ m = 0 ∧ isRoot gen (a, 0) = true then .slice A a.body.length c else .slice none 0 0 := ⟨_, rfl⟩
  obtain ⟨v2, hv2⟩ : ∃ v : Value, v = if rightF 1 b = 0 ∧ m = 1 ∧ isRoot gen (b, 0) = true then .slice B b.body.length d else v1 := ⟨_, rfl⟩
  have hV1 : ((rightF 0 a = 0 ∧ m = 0 ∧ isRoot gen (a, 0) = true) → v1 = .slice A a.body.length c) ∧ (¬ (rightF 0 a = 0 ∧ m = 0 ∧ isRoot gen (a, 0) = true) → v1 = .slice none 0 0) := ⟨fun h => by rw [hv1, if_pos h], fun h => by rw [hv1, if_neg h]⟩
  have hV2 : ((rightF 1 b = 0 ∧ m = 1 ∧ isRoot gen (b, 0) = true) → v2 = .slice B b.body.length d) ∧ (¬ (rightF 1 b = 0 ∧ m = 1 ∧ isRoot gen (b, 0) = true) → v2 = v1) := ⟨fun h => by rw [hv2, if_pos h], fun h => by rw [hv2, if_neg h]⟩
  have st := stand a b
  obtain ⟨_, l1, z1, _⟩ := stand1 a
  rw [← hQ1] at l1 z1
  rw [← hQ1, ← hQ2] at st
  have HV1 := Lib.hid hV1
  have HV2 := Lib.hid hV2
  clear hV1 hV2 hv1 hv2 hw3 hhL b1 b2 b3 H2 hD hfp hS hgS hbS
  go_loopw [13, 11] (fun i wv wr => ∃ (k : Nat) (fpk : List Nat), k ≤ 2 ∧ i = .int .i64 k ∧ Blk wr hL [.int .i64 a.kind, .int .u64 (a.life.toNat : Int), .int .i64 a.seq, .int .u64 (a.gen.toNat : Int), .slice A a.body.length c, .int .i64 b.kind, .int .u64 (b.life.toNat : Int), .int .i64 b.seq, .int .u64 (b.gen.toNat : Int), .slice B b.body.length d] ∧ hL ∉ fpk ∧ ((k = 0 ∧ wv = .slice none 0 0 ∧ Here ((w.alloc (.cells #[.int .i64 a.kind, .int .u64 (a.life.toNat : Int), .int .i64 a.seq, .int .u64 (a.gen.toNat : Int), .slice A a.body.length c] 43)).alloc (.cells #[.int .i64 b.kind, .int .u64 (b.life.toNat : Int), .int .i64 b.seq, .int .u64 (b.gen.toNat : Int), .slice B b.body.length d] 43)) wr g fpk (Disk.new 2) gS bS []) ∨ (k = 1 ∧ wv = v1 ∧ Here ((w.alloc (.cells #[.int .i64 a.kind, .int .u64 (a.life.toNat : Int), .int .i64 a.seq, .int .u64 (a.gen.toNat : Int), .slice A a.body.length c] 43)).alloc (.cells #[.int .i64 b.kind, .int .u64 (b.life.toNat : Int), .int .i64 b.seq, .int .u64 (b.gen.toNat : Int), .slice B b.body.length d] 43)) wr g fpk q1.2 gS bS q1.1) ∨ (k = 2 ∧ wv = v2 ∧ Here ((w.alloc (.cells #[.int .i64 a.kind, .int .u64 (a.life.toNat : Int), .int .i64 a.seq, .int .u64 (a.gen.toNat : Int), .slice A a.body.length c] 43)).alloc (.cells #[.int .i64 b.kind, .int .u64 (b.life.toNat : Int), .int .i64 b.seq, .int .u64 (b.gen.toNat : Int), .slice B b.body.length d] 43)) wr g fpk q2.2 gS bS q2.1))) (fun i _ _ => 2 - (intOf i).toNat)
  case atStart => exact ⟨0, fp, by omega, rfl, hT0, nL0, .inl ⟨rfl, rfl, H3⟩⟩
  case round =>
    obtain ⟨k, fpk, hk, rfl, hT, nL, hcs⟩ := hrel
    clear hT0 nL0 H3
    rcases hcs with ⟨rfl, rfl, H⟩ | ⟨rfl, rfl, H⟩ | ⟨rfl, hwv, H⟩
    · have hsz : ((([], Disk.new 2) : List (List UInt8) × Disk.St)).2.sz ≤ 2 := by decide
      have hln : ((([], Disk.new 2) : List (List UInt8) × Disk.St)).1.length ≤ 1000000 := by simp
      have bz : Below wr.heap.size wr wr.drew := (Below.refl _ _).drew
      obtain ⟨t0, t1, t2, t3, t4, t5, t6, t7, t8, t9⟩ := ten hT
      by_cases hf : rightF 0 a = 0
      rotate_left
      · have HE := Lib.hid (fun W => Sec.encode_bad 0 gS a A c W hf)
        have hq : q1 = (([], Disk.new 2) : List (List UInt8) × Disk.St) := by rw [hQ1]; exact stp_no hf
        have hv := Lib.hid (HV1.out.2 (fun e => hf e.1))
        have H' : Here ((w.alloc (.cells #[.int .i64 a.kind, .int .u64 (a.life.toNat : Int), .int .i64 a.seq, .int .u64 (a.gen.toNat : Int), .slice A a.body.length c] 43)).alloc (.cells #[.int .i64 b.kind, .int .u64 (b.life.toNat : Int), .int .i64 b.seq, .int .u64 (b.gen.toNat : Int), .slice B b.body.length d] 43)) wr g fpk q1.2 gS bS q1.1 := by rw [hq]; exact H
        obtain ⟨f0, hf0⟩ : ∃ f0, f0 = rightF 0 a := ⟨_, rfl⟩
        rw [← hf0] at HE hf
        have tf := bne_yes hf
        clear hf0 hq
        go_wp2_with fail
        go_region_held3 (fun w' => w'.cell? ⟨hL, 0, none⟩ = some (.int .i64 a.kind) ∧ w'.cell? ⟨hL, 1, none⟩ = some (.int .u64 (a.life.toNat : Int)) ∧ w'.cell? ⟨hL, 2, none⟩ = some (.int .i64 a.seq) ∧ w'.cell? ⟨hL, 3, none⟩ = some (.int .u64 (a.gen.toNat : Int)) ∧ w'.cell? ⟨hL, 4, none⟩ = some (.slice A a.body.length c) ∧ w'.cell? ⟨hL, 5, none⟩ = some (.int .i64 b.kind) ∧ w'.cell? ⟨hL, 6, none⟩ = some (.int .u64 (b.life.toNat : Int)) ∧ w'.cell? ⟨hL, 7, none⟩ = some (.int .i64 b.seq) ∧ w'.cell? ⟨hL, 8, none⟩ = some (.int .u64 (b.gen.toNat : Int)) ∧ w'.cell? ⟨hL, 9, none⟩ = some (.slice B b.body.length d)) (first | exact ten (hT.on bz) | exact ten (hT.on c4)) ((go_at_call 19; refine (HE.out _).mono ?_; rintro e w4 ⟨rfl, b4⟩; have c4 := bt bz b4))
        go_wp2_with fail
        case roundEnd => exact ⟨⟨1, fpk, by omega, rfl, (hT.on (bt bz b4)), nL, .inr (.inl ⟨rfl, hv.out.symm, H'.on (bt bz b4)⟩)⟩, by simp [intOf]⟩
      have HE := Lib.hid (fun W hS hR => Sec.encode_sym 0 gS bS ((([], Disk.new 2) : List (List UInt8) × Disk.St)).1 a A c W hS hln hR hf)
      have HPu := Lib.hid (fun W A' c' hD hR => Disk.put_any g fpk ((([], Disk.new 2) : List (List UInt8) × Disk.St)).2 0 A' 512 c' (bytesAt ((([], Disk.new 2) : List (List UInt8) × Disk.St)) 0 a) W hD (by omega) (bytesAt_len ((([], Disk.new 2) : List (List UInt8) × Disk.St)) 0 a).symm hR)
      have hq : q1 = (Sec.sumAfter ((([], Disk.new 2) : List (List UInt8) × Disk.St)).1 (Sec.text 0 a), (Disk.put ((([], Disk.new 2) : List (List UInt8) × Disk.St)).2 0 (bytesAt ((([], Disk.new 2) : List (List UInt8) × Disk.St)) 0 a)).1) := by rw [hQ1]; exact stp_yes hf
      have hq2 := congrArg Prod.snd hq
      have hq1 := congrArg Prod.fst hq
      simp only [] at hq1 hq2
      rw [show Sec.text 0 a ++ Sec.sumOf ((([], Disk.new 2) : List (List UInt8) × Disk.St)).1 (Sec.text 0 a) = bytesAt ((([], Disk.new 2) : List (List UInt8) × Disk.St)) 0 a from rfl, ← hq1] at HE
      obtain ⟨R, hR⟩ : ∃ R, R = Disk.put ((([], Disk.new 2) : List (List UInt8) × Disk.St)).2 0 (bytesAt ((([], Disk.new 2) : List (List UInt8) × Disk.St)) 0 a) := ⟨_, rfl⟩
      rw [← hR] at HPu hq2
      obtain ⟨bb, hbb⟩ : ∃ bb, bb = bytesAt ((([], Disk.new 2) : List (List UInt8) × Disk.St)) 0 a := ⟨_, rfl⟩
      rw [← hbb] at HPu HE
      have Hq2 := Lib.hid hq2
      clear hq hq1 hR hbb hq2
      rcases (show m = 0 ∨ m = 1 by omega) with hm0 | hm0
      · cases hi : isRoot gen (a, 0) with
        | false =>
          have hv := Lib.hid (HV1.out.2 (fun e => by have := e.2.2; rw [hi] at this; cases this))
          subst hm0
          go_wp2_with fail
          go_region_held3 (fun w' => w'.cell? ⟨hL, 0, none⟩ = some (.int .i64 a.kind) ∧ w'.cell? ⟨hL, 1, none⟩ = some (.int .u64 (a.life.toNat : Int)) ∧ w'.cell? ⟨hL, 2, none⟩ = some (.int .i64 a.seq) ∧ w'.cell? ⟨hL, 3, none⟩ = some (.int .u64 (a.gen.toNat : Int)) ∧ w'.cell? ⟨hL, 4, none⟩ = some (.slice A a.body.length c) ∧ w'.cell? ⟨hL, 5, none⟩ = some (.int .i64 b.kind) ∧ w'.cell? ⟨hL, 6, none⟩ = some (.int .u64 (b.life.toNat : Int)) ∧ w'.cell? ⟨hL, 7, none⟩ = some (.int .i64 b.seq) ∧ w'.cell? ⟨hL, 8, none⟩ = some (.int .u64 (b.gen.toNat : Int)) ∧ w'.cell? ⟨hL, 9, none⟩ = some (.slice B b.body.length d)) (first | exact ten (hT.on bz) | exact ten hT4) ((go_at_call 19; refine (HE.out _ (H.on bz).both.sym ((H.on bz).rd (hr.on b0))).mono ?_; rintro e w4 ⟨A4, c4, rfl, own4, k4, s4⟩; have H4 := (H.on bz).summed s4 k4; have hT4 := (hT.on bz).keepK k4 nB))
          go_wp2_with (first
            | (go_at_call 20; refine (HPu.out _ _ _ H4.both.disk (Rd.own own4)).mono ?_; rintro e w5 d5; obtain ⟨rfl, fp5, H5, k5, f5⟩ := H4.did d5; have hT5 := hT4.keepK k5 (by rw [List.mem_cons]; rintro (e | e); exact nB' e; exact nL e); have nL5 := f5.out hT4.lt nL; clear t0 t1 t2 t3 t4 t5 t6 t7 t8 t9; obtain ⟨t0, t1, t2, t3, t4, t5, t6, t7, t8, t9⟩ := ten hT5)
            | (go_at_call 21; refine (ris_any gen a A c _).mono ?_; rintro e w6 ⟨rfl, b6⟩; rw [hi]))
          case roundEnd => exact ⟨⟨1, fp5, by omega, rfl, hT5.on b6, nL5, .inr (.inl ⟨rfl, hv.out.symm, (Hq2.out ▸ H5).on b6⟩)⟩, by simp [intOf]⟩
        | true =>
          have hv := Lib.hid (HV1.out.1 ⟨hf, hm0, hi⟩)
          subst hm0
          go_wp2_with fail
          go_region_held3 (fun w' => w'.cell? ⟨hL, 0, none⟩ = some (.int .i64 a.kind) ∧ w'.cell? ⟨hL, 1, none⟩ = some (.int .u64 (a.life.toNat : Int)) ∧ w'.cell? ⟨hL, 2, none⟩ = some (.int .i64 a.seq) ∧ w'.cell? ⟨hL, 3, none⟩ = some (.int .u64 (a.gen.toNat : Int)) ∧ w'.cell? ⟨hL, 4, none⟩ = some (.slice A a.body.length c) ∧ w'.cell? ⟨hL, 5, none⟩ = some (.int .i64 b.kind) ∧ w'.cell? ⟨hL, 6, none⟩ = some (.int .u64 (b.life.toNat : Int)) ∧ w'.cell? ⟨hL, 7, none⟩ = some (.int .i64 b.seq) ∧ w'.cell? ⟨hL, 8, none⟩ = some (.int .u64 (b.gen.toNat : Int)) ∧ w'.cell? ⟨hL, 9, none⟩ = some (.slice B b.body.length d)) (first | exact ten (hT.on bz) | exact ten hT4) ((go_at_call 19; refine (HE.out _ (H.on bz).both.sym ((H.on bz).rd (hr.on b0))).mono ?_; rintro e w4 ⟨A4, c4, rfl, own4, k4, s4⟩; have H4 := (H.on bz).summed s4 k4; have hT4 := (hT.on bz).keepK k4 nB))
          go_wp2_with (first
            | (go_at_call 20; refine (HPu.out _ _ _ H4.both.disk (Rd.own own4)).mono ?_; rintro e w5 d5; obtain ⟨rfl, fp5, H5, k5, f5⟩ := H4.did d5; have hT5 := hT4.keepK k5 (by rw [List.mem_cons]; rintro (e | e); exact nB' e; exact nL e); have nL5 := f5.out hT4.lt nL; clear t0 t1 t2 t3 t4 t5 t6 t7 t8 t9; obtain ⟨t0, t1, t2, t3, t4, t5, t6, t7, t8, t9⟩ := ten hT5)
            | (go_at_call 21; refine (ris_any gen a A c _).mono ?_; rintro e w6 ⟨rfl, b6⟩; rw [hi]; clear t0 t1 t2 t3 t4 t5 t6 t7 t8 t9; obtain ⟨t0, t1, t2, t3, t4, t5, t6, t7, t8, t9⟩ := ten (hT5.on b6)))
          case roundEnd => exact ⟨⟨1, fp5, by omega, rfl, hT5.on b6, nL5, .inr (.inl ⟨rfl, hv.out.symm, (Hq2.out ▸ H5).on b6⟩)⟩, by simp [intOf]⟩
      · have hv := Lib.hid (HV1.out.2 (fun e => by have := e.2.1; omega))
        subst hm0
        go_wp2_with fail
        go_region_held3 (fun w' => w'.cell? ⟨hL, 0, none⟩ = some (.int .i64 a.kind) ∧ w'.cell? ⟨hL, 1, none⟩ = some (.int .u64 (a.life.toNat : Int)) ∧ w'.cell? ⟨hL, 2, none⟩ = some (.int .i64 a.seq) ∧ w'.cell? ⟨hL, 3, none⟩ = some (.int .u64 (a.gen.toNat : Int)) ∧ w'.cell? ⟨hL, 4, none⟩ = some (.slice A a.body.length c) ∧ w'.cell? ⟨hL, 5, none⟩ = some (.int .i64 b.kind) ∧ w'.cell? ⟨hL, 6, none⟩ = some (.int .u64 (b.life.toNat : Int)) ∧ w'.cell? ⟨hL, 7, none⟩ = some (.int .i64 b.seq) ∧ w'.cell? ⟨hL, 8, none⟩ = some (.int .u64 (b.gen.toNat : Int)) ∧ w'.cell? ⟨hL, 9, none⟩ = some (.slice B b.body.length d)) (first | exact ten (hT.on bz) | exact ten hT4) ((go_at_call 19; refine (HE.out _ (H.on bz).both.sym ((H.on bz).rd (hr.on b0))).mono ?_; rintro e w4 ⟨A4, c4, rfl, own4, k4, s4⟩; have H4 := (H.on bz).summed s4 k4; have hT4 := (hT.on bz).keepK k4 nB))
        go_wp2_with (first
          | (go_at_call 20; refine (HPu.out _ _ _ H4.both.disk (Rd.own own4)).mono ?_; rintro e w5 d5; obtain ⟨rfl, fp5, H5, k5, f5⟩ := H4.did d5; have hT5 := hT4.keepK k5 (by rw [List.mem_cons]; rintro (e | e); exact nB' e; exact nL e); have nL5 := f5.out hT4.lt nL; clear t0 t1 t2 t3 t4 t5 t6 t7 t8 t9; obtain ⟨t0, t1, t2, t3, t4, t5, t6, t7, t8, t9⟩ := ten hT5))
        case roundEnd => exact ⟨⟨1, fp5, by omega, rfl, hT5, nL5, .inr (.inl ⟨rfl, hv.out.symm, Hq2.out ▸ H5⟩)⟩, by simp [intOf]⟩
    · have hsz : (q1).2.sz ≤ 2 := by omega
      have hln : (q1).1.length ≤ 1000000 := by omega
      have bz : Below wr.heap.size wr wr.drew := (Below.refl _ _).drew
      obtain ⟨t0, t1, t2, t3, t4, t5, t6, t7, t8, t9⟩ := ten hT
      by_cases hf : rightF 1 b = 0
      rotate_left
      · have HE := Lib.hid (fun W => Sec.encode_bad 1 gS b B d W hf)
        have hq : q2 = q1 := by rw [hQ2]; exact stp_no hf
        have hv := Lib.hid (HV2.out.2 (fun e => hf e.1))
        have H' : Here ((w.alloc (.cells #[.int .i64 a.kind, .int .u64 (a.life.toNat : Int), .int .i64 a.seq, .int .u64 (a.gen.toNat : Int), .slice A a.body.length c] 43)).alloc (.cells #[.int .i64 b.kind, .int .u64 (b.life.toNat : Int), .int .i64 b.seq, .int .u64 (b.gen.toNat : Int), .slice B b.body.length d] 43)) wr g fpk q2.2 gS bS q2.1 := by rw [hq]; exact H
        obtain ⟨f0, hf0⟩ : ∃ f0, f0 = rightF 1 b := ⟨_, rfl⟩
        rw [← hf0] at HE hf
        have tf := bne_yes hf
        clear hf0 hq
        go_wp2_with fail
        go_region_held3 (fun w' => w'.cell? ⟨hL, 0, none⟩ = some (.int .i64 a.kind) ∧ w'.cell? ⟨hL, 1, none⟩ = some (.int .u64 (a.life.toNat : Int)) ∧ w'.cell? ⟨hL, 2, none⟩ = some (.int .i64 a.seq) ∧ w'.cell? ⟨hL, 3, none⟩ = some (.int .u64 (a.gen.toNat : Int)) ∧ w'.cell? ⟨hL, 4, none⟩ = some (.slice A a.body.length c) ∧ w'.cell? ⟨hL, 5, none⟩ = some (.int .i64 b.kind) ∧ w'.cell? ⟨hL, 6, none⟩ = some (.int .u64 (b.life.toNat : Int)) ∧ w'.cell? ⟨hL, 7, none⟩ = some (.int .i64 b.seq) ∧ w'.cell? ⟨hL, 8, none⟩ = some (.int .u64 (b.gen.toNat : Int)) ∧ w'.cell? ⟨hL, 9, none⟩ = some (.slice B b.body.length d)) (first | exact ten (hT.on bz) | exact ten (hT.on c4)) ((go_at_call 19; refine (HE.out _).mono ?_; rintro e w4 ⟨rfl, b4⟩; have c4 := bt bz b4))
        go_wp2_with fail
        case roundEnd => exact ⟨⟨2, fpk, by omega, rfl, (hT.on (bt bz b4)), nL, .inr (.inr ⟨rfl, hv.out.symm, H'.on (bt bz b4)⟩)⟩, by simp [intOf]⟩
      have HE := Lib.hid (fun W hS hR => Sec.encode_sym 1 gS bS (q1).1 b B d W hS hln hR hf)
      have HPu := Lib.hid (fun W A' c' hD hR => Disk.put_any g fpk (q1).2 1 A' 512 c' (bytesAt (q1) 1 b) W hD (by omega) (bytesAt_len (q1) 1 b).symm hR)
      have hq : q2 = (Sec.sumAfter (q1).1 (Sec.text 1 b), (Disk.put (q1).2 1 (bytesAt (q1) 1 b)).1) := by rw [hQ2]; exact stp_yes hf
      have hq2 := congrArg Prod.snd hq
      have hq1 := congrArg Prod.fst hq
      simp only [] at hq1 hq2
      rw [show Sec.text 1 b ++ Sec.sumOf (q1).1 (Sec.text 1 b) = bytesAt (q1) 1 b from rfl, ← hq1] at HE
      obtain ⟨R, hR⟩ : ∃ R, R = Disk.put (q1).2 1 (bytesAt (q1) 1 b) := ⟨_, rfl⟩
      rw [← hR] at HPu hq2
      obtain ⟨bb, hbb⟩ : ∃ bb, bb = bytesAt (q1) 1 b := ⟨_, rfl⟩
      rw [← hbb] at HPu HE
      have Hq2 := Lib.hid hq2
      clear hq hq1 hR hbb hq2
      rcases (show m = 0 ∨ m = 1 by omega) with hm0 | hm0
      · have hv := Lib.hid (HV2.out.2 (fun e => by have := e.2.1; omega))
        subst hm0
        go_wp2_with fail
        go_region_held3 (fun w' => w'.cell? ⟨hL, 0, none⟩ = some (.int .i64 a.kind) ∧ w'.cell? ⟨hL, 1, none⟩ = some (.int .u64 (a.life.toNat : Int)) ∧ w'.cell? ⟨hL, 2, none⟩ = some (.int .i64 a.seq) ∧ w'.cell? ⟨hL, 3, none⟩ = some (.int .u64 (a.gen.toNat : Int)) ∧ w'.cell? ⟨hL, 4, none⟩ = some (.slice A a.body.length c) ∧ w'.cell? ⟨hL, 5, none⟩ = some (.int .i64 b.kind) ∧ w'.cell? ⟨hL, 6, none⟩ = some (.int .u64 (b.life.toNat : Int)) ∧ w'.cell? ⟨hL, 7, none⟩ = some (.int .i64 b.seq) ∧ w'.cell? ⟨hL, 8, none⟩ = some (.int .u64 (b.gen.toNat : Int)) ∧ w'.cell? ⟨hL, 9, none⟩ = some (.slice B b.body.length d)) (first | exact ten (hT.on bz) | exact ten hT4) ((go_at_call 19; refine (HE.out _ (H.on bz).both.sym ((H.on bz).rd (hs.on b0))).mono ?_; rintro e w4 ⟨A4, c4, rfl, own4, k4, s4⟩; have H4 := (H.on bz).summed s4 k4; have hT4 := (hT.on bz).keepK k4 nB))
        go_wp2_with (first
          | (go_at_call 20; refine (HPu.out _ _ _ H4.both.disk (Rd.own own4)).mono ?_; rintro e w5 d5; obtain ⟨rfl, fp5, H5, k5, f5⟩ := H4.did d5; have hT5 := hT4.keepK k5 (by rw [List.mem_cons]; rintro (e | e); exact nB' e; exact nL e); have nL5 := f5.out hT4.lt nL; clear t0 t1 t2 t3 t4 t5 t6 t7 t8 t9; obtain ⟨t0, t1, t2, t3, t4, t5, t6, t7, t8, t9⟩ := ten hT5))
        case roundEnd => exact ⟨⟨2, fp5, by omega, rfl, hT5, nL5, .inr (.inr ⟨rfl, hv.out.symm, Hq2.out ▸ H5⟩)⟩, by simp [intOf]⟩
      · cases hi : isRoot gen (b, 0) with
        | false =>
          have hv := Lib.hid (HV2.out.2 (fun e => by have := e.2.2; rw [hi] at this; cases this))
          subst hm0
          go_wp2_with fail
          go_region_held3 (fun w' => w'.cell? ⟨hL, 0, none⟩ = some (.int .i64 a.kind) ∧ w'.cell? ⟨hL, 1, none⟩ = some (.int .u64 (a.life.toNat : Int)) ∧ w'.cell? ⟨hL, 2, none⟩ = some (.int .i64 a.seq) ∧ w'.cell? ⟨hL, 3, none⟩ = some (.int .u64 (a.gen.toNat : Int)) ∧ w'.cell? ⟨hL, 4, none⟩ = some (.slice A a.body.length c) ∧ w'.cell? ⟨hL, 5, none⟩ = some (.int .i64 b.kind) ∧ w'.cell? ⟨hL, 6, none⟩ = some (.int .u64 (b.life.toNat : Int)) ∧ w'.cell? ⟨hL, 7, none⟩ = some (.int .i64 b.seq) ∧ w'.cell? ⟨hL, 8, none⟩ = some (.int .u64 (b.gen.toNat : Int)) ∧ w'.cell? ⟨hL, 9, none⟩ = some (.slice B b.body.length d)) (first | exact ten (hT.on bz) | exact ten hT4) ((go_at_call 19; refine (HE.out _ (H.on bz).both.sym ((H.on bz).rd (hs.on b0))).mono ?_; rintro e w4 ⟨A4, c4, rfl, own4, k4, s4⟩; have H4 := (H.on bz).summed s4 k4; have hT4 := (hT.on bz).keepK k4 nB))
          go_wp2_with (first
            | (go_at_call 20; refine (HPu.out _ _ _ H4.both.disk (Rd.own own4)).mono ?_; rintro e w5 d5; obtain ⟨rfl, fp5, H5, k5, f5⟩ := H4.did d5; have hT5 := hT4.keepK k5 (by rw [List.mem_cons]; rintro (e | e); exact nB' e; exact nL e); have nL5 := f5.out hT4.lt nL; clear t0 t1 t2 t3 t4 t5 t6 t7 t8 t9; obtain ⟨t0, t1, t2, t3, t4, t5, t6, t7, t8, t9⟩ := ten hT5)
            | (go_at_call 21; refine (ris_any gen b B d _).mono ?_; rintro e w6 ⟨rfl, b6⟩; rw [hi]))
          case roundEnd => exact ⟨⟨2, fp5, by omega, rfl, hT5.on b6, nL5, .inr (.inr ⟨rfl, hv.out.symm, (Hq2.out ▸ H5).on b6⟩)⟩, by simp [intOf]⟩
        | true =>
          have hv := Lib.hid (HV2.out.1 ⟨hf, hm0, hi⟩)
          subst hm0
          go_wp2_with fail
          go_region_held3 (fun w' => w'.cell? ⟨hL, 0, none⟩ = some (.int .i64 a.kind) ∧ w'.cell? ⟨hL, 1, none⟩ = some (.int .u64 (a.life.toNat : Int)) ∧ w'.cell? ⟨hL, 2, none⟩ = some (.int .i64 a.seq) ∧ w'.cell? ⟨hL, 3, none⟩ = some (.int .u64 (a.gen.toNat : Int)) ∧ w'.cell? ⟨hL, 4, none⟩ = some (.slice A a.body.length c) ∧ w'.cell? ⟨hL, 5, none⟩ = some (.int .i64 b.kind) ∧ w'.cell? ⟨hL, 6, none⟩ = some (.int .u64 (b.life.toNat : Int)) ∧ w'.cell? ⟨hL, 7, none⟩ = some (.int .i64 b.seq) ∧ w'.cell? ⟨hL, 8, none⟩ = some (.int .u64 (b.gen.toNat : Int)) ∧ w'.cell? ⟨hL, 9, none⟩ = some (.slice B b.body.length d)) (first | exact ten (hT.on bz) | exact ten hT4) ((go_at_call 19; refine (HE.out _ (H.on bz).both.sym ((H.on bz).rd (hs.on b0))).mono ?_; rintro e w4 ⟨A4, c4, rfl, own4, k4, s4⟩; have H4 := (H.on bz).summed s4 k4; have hT4 := (hT.on bz).keepK k4 nB))
          go_wp2_with (first
            | (go_at_call 20; refine (HPu.out _ _ _ H4.both.disk (Rd.own own4)).mono ?_; rintro e w5 d5; obtain ⟨rfl, fp5, H5, k5, f5⟩ := H4.did d5; have hT5 := hT4.keepK k5 (by rw [List.mem_cons]; rintro (e | e); exact nB' e; exact nL e); have nL5 := f5.out hT4.lt nL; clear t0 t1 t2 t3 t4 t5 t6 t7 t8 t9; obtain ⟨t0, t1, t2, t3, t4, t5, t6, t7, t8, t9⟩ := ten hT5)
            | (go_at_call 21; refine (ris_any gen b B d _).mono ?_; rintro e w6 ⟨rfl, b6⟩; rw [hi]; clear t0 t1 t2 t3 t4 t5 t6 t7 t8 t9; obtain ⟨t0, t1, t2, t3, t4, t5, t6, t7, t8, t9⟩ := ten (hT5.on b6)))
          case roundEnd => exact ⟨⟨2, fp5, by omega, rfl, hT5.on b6, nL5, .inr (.inr ⟨rfl, hv.out.symm, (Hq2.out ▸ H5).on b6⟩)⟩, by simp [intOf]⟩
    · clear nB nB' nL
      have hst := st.up
      have hl2 : q2.1.length ≤ 1000000 := by have := st.len; omega
      have hz2 := st.sz
      have hgo := place_xor gen
      have hpg : place gen = m := Hm.out.symm
      have hpo : place (gen ^^^ 1) = 1 - m := by rw [hgo, hpg]
      have hsub : IntKind.i64.wrap (1 - m) = place (gen ^^^ 1) := by rw [hpo]; exact wrap_small (by omega) (by omega)
      have hsub2 : (1 : Int) - m = place (gen ^^^ 1) := hpo.symm
      have hGet := fun g fp gS bS W h => get_any g fp q2.2 gS bS q2.1 gen W h hl2 (by omega)
      have hSet := fun g fp gS bS W h => settle_any g fp q2.2 gS bS q2.1 gen W h hl2 (by omega)
      have hK1 := fun g fp W h => Disk.kept_any g fp q2.2 (place (gen ^^^ 1)) W h
      have hkl : (Disk.keptAt q2.2 (place (gen ^^^ 1))).length ≤ 1000000 := by
        unfold Disk.keptAt
        split
        · simp
        · rw [Disk.kept_len H.both.disk.ok.all]; omega
      have hD : (∃ (y : X) (Ay : Option Addr) (cy : Nat), v2 = .slice Ay y.body.length cy ∧ y.body.length = 32 ∧ Rd w w.heap.size Ay (y.body.map e8) ∧ got q2.1 q2.2 gen = (y.body, 0)) ∨ (v2 = .slice none 0 0 ∧ got q2.1 q2.2 gen = ([], 11)) := by
        rcases (show m = 0 ∨ m = 1 by omega) with hm0 | hm0
        · have hg := st.got0 (gen := gen) (by rw [hpg]; exact hm0)
          have e2 := HV2.out.2 (fun e => by have := e.2.1; omega)
          by_cases hh : rightF 0 a = 0 ∧ isRoot gen (a, 0) = true
          · rw [if_pos hh] at hg
            exact .inl ⟨a, A, c, by rw [e2, HV1.out.1 ⟨hh.1, hm0, hh.2⟩], isRoot_len hh.2, hr, hg⟩
          · rw [if_neg hh] at hg
            exact .inr ⟨by rw [e2, HV1.out.2 (fun e => hh ⟨e.1, e.2.2⟩)], hg⟩
        · have hg := st.got1 (gen := gen) (by rw [hpg]; exact hm0)
          have e1 := HV1.out.2 (fun e => by have := e.2.1; omega)
          by_cases hh : rightF 1 b = 0 ∧ isRoot gen (b, 0) = true
          · rw [if_pos hh] at hg
            exact .inl ⟨b, B, d, HV2.out.1 ⟨hh.1, hm0, hh.2⟩, isRoot_len hh.2, hs, hg⟩
          · rw [if_neg hh] at hg
            exact .inr ⟨by rw [HV2.out.2 (fun e => hh ⟨e.1, e.2.2⟩), e1], hg⟩
      clear hgo hsub2
      obtain ⟨o, ho⟩ : ∃ o, o = place (gen ^^^ 1) := ⟨_, rfl⟩
      rw [← ho] at hsub hK1 hkl hpo
      rcases hD with ⟨y, Ay, cy, hv, hyl, hyr, hgt⟩ | ⟨hv, hgt⟩
      · rw [hv] at hwv
        rw [hwv]
        obtain ⟨e1, e2, e3⟩ := settle_yes hst hgt
        rw [hgt] at hGet
        have hzs := settle_sz q2.1 q2.2 gen
        rw [e1] at hSet
        obtain ⟨s4, hs4⟩ : ∃ s4, s4 = (Rt.settle q2.1 q2.2 gen).1 := ⟨_, rfl⟩
        rw [← hs4] at hSet e2 e3 hzs
        have hK2 := fun g fp W h => Disk.kept_any g fp s4 o W h
        rw [ho, e2.keptAt, e3, ← ho] at hK2
        have hKK := fun A B c d W' h3 h4 => R1.same_any A B y.body y.body y.body.length y.body.length c d W' rfl rfl h3 h4 (by omega) (by omega)
        rw [R1.sameB_self] at hKK
        have hRb := fun A c W hr => Sec.rblank_any A Disk.zero512 _ c W rfl hr (by rw [Disk.zero512_len]; omega)
        rw [blankZ] at hRb
        obtain ⟨z, hz'⟩ : ∃ z, z = Disk.zero512 := ⟨_, rfl⟩
        rw [← hz'] at hK2 hRb
        have HGet := Lib.hid hGet
        have HSet := Lib.hid hSet
        have HK1 := Lib.hid hK1
        have HK2 := Lib.hid hK2
        have HKK := Lib.hid hKK
        have HRb := Lib.hid hRb
        have tl := beq_no (show (y.body.length : Int) ≠ 0 by omega)
        have tK : True := trivial
        have tS : True := trivial
        clear hGet hSet hK1 hK2 hKK hRb hz' hs4 e1 e2 e3 hgt hwv hv st hst hpg hpo hkl ho hyl
        go_wp2_with (first
          | (go_at_call 10; refine (HGet.out _ _ _ _ _ H.both).mono ?_; rintro e w4 ⟨⟨A4, c4, rfl, _, _, rd4⟩, b4⟩; have H4 := H.on b4)
          | (go_at_call 14; have _t := tK; refine (HK1.out _ _ _ H4.both.disk).mono ?_; rintro e w5 ⟨v5, rfl, n5, b5⟩; obtain ⟨A5, c5, rfl, _, _, _⟩ := n5.rdN (fp := []) (by simp); have H5 := H4.on b5; have rd5 := (rd4 (bS :: fpk) (fun j hj => by rcases List.mem_cons.1 hj with e | e; (rw [e]; exact H.both.sym.lt.2); exact H.both.disk.lt j e)).on b5; clear tK)
          | (go_at_call 22; refine (HSet.out _ _ _ _ _ H5.both).mono ?_; rintro e w7 ⟨⟨A7, c7, rfl, _, _, rd7⟩, T7⟩; obtain ⟨fp7, H7, k7, f7⟩ := H5.turn T7; have rk7 := (rd5.keep k7 (fp' := []) (fun j hj => by cases hj)).rd)
          | (go_at_call 17; have _t := tS; refine (HKK.out _ Ay _ cy _ rk7 (H7.rd (hyr.on b0))).mono ?_; rintro e w8 ⟨rfl, b8⟩; have H8 := H7.on b8; have rm8 := ((rd7 [] (by simp)).on b8).rd; clear tS)
          | (go_at_call 17; refine (HKK.out _ Ay _ cy _ rm8 (H8.rd (hyr.on b0))).mono ?_; rintro e w9 ⟨rfl, b9⟩; have H9 := H8.on b9)
          | (go_at_call 14; refine (HK2.out _ _ _ H9.both.disk).mono ?_; rintro e w10 ⟨v10, rfl, n10, b10⟩; obtain ⟨A10, c10, rfl, _, _, rd10⟩ := n10.rdN (fp := []) (by simp); have H10 := H9.on b10)
          | (go_at_call 18; refine (HRb.out _ _ _ rd10.rd).mono ?_; rintro e w11 ⟨rfl, rfl⟩)
          | (go_at_call 6; refine (alive_any _).mono ?_; rintro e w12 ⟨rfl, b12⟩; have H12 := H10.on b12))
        go_ret
        exact ⟨rfl, bt b0 H12.bel⟩
      · rw [hv] at hwv
        rw [hwv]
        rw [settle_fault hgt] at hSet
        rw [hgt] at hGet
        obtain ⟨kk, hkk⟩ : ∃ kk, kk = Disk.keptAt q2.2 o := ⟨_, rfl⟩
        rw [← hkk] at hK1 hkl
        have hKK := fun A B c d W' h3 h4 => R1.same_any A B kk kk kk.length kk.length c d W' rfl rfl h3 h4 (by omega) (by omega)
        rw [R1.sameB_self] at hKK
        have HGet := Lib.hid hGet
        have HSet := Lib.hid hSet
        have HK1 := Lib.hid hK1
        have HKK := Lib.hid hKK
        have tK : True := trivial
        clear hGet hSet hK1 hKK hkk hgt hwv hv st hst hpg hpo hkl ho
        go_wp2_with (first
          | (go_at_call 10; refine (HGet.out _ _ _ _ _ H.both).mono ?_; rintro e w4 ⟨⟨A4, c4, rfl, _, _, _⟩, b4⟩; have H4 := H.on b4)
          | (go_at_call 14; have _t := tK; refine (HK1.out _ _ _ H4.both.disk).mono ?_; rintro e w5 ⟨v5, rfl, n5, b5⟩; obtain ⟨A5, c5, rfl, _, _, rd5⟩ := n5.rdN (fp := bS :: fpk) (fun j hj => by rcases List.mem_cons.1 hj with e | e; (rw [e]; exact H4.both.sym.lt.2); exact H4.both.disk.lt j e); have H5 := H4.on b5; clear tK)
          | (go_at_call 22; refine (HSet.out _ _ _ _ _ H5.both).mono ?_; rintro e w7 ⟨⟨A7, c7, rfl, _, _, _⟩, T7⟩; obtain ⟨fp7, H7, k7, f7⟩ := H5.turn T7; have rk7 := (rd5.keep k7 (fp' := []) (fun j hj => by cases hj)))
          | (go_at_call 14; refine (HK1.out _ _ _ H7.both.disk).mono ?_; rintro e w8 ⟨v8, rfl, n8, b8⟩; obtain ⟨A8, c8, rfl, _, _, rd8⟩ := n8.rdN (fp := []) (by simp); have H8 := H7.on b8; have rk8 := (rk7.on b8).rd)
          | (go_at_call 17; refine (HKK.out _ A5 _ c5 _ rd8.rd rk8).mono ?_; rintro e w9 ⟨rfl, b9⟩; have H9 := H8.on b9)
          | (go_at_call 6; refine (alive_any _).mono ?_; rintro e w12 ⟨rfl, b12⟩; have H12 := H9.on b12))
        go_ret
        exact ⟨rfl, bt b0 H12.bel⟩
set_option maxRecDepth 100000 in
theorem lifted (os : Os) (started : os.Started) (H : Type) (enc : TypeId × Value → H) :
    ReturnsInHanded {} Try.checked os 4 .any (Rows.rootReadsSpec.pre6 enc Try.prog Try.f4 Rows.rootReadsRow.domain false) (Rows.rootReadsSpec.post enc Try.prog Try.f4 false true false false) := by
  refine returnsInHanded_of_change (C := Try.checked) own started (by kernel_rfl) Try.func4
    (ChangeSpec.witness6 (enc := enc) (C := Try.checked) false ⟨#[], #[.agg #[.int .i64 0, .int .u64 0, .int .i64 0, .int .u64 0, .slice none 0 0], .agg #[.int .i64 0, .int .u64 0, .int .i64 0, .int .u64 0, .slice none 0 0], .int .u64 0], []⟩ 8 (by kernel_rfl) (by kernel_rfl) (by kernel_rfl) (by kernel_rfl)) ?_
  intro W base args ds gs before hval0 hW hcnd _
  have hval : ∀ (j : Nat) t v, Try.f4.params[j]? = some t → args[j]? = some v → Value.okWide Try.prog W .any base t v := hval0
  have hW' := hW
  obtain ⟨p, q, hA0, hV, rfl, hfz, hnd⟩ := hW
  have hA : DataW.TrodAll enc Try.prog W 0 (fun _ => true) true Try.f4.params.toList args.toList ds p := hA0
  rw [Try.params4] at hA hval
  obtain ⟨v0, vs0, d0, ds0, p0, q0, hargs, rfl, rfl, h0, r0⟩ := trodAll_cons hA
  obtain ⟨v1, vs1, d1, ds1, p1, q1, rfl, rfl, rfl, h1, r1⟩ := trodAll_cons r0
  obtain ⟨v2, vs2, d2, ds2, p2, q2, rfl, rfl, rfl, h2, r2⟩ := trodAll_cons r1
  obtain ⟨rfl, rfl, rfl⟩ := trodAll_nil r2
  obtain rfl : args = #[v0, v1, v2] := by cases args; simp_all
  obtain ⟨rfl, rfl⟩ := trodVars_none hV
  have k0 := h0
  have lt0 := places_lt k0
  obtain ⟨x0, a0, cap0, rfl, rr0, rc0, rm0⟩ := sector_of (hval 0 43 v0 rfl rfl) h0
  have k1 := h1
  have lt1 := places_lt k1
  obtain ⟨x1, a1, cap1, rfl, rr1, rc1, rm1⟩ := sector_of (hval 1 43 v1 rfl rfl) h1
  have k2 := h2
  have lt2 := places_lt k2
  obtain ⟨n2, rfl, _, _, w2⟩ := open_int Try.underlying22 (hval 2 22 v2 rfl rfl) h2
  obtain ⟨x2, rfl⟩ := wf64 w2
  clear hA0 hval0
  refine (walk x0 a0 cap0 x1 a1 cap1 x2 W rr0 rc0 rm0 rr1 rc1 rm1).mono fun e W' ⟨he, bel⟩ => ?_
  subst he
  exact ⟨_, rfl, _, _, _, [], _, [], hW', trodAll_mk1 (shut_bool Try.underlying4 _), (trodAll_cons_mk (Below.trod laidOut (by kernel_rfl) (of_decide_eq_true (by kernel_rfl)) k0 bel lt0) (trodAll_cons_mk (Below.trod laidOut (by kernel_rfl) (of_decide_eq_true (by kernel_rfl)) k1 bel lt1) (trodAll_cons_mk (Below.trod laidOut (by kernel_rfl) (of_decide_eq_true (by kernel_rfl)) k2 bel lt2) trodAll_mk0))), rfl, bel.frame _, fun h => by cases h⟩

theorem proved : Rows.RootReadsSaid :=
  OpenClaim.holds_of_wide 4 Try.f4 rfl rfl rfl rfl rfl rfl rfl ⟨rfl, rfl, rfl, rfl, rfl⟩ rfl rfl rfl rfl rfl (by kernel_rfl) Try.func4 (by kernel_rfl)
    (of_decide_eq_true (by kernel_rfl)) (by unfold Func.isWrapper; first | (rw [if_pos (by decide +kernel)]; kernel_rfl) | (rw [if_neg (by decide +kernel)]; exact ⟨rfl, rfl⟩))
    (fun os started H enc _ => lifted os started H enc)
#print axioms proved
end Go.Proofs.Ytkapamolligmkaa.RootReads
