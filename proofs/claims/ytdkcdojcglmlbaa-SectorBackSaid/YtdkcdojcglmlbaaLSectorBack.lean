/- SectorBack: for every input the law returns true: a sector is read as it was at its place, by real sums and by those of terms, and of terms nothing is read that was not written. No condition. -/
import Derived.Test.YtdkcdojcglmlbaaSec10
import Derived.Test.YtdkcdojcglmlbaaOpenSec
namespace Go.Proofs.Ytdkcdojcglmlbaa.SectorBack
open Go.ChangeShapes Go.WideShapes Go.ChangeAt Go.RowKit Go.Joins
open Go.ChangeMaps (open_string shut_string)
open Go.Proofs.Ytdkcdojcglmlbaa.Sec
set_option linter.unusedVariables false
set_option maxRecDepth 100000
theorem same_self (x : X) : same x x = true := by simp [same]
theorem two2 {w : World} {g : Nat} {u v : Value} (h : Blk w g [u, v]) : w.cell? ⟨g, 0, none⟩ = some u ∧ w.cell? ⟨g, 1, none⟩ = some v := ⟨h.cell (k := 0) (by simp), h.cell (k := 1) (by simp)⟩
theorem _root_.Go.Proofs.Ytdkcdojcglmlbaa.Blk.keepK {w w' : World} {g : Nat} {xs : List Value} {fp : List Nat} (h : Blk w g xs) (k : Keep fp w w') (hn : g ∉ fp) : Blk w' g xs := h.elim fun t hh => ⟨t, (k.block (lt_of_block hh) hn).trans hh⟩
theorem _root_.Go.Proofs.Ytdkcdojcglmlbaa.Sec.RealAt.keepK {w w' : World} {g : Nat} {fp : List Nat} (h : RealAt w g) (k : Keep fp w w') (hn : g ∉ fp) : RealAt w' g := h.elim fun t hh => ⟨t, (k.block (lt_of_block hh) hn).trans hh⟩
theorem bt' {w a b : World} (h : Below w.heap.size w a) (k : Below a.heap.size a b) : Below w.heap.size w b := bt h k
set_option maxHeartbeats 4000000 in
theorem walk (p q : Int) (x : X) (A : Option Addr) (c : Nat) (B : Option Addr) (b : List UInt8) (d : Nat) (w : World) (hp0 : -9223372036854775808 ≤ p) (hp1 : p ≤ 9223372036854775807) (hq0 : -9223372036854775808 ≤ q) (hq1 : q ≤ 9223372036854775807) (hr : Rd w w.heap.size A (x.body.map e8)) (hc : x.body.length ≤ c) (hcm : c ≤ maxLen) (hs : Rd w w.heap.size B (b.map e8)) (hd : b.length ≤ d) (hdm : d ≤ maxLen) :
    Calls Try.prog 11 #[.int .i64 p, .int .i64 q, .agg #[.int .i64 x.kind, .int .u64 (x.life.toNat : Int), .int .i64 x.seq, .int .u64 (x.gen.toNat : Int), .slice A x.body.length c], .slice B b.length d] w fun e w' => e = .returned (.bool true) ∧ Below w.heap.size w w' := by
  have b0 := b1alloc w (.cells #[.int .i64 x.kind, .int .u64 (x.life.toNat : Int), .int .i64 x.seq, .int .u64 (x.gen.toNat : Int), .slice A x.body.length c] 83)
  have hX0 := Blk.new w [.int .i64 x.kind, .int .u64 (x.life.toNat : Int), .int .i64 x.seq, .int .u64 (x.gen.toNat : Int), .slice A x.body.length c] 83
  have hRi := Lib.hid (fun W => rright_any p x A c W)
  obtain ⟨f, hf⟩ : ∃ f, f = rightF p x := ⟨_, rfl⟩
  rw [← hf] at hRi
  have Hf := Lib.hid hf
  clear hf
  by_cases h0 : f = 0
  rotate_left
  · have t0 := bne_yes h0
    obtain ⟨z0, z1, z2, z3, z4, zf⟩ := five5 hX0
    go_enter Try.func11, Try.ntmps11
    go_wp2_with (first | (go_at_call 60; refine (hRi.out _).mono ?_; rintro e w1 ⟨rfl, b1⟩) | (go_at_call 44; refine (alive_any _).mono ?_; rintro e w2 ⟨rfl, b2⟩))
    go_ret
    exact ⟨rfl, bt (bt b0 b1) b2⟩
  have t0 := bne_no h0
  by_cases h5 : b.length = 512
  rotate_left
  · have t5 := bne_yes (show (b.length : Int) ≠ 512 by omega)
    obtain ⟨z0, z1, z2, z3, z4, zf⟩ := five5 hX0
    go_enter Try.func11, Try.ntmps11
    go_wp2_with (first | (go_at_call 60; refine (hRi.out _).mono ?_; rintro e w1 ⟨rfl, b1⟩) | (go_at_call 44; refine (alive_any _).mono ?_; rintro e w2 ⟨rfl, b2⟩))
    go_ret
    exact ⟨rfl, bt (bt b0 b1) b2⟩
  have t5 := bne_no (show (b.length : Int) = 512 by omega)
  have hrt : rightF p x = 0 := by rw [← Hf.out]; exact h0
  have hxl : x.body.length ≤ 1000000 := by have := right_of hrt; omega
  have hbl : b.length ≤ 1000 := by omega
  obtain ⟨T, hT⟩ : ∃ T, T = text p x := ⟨_, rfl⟩
  have hTl : T.length = 504 := by rw [hT, text_len]
  obtain ⟨ZR, hZR⟩ : ∃ Z, Z = T ++ Crc.sumB T := ⟨_, rfl⟩
  obtain ⟨ZS, hZS⟩ : ∃ Z, Z = T ++ Sec.mark 0 := ⟨_, rfl⟩
  have hZRl : ZR.length = 512 := by rw [hZR, List.length_append, hTl, sumB_len]
  have hZSl : ZS.length = 512 := by rw [hZS, List.length_append, hTl, Sec.mark_len]
  have ckRt : ckR ZR = true := by rw [hZR]; exact ckR_own T hTl
  have ckSt : ckS [T] ZS = true := by rw [hZS]; exact ckS_own T hTl
  have d1R : Sec.decode true p ZR = (x, 0) := by rw [hZR, hT]; exact dec_back hrt _ (sumB_len _)
  have d1S : Sec.decode true p ZS = (x, 0) := by rw [hZS, hT]; exact dec_back hrt _ (Sec.mark_len _)
  obtain ⟨yR, FR, d2R, hFR⟩ := dec_other (q := q) hrt (Crc.sumB T) (sumB_len _)
  obtain ⟨yS, FS, d2S, hFS⟩ := dec_other (q := q) hrt (Sec.mark 0) (Sec.mark_len _)
  rw [← hT, ← hZR] at d2R
  rw [← hT, ← hZS] at d2S
  obtain ⟨z0, z1, z2, z3, z4, zf⟩ := five5 hX0
  go_enter Try.func11, Try.ntmps11
  go_wp2_with (first | (go_at_call 60; refine (hRi.out _).mono ?_; rintro e w1 ⟨rfl, b1⟩) | (go_at_call 46; refine (real_any _).mono ?_; rintro e w2 ⟨gR, rfl, hgR, hgRl, b2⟩))
  refine (symbolic_any _).mono ?_
  rintro e w3 ⟨gS, bS, rfl, hgS, hgSl, hbSl, b3⟩
  have bw3 := bt (bt (bt b0 b1) b2) b3
  have hs0 : w.heap.size < w2.heap.size := Nat.lt_of_lt_of_le hX0.lt (Nat.le_trans b1.size b2.size)
  have hX3 := ((hX0.on b1).on b2).on b3
  have hbw : w.heap.size < bS := by omega
  have hbR : gR ≠ bS := by have := hgR.lt; omega
  have hb3 := hgS.lt.2
  have HD1R := Lib.hid (show ∀ W, RealAt W gR → ∀ A3 c3, Rd W W.heap.size A3 (ZR.map e8) → 512 ≤ c3 → c3 ≤ maxLen → Calls Try.prog 45 #[.pointer (some ⟨gR, 0, none⟩), .int .i64 p, .slice A3 512 c3] W fun e W' => RetX x (.int .i64 0) W e W' ∧ Below W.heap.size W W' from fun W hW A3 c3 h1 h2 h3 => by
    have := decode_real p gR A3 ZR 512 c3 W hW hp0 hp1 hZRl.symm h1 (by omega) h2 h3
    rw [ckRt, d1R] at this; exact this)
  have HD1S := Lib.hid (show ∀ W, SymAt W gS bS [T] → ∀ A3 c3, Rd W W.heap.size A3 (ZS.map e8) → 512 ≤ c3 → c3 ≤ maxLen → Calls Try.prog 45 #[.pointer (some ⟨gS, 0, none⟩), .int .i64 p, .slice A3 512 c3] W fun e W' => RetX x (.int .i64 0) W e W' ∧ Below W.heap.size W W' from fun W hW A3 c3 h1 h2 h3 => by
    have := decode_sym p gS bS [T] A3 ZS 512 c3 W hW (by simp) hp0 hp1 hZSl.symm h1 (by omega) h2 h3
    rw [ckSt, d1S] at this; exact this)
  have HD2R := Lib.hid (show ∀ W, RealAt W gR → ∀ A3 c3, Rd W W.heap.size A3 (ZR.map e8) → 512 ≤ c3 → c3 ≤ maxLen → Calls Try.prog 45 #[.pointer (some ⟨gR, 0, none⟩), .int .i64 q, .slice A3 512 c3] W fun e W' => RetX yR (.int .i64 FR) W e W' ∧ Below W.heap.size W W' from fun W hW A3 c3 h1 h2 h3 => by
    have := decode_real q gR A3 ZR 512 c3 W hW hq0 hq1 hZRl.symm h1 (by omega) h2 h3
    rw [ckRt, d2R] at this; exact this)
  have HD2S := Lib.hid (show ∀ W, SymAt W gS bS [T] → ∀ A3 c3, Rd W W.heap.size A3 (ZS.map e8) → 512 ≤ c3 → c3 ≤ maxLen → Calls Try.prog 45 #[.pointer (some ⟨gS, 0, none⟩), .int .i64 q, .slice A3 512 c3] W fun e W' => RetX yS (.int .i64 FS) W e W' ∧ Below W.heap.size W W' from fun W hW A3 c3 h1 h2 h3 => by
    have := decode_sym q gS bS [T] A3 ZS 512 c3 W hW (by simp) hq0 hq1 hZSl.symm h1 (by omega) h2 h3
    rw [ckSt, d2S] at this; exact this)
  have HD3 := Lib.hid (show ∀ W, SymAt W gS bS [T] → Below w.heap.size w W → ∀ n, n = b.length → Calls Try.prog 45 #[.pointer (some ⟨gS, 0, none⟩), .int .i64 p, .slice B n d] W fun e W' => RetX (Sec.decode (ckS [T] b) p b).1 (.int .i64 (Sec.decode (ckS [T] b) p b).2) W e W' ∧ Below W.heap.size W W' from fun W hW bW n hn =>
    decode_sym p gS bS [T] B b n d W hW (by simp) hp0 hp1 hn ((hs.below bW).more bW.size) (by omega) (by omega) hdm)
  have HNe := Lib.hid (show b ≠ ZS → (Sec.decode (ckS [T] b) p b).2 ≠ 0 from fun h => dec_fault (check_else h5 hTl (by rw [← hZS]; exact h)))
  have H5 := Lib.hid h5
  have HZR := Lib.hid hZRl
  have HZS := Lib.hid hZSl
  have HZeR := Lib.hid (show ZR = text p x ++ Crc.sumB (text p x) by rw [hZR, hT])
  have HZeS := Lib.hid (show ZS = text p x ++ sumOf [] (text p x) by rw [hZS, hT, sumOf_nil])
  have Hrt := Lib.hid hrt
  have HT := Lib.hid hT
  have HFR := Lib.hid hFR
  have HFS := Lib.hid hFS
  clear hrt hT hZR hZS ckRt ckSt d1R d1S d2R d2S hFR hFS z0 z1 z2 z3 z4 zf hZRl hZSl h5
  go_wp2_with fail
  have hB0 := Blk.new w3 [.pointer (some ⟨gR, 0, none⟩), .pointer (some ⟨gS, 0, none⟩)] 80
  have b4 := b1alloc w3 (.cells #[.pointer (some ⟨gR, 0, none⟩), .pointer (some ⟨gS, 0, none⟩)] 80)
  obtain ⟨h, hh⟩ : ∃ h, h = w3.heap.size := ⟨_, rfl⟩
  have hbh : bS < h := by omega
  have hX4 := hX3.on b4
  have hgR4 := (hgR.on b3).on b4
  have hgS4 := hgS.on b4
  have bw4 := bt bw3 b4
  obtain ⟨w4, hw4⟩ : ∃ w4, w4 = w3.alloc (.cells #[.pointer (some ⟨gR, 0, none⟩), .pointer (some ⟨gS, 0, none⟩)] 80) := ⟨_, rfl⟩
  rw [← hw4] at hB0 hX4 hgR4 hgS4 bw4 ⊢
  rw [← hh] at hB0 ⊢
  have nx : w.heap.size ∉ [bS] := by rw [List.mem_singleton]; omega
  have nh : h ∉ [bS] := by rw [List.mem_singleton]; omega
  have nr : gR ∉ [bS] := by rw [List.mem_singleton]; exact hbR
  clear hw4 hh b4 hX3 hgR hgS hX0 b0 b1 b2 b3 bw3
  go_loopw [10] (fun i wr => ∃ k : Nat, k ≤ 2 ∧ i = .int .i64 k ∧ Below w.heap.size w wr ∧ Blk wr h [.pointer (some ⟨gR, 0, none⟩), .pointer (some ⟨gS, 0, none⟩)] ∧ Blk wr w.heap.size [.int .i64 x.kind, .int .u64 (x.life.toNat : Int), .int .i64 x.seq, .int .u64 (x.gen.toNat : Int), .slice A x.body.length c] ∧ RealAt wr gR ∧ (k ≤ 1 → SymAt wr gS bS [])) (fun i _ => 2 - (intOf i).toNat)
  case atStart => exact ⟨0, by omega, rfl, bw4, hB0, hX4, hgR4, fun _ => hgS4⟩
  case round =>
    clear hB0 hX4 hgR4 hgS4 bw4
    obtain ⟨k, hk, rfl, bel, hB, hX, hRr, hSy⟩ := hrel
    rcases (show k = 0 ∨ k = 1 ∨ k = 2 by omega) with rfl | rfl | rfl
    · have hSy := hSy (by omega)
      go_wp2_with fail
      have bz : Below wr.heap.size wr wr.drew := (Below.refl _ _).drew
      obtain ⟨hh0, hh1⟩ := two2 hB
      refine wp_region_held_drew (S := (fun w' => (w'.cell? ⟨w.heap.size, 0, none⟩ = some (.int .i64 x.kind) ∧ w'.cell? ⟨w.heap.size, 1, none⟩ = some (.int .u64 (x.life.toNat : Int)) ∧ w'.cell? ⟨w.heap.size, 2, none⟩ = some (.int .i64 x.seq) ∧ w'.cell? ⟨w.heap.size, 3, none⟩ = some (.int .u64 (x.gen.toNat : Int)) ∧ w'.cell? ⟨w.heap.size, 4, none⟩ = some (.slice A x.body.length c)) ∧ (w'.cell? ⟨h, 0, none⟩ = some (.pointer (some ⟨gR, 0, none⟩)) ∧ w'.cell? ⟨h, 1, none⟩ = some (.pointer (some ⟨gS, 0, none⟩))))) (by kernel_rfl) (by exact ⟨five5x (hX.on bz), two2 (hB.on bz)⟩) (fun hHeld => ?_)
      refine wpAnyH_take (i := 0) (oi := { dst := some 39, op := Op.move (Operand.tmp 9), type := 103, pos := "law.go:77", after := #[], guard := none }) (v := ?_) rfl (by kernel_rfl) (by kernel_rfl) (by kernel_rfl) (fun _ _ _ h => h) (Or.inl ⟨by rfl, ?_⟩) (by assumption) ?_; rotate_left; · ((intro w hSw; (try dsimp only at hSw); go_simp) <;> with_reducible rfl)
      try simp only [Act.put, List.setIfInBounds_toArray, List.set_cons_zero, List.set_cons_succ]
      refine wpAnyH_take (i := 1) (oi := { dst := some 40, op := Op.move (Operand.tmp 10), type := 3, pos := "law.go:77", after := #[], guard := none }) (v := ?_) rfl (by kernel_rfl) (by kernel_rfl) (by kernel_rfl) (fun _ _ _ h => h) (Or.inl ⟨by rfl, ?_⟩) (by assumption) ?_; rotate_left; · ((intro w hSw; (try dsimp only at hSw); go_simp) <;> with_reducible rfl)
      try simp only [Act.put, List.setIfInBounds_toArray, List.set_cons_zero, List.set_cons_succ]
      refine wpAnyH_take (i := 2) (oi := { dst := some 41, op := Op.indexAddr 103 (Operand.tmp 39) (Operand.tmp 40), type := 0, pos := "law.go:77", after := #[{ on := 0, ground := Ground.data }, { on := 1, ground := Ground.data }], guard := none }) (v := ?_) rfl (by kernel_rfl) (by kernel_rfl) (by kernel_rfl) (fun _ _ _ h => h) (Or.inl ⟨by rfl, ?_⟩) (by assumption) ?_; rotate_left; · ((intro w hSw; (try dsimp only at hSw); go_simp) <;> with_reducible rfl)
      try simp only [Act.put, List.setIfInBounds_toArray, List.set_cons_zero, List.set_cons_succ]
      refine wpAnyH_take (i := 3) (oi := { dst := some 42, op := Op.load 80 (Operand.tmp 41), type := 80, pos := "law.go:77", after := #[{ on := 2, ground := Ground.data }], guard := none }) (v := ?_) rfl (by kernel_rfl) (by kernel_rfl) (by kernel_rfl) (fun _ _ _ h => h) (Or.inl ⟨by rfl, ?_⟩) (by assumption) ?_; rotate_left; · ((intro w hSw; (try dsimp only at hSw); go_simp) <;> with_reducible rfl)
      try simp only [Act.put, List.setIfInBounds_toArray, List.set_cons_zero, List.set_cons_succ]
      refine wpAnyH_take (i := 4) (oi := { dst := some 43, op := Op.move (Operand.tmp 0), type := 3, pos := "law.go:77", after := #[], guard := none }) (v := ?_) rfl (by kernel_rfl) (by kernel_rfl) (by kernel_rfl) (fun _ _ _ h => h) (Or.inl ⟨by rfl, ?_⟩) (by assumption) ?_; rotate_left; · ((intro w hSw; (try dsimp only at hSw); go_simp) <;> with_reducible rfl)
      try simp only [Act.put, List.setIfInBounds_toArray, List.set_cons_zero, List.set_cons_succ]
      refine wpAnyH_take (i := 5) (oi := { dst := some 44, op := Op.load 83 (Operand.tmp 6), type := 83, pos := "law.go:77", after := #[], guard := none }) (v := ?_) rfl (by kernel_rfl) (by kernel_rfl) (by kernel_rfl) (fun _ _ _ h => h) (Or.inl ⟨by rfl, ?_⟩) (by assumption) ?_; rotate_left; · ((intro w hSw; (try dsimp only at hSw); go_simp) <;> with_reducible rfl)
      try simp only [Act.put, List.setIfInBounds_toArray, List.set_cons_zero, List.set_cons_succ]
      refine wpAnyH_ready (rs := [6]) (by kernel_rfl) (by simp) ?_
      refine AllReadyH.cons (o := { dst := some 45, op := Op.call { callee := Callee.value (Operand.func 59), args := #[Operand.tmp 44], argTypes := #[83] }, type := 77, pos := "law.go:77", after := #[{ on := 5, ground := Ground.data }], guard := none }) rfl (fun K hK => ?_) AllReadyH.nil
      go_simp; (first | ((go_at_call 59; refine (of_any x A c _).mono ?_; rintro e w1 ⟨rfl, b1⟩; have bb1 := bt bz b1)) | ((go_at_call 58; refine (encode_real p gR x A c _ (hRr.on bb1) ((hr.below (bt' bel bb1)).more (bt' bel bb1).size) Hrt.out).mono ?_; rintro e w2 ⟨A3, c3, rfl, own3, b2⟩; have k2 := Keep.of_below b2 [bS]; have st3 := (hRr.on bb1).on b2))); (try (go_wp2_with fail)); refine hK.out _ _ (by first | (first | exact ⟨five5x (hX.on bb1), two2 (hB.on bb1)⟩ | exact ⟨five5x ((hX.on bb1).keepK k2 nx), two2 ((hB.on bb1).keepK k2 nh)⟩) | ((try dsimp only); (first | exact ⟨five5x (hX.on bb1), two2 (hB.on bb1)⟩ | exact ⟨five5x ((hX.on bb1).keepK k2 nx), two2 ((hB.on bb1).keepK k2 nh)⟩))) (fun hHeld => ?_)
      clear hK K
      try simp only [Act.put, List.setIfInBounds_toArray, List.set_cons_zero, List.set_cons_succ]
      refine wpAnyH_ready (rs := [7]) (by kernel_rfl) (by simp) ?_
      refine AllReadyH.cons (o := { dst := some 46, op := Op.call { callee := Callee.value (Operand.func 58), args := #[Operand.tmp 42, Operand.tmp 43, Operand.tmp 45], argTypes := #[80, 3, 77] }, type := 95, pos := "law.go:77", after := #[{ on := 3, ground := Ground.data }, { on := 4, ground := Ground.data }, { on := 6, ground := Ground.data }, { on := 6, ground := Ground.chain }], guard := none }) rfl (fun K hK => ?_) AllReadyH.nil
      go_simp; (first | ((go_at_call 59; refine (of_any x A c _).mono ?_; rintro e w1 ⟨rfl, b1⟩; have bb1 := bt bz b1)) | ((go_at_call 58; refine (encode_real p gR x A c _ (hRr.on bb1) ((hr.below (bt' bel bb1)).more (bt' bel bb1).size) Hrt.out).mono ?_; rintro e w2 ⟨A3, c3, rfl, own3, b2⟩; have k2 := Keep.of_below b2 [bS]; have st3 := (hRr.on bb1).on b2))); (try (go_wp2_with fail)); refine hK.out _ _ (by first | (first | exact ⟨five5x (hX.on bb1), two2 (hB.on bb1)⟩ | exact ⟨five5x ((hX.on bb1).keepK k2 nx), two2 ((hB.on bb1).keepK k2 nh)⟩) | ((try dsimp only); (first | exact ⟨five5x (hX.on bb1), two2 (hB.on bb1)⟩ | exact ⟨five5x ((hX.on bb1).keepK k2 nx), two2 ((hB.on bb1).keepK k2 nh)⟩))) (fun hHeld => ?_)
      clear hK K
      try simp only [Act.put, List.setIfInBounds_toArray, List.set_cons_zero, List.set_cons_succ]
      refine wpAnyH_take (i := 8) (oi := { dst := some 38, op := Op.move (Operand.tmp 46), type := 95, pos := "law.go:77", after := #[{ on := 7, ground := Ground.data }], guard := none }) (v := ?_) rfl (by kernel_rfl) (by kernel_rfl) (by kernel_rfl) (fun _ _ _ h => h) (Or.inl ⟨by rfl, ?_⟩) (by assumption) ?_; rotate_left; · ((intro w hSw; (try dsimp only at hSw); go_simp) <;> with_reducible rfl)
      try simp only [Act.put, List.setIfInBounds_toArray, List.set_cons_zero, List.set_cons_succ]
      refine wpAnyH_take (i := 9) (oi := { dst := some 47, op := Op.extract (Operand.tmp 38) 0, type := 26, pos := "law.go:77", after := #[{ on := 8, ground := Ground.data }], guard := none }) (v := ?_) rfl (by kernel_rfl) (by kernel_rfl) (by kernel_rfl) (fun _ _ _ h => h) (Or.inl ⟨by rfl, ?_⟩) (by assumption) ?_; rotate_left; · ((intro w hSw; (try dsimp only at hSw); go_simp) <;> with_reducible rfl)
      try simp only [Act.put, List.setIfInBounds_toArray, List.set_cons_zero, List.set_cons_succ]
      refine wpAnyH_take (i := 10) (oi := { dst := some 48, op := Op.extract (Operand.tmp 38) 1, type := 43, pos := "law.go:77", after := #[{ on := 8, ground := Ground.data }, { on := 11, ground := Ground.gcOnly Go.Departure.lateStores }], guard := none }) (v := ?_) rfl (by kernel_rfl) (by kernel_rfl) (by kernel_rfl) (fun _ _ _ h => h) (Or.inl ⟨by rfl, ?_⟩) (by assumption) ?_; rotate_left; · ((intro w hSw; (try dsimp only at hSw); go_simp) <;> with_reducible rfl)
      try simp only [Act.put, List.setIfInBounds_toArray, List.set_cons_zero, List.set_cons_succ]
      refine wpAnyH_take (i := 11) (oi := { dst := some 11, op := Op.assign (Operand.tmp 47), type := 26, pos := "law.go:77", after := #[{ on := 9, ground := Ground.data }, { on := 7, ground := Ground.chain }, { on := 0, ground := Ground.phase }, { on := 1, ground := Ground.phase }, { on := 2, ground := Ground.phase }, { on := 3, ground := Ground.phase }, { on := 4, ground := Ground.phase }, { on := 5, ground := Ground.phase }, { on := 6, ground := Ground.phase }, { on := 7, ground := Ground.phase }, { on := 8, ground := Ground.phase }, { on := 9, ground := Ground.phase }, { on := 10, ground := Ground.textOnly Go.Departure.lateStores }], guard := none }) (v := ?_) rfl (by kernel_rfl) (by kernel_rfl) (by kernel_rfl) (fun _ _ _ h => h) (Or.inl ⟨by rfl, ?_⟩) (by assumption) ?_; rotate_left; · ((intro w hSw; (try dsimp only at hSw); go_simp) <;> with_reducible rfl)
      try simp only [Act.put, List.setIfInBounds_toArray, List.set_cons_zero, List.set_cons_succ]
      refine wpAnyH_take (i := 12) (oi := { dst := some 12, op := Op.assign (Operand.tmp 48), type := 43, pos := "law.go:77", after := #[{ on := 10, ground := Ground.data }, { on := 11, ground := Ground.chain }, { on := 0, ground := Ground.phase }, { on := 1, ground := Ground.phase }, { on := 2, ground := Ground.phase }, { on := 3, ground := Ground.phase }, { on := 4, ground := Ground.phase }, { on := 5, ground := Ground.phase }, { on := 6, ground := Ground.phase }, { on := 7, ground := Ground.phase }, { on := 8, ground := Ground.phase }, { on := 9, ground := Ground.phase }, { on := 10, ground := Ground.phase }, { on := 11, ground := Ground.phase }], guard := none }) (v := ?_) rfl (by kernel_rfl) (by kernel_rfl) (by kernel_rfl) (fun _ _ _ h => h) (Or.inl ⟨by rfl, ?_⟩) (by assumption) ?_; rotate_left; · ((intro w hSw; (try dsimp only at hSw); go_simp) <;> with_reducible rfl)
      try simp only [Act.put, List.setIfInBounds_toArray, List.set_cons_zero, List.set_cons_succ]
      refine wpAnyH_done (by kernel_rfl) ?_ _
      clear hh0 hh1
      have hX2 := (hX.on bb1).keepK k2 nx
      have hB2 := (hB.on bb1).keepK k2 nh
      have bel1 := bt' bel bb1
      have bel2 : Below w.heap.size w w2 := bel1.trans (k2.below (fun j hj => by rw [List.mem_singleton] at hj; omega) bel1.size)
      have hcap := own_cap own3
      have Z3 := Rd.own own3
      have hzl := HZR.out
      rw [← HZeR.out] at Z3
      have hS2 := (hSy.on bb1).on b2
      obtain ⟨hh0, hh1⟩ := two2 hB2
      go_wp2_with fail
      refine (HD1R.out w2 st3 A3 c3 Z3 hcap.1 hcap.2).mono ?_
      rintro e w4 ⟨⟨A4, c4, rfl, own4⟩, b4⟩
      unfold xv
      clear hh0 hh1
      have hX4 := hX2.on b4
      have hB4 := hB2.on b4
      have bel4 := bt bel2 b4
      have Y5 := Blk.new w4 [.int .i64 x.kind, .int .u64 (x.life.toNat : Int), .int .i64 x.seq, .int .u64 (x.gen.toNat : Int), .slice A4 x.body.length c4] 77
      have b5 := b1alloc w4 (.cells #[.int .i64 x.kind, .int .u64 (x.life.toNat : Int), .int .i64 x.seq, .int .u64 (x.gen.toNat : Int), .slice A4 x.body.length c4] 77)
      have own5 := own_on own4 b5
      have hX5 := hX4.on b5
      have hB5 := hB4.on b5
      have bel5 := bt bel4 b5
      have st5 := (st3.on b4).on b5
      have Z5 := (Z3.on b4).on b5
      have ho5 := (hS2.on b4).on b5
      go_wp2_with fail
      obtain ⟨w5, hw5⟩ : ∃ w5, w5 = w4.alloc (.cells #[.int .i64 x.kind, .int .u64 (x.life.toNat : Int), .int .i64 x.seq, .int .u64 (x.gen.toNat : Int), .slice A4 x.body.length c4] 77) := ⟨_, rfl⟩
      rw [← hw5] at Y5 own5 hX5 hB5 bel5 st5 Z5 ho5 ⊢
      clear hw5 b5
      have bd : Below w5.heap.size w5 w5.drew := (Below.refl _ _).drew
      refine wp_region_held_drew (S := (fun w' => (w'.cell? ⟨w4.heap.size, 0, none⟩ = some (.int .i64 x.kind) ∧ w'.cell? ⟨w4.heap.size, 1, none⟩ = some (.int .u64 (x.life.toNat : Int)) ∧ w'.cell? ⟨w4.heap.size, 2, none⟩ = some (.int .i64 x.seq) ∧ w'.cell? ⟨w4.heap.size, 3, none⟩ = some (.int .u64 (x.gen.toNat : Int)) ∧ w'.cell? ⟨w4.heap.size, 4, none⟩ = some (.slice A4 x.body.length c4)) ∧ (w'.cell? ⟨w.heap.size, 0, none⟩ = some (.int .i64 x.kind) ∧ w'.cell? ⟨w.heap.size, 1, none⟩ = some (.int .u64 (x.life.toNat : Int)) ∧ w'.cell? ⟨w.heap.size, 2, none⟩ = some (.int .i64 x.seq) ∧ w'.cell? ⟨w.heap.size, 3, none⟩ = some (.int .u64 (x.gen.toNat : Int)) ∧ w'.cell? ⟨w.heap.size, 4, none⟩ = some (.slice A x.body.length c)))) (by kernel_rfl) (by exact ⟨five5x (Y5.on bd), five5x (hX5.on bd)⟩) (fun hHeld => ?_)
      refine wpAnyH_take (i := 0) (oi := { dst := some 59, op := Op.move (Operand.tmp 12), type := 43, pos := "law.go:79", after := #[], guard := none }) (v := ?_) rfl (by kernel_rfl) (by kernel_rfl) (by kernel_rfl) (fun _ _ _ h => h) (Or.inl ⟨by rfl, ?_⟩) (by assumption) ?_; rotate_left; · ((intro w hSw; (try dsimp only at hSw); go_simp) <;> with_reducible rfl)
      try simp only [Act.put, List.setIfInBounds_toArray, List.set_cons_zero, List.set_cons_succ]
      refine wpAnyH_take (i := 1) (oi := { dst := some 60, op := Op.binOp BinOp.neq 43 (Operand.tmp 59) (Operand.const (Value.int IntKind.i64 0)) 43, type := 4, pos := "law.go:79", after := #[{ on := 0, ground := Ground.data }], guard := none }) (v := ?_) rfl (by kernel_rfl) (by kernel_rfl) (by kernel_rfl) (fun _ _ _ h => h) (Or.inl ⟨by rfl, ?_⟩) (by assumption) ?_; rotate_left; · ((intro w hSw; (try dsimp only at hSw); go_simp) <;> with_reducible rfl)
      try simp only [Act.put, List.setIfInBounds_toArray, List.set_cons_zero, List.set_cons_succ]
      refine wpAnyH_take (i := 2) (oi := { dst := some 61, op := Op.move (Operand.tmp 60), type := 4, pos := "law.go:79", after := #[{ on := 1, ground := Ground.data }], guard := none }) (v := ?_) rfl (by kernel_rfl) (by kernel_rfl) (by kernel_rfl) (fun _ _ _ h => h) (Or.inl ⟨by rfl, ?_⟩) (by assumption) ?_; rotate_left; · ((intro w hSw; (try dsimp only at hSw); go_simp) <;> with_reducible rfl)
      try simp only [Act.put, List.setIfInBounds_toArray, List.set_cons_zero, List.set_cons_succ]
      refine wpAnyH_take (i := 3) (oi := { dst := some 62, op := Op.move (Operand.tmp 14), type := 43, pos := "law.go:79", after := #[{ on := 2, ground := Ground.guard }], guard := some (2, false) }) (v := ?_) rfl (by kernel_rfl) (by kernel_rfl) (by kernel_rfl) (fun _ _ _ h => h) (Or.inl ⟨by rfl, ?_⟩) (by assumption) ?_; rotate_left; · ((intro w hSw; (try dsimp only at hSw); go_simp) <;> with_reducible rfl)
      try simp only [Act.put, List.setIfInBounds_toArray, List.set_cons_zero, List.set_cons_succ]
      refine wpAnyH_take (i := 4) (oi := { dst := some 63, op := Op.binOp BinOp.neq 43 (Operand.tmp 62) (Operand.const (Value.int IntKind.i64 0)) 43, type := 4, pos := "law.go:79", after := #[{ on := 3, ground := Ground.data }, { on := 2, ground := Ground.guard }], guard := some (2, false) }) (v := ?_) rfl (by kernel_rfl) (by kernel_rfl) (by kernel_rfl) (fun _ _ _ h => h) (Or.inl ⟨by rfl, ?_⟩) (by assumption) ?_; rotate_left; · ((intro w hSw; (try dsimp only at hSw); go_simp) <;> with_reducible rfl)
      try simp only [Act.put, List.setIfInBounds_toArray, List.set_cons_zero, List.set_cons_succ]
      refine wpAnyH_take (i := 5) (oi := { dst := some 64, op := Op.pick (Operand.tmp 61) (Operand.const (Value.bool true)) (Operand.tmp 63), type := 4, pos := "law.go:79", after := #[{ on := 2, ground := Ground.data }, { on := 4, ground := Ground.data }], guard := none }) (v := ?_) rfl (by kernel_rfl) (by kernel_rfl) (by kernel_rfl) (fun _ _ _ h => h) (Or.inl ⟨by rfl, ?_⟩) (by assumption) ?_; rotate_left; · ((intro w hSw; (try dsimp only at hSw); go_simp) <;> with_reducible rfl)
      try simp only [Act.put, List.setIfInBounds_toArray, List.set_cons_zero, List.set_cons_succ]
      refine wpAnyH_take (i := 6) (oi := { dst := some 65, op := Op.move (Operand.tmp 64), type := 4, pos := "law.go:79", after := #[{ on := 5, ground := Ground.data }, { on := 2, ground := Ground.chain }], guard := none }) (v := ?_) rfl (by kernel_rfl) (by kernel_rfl) (by kernel_rfl) (fun _ _ _ h => h) (Or.inl ⟨by rfl, ?_⟩) (by assumption) ?_; rotate_left; · ((intro w hSw; (try dsimp only at hSw); go_simp) <;> with_reducible rfl)
      try simp only [Act.put, List.setIfInBounds_toArray, List.set_cons_zero, List.set_cons_succ]
      refine wpAnyH_take (i := 7) (oi := { dst := some 66, op := Op.load 77 (Operand.tmp 13), type := 77, pos := "law.go:79", after := #[{ on := 6, ground := Ground.guard }], guard := some (6, false) }) (v := ?_) rfl (by kernel_rfl) (by kernel_rfl) (by kernel_rfl) (fun _ _ _ h => h) (Or.inl ⟨by rfl, ?_⟩) (by assumption) ?_; rotate_left; · ((intro w hSw; (try dsimp only at hSw); go_simp) <;> with_reducible rfl)
      try simp only [Act.put, List.setIfInBounds_toArray, List.set_cons_zero, List.set_cons_succ]
      refine wpAnyH_take (i := 9) (oi := { dst := some 68, op := Op.load 83 (Operand.tmp 6), type := 83, pos := "law.go:79", after := #[{ on := 6, ground := Ground.guard }], guard := some (6, false) }) (v := ?_) rfl (by kernel_rfl) (by kernel_rfl) (by kernel_rfl) (fun _ _ _ h => h) (Or.inl ⟨by rfl, ?_⟩) (by assumption) ?_; rotate_left; · ((intro w hSw; (try dsimp only at hSw); go_simp) <;> with_reducible rfl)
      try simp only [Act.put, List.setIfInBounds_toArray, List.set_cons_zero, List.set_cons_succ]
      refine wpAnyH_ready (rs := [8]) (by kernel_rfl) (by simp) ?_
      refine AllReadyH.cons (o := { dst := some 67, op := Op.call { callee := Callee.value (Operand.func 52), args := #[Operand.tmp 66], argTypes := #[77] }, type := 83, pos := "law.go:79", after := #[{ on := 7, ground := Ground.data }, { on := 6, ground := Ground.chain }, { on := 6, ground := Ground.guard }], guard := some (6, false) }) rfl (fun K hK => ?_) AllReadyH.nil
      go_simp; (first | ((go_at_call 52; refine (back_any x A4 c4 _).mono ?_; rintro e w6 ⟨rfl, b6⟩; have bd1 := bt bd b6)) | ((go_at_call 51; refine (rsame_any x x A4 A c4 c _ ((Rd.own own5).on bd1) ((hr.below (bt bel5 bd1)).more (bt bel5 bd1).size) hxl hxl).mono ?_; rintro e w7 ⟨rfl, b7⟩; rw [same_self]; have bd2 := bt bd1 b7))); (try (go_wp2_with fail)); refine hK.out _ _ (by first | (first | exact ⟨five5x (Y5.on bd1), five5x (hX5.on bd1)⟩ | exact ⟨five5x (Y5.on bd2), five5x (hX5.on bd2)⟩) | ((try dsimp only); (first | exact ⟨five5x (Y5.on bd1), five5x (hX5.on bd1)⟩ | exact ⟨five5x (Y5.on bd2), five5x (hX5.on bd2)⟩))) (fun hHeld => ?_)
      clear hK K
      try simp only [Act.put, List.setIfInBounds_toArray, List.set_cons_zero, List.set_cons_succ]
      refine wpAnyH_ready (rs := [10]) (by kernel_rfl) (by simp) ?_
      refine AllReadyH.cons (o := { dst := some 69, op := Op.call { callee := Callee.value (Operand.func 51), args := #[Operand.tmp 67, Operand.tmp 68], argTypes := #[83, 83] }, type := 4, pos := "law.go:79", after := #[{ on := 8, ground := Ground.data }, { on := 9, ground := Ground.data }, { on := 8, ground := Ground.chain }, { on := 6, ground := Ground.guard }], guard := some (6, false) }) rfl (fun K hK => ?_) AllReadyH.nil
      go_simp; (first | ((go_at_call 52; refine (back_any x A4 c4 _).mono ?_; rintro e w6 ⟨rfl, b6⟩; have bd1 := bt bd b6)) | ((go_at_call 51; refine (rsame_any x x A4 A c4 c _ ((Rd.own own5).on bd1) ((hr.below (bt bel5 bd1)).more (bt bel5 bd1).size) hxl hxl).mono ?_; rintro e w7 ⟨rfl, b7⟩; rw [same_self]; have bd2 := bt bd1 b7))); (try (go_wp2_with fail)); refine hK.out _ _ (by first | (first | exact ⟨five5x (Y5.on bd1), five5x (hX5.on bd1)⟩ | exact ⟨five5x (Y5.on bd2), five5x (hX5.on bd2)⟩) | ((try dsimp only); (first | exact ⟨five5x (Y5.on bd1), five5x (hX5.on bd1)⟩ | exact ⟨five5x (Y5.on bd2), five5x (hX5.on bd2)⟩))) (fun hHeld => ?_)
      clear hK K
      try simp only [Act.put, List.setIfInBounds_toArray, List.set_cons_zero, List.set_cons_succ]
      refine wpAnyH_take (i := 11) (oi := { dst := some 70, op := Op.unOp UnOp.not 4 (Operand.tmp 69), type := 4, pos := "law.go:79", after := #[{ on := 10, ground := Ground.data }, { on := 6, ground := Ground.guard }], guard := some (6, false) }) (v := ?_) rfl (by kernel_rfl) (by kernel_rfl) (by kernel_rfl) (fun _ _ _ h => h) (Or.inl ⟨by rfl, ?_⟩) (by assumption) ?_; rotate_left; · ((intro w hSw; (try dsimp only at hSw); go_simp) <;> with_reducible rfl)
      try simp only [Act.put, List.setIfInBounds_toArray, List.set_cons_zero, List.set_cons_succ]
      refine wpAnyH_take (i := 12) (oi := { dst := some 71, op := Op.pick (Operand.tmp 65) (Operand.const (Value.bool true)) (Operand.tmp 70), type := 4, pos := "law.go:79", after := #[{ on := 6, ground := Ground.data }, { on := 11, ground := Ground.data }], guard := none }) (v := ?_) rfl (by kernel_rfl) (by kernel_rfl) (by kernel_rfl) (fun _ _ _ h => h) (Or.inl ⟨by rfl, ?_⟩) (by assumption) ?_; rotate_left; · ((intro w hSw; (try dsimp only at hSw); go_simp) <;> with_reducible rfl)
      try simp only [Act.put, List.setIfInBounds_toArray, List.set_cons_zero, List.set_cons_succ]
      refine wpAnyH_take (i := 13) (oi := { dst := some 72, op := Op.move (Operand.tmp 71), type := 4, pos := "law.go:79", after := #[{ on := 12, ground := Ground.data }, { on := 10, ground := Ground.chain }], guard := none }) (v := ?_) rfl (by kernel_rfl) (by kernel_rfl) (by kernel_rfl) (fun _ _ _ h => h) (Or.inl ⟨by rfl, ?_⟩) (by assumption) ?_; rotate_left; · ((intro w hSw; (try dsimp only at hSw); go_simp) <;> with_reducible rfl)
      try simp only [Act.put, List.setIfInBounds_toArray, List.set_cons_zero, List.set_cons_succ]
      refine wpAnyH_take (i := 14) (oi := { dst := some 73, op := Op.move (Operand.tmp 11), type := 26, pos := "law.go:79", after := #[{ on := 13, ground := Ground.guard }], guard := some (13, false) }) (v := ?_) rfl (by kernel_rfl) (by kernel_rfl) (by kernel_rfl) (fun _ _ _ h => h) (Or.inl ⟨by rfl, ?_⟩) (by assumption) ?_; rotate_left; · ((intro w hSw; (try dsimp only at hSw); go_simp) <;> with_reducible rfl)
      try simp only [Act.put, List.setIfInBounds_toArray, List.set_cons_zero, List.set_cons_succ]
      refine wpAnyH_take (i := 15) (oi := { dst := some 74, op := Op.call { callee := Callee.builtin Builtin.len, args := #[Operand.tmp 73], argTypes := #[26] }, type := 3, pos := "law.go:79", after := #[{ on := 14, ground := Ground.data }, { on := 13, ground := Ground.guard }], guard := some (13, false) }) (v := ?_) rfl (by kernel_rfl) (by kernel_rfl) (by kernel_rfl) (fun _ _ _ h => h) (Or.inl ⟨by rfl, ?_⟩) (by assumption) ?_; rotate_left; · ((intro w hSw; (try dsimp only at hSw); go_simp) <;> with_reducible rfl)
      try simp only [Act.put, List.setIfInBounds_toArray, List.set_cons_zero, List.set_cons_succ]
      refine wpAnyH_take (i := 16) (oi := { dst := some 75, op := Op.binOp BinOp.neq 3 (Operand.tmp 74) (Operand.const (Value.int IntKind.i64 512)) 3, type := 4, pos := "law.go:79", after := #[{ on := 15, ground := Ground.data }, { on := 13, ground := Ground.guard }], guard := some (13, false) }) (v := ?_) rfl (by kernel_rfl) (by kernel_rfl) (by kernel_rfl) (fun _ _ _ h => h) (Or.inl ⟨by rfl, ?_⟩) (by assumption) ?_; rotate_left; · ((intro w hSw; (try dsimp only at hSw); go_simp) <;> with_reducible rfl)
      try simp only [Act.put, List.setIfInBounds_toArray, List.set_cons_zero, List.set_cons_succ]
      refine wpAnyH_take (i := 17) (oi := { dst := some 76, op := Op.pick (Operand.tmp 72) (Operand.const (Value.bool true)) (Operand.tmp 75), type := 4, pos := "law.go:79", after := #[{ on := 13, ground := Ground.data }, { on := 16, ground := Ground.data }], guard := none }) (v := ?_) rfl (by kernel_rfl) (by kernel_rfl) (by kernel_rfl) (fun _ _ _ h => h) (Or.inl ⟨by rfl, ?_⟩) (by assumption) ?_; rotate_left; · ((intro w hSw; (try dsimp only at hSw); go_simp) <;> with_reducible rfl)
      try simp only [Act.put, List.setIfInBounds_toArray, List.set_cons_zero, List.set_cons_succ]
      refine wpAnyH_done (by kernel_rfl) ?_ _
      have hX7 := hX5.on bd2
      have hB7 := hB5.on bd2
      have bel7 := bt bel5 bd2
      have st7 := st5.on bd2
      have Z7 := Z5.on bd2
      have ho7 := ho5.on bd2
      obtain ⟨hh0, hh1⟩ := two2 hB7
      go_wp2_with fail
      refine (HD2R.out w7 st7 A3 c3 Z7 hcap.1 hcap.2).mono ?_
      rintro e w8 ⟨⟨A8, c8, rfl, own8⟩, b8⟩
      unfold xv
      have hX8 := hX7.on b8
      have hB8 := hB7.on b8
      have bel8 := bt bel7 b8
      have st8 := st7.on b8
      have Z8 := Z7.on b8
      have ho8 := ho7.on b8
      clear hh0 hh1
      rcases HFR.out with ⟨hq, hF⟩ | ⟨hq, hF⟩
      · have tq := bne_no hq
        rw [hF]
        clear hq hF
        have b9 := fun o => b1alloc w8 o
        go_wp2_with fail
        go_roundw
        case rel => exact ⟨1, by omega, rfl, bt bel8 (b9 _), hB8.on (b9 _), hX8.on (b9 _), st8.on (b9 _), fun _ => ho8.on (b9 _)⟩
        case measure => simp [intOf]
      · have tq := bne_yes hq
        rw [hF]
        clear hq hF
        have b9 := fun o => b1alloc w8 o
        go_wp2_with fail
        go_roundw
        case rel => exact ⟨1, by omega, rfl, bt bel8 (b9 _), hB8.on (b9 _), hX8.on (b9 _), st8.on (b9 _), fun _ => ho8.on (b9 _)⟩
        case measure => simp [intOf]
    · have hSy := hSy (by omega)
      go_wp2_with fail
      have bz : Below wr.heap.size wr wr.drew := (Below.refl _ _).drew
      obtain ⟨hh0, hh1⟩ := two2 hB
      refine wp_region_held_drew (S := (fun w' => (w'.cell? ⟨w.heap.size, 0, none⟩ = some (.int .i64 x.kind) ∧ w'.cell? ⟨w.heap.size, 1, none⟩ = some (.int .u64 (x.life.toNat : Int)) ∧ w'.cell? ⟨w.heap.size, 2, none⟩ = some (.int .i64 x.seq) ∧ w'.cell? ⟨w.heap.size, 3, none⟩ = some (.int .u64 (x.gen.toNat : Int)) ∧ w'.cell? ⟨w.heap.size, 4, none⟩ = some (.slice A x.body.length c)) ∧ (w'.cell? ⟨h, 0, none⟩ = some (.pointer (some ⟨gR, 0, none⟩)) ∧ w'.cell? ⟨h, 1, none⟩ = some (.pointer (some ⟨gS, 0, none⟩))))) (by kernel_rfl) (by exact ⟨five5x (hX.on bz), two2 (hB.on bz)⟩) (fun hHeld => ?_)
      refine wpAnyH_take (i := 0) (oi := { dst := some 39, op := Op.move (Operand.tmp 9), type := 103, pos := "law.go:77", after := #[], guard := none }) (v := ?_) rfl (by kernel_rfl) (by kernel_rfl) (by kernel_rfl) (fun _ _ _ h => h) (Or.inl ⟨by rfl, ?_⟩) (by assumption) ?_; rotate_left; · ((intro w hSw; (try dsimp only at hSw); go_simp) <;> with_reducible rfl)
      try simp only [Act.put, List.setIfInBounds_toArray, List.set_cons_zero, List.set_cons_succ]
      refine wpAnyH_take (i := 1) (oi := { dst := some 40, op := Op.move (Operand.tmp 10), type := 3, pos := "law.go:77", after := #[], guard := none }) (v := ?_) rfl (by kernel_rfl) (by kernel_rfl) (by kernel_rfl) (fun _ _ _ h => h) (Or.inl ⟨by rfl, ?_⟩) (by assumption) ?_; rotate_left; · ((intro w hSw; (try dsimp only at hSw); go_simp) <;> with_reducible rfl)
      try simp only [Act.put, List.setIfInBounds_toArray, List.set_cons_zero, List.set_cons_succ]
      refine wpAnyH_take (i := 2) (oi := { dst := some 41, op := Op.indexAddr 103 (Operand.tmp 39) (Operand.tmp 40), type := 0, pos := "law.go:77", after := #[{ on := 0, ground := Ground.data }, { on := 1, ground := Ground.data }], guard := none }) (v := ?_) rfl (by kernel_rfl) (by kernel_rfl) (by kernel_rfl) (fun _ _ _ h => h) (Or.inl ⟨by rfl, ?_⟩) (by assumption) ?_; rotate_left; · ((intro w hSw; (try dsimp only at hSw); go_simp) <;> with_reducible rfl)
      try simp only [Act.put, List.setIfInBounds_toArray, List.set_cons_zero, List.set_cons_succ]
      refine wpAnyH_take (i := 3) (oi := { dst := some 42, op := Op.load 80 (Operand.tmp 41), type := 80, pos := "law.go:77", after := #[{ on := 2, ground := Ground.data }], guard := none }) (v := ?_) rfl (by kernel_rfl) (by kernel_rfl) (by kernel_rfl) (fun _ _ _ h => h) (Or.inl ⟨by rfl, ?_⟩) (by assumption) ?_; rotate_left; · ((intro w hSw; (try dsimp only at hSw); go_simp) <;> with_reducible rfl)
      try simp only [Act.put, List.setIfInBounds_toArray, List.set_cons_zero, List.set_cons_succ]
      refine wpAnyH_take (i := 4) (oi := { dst := some 43, op := Op.move (Operand.tmp 0), type := 3, pos := "law.go:77", after := #[], guard := none }) (v := ?_) rfl (by kernel_rfl) (by kernel_rfl) (by kernel_rfl) (fun _ _ _ h => h) (Or.inl ⟨by rfl, ?_⟩) (by assumption) ?_; rotate_left; · ((intro w hSw; (try dsimp only at hSw); go_simp) <;> with_reducible rfl)
      try simp only [Act.put, List.setIfInBounds_toArray, List.set_cons_zero, List.set_cons_succ]
      refine wpAnyH_take (i := 5) (oi := { dst := some 44, op := Op.load 83 (Operand.tmp 6), type := 83, pos := "law.go:77", after := #[], guard := none }) (v := ?_) rfl (by kernel_rfl) (by kernel_rfl) (by kernel_rfl) (fun _ _ _ h => h) (Or.inl ⟨by rfl, ?_⟩) (by assumption) ?_; rotate_left; · ((intro w hSw; (try dsimp only at hSw); go_simp) <;> with_reducible rfl)
      try simp only [Act.put, List.setIfInBounds_toArray, List.set_cons_zero, List.set_cons_succ]
      refine wpAnyH_ready (rs := [6]) (by kernel_rfl) (by simp) ?_
      refine AllReadyH.cons (o := { dst := some 45, op := Op.call { callee := Callee.value (Operand.func 59), args := #[Operand.tmp 44], argTypes := #[83] }, type := 77, pos := "law.go:77", after := #[{ on := 5, ground := Ground.data }], guard := none }) rfl (fun K hK => ?_) AllReadyH.nil
      go_simp; (first | ((go_at_call 59; refine (of_any x A c _).mono ?_; rintro e w1 ⟨rfl, b1⟩; have bb1 := bt bz b1)) | ((go_at_call 58; refine (encode_sym p gS bS [] x A c _ (hSy.on bb1) (by simp) ((hr.below (bt' bel bb1)).more (bt' bel bb1).size) Hrt.out).mono ?_; rintro e w2 ⟨A3, c3, rfl, own3, k2, st3⟩; rw [sumAfter_nil, ← HT.out] at st3))); (try (go_wp2_with fail)); refine hK.out _ _ (by first | (first | exact ⟨five5x (hX.on bb1), two2 (hB.on bb1)⟩ | exact ⟨five5x ((hX.on bb1).keepK k2 nx), two2 ((hB.on bb1).keepK k2 nh)⟩) | ((try dsimp only); (first | exact ⟨five5x (hX.on bb1), two2 (hB.on bb1)⟩ | exact ⟨five5x ((hX.on bb1).keepK k2 nx), two2 ((hB.on bb1).keepK k2 nh)⟩))) (fun hHeld => ?_)
      clear hK K
      try simp only [Act.put, List.setIfInBounds_toArray, List.set_cons_zero, List.set_cons_succ]
      refine wpAnyH_ready (rs := [7]) (by kernel_rfl) (by simp) ?_
      refine AllReadyH.cons (o := { dst := some 46, op := Op.call { callee := Callee.value (Operand.func 58), args := #[Operand.tmp 42, Operand.tmp 43, Operand.tmp 45], argTypes := #[80, 3, 77] }, type := 95, pos := "law.go:77", after := #[{ on := 3, ground := Ground.data }, { on := 4, ground := Ground.data }, { on := 6, ground := Ground.data }, { on := 6, ground := Ground.chain }], guard := none }) rfl (fun K hK => ?_) AllReadyH.nil
      go_simp; (first | ((go_at_call 59; refine (of_any x A c _).mono ?_; rintro e w1 ⟨rfl, b1⟩; have bb1 := bt bz b1)) | ((go_at_call 58; refine (encode_sym p gS bS [] x A c _ (hSy.on bb1) (by simp) ((hr.below (bt' bel bb1)).more (bt' bel bb1).size) Hrt.out).mono ?_; rintro e w2 ⟨A3, c3, rfl, own3, k2, st3⟩; rw [sumAfter_nil, ← HT.out] at st3))); (try (go_wp2_with fail)); refine hK.out _ _ (by first | (first | exact ⟨five5x (hX.on bb1), two2 (hB.on bb1)⟩ | exact ⟨five5x ((hX.on bb1).keepK k2 nx), two2 ((hB.on bb1).keepK k2 nh)⟩) | ((try dsimp only); (first | exact ⟨five5x (hX.on bb1), two2 (hB.on bb1)⟩ | exact ⟨five5x ((hX.on bb1).keepK k2 nx), two2 ((hB.on bb1).keepK k2 nh)⟩))) (fun hHeld => ?_)
      clear hK K
      try simp only [Act.put, List.setIfInBounds_toArray, List.set_cons_zero, List.set_cons_succ]
      refine wpAnyH_take (i := 8) (oi := { dst := some 38, op := Op.move (Operand.tmp 46), type := 95, pos := "law.go:77", after := #[{ on := 7, ground := Ground.data }], guard := none }) (v := ?_) rfl (by kernel_rfl) (by kernel_rfl) (by kernel_rfl) (fun _ _ _ h => h) (Or.inl ⟨by rfl, ?_⟩) (by assumption) ?_; rotate_left; · ((intro w hSw; (try dsimp only at hSw); go_simp) <;> with_reducible rfl)
      try simp only [Act.put, List.setIfInBounds_toArray, List.set_cons_zero, List.set_cons_succ]
      refine wpAnyH_take (i := 9) (oi := { dst := some 47, op := Op.extract (Operand.tmp 38) 0, type := 26, pos := "law.go:77", after := #[{ on := 8, ground := Ground.data }], guard := none }) (v := ?_) rfl (by kernel_rfl) (by kernel_rfl) (by kernel_rfl) (fun _ _ _ h => h) (Or.inl ⟨by rfl, ?_⟩) (by assumption) ?_; rotate_left; · ((intro w hSw; (try dsimp only at hSw); go_simp) <;> with_reducible rfl)
      try simp only [Act.put, List.setIfInBounds_toArray, List.set_cons_zero, List.set_cons_succ]
      refine wpAnyH_take (i := 10) (oi := { dst := some 48, op := Op.extract (Operand.tmp 38) 1, type := 43, pos := "law.go:77", after := #[{ on := 8, ground := Ground.data }, { on := 11, ground := Ground.gcOnly Go.Departure.lateStores }], guard := none }) (v := ?_) rfl (by kernel_rfl) (by kernel_rfl) (by kernel_rfl) (fun _ _ _ h => h) (Or.inl ⟨by rfl, ?_⟩) (by assumption) ?_; rotate_left; · ((intro w hSw; (try dsimp only at hSw); go_simp) <;> with_reducible rfl)
      try simp only [Act.put, List.setIfInBounds_toArray, List.set_cons_zero, List.set_cons_succ]
      refine wpAnyH_take (i := 11) (oi := { dst := some 11, op := Op.assign (Operand.tmp 47), type := 26, pos := "law.go:77", after := #[{ on := 9, ground := Ground.data }, { on := 7, ground := Ground.chain }, { on := 0, ground := Ground.phase }, { on := 1, ground := Ground.phase }, { on := 2, ground := Ground.phase }, { on := 3, ground := Ground.phase }, { on := 4, ground := Ground.phase }, { on := 5, ground := Ground.phase }, { on := 6, ground := Ground.phase }, { on := 7, ground := Ground.phase }, { on := 8, ground := Ground.phase }, { on := 9, ground := Ground.phase }, { on := 10, ground := Ground.textOnly Go.Departure.lateStores }], guard := none }) (v := ?_) rfl (by kernel_rfl) (by kernel_rfl) (by kernel_rfl) (fun _ _ _ h => h) (Or.inl ⟨by rfl, ?_⟩) (by assumption) ?_; rotate_left; · ((intro w hSw; (try dsimp only at hSw); go_simp) <;> with_reducible rfl)
      try simp only [Act.put, List.setIfInBounds_toArray, List.set_cons_zero, List.set_cons_succ]
      refine wpAnyH_take (i := 12) (oi := { dst := some 12, op := Op.assign (Operand.tmp 48), type := 43, pos := "law.go:77", after := #[{ on := 10, ground := Ground.data }, { on := 11, ground := Ground.chain }, { on := 0, ground := Ground.phase }, { on := 1, ground := Ground.phase }, { on := 2, ground := Ground.phase }, { on := 3, ground := Ground.phase }, { on := 4, ground := Ground.phase }, { on := 5, ground := Ground.phase }, { on := 6, ground := Ground.phase }, { on := 7, ground := Ground.phase }, { on := 8, ground := Ground.phase }, { on := 9, ground := Ground.phase }, { on := 10, ground := Ground.phase }, { on := 11, ground := Ground.phase }], guard := none }) (v := ?_) rfl (by kernel_rfl) (by kernel_rfl) (by kernel_rfl) (fun _ _ _ h => h) (Or.inl ⟨by rfl, ?_⟩) (by assumption) ?_; rotate_left; · ((intro w hSw; (try dsimp only at hSw); go_simp) <;> with_reducible rfl)
      try simp only [Act.put, List.setIfInBounds_toArray, List.set_cons_zero, List.set_cons_succ]
      refine wpAnyH_done (by kernel_rfl) ?_ _
      clear hh0 hh1
      have hX2 := (hX.on bb1).keepK k2 nx
      have hB2 := (hB.on bb1).keepK k2 nh
      have bel1 := bt' bel bb1
      have bel2 : Below w.heap.size w w2 := bel1.trans (k2.below (fun j hj => by rw [List.mem_singleton] at hj; omega) bel1.size)
      have hcap := own_cap own3
      have Z3 := Rd.own own3
      have hzl := HZS.out
      rw [← HZeS.out] at Z3
      have hR2 := (hRr.on bb1).keepK k2 nr
      obtain ⟨hh0, hh1⟩ := two2 hB2
      go_wp2_with fail
      refine (HD1S.out w2 st3 A3 c3 Z3 hcap.1 hcap.2).mono ?_
      rintro e w4 ⟨⟨A4, c4, rfl, own4⟩, b4⟩
      unfold xv
      clear hh0 hh1
      have hX4 := hX2.on b4
      have hB4 := hB2.on b4
      have bel4 := bt bel2 b4
      have Y5 := Blk.new w4 [.int .i64 x.kind, .int .u64 (x.life.toNat : Int), .int .i64 x.seq, .int .u64 (x.gen.toNat : Int), .slice A4 x.body.length c4] 77
      have b5 := b1alloc w4 (.cells #[.int .i64 x.kind, .int .u64 (x.life.toNat : Int), .int .i64 x.seq, .int .u64 (x.gen.toNat : Int), .slice A4 x.body.length c4] 77)
      have own5 := own_on own4 b5
      have hX5 := hX4.on b5
      have hB5 := hB4.on b5
      have bel5 := bt bel4 b5
      have st5 := (st3.on b4).on b5
      have Z5 := (Z3.on b4).on b5
      have ho5 := (hR2.on b4).on b5
      go_wp2_with fail
      obtain ⟨w5, hw5⟩ : ∃ w5, w5 = w4.alloc (.cells #[.int .i64 x.kind, .int .u64 (x.life.toNat : Int), .int .i64 x.seq, .int .u64 (x.gen.toNat : Int), .slice A4 x.body.length c4] 77) := ⟨_, rfl⟩
      rw [← hw5] at Y5 own5 hX5 hB5 bel5 st5 Z5 ho5 ⊢
      clear hw5 b5
      have bd : Below w5.heap.size w5 w5.drew := (Below.refl _ _).drew
      refine wp_region_held_drew (S := (fun w' => (w'.cell? ⟨w4.heap.size, 0, none⟩ = some (.int .i64 x.kind) ∧ w'.cell? ⟨w4.heap.size, 1, none⟩ = some (.int .u64 (x.life.toNat : Int)) ∧ w'.cell? ⟨w4.heap.size, 2, none⟩ = some (.int .i64 x.seq) ∧ w'.cell? ⟨w4.heap.size, 3, none⟩ = some (.int .u64 (x.gen.toNat : Int)) ∧ w'.cell? ⟨w4.heap.size, 4, none⟩ = some (.slice A4 x.body.length c4)) ∧ (w'.cell? ⟨w.heap.size, 0, none⟩ = some (.int .i64 x.kind) ∧ w'.cell? ⟨w.heap.size, 1, none⟩ = some (.int .u64 (x.life.toNat : Int)) ∧ w'.cell? ⟨w.heap.size, 2, none⟩ = some (.int .i64 x.seq) ∧ w'.cell? ⟨w.heap.size, 3, none⟩ = some (.int .u64 (x.gen.toNat : Int)) ∧ w'.cell? ⟨w.heap.size, 4, none⟩ = some (.slice A x.body.length c)))) (by kernel_rfl) (by exact ⟨five5x (Y5.on bd), five5x (hX5.on bd)⟩) (fun hHeld => ?_)
      refine wpAnyH_take (i := 0) (oi := { dst := some 59, op := Op.move (Operand.tmp 12), type := 43, pos := "law.go:79", after := #[], guard := none }) (v := ?_) rfl (by kernel_rfl) (by kernel_rfl) (by kernel_rfl) (fun _ _ _ h => h) (Or.inl ⟨by rfl, ?_⟩) (by assumption) ?_; rotate_left; · ((intro w hSw; (try dsimp only at hSw); go_simp) <;> with_reducible rfl)
      try simp only [Act.put, List.setIfInBounds_toArray, List.set_cons_zero, List.set_cons_succ]
      refine wpAnyH_take (i := 1) (oi := { dst := some 60, op := Op.binOp BinOp.neq 43 (Operand.tmp 59) (Operand.const (Value.int IntKind.i64 0)) 43, type := 4, pos := "law.go:79", after := #[{ on := 0, ground := Ground.data }], guard := none }) (v := ?_) rfl (by kernel_rfl) (by kernel_rfl) (by kernel_rfl) (fun _ _ _ h => h) (Or.inl ⟨by rfl, ?_⟩) (by assumption) ?_; rotate_left; · ((intro w hSw; (try dsimp only at hSw); go_simp) <;> with_reducible rfl)
      try simp only [Act.put, List.setIfInBounds_toArray, List.set_cons_zero, List.set_cons_succ]
      refine wpAnyH_take (i := 2) (oi := { dst := some 61, op := Op.move (Operand.tmp 60), type := 4, pos := "law.go:79", after := #[{ on := 1, ground := Ground.data }], guard := none }) (v := ?_) rfl (by kernel_rfl) (by kernel_rfl) (by kernel_rfl) (fun _ _ _ h => h) (Or.inl ⟨by rfl, ?_⟩) (by assumption) ?_; rotate_left; · ((intro w hSw; (try dsimp only at hSw); go_simp) <;> with_reducible rfl)
      try simp only [Act.put, List.setIfInBounds_toArray, List.set_cons_zero, List.set_cons_succ]
      refine wpAnyH_take (i := 3) (oi := { dst := some 62, op := Op.move (Operand.tmp 14), type := 43, pos := "law.go:79", after := #[{ on := 2, ground := Ground.guard }], guard := some (2, false) }) (v := ?_) rfl (by kernel_rfl) (by kernel_rfl) (by kernel_rfl) (fun _ _ _ h => h) (Or.inl ⟨by rfl, ?_⟩) (by assumption) ?_; rotate_left; · ((intro w hSw; (try dsimp only at hSw); go_simp) <;> with_reducible rfl)
      try simp only [Act.put, List.setIfInBounds_toArray, List.set_cons_zero, List.set_cons_succ]
      refine wpAnyH_take (i := 4) (oi := { dst := some 63, op := Op.binOp BinOp.neq 43 (Operand.tmp 62) (Operand.const (Value.int IntKind.i64 0)) 43, type := 4, pos := "law.go:79", after := #[{ on := 3, ground := Ground.data }, { on := 2, ground := Ground.guard }], guard := some (2, false) }) (v := ?_) rfl (by kernel_rfl) (by kernel_rfl) (by kernel_rfl) (fun _ _ _ h => h) (Or.inl ⟨by rfl, ?_⟩) (by assumption) ?_; rotate_left; · ((intro w hSw; (try dsimp only at hSw); go_simp) <;> with_reducible rfl)
      try simp only [Act.put, List.setIfInBounds_toArray, List.set_cons_zero, List.set_cons_succ]
      refine wpAnyH_take (i := 5) (oi := { dst := some 64, op := Op.pick (Operand.tmp 61) (Operand.const (Value.bool true)) (Operand.tmp 63), type := 4, pos := "law.go:79", after := #[{ on := 2, ground := Ground.data }, { on := 4, ground := Ground.data }], guard := none }) (v := ?_) rfl (by kernel_rfl) (by kernel_rfl) (by kernel_rfl) (fun _ _ _ h => h) (Or.inl ⟨by rfl, ?_⟩) (by assumption) ?_; rotate_left; · ((intro w hSw; (try dsimp only at hSw); go_simp) <;> with_reducible rfl)
      try simp only [Act.put, List.setIfInBounds_toArray, List.set_cons_zero, List.set_cons_succ]
      refine wpAnyH_take (i := 6) (oi := { dst := some 65, op := Op.move (Operand.tmp 64), type := 4, pos := "law.go:79", after := #[{ on := 5, ground := Ground.data }, { on := 2, ground := Ground.chain }], guard := none }) (v := ?_) rfl (by kernel_rfl) (by kernel_rfl) (by kernel_rfl) (fun _ _ _ h => h) (Or.inl ⟨by rfl, ?_⟩) (by assumption) ?_; rotate_left; · ((intro w hSw; (try dsimp only at hSw); go_simp) <;> with_reducible rfl)
      try simp only [Act.put, List.setIfInBounds_toArray, List.set_cons_zero, List.set_cons_succ]
      refine wpAnyH_take (i := 7) (oi := { dst := some 66, op := Op.load 77 (Operand.tmp 13), type := 77, pos := "law.go:79", after := #[{ on := 6, ground := Ground.guard }], guard := some (6, false) }) (v := ?_) rfl (by kernel_rfl) (by kernel_rfl) (by kernel_rfl) (fun _ _ _ h => h) (Or.inl ⟨by rfl, ?_⟩) (by assumption) ?_; rotate_left; · ((intro w hSw; (try dsimp only at hSw); go_simp) <;> with_reducible rfl)
      try simp only [Act.put, List.setIfInBounds_toArray, List.set_cons_zero, List.set_cons_succ]
      refine wpAnyH_take (i := 9) (oi := { dst := some 68, op := Op.load 83 (Operand.tmp 6), type := 83, pos := "law.go:79", after := #[{ on := 6, ground := Ground.guard }], guard := some (6, false) }) (v := ?_) rfl (by kernel_rfl) (by kernel_rfl) (by kernel_rfl) (fun _ _ _ h => h) (Or.inl ⟨by rfl, ?_⟩) (by assumption) ?_; rotate_left; · ((intro w hSw; (try dsimp only at hSw); go_simp) <;> with_reducible rfl)
      try simp only [Act.put, List.setIfInBounds_toArray, List.set_cons_zero, List.set_cons_succ]
      refine wpAnyH_ready (rs := [8]) (by kernel_rfl) (by simp) ?_
      refine AllReadyH.cons (o := { dst := some 67, op := Op.call { callee := Callee.value (Operand.func 52), args := #[Operand.tmp 66], argTypes := #[77] }, type := 83, pos := "law.go:79", after := #[{ on := 7, ground := Ground.data }, { on := 6, ground := Ground.chain }, { on := 6, ground := Ground.guard }], guard := some (6, false) }) rfl (fun K hK => ?_) AllReadyH.nil
      go_simp; (first | ((go_at_call 52; refine (back_any x A4 c4 _).mono ?_; rintro e w6 ⟨rfl, b6⟩; have bd1 := bt bd b6)) | ((go_at_call 51; refine (rsame_any x x A4 A c4 c _ ((Rd.own own5).on bd1) ((hr.below (bt bel5 bd1)).more (bt bel5 bd1).size) hxl hxl).mono ?_; rintro e w7 ⟨rfl, b7⟩; rw [same_self]; have bd2 := bt bd1 b7))); (try (go_wp2_with fail)); refine hK.out _ _ (by first | (first | exact ⟨five5x (Y5.on bd1), five5x (hX5.on bd1)⟩ | exact ⟨five5x (Y5.on bd2), five5x (hX5.on bd2)⟩) | ((try dsimp only); (first | exact ⟨five5x (Y5.on bd1), five5x (hX5.on bd1)⟩ | exact ⟨five5x (Y5.on bd2), five5x (hX5.on bd2)⟩))) (fun hHeld => ?_)
      clear hK K
      try simp only [Act.put, List.setIfInBounds_toArray, List.set_cons_zero, List.set_cons_succ]
      refine wpAnyH_ready (rs := [10]) (by kernel_rfl) (by simp) ?_
      refine AllReadyH.cons (o := { dst := some 69, op := Op.call { callee := Callee.value (Operand.func 51), args := #[Operand.tmp 67, Operand.tmp 68], argTypes := #[83, 83] }, type := 4, pos := "law.go:79", after := #[{ on := 8, ground := Ground.data }, { on := 9, ground := Ground.data }, { on := 8, ground := Ground.chain }, { on := 6, ground := Ground.guard }], guard := some (6, false) }) rfl (fun K hK => ?_) AllReadyH.nil
      go_simp; (first | ((go_at_call 52; refine (back_any x A4 c4 _).mono ?_; rintro e w6 ⟨rfl, b6⟩; have bd1 := bt bd b6)) | ((go_at_call 51; refine (rsame_any x x A4 A c4 c _ ((Rd.own own5).on bd1) ((hr.below (bt bel5 bd1)).more (bt bel5 bd1).size) hxl hxl).mono ?_; rintro e w7 ⟨rfl, b7⟩; rw [same_self]; have bd2 := bt bd1 b7))); (try (go_wp2_with fail)); refine hK.out _ _ (by first | (first | exact ⟨five5x (Y5.on bd1), five5x (hX5.on bd1)⟩ | exact ⟨five5x (Y5.on bd2), five5x (hX5.on bd2)⟩) | ((try dsimp only); (first | exact ⟨five5x (Y5.on bd1), five5x (hX5.on bd1)⟩ | exact ⟨five5x (Y5.on bd2), five5x (hX5.on bd2)⟩))) (fun hHeld => ?_)
      clear hK K
      try simp only [Act.put, List.setIfInBounds_toArray, List.set_cons_zero, List.set_cons_succ]
      refine wpAnyH_take (i := 11) (oi := { dst := some 70, op := Op.unOp UnOp.not 4 (Operand.tmp 69), type := 4, pos := "law.go:79", after := #[{ on := 10, ground := Ground.data }, { on := 6, ground := Ground.guard }], guard := some (6, false) }) (v := ?_) rfl (by kernel_rfl) (by kernel_rfl) (by kernel_rfl) (fun _ _ _ h => h) (Or.inl ⟨by rfl, ?_⟩) (by assumption) ?_; rotate_left; · ((intro w hSw; (try dsimp only at hSw); go_simp) <;> with_reducible rfl)
      try simp only [Act.put, List.setIfInBounds_toArray, List.set_cons_zero, List.set_cons_succ]
      refine wpAnyH_take (i := 12) (oi := { dst := some 71, op := Op.pick (Operand.tmp 65) (Operand.const (Value.bool true)) (Operand.tmp 70), type := 4, pos := "law.go:79", after := #[{ on := 6, ground := Ground.data }, { on := 11, ground := Ground.data }], guard := none }) (v := ?_) rfl (by kernel_rfl) (by kernel_rfl) (by kernel_rfl) (fun _ _ _ h => h) (Or.inl ⟨by rfl, ?_⟩) (by assumption) ?_; rotate_left; · ((intro w hSw; (try dsimp only at hSw); go_simp) <;> with_reducible rfl)
      try simp only [Act.put, List.setIfInBounds_toArray, List.set_cons_zero, List.set_cons_succ]
      refine wpAnyH_take (i := 13) (oi := { dst := some 72, op := Op.move (Operand.tmp 71), type := 4, pos := "law.go:79", after := #[{ on := 12, ground := Ground.data }, { on := 10, ground := Ground.chain }], guard := none }) (v := ?_) rfl (by kernel_rfl) (by kernel_rfl) (by kernel_rfl) (fun _ _ _ h => h) (Or.inl ⟨by rfl, ?_⟩) (by assumption) ?_; rotate_left; · ((intro w hSw; (try dsimp only at hSw); go_simp) <;> with_reducible rfl)
      try simp only [Act.put, List.setIfInBounds_toArray, List.set_cons_zero, List.set_cons_succ]
      refine wpAnyH_take (i := 14) (oi := { dst := some 73, op := Op.move (Operand.tmp 11), type := 26, pos := "law.go:79", after := #[{ on := 13, ground := Ground.guard }], guard := some (13, false) }) (v := ?_) rfl (by kernel_rfl) (by kernel_rfl) (by kernel_rfl) (fun _ _ _ h => h) (Or.inl ⟨by rfl, ?_⟩) (by assumption) ?_; rotate_left; · ((intro w hSw; (try dsimp only at hSw); go_simp) <;> with_reducible rfl)
      try simp only [Act.put, List.setIfInBounds_toArray, List.set_cons_zero, List.set_cons_succ]
      refine wpAnyH_take (i := 15) (oi := { dst := some 74, op := Op.call { callee := Callee.builtin Builtin.len, args := #[Operand.tmp 73], argTypes := #[26] }, type := 3, pos := "law.go:79", after := #[{ on := 14, ground := Ground.data }, { on := 13, ground := Ground.guard }], guard := some (13, false) }) (v := ?_) rfl (by kernel_rfl) (by kernel_rfl) (by kernel_rfl) (fun _ _ _ h => h) (Or.inl ⟨by rfl, ?_⟩) (by assumption) ?_; rotate_left; · ((intro w hSw; (try dsimp only at hSw); go_simp) <;> with_reducible rfl)
      try simp only [Act.put, List.setIfInBounds_toArray, List.set_cons_zero, List.set_cons_succ]
      refine wpAnyH_take (i := 16) (oi := { dst := some 75, op := Op.binOp BinOp.neq 3 (Operand.tmp 74) (Operand.const (Value.int IntKind.i64 512)) 3, type := 4, pos := "law.go:79", after := #[{ on := 15, ground := Ground.data }, { on := 13, ground := Ground.guard }], guard := some (13, false) }) (v := ?_) rfl (by kernel_rfl) (by kernel_rfl) (by kernel_rfl) (fun _ _ _ h => h) (Or.inl ⟨by rfl, ?_⟩) (by assumption) ?_; rotate_left; · ((intro w hSw; (try dsimp only at hSw); go_simp) <;> with_reducible rfl)
      try simp only [Act.put, List.setIfInBounds_toArray, List.set_cons_zero, List.set_cons_succ]
      refine wpAnyH_take (i := 17) (oi := { dst := some 76, op := Op.pick (Operand.tmp 72) (Operand.const (Value.bool true)) (Operand.tmp 75), type := 4, pos := "law.go:79", after := #[{ on := 13, ground := Ground.data }, { on := 16, ground := Ground.data }], guard := none }) (v := ?_) rfl (by kernel_rfl) (by kernel_rfl) (by kernel_rfl) (fun _ _ _ h => h) (Or.inl ⟨by rfl, ?_⟩) (by assumption) ?_; rotate_left; · ((intro w hSw; (try dsimp only at hSw); go_simp) <;> with_reducible rfl)
      try simp only [Act.put, List.setIfInBounds_toArray, List.set_cons_zero, List.set_cons_succ]
      refine wpAnyH_done (by kernel_rfl) ?_ _
      have hX7 := hX5.on bd2
      have hB7 := hB5.on bd2
      have bel7 := bt bel5 bd2
      have st7 := st5.on bd2
      have Z7 := Z5.on bd2
      have ho7 := ho5.on bd2
      obtain ⟨hh0, hh1⟩ := two2 hB7
      go_wp2_with fail
      refine (HD2S.out w7 st7 A3 c3 Z7 hcap.1 hcap.2).mono ?_
      rintro e w8 ⟨⟨A8, c8, rfl, own8⟩, b8⟩
      unfold xv
      have hX8 := hX7.on b8
      have hB8 := hB7.on b8
      have bel8 := bt bel7 b8
      have st8 := st7.on b8
      have Z8 := Z7.on b8
      have ho8 := ho7.on b8
      clear hh0 hh1
      rcases HFS.out with ⟨hq, hF⟩ | ⟨hq, hF⟩
      · have tq := bne_no hq
        rw [hF]
        clear hq hF
        have b9 := fun o => b1alloc w8 o
        have hB9 := fun o => hB8.on (b9 o)
        by_cases hbz : b = ZS
        · have HSm := Lib.hid (R1.sameB_of hbz)
          clear hbz
          go_wp2_with (go_at_call 19; refine (R1.same_any B A3 b ZS _ _ d c3 _ (by first | rfl | exact H5.out.symm) HZS.out.symm ((hs.below (bt bel8 (b9 _))).more (bt bel8 (b9 _)).size) (Z8.on (b9 _)) (by omega) (by rw [HZS.out]; omega)).mono ?_; rintro e w10 ⟨rfl, b10⟩; rw [HSm.out])
          go_roundw
          case rel => exact ⟨2, by omega, rfl, bt (bt bel8 (b9 _)) b10, (hB9 _).on b10, (hX8.on (b9 _)).on b10, (ho8.on (b9 _)).on b10, fun h => absurd h (by omega)⟩
          case measure => simp [intOf]
        · have HSm := Lib.hid (show R1.sameB b ZS = false by unfold R1.sameB; rw [decide_eq_false_iff_not]; exact hbz)
          have hne := Lib.hid (HNe.out hbz)
          obtain ⟨y11, f11, hd11⟩ : ∃ y f, Sec.decode (ckS [T] b) p b = (y, f) := ⟨_, _, rfl⟩
          have hf11 := hne.out
          rw [hd11] at hf11
          have tf := beq_no hf11
          have Hd11 := Lib.hid hd11
          clear hbz hd11 hf11
          go_wp2_with (go_at_call 19; refine (R1.same_any B A3 b ZS _ _ d c3 _ (by first | rfl | exact H5.out.symm) HZS.out.symm ((hs.below (bt bel8 (b9 _))).more (bt bel8 (b9 _)).size) (Z8.on (b9 _)) (by omega) (by rw [HZS.out]; omega)).mono ?_; rintro e w10 ⟨rfl, b10⟩; rw [HSm.out]; have hB10 := (hB9 _).on b10; obtain ⟨hh0, hh1⟩ := two2 hB10)
          refine (HD3.out w10 ((st8.on (b9 _)).on b10) (bt (bt bel8 (b9 _)) b10) _ (by first | rfl | exact H5.out.symm)).mono ?_
          rintro e w11 ⟨⟨A11, c11, rfl, own11⟩, b11⟩
          rw [Hd11.out]
          unfold xv
          have bel11 := bt (bt (bt bel8 (b9 _)) b10) b11
          have hB11 := hB10.on b11
          have hX11 := ((hX8.on (b9 _)).on b10).on b11
          have ho11 := ((ho8.on (b9 _)).on b10).on b11
          have b12 := fun o => b1alloc w11 o
          go_wp2_with fail
          go_roundw
          case rel => exact ⟨2, by omega, rfl, bt bel11 (b12 _), hB11.on (b12 _), hX11.on (b12 _), ho11.on (b12 _), fun h => absurd h (by omega)⟩
          case measure => simp [intOf]
      · have tq := bne_yes hq
        rw [hF]
        clear hq hF
        have b9 := fun o => b1alloc w8 o
        have hB9 := fun o => hB8.on (b9 o)
        by_cases hbz : b = ZS
        · have HSm := Lib.hid (R1.sameB_of hbz)
          clear hbz
          go_wp2_with (go_at_call 19; refine (R1.same_any B A3 b ZS _ _ d c3 _ (by first | rfl | exact H5.out.symm) HZS.out.symm ((hs.below (bt bel8 (b9 _))).more (bt bel8 (b9 _)).size) (Z8.on (b9 _)) (by omega) (by rw [HZS.out]; omega)).mono ?_; rintro e w10 ⟨rfl, b10⟩; rw [HSm.out])
          go_roundw
          case rel => exact ⟨2, by omega, rfl, bt (bt bel8 (b9 _)) b10, (hB9 _).on b10, (hX8.on (b9 _)).on b10, (ho8.on (b9 _)).on b10, fun h => absurd h (by omega)⟩
          case measure => simp [intOf]
        · have HSm := Lib.hid (show R1.sameB b ZS = false by unfold R1.sameB; rw [decide_eq_false_iff_not]; exact hbz)
          have hne := Lib.hid (HNe.out hbz)
          obtain ⟨y11, f11, hd11⟩ : ∃ y f, Sec.decode (ckS [T] b) p b = (y, f) := ⟨_, _, rfl⟩
          have hf11 := hne.out
          rw [hd11] at hf11
          have tf := beq_no hf11
          have Hd11 := Lib.hid hd11
          clear hbz hd11 hf11
          go_wp2_with (go_at_call 19; refine (R1.same_any B A3 b ZS _ _ d c3 _ (by first | rfl | exact H5.out.symm) HZS.out.symm ((hs.below (bt bel8 (b9 _))).more (bt bel8 (b9 _)).size) (Z8.on (b9 _)) (by omega) (by rw [HZS.out]; omega)).mono ?_; rintro e w10 ⟨rfl, b10⟩; rw [HSm.out]; have hB10 := (hB9 _).on b10; obtain ⟨hh0, hh1⟩ := two2 hB10)
          refine (HD3.out w10 ((st8.on (b9 _)).on b10) (bt (bt bel8 (b9 _)) b10) _ (by first | rfl | exact H5.out.symm)).mono ?_
          rintro e w11 ⟨⟨A11, c11, rfl, own11⟩, b11⟩
          rw [Hd11.out]
          unfold xv
          have bel11 := bt (bt (bt bel8 (b9 _)) b10) b11
          have hB11 := hB10.on b11
          have hX11 := ((hX8.on (b9 _)).on b10).on b11
          have ho11 := ((ho8.on (b9 _)).on b10).on b11
          have b12 := fun o => b1alloc w11 o
          go_wp2_with fail
          go_roundw
          case rel => exact ⟨2, by omega, rfl, bt bel11 (b12 _), hB11.on (b12 _), hX11.on (b12 _), ho11.on (b12 _), fun h => absurd h (by omega)⟩
          case measure => simp [intOf]
    · go_wp2_with (go_at_call 44; refine (alive_any _).mono ?_; rintro e w2 ⟨rfl, b2⟩)
      go_ret
      exact ⟨rfl, bt bel b2⟩
set_option maxRecDepth 100000 in
theorem lifted (os : Os) (started : os.Started) (H : Type) (enc : TypeId × Value → H) :
    ReturnsInHanded {} Try.checked os 11 .any (Rows.sectorBackSpec.pre6 enc Try.prog Try.f11 Rows.sectorBackRow.domain false) (Rows.sectorBackSpec.post enc Try.prog Try.f11 false true false false) := by
  refine returnsInHanded_of_change (C := Try.checked) own started (by kernel_rfl) Try.func11
    (ChangeSpec.witness6 (enc := enc) (C := Try.checked) false ⟨#[], #[.int .i64 0, .int .i64 0, .agg #[.int .i64 0, .int .u64 0, .int .i64 0, .int .u64 0, .slice none 0 0], .slice none 0 0], []⟩ 8 (by kernel_rfl) (by kernel_rfl) (by kernel_rfl) (by kernel_rfl)) ?_
  intro W base args ds gs before hval0 hW hcnd _
  have hval : ∀ (j : Nat) t v, Try.f11.params[j]? = some t → args[j]? = some v → Value.okWide Try.prog W .any base t v := hval0
  have hW' := hW
  obtain ⟨p, q, hA0, hV, rfl, hfz, hnd⟩ := hW
  have hA : DataW.TrodAll enc Try.prog W 0 (fun _ => true) true Try.f11.params.toList args.toList ds p := hA0
  rw [Try.params11] at hA hval
  obtain ⟨v0, vs0, d0, ds0, p0, q0, hargs, rfl, rfl, h0, r0⟩ := trodAll_cons hA
  obtain ⟨v1, vs1, d1, ds1, p1, q1, rfl, rfl, rfl, h1, r1⟩ := trodAll_cons r0
  obtain ⟨v2, vs2, d2, ds2, p2, q2, rfl, rfl, rfl, h2, r2⟩ := trodAll_cons r1
  obtain ⟨v3, vs3, d3, ds3, p3, q3, rfl, rfl, rfl, h3, r3⟩ := trodAll_cons r2
  obtain ⟨rfl, rfl, rfl⟩ := trodAll_nil r3
  obtain rfl : args = #[v0, v1, v2, v3] := by cases args; simp_all
  obtain ⟨rfl, rfl⟩ := trodVars_none hV
  have k0 := h0
  have lt0 := places_lt k0
  obtain ⟨n0, rfl, _, _, w0⟩ := open_int Try.underlying3 (hval 0 3 v0 rfl rfl) h0
  have k1 := h1
  have lt1 := places_lt k1
  obtain ⟨n1, rfl, _, _, w1⟩ := open_int Try.underlying3 (hval 1 3 v1 rfl rfl) h1
  have k2 := h2
  have lt2 := places_lt k2
  obtain ⟨x2, a2, cap2, rfl, rr2, rc2, rm2⟩ := sector_of (hval 2 83 v2 rfl rfl) h2
  have k3 := h3
  have lt3 := places_lt k3
  obtain ⟨a3, len3, cap3, rfl⟩ := okWide_slice Try.underlying26 (hval 3 26 v3 rfl rfl)
  obtain ⟨fuel3, hf3⟩ := h3
  obtain ⟨l3, rfl, rr3, rc3, rm3⟩ := bytes_of rfl Try.underlying26 Try.underlying5 (by kernel_rfl) hf3
  clear hA0 hval0
  refine (walk n0 n1 x2 a2 cap2 a3 l3 cap3 W (wfi w0).1 (wfi w0).2 (wfi w1).1 (wfi w1).2 rr2 rc2 rm2 rr3 rc3 rm3).mono fun e W' ⟨he, bel⟩ => ?_
  subst he
  exact ⟨_, rfl, _, _, _, [], _, [], hW', trodAll_mk1 (shut_bool Try.underlying4 _), (trodAll_cons_mk (Below.trod laidOut (by kernel_rfl) (of_decide_eq_true (by kernel_rfl)) k0 bel lt0) (trodAll_cons_mk (Below.trod laidOut (by kernel_rfl) (of_decide_eq_true (by kernel_rfl)) k1 bel lt1) (trodAll_cons_mk (Below.trod laidOut (by kernel_rfl) (of_decide_eq_true (by kernel_rfl)) k2 bel lt2) (trodAll_cons_mk (Below.trod laidOut (by kernel_rfl) (of_decide_eq_true (by kernel_rfl)) k3 bel lt3) trodAll_mk0)))), rfl, bel.frame _, fun h => by cases h⟩

theorem proved : Rows.SectorBackSaid :=
  OpenClaim.holds_of_wide 11 Try.f11 rfl rfl rfl rfl rfl rfl rfl ⟨rfl, rfl, rfl, rfl, rfl⟩ rfl rfl rfl rfl rfl (by kernel_rfl) Try.func11 (by kernel_rfl)
    (of_decide_eq_true (by kernel_rfl)) (by unfold Func.isWrapper; first | (rw [if_pos (by decide +kernel)]; kernel_rfl) | (rw [if_neg (by decide +kernel)]; exact ⟨rfl, rfl⟩))
    (fun os started H enc _ => lifted os started H enc)
#print axioms proved
end Go.Proofs.Ytdkcdojcglmlbaa.SectorBack
