/- The key above all: root.Get and Settle and what they come to. -/
import Derived.Test.YtkapamolligmkaaRt2
namespace Go.Proofs.Ytkapamolligmkaa.Rt
open Go.RowKit
open Go.Proofs.Ytkapamolligmkaa.Disk (St DAt Did write_any flush_any read_any New8 Told8)
open Go.Proofs.Ytkapamolligmkaa.Sec (X SymAt text sumOf sumAfter ckS blankB rightF encode_sym decode_sym isBlank_any right_0 xv RetX X0 five5x)
set_option linter.unusedVariables false
set_option maxRecDepth 100000
theorem _root_.Go.Proofs.Ytkapamolligmkaa.Box.on' {w w' : World} {g : Nat} {v : Value} (h : Box w g v) (b : Below w.heap.size w w') : Box w' g v := h.below b h.lt
/-- is what was read the root of a gen? -/
def isRoot (gen : UInt64) (d : X × Int) : Bool := decide (d.2 = 0) && decide (d.1.kind = 1) && decide (d.1.life = 0) && decide (d.1.seq = 0) && decide (d.1.gen = gen) && decide (d.1.body.length = 32)
def dec (l : List (List UInt8)) (gen : UInt64) (b : List UInt8) : X × Int := Sec.decode (ckS l b) (place gen) b
/-- the key of a gen -/
def got (l : List (List UInt8)) (s : St) (gen : UInt64) : List UInt8 × Int :=
  if (Disk.read s (place gen)).2 ≠ 0 then ([], (Disk.read s (place gen)).2)
  else if isRoot gen (dec l gen (Disk.read s (place gen)).1) = true then ((dec l gen (Disk.read s (place gen)).1).1.body, 0) else ([], 11)
set_option maxHeartbeats 1000000 in
theorem get1_any (gen : UInt64) (d : X × Int) (A : Option Addr) (c : Nat) (a0 a1 a2 : Nat) (w : World) (h0 : w.cell? ⟨a0, 0, none⟩ = some (.int .i64 d.2)) (h1 : Blk w a1 [.int .i64 d.1.kind, .int .u64 (d.1.life.toNat : Int), .int .i64 d.1.seq, .int .u64 (d.1.gen.toNat : Int), .slice A d.1.body.length c]) (h2 : w.cell? ⟨a2, 0, none⟩ = some (.int .u64 (gen.toNat : Int))) :
    Calls Try.prog 29 #[.pointer (some ⟨a0, 0, none⟩), .pointer (some ⟨a1, 0, none⟩), .pointer (some ⟨a2, 0, none⟩)] w fun e w' => e = .returned (.bool (isRoot gen d)) ∧ w = w' := by
  obtain ⟨z0, z1, z2, z3, z4⟩ := five5x h1
  by_cases e0 : d.2 = 0
  rotate_left
  · have hn := Lib.hid (show isRoot gen d = false by simp [isRoot, e0])
    have t0 := beq_no e0
    clear e0
    go_enter Try.func29, Try.ntmps29
    go_wp2
    go_ret
    exact ⟨ret_bool hn.out.symm, rfl⟩
  have t0 := beq_yes e0
  by_cases e1 : d.1.kind = 1
  rotate_left
  · have hn := Lib.hid (show isRoot gen d = false by simp [isRoot, e1])
    have t1 := beq_no e1
    clear e0 e1
    go_enter Try.func29, Try.ntmps29
    go_wp2
    go_ret
    exact ⟨ret_bool hn.out.symm, rfl⟩
  have t1 := beq_yes e1
  by_cases e2 : d.1.life = 0
  rotate_left
  · have hn := Lib.hid (show isRoot gen d = false by simp [isRoot, e2])
    have t2 := beq_no (show (d.1.life.toNat : Int) ≠ 0 from fun e => e2 (UInt64.toNat_inj.1 (by rw [show (0 : UInt64).toNat = 0 from rfl]; omega)))
    clear e0 e1 e2
    go_enter Try.func29, Try.ntmps29
    go_wp2
    go_ret
    exact ⟨ret_bool hn.out.symm, rfl⟩
  have t2 := beq_yes (show (d.1.life.toNat : Int) = 0 by rw [e2]; rfl)
  by_cases e3 : d.1.seq = 0
  rotate_left
  · have hn := Lib.hid (show isRoot gen d = false by simp [isRoot, e3])
    have t3 := beq_no e3
    clear e0 e1 e2 e3
    go_enter Try.func29, Try.ntmps29
    go_wp2
    go_ret
    exact ⟨ret_bool hn.out.symm, rfl⟩
  have t3 := beq_yes e3
  by_cases e4 : d.1.gen = gen
  rotate_left
  · have hn := Lib.hid (show isRoot gen d = false by simp [isRoot, e4])
    have t4 := beq_no (show (d.1.gen.toNat : Int) ≠ (gen.toNat : Int) from fun e => e4 (UInt64.toNat_inj.1 (by omega)))
    clear e0 e1 e2 e3 e4
    go_enter Try.func29, Try.ntmps29
    go_wp2
    go_ret
    exact ⟨ret_bool hn.out.symm, rfl⟩
  have t4 := beq_yes (show (d.1.gen.toNat : Int) = (gen.toNat : Int) by rw [e4])
  by_cases e5 : d.1.body.length = 32
  · have hn := Lib.hid (show isRoot gen d = true by simp [isRoot, e0, e1, e2, e3, e4, e5])
    have t5 := beq_yes (show (d.1.body.length : Int) = 32 by omega)
    clear e0 e1 e2 e3 e4 e5
    go_enter Try.func29, Try.ntmps29
    go_wp2
    go_ret
    exact ⟨ret_bool hn.out.symm, rfl⟩
  · have hn := Lib.hid (show isRoot gen d = false by simp [isRoot, e5])
    have t5 := beq_no (show (d.1.body.length : Int) ≠ 32 by omega)
    clear e0 e1 e2 e3 e4 e5
    go_enter Try.func29, Try.ntmps29
    go_wp2
    go_ret
    exact ⟨ret_bool hn.out.symm, rfl⟩
theorem getD_nil (v : Value) (m : Int) (w : World) : Calls Try.prog 10 #[.pointer none, v, .int .u64 m] w fun e w' => e = .returned (.tuple #[.slice none 0 0, .int .i64 1]) ∧ Below w.heap.size w w' := by
  go_enter Try.func10, Try.ntmps10
  go_wp2
  go_ret2
  exact ⟨rfl, b1alloc _ _⟩
/-- new bytes and a fault come back -/
def RetG (w : World) (r : List UInt8 × Int) (e : Ending) (w' : World) : Prop := ∃ A c, e = .returned (.tuple #[.slice A r.1.length c, .int .i64 r.2]) ∧ r.1.length ≤ c ∧ c ≤ maxLen ∧ ∀ fp, (∀ j ∈ fp, j < w.heap.size) → RdN w' fp A (r.1.map e8)
set_option maxHeartbeats 1000000 in
theorem get_any (g : Nat) (fp : List Nat) (s : St) (gS bS : Nat) (l : List (List UInt8)) (gen : UInt64) (w : World) (h : Both w g fp s gS bS l) (hl : l.length ≤ 1000000) (hs : s.sz ≤ 90000000) :
    Calls Try.prog 10 #[.pointer (some ⟨g, 0, none⟩), .pointer (some ⟨gS, 0, none⟩), .int .u64 (gen.toNat : Int)] w fun e w' => RetG w (got l s gen) e w' ∧ Below w.heap.size w w' := by
  have hR := fun W (bW : Below w.heap.size w W) => read_any g fp s (place gen) W (h.disk.on bW) (by omega)
  have hlen : (Disk.read s (place gen)).1.length ≤ 100000 := by
    unfold Disk.read
    split
    · simp
    · split
      · simp
      · rw [Disk.kept_len (n := s.size) (fun x hx => (List.mem_append.1 hx).elim (h.disk.ok.all x) (h.disk.ok.pend x))]; omega
  unfold got dec
  have hp := place_ok gen
  obtain ⟨r, hr⟩ : ∃ r, r = Disk.read s (place gen) := ⟨_, rfl⟩
  rw [← hr] at hR hlen ⊢
  have hD := fun W (bW : Below w.heap.size w W) A c hrd hc hcm => decode_sym (place gen) gS bS l A r.1 _ c W (h.sym.on bW) hl (by omega) (by omega) rfl hrd hlen hc hcm
  have HR := Lib.hid hR
  have bz := b1alloc w (.cells #[.int .u64 (gen.toNat : Int)] 22)
  have HN := Lib.hid hr
  by_cases h0 : r.2 = 0
  rotate_left
  · have t0 := bne_yes h0
    rw [if_pos h0]
    clear hr hR hD hlen
    go_enter Try.func10, Try.ntmps10
    go_wp2_with (first
      | (go_at_call 26; refine (root_any gen _ (by rfl) _).mono ?_; rintro e w' ⟨rfl, rfl⟩)
      | (go_at_call 28; refine (HR.out _ bz).mono ?_; rintro e w1 ⟨v, rfl, hN, b1⟩; obtain ⟨A1, c1, rfl, hc1, hm1, rd1⟩ := hN.rdN (fp := []) (by simp)))
    go_ret2
    exact ⟨⟨none, 0, rfl, Nat.le_refl _, by unfold maxLen; omega, fun _ _ => RdN.nil _ _ _⟩, bt bz b1⟩
  have t0 := bne_no h0
  rw [if_neg (by simpa using h0)]
  obtain ⟨d, hd⟩ : ∃ d, d = Sec.decode (ckS l r.1) (place gen) r.1 := ⟨_, rfl⟩
  rw [← hd] at hD ⊢
  have HD := Lib.hid hD
  clear hr hR hD hlen hd h0
  have hmf : ∀ (x : Array Value) (w : World), Sem.run Try.prog (callFunc 29 x) w = .ok (.enter 29 x) w := by intro x w; simp [go_sem]
  cases hq : isRoot gen d with
  | true =>
    rw [if_pos rfl]
    go_enter Try.func10, Try.ntmps10
    go_wp2_with (first
      | (go_at_call 26; refine (root_any gen _ (by rfl) _).mono ?_; rintro e w' ⟨rfl, rfl⟩)
      | (go_at_call 28; refine (HR.out _ bz).mono ?_; rintro e w1 ⟨v, rfl, hN, b1⟩; obtain ⟨A1, c1, rfl, hc1, hm1, rd1⟩ := hN.rdN (fp := []) (by simp); have b2 := bt bz b1)
      | (go_at_call 13; refine (HD.out _ b2 _ _ rd1.rd hc1 hm1).mono ?_; rintro e w3 ⟨⟨A3, c3, rfl, own3⟩, b3⟩; unfold xv; have b4 := bt b2 b3))
    have hb0 := Blk.new w3 [.int .i64 d.1.kind, .int .u64 (d.1.life.toNat : Int), .int .i64 d.1.seq, .int .u64 (d.1.gen.toNat : Int), .slice A3 d.1.body.length c3] 38
    obtain ⟨W, hW⟩ : ∃ W, W = (w3.alloc (.cells #[.int .i64 d.1.kind, .int .u64 (d.1.life.toNat : Int), .int .i64 d.1.seq, .int .u64 (d.1.gen.toNat : Int), .slice A3 d.1.body.length c3] 38)).alloc (.cells #[.int .i64 d.2] 26) := ⟨_, rfl⟩
    have hb1 : Blk W w3.heap.size [.int .i64 d.1.kind, .int .u64 (d.1.life.toNat : Int), .int .i64 d.1.seq, .int .u64 (d.1.gen.toNat : Int), .slice A3 d.1.body.length c3] := by rw [hW]; exact hb0.alloc _
    have hb2 : Box W (w3.heap.size + 1) (.int .i64 d.2) := by rw [hW]; simpa using Box.new (w3.alloc (.cells #[.int .i64 d.1.kind, .int .u64 (d.1.life.toNat : Int), .int .i64 d.1.seq, .int .u64 (d.1.gen.toNat : Int), .slice A3 d.1.body.length c3] 38)) 26 (.int .i64 d.2)
    have b5 : Below w3.heap.size w3 W := by rw [hW]; exact b2alloc _ _ _
    have hbx := ((Box.new w 22 (.int .u64 (gen.toNat : Int))).on' (bt (bt b1 b3) b5)).cell
    rw [← hW]
    have own5 := own_on own3 b5
    have hcap := own_cap own3
    clear hW hb0
    refine (get1_any gen d A3 c3 _ _ _ W hb2.cell hb1 hbx).mono ?_
    rintro e w6 ⟨rfl, rfl⟩
    obtain ⟨z0, z1, z2, z3, z4⟩ := five5x hb1
    go_wp2
    go_ret2
    exact ⟨⟨A3, c3, rfl, hcap.1, hcap.2, fun _ hf => RdN.own (own_base own5 b2.size) hf⟩, bt b4 b5⟩
  | false =>
    rw [if_neg (by simp)]
    go_enter Try.func10, Try.ntmps10
    go_wp2_with (first
      | (go_at_call 26; refine (root_any gen _ (by rfl) _).mono ?_; rintro e w' ⟨rfl, rfl⟩)
      | (go_at_call 28; refine (HR.out _ bz).mono ?_; rintro e w1 ⟨v, rfl, hN, b1⟩; obtain ⟨A1, c1, rfl, hc1, hm1, rd1⟩ := hN.rdN (fp := []) (by simp); have b2 := bt bz b1)
      | (go_at_call 13; refine (HD.out _ b2 _ _ rd1.rd hc1 hm1).mono ?_; rintro e w3 ⟨⟨A3, c3, rfl, own3⟩, b3⟩; unfold xv; have b4 := bt b2 b3))
    have hb0 := Blk.new w3 [.int .i64 d.1.kind, .int .u64 (d.1.life.toNat : Int), .int .i64 d.1.seq, .int .u64 (d.1.gen.toNat : Int), .slice A3 d.1.body.length c3] 38
    obtain ⟨W, hW⟩ : ∃ W, W = (w3.alloc (.cells #[.int .i64 d.1.kind, .int .u64 (d.1.life.toNat : Int), .int .i64 d.1.seq, .int .u64 (d.1.gen.toNat : Int), .slice A3 d.1.body.length c3] 38)).alloc (.cells #[.int .i64 d.2] 26) := ⟨_, rfl⟩
    have hb1 : Blk W w3.heap.size [.int .i64 d.1.kind, .int .u64 (d.1.life.toNat : Int), .int .i64 d.1.seq, .int .u64 (d.1.gen.toNat : Int), .slice A3 d.1.body.length c3] := by rw [hW]; exact hb0.alloc _
    have hb2 : Box W (w3.heap.size + 1) (.int .i64 d.2) := by rw [hW]; simpa using Box.new (w3.alloc (.cells #[.int .i64 d.1.kind, .int .u64 (d.1.life.toNat : Int), .int .i64 d.1.seq, .int .u64 (d.1.gen.toNat : Int), .slice A3 d.1.body.length c3] 38)) 26 (.int .i64 d.2)
    have b5 : Below w3.heap.size w3 W := by rw [hW]; exact b2alloc _ _ _
    have hbx := ((Box.new w 22 (.int .u64 (gen.toNat : Int))).on' (bt (bt b1 b3) b5)).cell
    rw [← hW]
    have own5 := own_on own3 b5
    have hcap := own_cap own3
    clear hW hb0
    refine (get1_any gen d A3 c3 _ _ _ W hb2.cell hb1 hbx).mono ?_
    rintro e w6 ⟨rfl, rfl⟩
    go_wp2
    go_ret2
    exact ⟨⟨none, 0, rfl, Nat.le_refl _, by unfold maxLen; omega, fun _ _ => RdN.nil _ _ _⟩, bt b4 b5⟩
def settle (l : List (List UInt8)) (s : St) (gen : UInt64) : St × List UInt8 × Int :=
  if (got l s gen).2 ≠ 0 then (s, [], (got l s gen).2) else if (blank s (gen ^^^ 1)).2 ≠ 0 then (s, [], (blank s (gen ^^^ 1)).2) else if (blank s (gen ^^^ 1)).1 = true then (s, (got l s gen).1, 0)
  else if (wr s (gen ^^^ 1) Disk.zero512).2 ≠ 0 then ((wr s (gen ^^^ 1) Disk.zero512).1, [], (wr s (gen ^^^ 1) Disk.zero512).2) else ((wr s (gen ^^^ 1) Disk.zero512).1, (got l s gen).1, 0)
theorem RetG.nil (w w' : World) (f : Int) : RetG w ([], f) (.returned (.tuple #[.slice none 0 0, .int .i64 f])) w' := ⟨none, 0, rfl, Nat.le_refl _, by unfold maxLen; omega, fun _ _ => RdN.nil _ _ _⟩
set_option maxHeartbeats 1000000 in
theorem settle_any (g : Nat) (fp : List Nat) (s : St) (gS bS : Nat) (l : List (List UInt8)) (gen : UInt64) (w : World) (h : Both w g fp s gS bS l) (hl : l.length ≤ 1000000) (hs : s.sz ≤ 90000000) :
    Calls Try.prog 22 #[.pointer (some ⟨g, 0, none⟩), .pointer (some ⟨gS, 0, none⟩), .int .u64 (gen.toNat : Int)] w fun e w' => RetG w (settle l s gen).2 e w' ∧ Turn w g fp gS bS (settle l s gen).1 l w' := by
  have hG := get_any g fp s gS bS l gen w h hl hs
  unfold settle
  obtain ⟨k, hk⟩ : ∃ k, k = got l s gen := ⟨_, rfl⟩
  have hx : bits .xor .u64 (gen.toNat : Int) 1 = ((gen ^^^ 1).toNat : Int) := xor64 gen 1
  obtain ⟨o, ho⟩ : ∃ o, o = gen ^^^ 1 := ⟨_, rfl⟩
  have hB := fun W (bW : Below w.heap.size w W) => blank_any g fp s o W (h.disk.on bW) hs
  have hE := fun W (bW : Below w.heap.size w W) => erase_any g fp s o W (h.disk.on bW) hs
  obtain ⟨q, hq⟩ : ∃ q, q = blank s o := ⟨_, rfl⟩
  obtain ⟨R, hR⟩ : ∃ R, R = wr s o Disk.zero512 := ⟨_, rfl⟩
  rw [← hk] at hG
  rw [← ho] at hx
  rw [← hq] at hB
  rw [← hR] at hE
  rw [← hk, ← ho, ← hq, ← hR]
  have HG := Lib.hid hG
  have HB := Lib.hid hB
  have HE := Lib.hid hE
  clear hG hB hE hk ho hq hR
  by_cases h0 : k.2 = 0
  rotate_left
  · have t0 := bne_yes h0
    rw [if_pos h0]
    go_enter Try.func22, Try.ntmps22
    go_wp2_with (first
      | (go_at_call 10; refine HG.out.mono ?_; rintro e w1 ⟨⟨A1, c1, rfl, hc1, hm1, rd1⟩, b1⟩))
    go_ret2
    exact ⟨RetG.nil _ _ _, Turn.below h b1⟩
  have t0 := bne_no h0
  rw [if_neg (by simpa using h0)]
  by_cases h1 : q.2 = 0
  rotate_left
  · have t1 := bne_yes h1
    have t2 := beq_no h1
    rw [if_pos h1]
    go_enter Try.func22, Try.ntmps22
    go_wp2_with (first
      | (go_at_call 10; refine HG.out.mono ?_; rintro e w1 ⟨⟨A1, c1, rfl, hc1, hm1, rd1⟩, b1⟩)
      | (go_at_call 12; refine (HB.out _ b1).mono ?_; rintro e w2 ⟨rfl, b2⟩))
    go_ret2
    exact ⟨RetG.nil _ _ _, Turn.below h (bt b1 b2)⟩
  have t1 := bne_no h1
  have t2 := beq_yes h1
  rw [if_neg (by simpa using h1)]
  cases h2 : q.1 with
  | true =>
    rw [if_pos rfl]
    go_enter Try.func22, Try.ntmps22
    go_wp2_with (first
      | (go_at_call 10; refine HG.out.mono ?_; rintro e w1 ⟨⟨A1, c1, rfl, hc1, hm1, rd1⟩, b1⟩)
      | (go_at_call 12; refine (HB.out _ b1).mono ?_; rintro e w2 ⟨rfl, b2⟩; rw [h2]))
    go_ret2
    exact ⟨⟨A1, c1, rfl, hc1, hm1, fun fp0 hf => (rd1 fp0 hf).on b2⟩, Turn.below h (bt b1 b2)⟩
  | false =>
    rw [if_neg (by simp)]
    by_cases h3 : R.2 = 0
    rotate_left
    · have t3 := bne_yes h3
      rw [if_pos h3]
      go_enter Try.func22, Try.ntmps22
      go_wp2_with (first
        | (go_at_call 10; refine HG.out.mono ?_; rintro e w1 ⟨⟨A1, c1, rfl, hc1, hm1, rd1⟩, b1⟩)
        | (go_at_call 12; refine (HB.out _ b1).mono ?_; rintro e w2 ⟨rfl, b2⟩; rw [h2]; have b12 := bt b1 b2)
        | (go_at_call 11; refine (HE.out _ b12).mono ?_; rintro e w3 ⟨rfl, fp3, hD3, k3, f3⟩))
      go_ret2
      exact ⟨RetG.nil _ _ _, fp3, (h.on b12).did hD3 k3 f3, keepF (k3.of_below5 b12), f3.of_size b12⟩
    · have t3 := bne_no h3
      rw [if_neg (by simpa using h3)]
      go_enter Try.func22, Try.ntmps22
      go_wp2_with (first
        | (go_at_call 10; refine HG.out.mono ?_; rintro e w1 ⟨⟨A1, c1, rfl, hc1, hm1, rd1⟩, b1⟩)
        | (go_at_call 12; refine (HB.out _ b1).mono ?_; rintro e w2 ⟨rfl, b2⟩; rw [h2]; have b12 := bt b1 b2)
        | (go_at_call 11; refine (HE.out _ b12).mono ?_; rintro e w3 ⟨rfl, fp3, hD3, k3, f3⟩))
      go_ret2
      refine ⟨⟨A1, c1, rfl, hc1, hm1, fun fp0 hf => ?_⟩, fp3, (h.on b12).did hD3 k3 f3, keepF (k3.of_below5 b12), f3.of_size b12⟩
      have r2 := (rd1 (fp ++ fp0) (fun j hj => (List.mem_append.1 hj).elim (h.disk.lt j) (hf j))).on b2
      exact r2.keep (k3.more (fun j hj => List.mem_append_left _ hj)) (fun j hj => .inl (List.mem_append_right _ hj))
end Go.Proofs.Ytkapamolligmkaa.Rt
