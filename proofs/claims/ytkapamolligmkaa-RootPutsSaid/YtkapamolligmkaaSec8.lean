/- The walks of sector.Encode, Same, and of the reference's Same; the laws' of, back. -/
import Derived.Test.YtkapamolligmkaaSec4
import Derived.Test.YtkapamolligmkaaSec6
namespace Go.Proofs.Ytkapamolligmkaa.Sec
open Go.RowKit
open Go.Proofs.Ytkapamolligmkaa.Num (putL getN)
open Go.Proofs.Ytkapamolligmkaa.Mac (padTo)
set_option linter.unusedVariables false
set_option maxRecDepth 100000
theorem below_none {w w' : World} (b : Below w.heap.size w w') : w.grownBy w' none := below_grown b none
theorem Keep.grownK {fp : List Nat} {w w1 w2 : World} {r : Option Nat} (h : Keep fp w w1) (g : w1.grownBy w2 r) (hr : ∀ k, r = some k → w.heap.size ≤ k) : Keep fp w w2 :=
  ⟨g.os.trans h.1, g.tape.trans h.2.1, g.output.trans h.2.2.1, Nat.le_trans h.size g.size, fun j hj hn => (g.block j (Nat.lt_of_lt_of_le hj h.size) (fun e => by have := hr j e.symm; omega)).trans (h.block hj hn)⟩
theorem padTo_self {l : List UInt8} {n : Nat} (h : l.length = n) : padTo l n = l := by subst h; simp [padTo]
set_option maxHeartbeats 400000 in
theorem encode_nil (p : Int) (x : X) (A : Option Addr) (c : Nat) (w : World) :
    Calls Try.prog 19 #[.pointer none, .int .i64 p, .agg #[.int .i64 x.kind, .int .u64 (x.life.toNat : Int), .int .i64 x.seq, .int .u64 (x.gen.toNat : Int), .slice A x.body.length c]] w fun e w' => e = .returned (.tuple #[.slice none 0 0, .int .i64 1]) ∧ Below w.heap.size w w' := by
  go_enter Try.func19, Try.ntmps19
  go_wp2_with (go_at_call 32; refine (none_nil _).mono ?_; rintro e w' ⟨rfl, rfl⟩)
  go_ret2
  exact ⟨rfl, b1alloc _ _⟩
set_option maxHeartbeats 400000 in
theorem encode_bad (p : Int) (g : Nat) (x : X) (A : Option Addr) (c : Nat) (w : World) (h : rightF p x ≠ 0) :
    Calls Try.prog 19 #[.pointer (some ⟨g, 0, none⟩), .int .i64 p, .agg #[.int .i64 x.kind, .int .u64 (x.life.toNat : Int), .int .i64 x.seq, .int .u64 (x.gen.toNat : Int), .slice A x.body.length c]] w fun e w' => e = .returned (.tuple #[.slice none 0 0, .int .i64 (rightF p x)]) ∧ Below w.heap.size w w' := by
  obtain ⟨f, hf⟩ : ∃ f, f = rightF p x := ⟨_, rfl⟩
  rw [← hf] at h ⊢
  have hf1 := bne_yes h
  have Hf := Lib.hid hf
  clear hf
  go_enter Try.func19, Try.ntmps19
  go_wp2_with fail
  refine (none_any _ _).mono ?_
  rintro e w1 ⟨rfl, rfl⟩
  have B0 := Blk.new w [.int .i64 x.kind, .int .u64 (x.life.toNat : Int), .int .i64 x.seq, .int .u64 (x.gen.toNat : Int), .slice A x.body.length c] 38
  go_wp2_with fail
  refine (right_any p x A c _).mono ?_
  rintro e w2 ⟨rfl, b2⟩
  rw [← Hf.out]
  go_wp2
  go_ret2
  exact ⟨rfl, bt (b1alloc _ _) b2⟩
set_option maxHeartbeats 1000000 in
theorem encode_gen (p : Int) (g : Nat) (x : X) (A : Option Addr) (c : Nat) (w : World) (hr : Rd w w.heap.size A (x.body.map e8)) (h : rightF p x = 0) (s : List UInt8) (hs : s.length = 8) (fp : List Nat) (hfp : ∀ j ∈ fp, j < w.heap.size) (Q : World → Prop)
    (hQ : ∀ W W' r, Q W → W.grownBy W' r → (∀ k, r = some k → w.heap.size ≤ k) → Q W')
    (HS : ∀ W, Below w.heap.size w W → ∀ A1 c1, Rd W W.heap.size A1 ((text p x).map e8) → (∀ a, A1 = some a → w.heap.size ≤ a.block) → Calls Try.prog 40 #[.pointer (some ⟨g, 0, none⟩), .slice A1 504 c1] W fun e W' => ∃ A2 c2, e = .returned (.slice A2 8 c2) ∧ Rd W' W'.heap.size A2 (s.map e8) ∧ Keep fp W W' ∧ Q W') :
    Calls Try.prog 19 #[.pointer (some ⟨g, 0, none⟩), .int .i64 p, .agg #[.int .i64 x.kind, .int .u64 (x.life.toNat : Int), .int .i64 x.seq, .int .u64 (x.gen.toNat : Int), .slice A x.body.length c]] w fun e w' =>
      ∃ A' c', e = .returned (.tuple #[.slice A' 512 c', .int .i64 0]) ∧ w'.ownsRow w.heap.size 5 1 (.slice A' 512 c') 512 ((text p x ++ s).map e8) ∧ Keep fp w w' ∧ Q w' := by
  obtain ⟨i0', hi0, hz0, hz1, hz2⟩ := info_parts info8
  have hW := fun W (bW : Below w.heap.size w W) => written_any p x A c W (hr.on bW) h
  obtain ⟨f, hf⟩ : ∃ f, f = rightF p x := ⟨_, rfl⟩
  rw [← hf] at h
  have hf1 := bne_no h
  have Hf := Lib.hid hf
  obtain ⟨T, hT⟩ : ∃ T, T = text p x := ⟨_, rfl⟩
  have hTl : T.length = 504 := by rw [hT, text_len]
  rw [← hT] at hW HS ⊢
  have HTl := Lib.hid hTl
  have HW := Lib.hid hW
  have Hs := Lib.hid hs
  have hp8 := fun A1 n d1 W hn h => Mac.npad_any A1 s n d1 8 8 (by rfl) W hn (by omega) (by omega) h
  rw [padTo_self hs] at hp8
  have Hp := Lib.hid hp8
  clear hf hT hTl hW hs hp8 hr
  go_enter Try.func19, Try.ntmps19
  go_wp2_with fail
  refine (none_any _ _).mono ?_
  rintro e w1 ⟨rfl, rfl⟩
  have B0 := Blk.new w [.int .i64 x.kind, .int .u64 (x.life.toNat : Int), .int .i64 x.seq, .int .u64 (x.gen.toNat : Int), .slice A x.body.length c] 38
  go_wp2_with fail
  refine (right_any p x A c _).mono ?_
  rintro e w2 ⟨rfl, b2⟩
  rw [← Hf.out]
  have bw2 := bt (b1alloc w _) b2
  obtain ⟨c0, c1, c2, c3, c4, fr⟩ := five5 (B0.on b2)
  go_wp2_with fail
  refine (HW.out _ bw2).mono ?_
  rintro e w3 ⟨A3, d3, rfl, own3, b3⟩
  rw [HTl.out]
  have bw3 := bt bw2 b3
  clear c0 c1 c2 c3 c4 fr B0
  go_wp2_with fail
  refine (HS _ bw3 A3 d3 (Rd.own own3) (fun a ha => by subst ha; have h1 := own_block own3 (k := a.block) rfl; have h2 := bw2.size; omega)).mono ?_
  rintro e w4 ⟨A4, d4, rfl, rd4, k4, q4⟩
  have own4 := own_keep own3 k4 (fun k hk e => by have := own_block own3 hk; have := hfp k e; have := bw2.size; omega)
  have kw4 : Keep fp w w4 := (Keep.of_below bw3 fp).trans k4 (Fresh.refl _ _)
  go_wp2_with fail
  refine (Hp.out A4 8 d4 w4 Hs.out.symm rd4).mono ?_
  rintro e w5 ⟨A5, d5, rfl, own5, b5⟩
  rw [Hs.out]
  have own6 := own_on own4 b5
  have rd5 := Rd.own own5
  have kw5 : Keep fp w w5 := kw4.trans (Keep.of_below b5 fp) (Fresh.refl _ _)
  have q5 := hQ _ _ none q4 (below_none b5) (fun k hk => by cases hk)
  have hs25 : w2.heap.size ≤ w5.heap.size := Nat.le_trans b3.size (Nat.le_trans k4.size b5.size)
  have hbase : w.heap.size ≤ w2.heap.size := bw2.size
  rw [HTl.out] at own6
  go_wp2_with ((with_reducible show wpList _ _ _ (⟨some 26, _, _, _, _, _⟩ :: _) _ _); refine wpList_append_rd _ rfl (.tmp 21) (.tmp 25) _ rfl w2.heap.size 5 i0' _ 1 1 Try.underlying23 hi0 hz0 hz1 hz2 rfl (by omega) _ 504 (T.map e8) rfl own6 _ A5 8 d5 (s.map e8) rfl (by rw [List.length_map, Hs.out]) rd5 (e8_one _) (by simp only [maxLen]; omega) (by omega) hs25 ?_; intro v6 w6 own7 hg6 hat6)
  obtain ⟨A6, d6, rfl⟩ := own_form own7
  go_ret2
  refine ⟨A6, d6, rfl, ?_, Keep.grownK kw5 hg6 (fun k hk => by have := own_block own6 hk; omega), hQ _ _ _ q5 hg6 (fun k hk => by have := own_block own6 hk; omega)⟩
  rw [List.map_append]; exact own_base own7 hbase
set_option maxHeartbeats 1000000 in
theorem rsame_any (x y : X) (A B : Option Addr) (c d : Nat) (w : World) (hr : Rd w w.heap.size A (x.body.map e8)) (hs : Rd w w.heap.size B (y.body.map e8)) (hl : x.body.length ≤ 1000000) (hm : y.body.length ≤ 1000000) :
    Calls Try.prog 15 #[.agg #[.int .i64 x.kind, .int .u64 (x.life.toNat : Int), .int .i64 x.seq, .int .u64 (x.gen.toNat : Int), .slice A x.body.length c], .agg #[.int .i64 y.kind, .int .u64 (y.life.toNat : Int), .int .i64 y.seq, .int .u64 (y.gen.toNat : Int), .slice B y.body.length d]] w fun e w' => e = .returned (.bool (same x y)) ∧ Below w.heap.size w w' := by
  have two := b2alloc w (.cells #[.int .i64 x.kind, .int .u64 (x.life.toNat : Int), .int .i64 x.seq, .int .u64 (x.gen.toNat : Int), .slice A x.body.length c] 43) (.cells #[.int .i64 y.kind, .int .u64 (y.life.toNat : Int), .int .i64 y.seq, .int .u64 (y.gen.toNat : Int), .slice B y.body.length d] 43)
  by_cases h0 : x.kind = y.kind
  rotate_left
  · have hn := Lib.hid (show same x y = false by simp [same, h0])
    have t0 := beq_no h0
    clear h0
    go_enter Try.func15, Try.ntmps15
    go_wp2
    go_ret
    exact ⟨ret_bool hn.out.symm, b2alloc _ _ _⟩
  have t0 := beq_yes h0
  by_cases h1 : x.life = y.life
  rotate_left
  · have hn := Lib.hid (show same x y = false by simp [same, h1])
    have t1 := beq_no (show (x.life.toNat : Int) ≠ (y.life.toNat : Int) from fun e => h1 (UInt64.toNat_inj.1 (Int.natCast_inj.1 e)))
    clear h1
    go_enter Try.func15, Try.ntmps15
    go_wp2
    go_ret
    exact ⟨ret_bool hn.out.symm, b2alloc _ _ _⟩
  have t1 := beq_yes (show (x.life.toNat : Int) = (y.life.toNat : Int) by rw [h1])
  by_cases h2 : x.seq = y.seq
  rotate_left
  · have hn := Lib.hid (show same x y = false by simp [same, h2])
    have t2 := beq_no h2
    clear h2
    go_enter Try.func15, Try.ntmps15
    go_wp2
    go_ret
    exact ⟨ret_bool hn.out.symm, b2alloc _ _ _⟩
  have t2 := beq_yes h2
  by_cases h3 : x.gen = y.gen
  rotate_left
  · have hn := Lib.hid (show same x y = false by simp [same, h3])
    have t3 := beq_no (show (x.gen.toNat : Int) ≠ (y.gen.toNat : Int) from fun e => h3 (UInt64.toNat_inj.1 (Int.natCast_inj.1 e)))
    clear h3
    go_enter Try.func15, Try.ntmps15
    go_wp2
    go_ret
    exact ⟨ret_bool hn.out.symm, b2alloc _ _ _⟩
  have t3 := beq_yes (show (x.gen.toNat : Int) = (y.gen.toNat : Int) by rw [h3])
  have hy := Lib.hid (show same x y = R1.sameB x.body y.body by simp [same, R1.sameB, h0, h1, h2, h3])
  clear h0 h1 h2 h3
  have hc := fun W (bW : Below w.heap.size w W) => R1.same_any A B x.body y.body _ _ c d W rfl rfl (hr.on bW) (hs.on bW) (by omega) (by omega)
  have Hc := Lib.hid hc
  clear hc hr hs
  go_enter Try.func15, Try.ntmps15
  go_wp2_with fail
  refine (Hc.out _ (b2alloc _ _ _)).mono ?_
  rintro e w1 ⟨rfl, b1⟩
  go_wp2
  go_ret
  exact ⟨ret_bool hy.out.symm, bt (b2alloc _ _ _) b1⟩
end Go.Proofs.Ytkapamolligmkaa.Sec
