/- SectorReads: for every input the law returns true: the sector of any bytes at any place, by real sums, or why they are none. No condition. -/
import Derived.Test.YtdkcdojcglmlbaaSec9
import Derived.Test.YtdkcdojcglmlbaaOpen
namespace Go.Proofs.Ytdkcdojcglmlbaa.SectorReads
open Go.ChangeShapes Go.WideShapes Go.ChangeAt Go.RowKit Go.Joins
open Go.ChangeMaps (open_string shut_string)
open Go.Proofs.Ytdkcdojcglmlbaa.Sec
set_option linter.unusedVariables false
set_option maxRecDepth 100000
theorem same_self (x : X) : same x x = true := by simp [same]
theorem dec_bad {b : List UInt8} {p : Int} (h : b.length = 512) (h2 : ¬ blankB b = true) (h3 : reads p (b.take 504) = none ∨ ckR b = false) : Sec.decode (ckR b) p b = (X0, 11) := by
  rcases h3 with h3 | h3
  · exact dec_none h h2 h3
  · rw [h3]; exact dec_ck h h2
theorem reads_len {p : Int} {b : List UInt8} {x : X} (h : reads p b = some x) : x.body.length ≤ 479 := by
  unfold reads at h
  split at h
  · rename_i hh
    injection h with h; subst h
    exact (right_of hh.2.1).2.2.2.2.2.2
  · cases h
set_option maxHeartbeats 1000000 in
theorem walk (p : Int) (A : Option Addr) (b : List UInt8) (c : Nat) (w : World) (hp0 : -9223372036854775808 ≤ p) (hp1 : p ≤ 9223372036854775807) (hr : Rd w w.heap.size A (b.map e8)) (hc : b.length ≤ c) (hcm : c ≤ maxLen) :
    Calls Try.prog 8 #[.int .i64 p, .slice A b.length c] w fun e w' => e = .returned (.bool true) ∧ Below w.heap.size w w' := by
  by_cases h1 : 1000 < b.length
  · go_enter Try.func8, Try.ntmps8
    go_wp2_with (go_at_call 44; refine (alive_any _).mono ?_; rintro e w' ⟨rfl, hw⟩)
    go_ret
    exact ⟨rfl, hw⟩
  have hD := fun W (bW : Below w.heap.size w W) g hg => decode_real p g A b b.length c W hg hp0 hp1 rfl (hr.on bW) (by omega) hc hcm
  have hN := fun W => decode_nil p A b.length c W
  have hI := fun W (bW : Below w.heap.size w W) => isBlank_any A b b.length c W rfl (hr.on bW)
  have hJ := fun W (bW : Below w.heap.size w W) => rblank_any A b b.length c W rfl (hr.on bW) (by omega)
  have HD := Lib.hid hD
  have HN := Lib.hid hN
  have HI := Lib.hid hI
  have HJ := Lib.hid hJ
  clear hD hN hI hJ
  by_cases h5 : b.length = 512
  rotate_left
  · have hd := Lib.hid (dec_form (ck := ckR b) (p := p) h5)
    have hne := bne_yes (show (b.length : Int) ≠ 512 by omega)
    go_enter Try.func8, Try.ntmps8
    go_wp2_with fail
    refine (real_any w).mono ?_
    rintro e w1 ⟨g, rfl, hg, hgl, b1⟩
    go_wp2_with fail
    refine (HD.out w1 b1 g hg).mono ?_
    rintro e w2 ⟨⟨A2, c2, rfl, own2⟩, b2⟩
    rw [hd.out] at own2 ⊢
    unfold xv X0
    have bw2 := bt b1 b2
    have B3 := Blk.new w2 [.int .i64 0, .int .u64 0, .int .i64 0, .int .u64 0, .slice A2 0 c2] 77
    have b3 := b1alloc w2 (.cells #[.int .i64 0, .int .u64 0, .int .i64 0, .int .u64 0, .slice A2 0 c2] 77)
    have own3 := own_on own2 b3
    go_wp2_with fail
    refine (HN.out _).mono ?_
    rintro e w4 ⟨⟨A4, c4, rfl, own4⟩, b4⟩
    unfold xv X0
    have B4 := B3.on b4
    have own4' := own_on own3 b4
    have bw4 := bt (bt bw2 b3) b4
    have B5 := B4.alloc (.cells #[.int .i64 0, .int .u64 0, .int .i64 0, .int .u64 0, .slice A4 0 c4] 77)
    have b5 := b1alloc w4 (.cells #[.int .i64 0, .int .u64 0, .int .i64 0, .int .u64 0, .slice A4 0 c4] 77)
    have own5 := own_on own4' b5
    have bw5 := bt bw4 b5
    go_wp2_with fail
    refine (HI.out _ bw5).mono ?_
    rintro e w6 ⟨rfl, b6⟩
    have bw6 := bt bw5 b6
    have B6 := B5.on b6
    have own6 := own_on own5 b6
    obtain ⟨c0, c1, c2', c3, c4', fr⟩ := five5 B6
    go_wp2_with fail
    refine (HJ.out _ bw6).mono ?_
    rintro e w7 ⟨rfl, rfl⟩
    obtain ⟨bl, hbl⟩ : ∃ bl, bl = blankB b := ⟨_, rfl⟩
    rw [← hbl]
    clear hbl
    have hbb : (bl != bl) = false := by simp
    go_wp2_with (go_at_call 44; refine (alive_any _).mono ?_; rintro e w8 ⟨rfl, b8⟩)
    go_ret
    exact ⟨rfl, bt bw6 b8⟩
  have hne := bne_no (show (b.length : Int) = 512 by omega)
  by_cases hB : blankB b = true
  · have hd := Lib.hid (dec_blank (ck := ckR b) (p := p) h5 hB)
    have HBl := Lib.hid hB
    clear h5
    go_enter Try.func8, Try.ntmps8
    go_wp2_with fail
    refine (real_any w).mono ?_
    rintro e w1 ⟨g, rfl, hg, hgl, b1⟩
    go_wp2_with fail
    refine (HD.out w1 b1 g hg).mono ?_
    rintro e w2 ⟨⟨A2, c2, rfl, own2⟩, b2⟩
    rw [hd.out] at own2 ⊢
    unfold xv X0
    have bw2 := bt b1 b2
    have B3 := Blk.new w2 [.int .i64 0, .int .u64 0, .int .i64 0, .int .u64 0, .slice A2 0 c2] 77
    have b3 := b1alloc w2 (.cells #[.int .i64 0, .int .u64 0, .int .i64 0, .int .u64 0, .slice A2 0 c2] 77)
    have own3 := own_on own2 b3
    go_wp2_with fail
    refine (HN.out _).mono ?_
    rintro e w4 ⟨⟨A4, c4, rfl, own4⟩, b4⟩
    unfold xv X0
    have B4 := B3.on b4
    have own4' := own_on own3 b4
    have bw4 := bt (bt bw2 b3) b4
    have B5 := B4.alloc (.cells #[.int .i64 0, .int .u64 0, .int .i64 0, .int .u64 0, .slice A4 0 c4] 77)
    have b5 := b1alloc w4 (.cells #[.int .i64 0, .int .u64 0, .int .i64 0, .int .u64 0, .slice A4 0 c4] 77)
    have own5 := own_on own4' b5
    have bw5 := bt bw4 b5
    go_wp2_with fail
    refine (HI.out _ bw5).mono ?_
    rintro e w6 ⟨rfl, b6⟩
    have bw6 := bt bw5 b6
    have B6 := B5.on b6
    have own6 := own_on own5 b6
    obtain ⟨c0, c1, c2', c3, c4', fr⟩ := five5 B6
    go_wp2_with fail
    refine (HJ.out _ bw6).mono ?_
    rintro e w7 ⟨rfl, rfl⟩
    obtain ⟨bl, hbl⟩ : ∃ bl, bl = blankB b := ⟨_, rfl⟩
    have hbb : (true != true) = false := by simp
    rw [hB]
    clear hB hbl
    go_wp2_with (first | (go_at_call 44; refine (alive_any _).mono ?_; rintro e w8 ⟨rfl, b8⟩) | (go_at_call 48; refine (HJ.out _ bw6).mono ?_; rintro e w7 ⟨rfl, rfl⟩; rw [HBl.out]))
    go_ret
    exact ⟨rfl, bt bw6 b8⟩
  have hbf : blankB b = false := by simpa using hB
  have HBl := Lib.hid hbf
  obtain ⟨blk, off, rfl, hdrop⟩ := hr.get (k := 0) (by rw [List.length_map]; omega)
  clear hdrop
  have ht5 : (b.take 504).length = 504 := by rw [List.length_take]; omega
  have hrt : Rd w w.heap.size (some ⟨blk, off, none⟩) ((b.take 504).map e8) := by rw [List.map_take]; exact hr.take 504
  have hrd : Rd w w.heap.size (some ⟨blk, off + 504, none⟩) ((b.drop 504).map e8) := by
    have := hr.drop 504
    rw [← List.map_drop] at this
    simpa [Addr.add_lit] using this
  have HO := Lib.hid (fun W (bW : Below w.heap.size w W) => rof_any p blk off (b.take 504) 504 c W hp0 hp1 ht5.symm (hrt.on bW) (by omega) (by omega) (by omega) hcm)
  have HSum := Lib.hid (fun W (bW : Below w.heap.size w W) => Crc.rbytes_any (some ⟨blk, off, none⟩) (b.take 504) 504 c W ht5.symm (hrt.on bW) (by omega))
  have HSame := Lib.hid (fun W (bW : Below w.heap.size w W) A' c' d' h => R1.same_any A' (some ⟨blk, off + 504, none⟩) (Crc.sumB (b.take 504)) (b.drop 504) 8 8 c' d' W (sumB_len _).symm (by rw [List.length_drop]; omega) h (hrd.on bW) (by rw [sumB_len]; omega) (by rw [List.length_drop]; omega))
  have H8 := Lib.hid (show b.length - 504 = 8 by omega)
  have hl2 : 504 ≤ b.length := by omega
  have hlI2 : (504 : Int) ≤ (b.length : Int) := by omega
  have hcI2 : (504 : Int) ≤ (c : Int) := by omega
  have hc2 : 504 ≤ c := by omega
  have hcn : ¬ c = 504 := by omega
  have hcn' : ¬ (c : Int) = 504 := by omega
  have Hyes := Lib.hid (fun x h3 => dec_yes (p := p) (x := x) h5 hB h3)
  have Hbad := Lib.hid (fun h => dec_bad (p := p) h5 hB h)
  unfold maxLen at hcm
  clear hrt hrd ht5 hr h5 hB hbf
  cases ho : reads p (b.take 504) with
  | none =>
    have Ho := Lib.hid ho
    have hd := Lib.hid (Hbad.out (.inl ho))
    clear ho
    go_enter Try.func8, Try.ntmps8
    go_wp2_with fail
    refine (real_any w).mono ?_
    rintro e w1 ⟨g, rfl, hg, hgl, b1⟩
    go_wp2_with fail
    refine (HD.out w1 b1 g hg).mono ?_
    rintro e w2 ⟨⟨A2, c2, rfl, own2⟩, b2⟩
    rw [hd.out] at own2 ⊢
    unfold xv X0
    have bw2 := bt b1 b2
    have B3 := Blk.new w2 [.int .i64 0, .int .u64 0, .int .i64 0, .int .u64 0, .slice A2 0 c2] 77
    have b3 := b1alloc w2 (.cells #[.int .i64 0, .int .u64 0, .int .i64 0, .int .u64 0, .slice A2 0 c2] 77)
    have own3 := own_on own2 b3
    go_wp2_with fail
    refine (HN.out _).mono ?_
    rintro e w4 ⟨⟨A4, c4, rfl, own4⟩, b4⟩
    unfold xv X0
    have B4 := B3.on b4
    have own4' := own_on own3 b4
    have bw4 := bt (bt bw2 b3) b4
    have B5 := B4.alloc (.cells #[.int .i64 0, .int .u64 0, .int .i64 0, .int .u64 0, .slice A4 0 c4] 77)
    have b5 := b1alloc w4 (.cells #[.int .i64 0, .int .u64 0, .int .i64 0, .int .u64 0, .slice A4 0 c4] 77)
    have own5 := own_on own4' b5
    have bw5 := bt bw4 b5
    go_wp2_with fail
    refine (HI.out _ bw5).mono ?_
    rintro e w6 ⟨rfl, b6⟩
    have bw6 := bt bw5 b6
    have B6 := B5.on b6
    have own6 := own_on own5 b6
    obtain ⟨c0, c1, c2', c3, c4', fr⟩ := five5 B6
    go_wp2_with fail
    refine (HJ.out _ bw6).mono ?_
    rintro e w7 ⟨rfl, rfl⟩
    obtain ⟨bl, hbl⟩ : ∃ bl, bl = blankB b := ⟨_, rfl⟩
    have hbb : (false != false) = false := by simp
    rw [HBl.out]
    clear hbl
    go_wp2_with (first | (go_at_call 48; refine (HJ.out _ bw6).mono ?_; rintro e w7 ⟨rfl, rfl⟩; rw [HBl.out]))
    refine (HO.out _ bw6).mono ?_
    rintro e w8 ⟨ho, b8⟩
    rw [Ho.out] at ho
    obtain ⟨A8, c8, rfl, rd8⟩ := ho
    unfold xv X0
    have bw8 := bt bw6 b8
    have B8 := B6.on b8
    have own8 := own_on own6 b8
    have B9 := Blk.new w8 [.int .i64 0, .int .u64 0, .int .i64 0, .int .u64 0, .slice A8 0 c8] 83
    have b9 := b1alloc w8 (.cells #[.int .i64 0, .int .u64 0, .int .i64 0, .int .u64 0, .slice A8 0 c8] 83)
    have bw9 := bt bw8 b9
    have own9 := own_on own8 b9
    have B8' := B8.on b9
    go_wp2_with fail
    obtain ⟨w9, hw9⟩ : ∃ w9, w9 = w8.alloc (.cells #[.int .i64 0, .int .u64 0, .int .i64 0, .int .u64 0, .slice A8 0 c8] 83) := ⟨_, rfl⟩
    rw [← hw9] at B9 b9 bw9 own9 B8' ⊢
    have rd9 := rd8.on b9
    clear hw9 c0 c1 c2' c3 c4' fr
    have bd : Below w9.heap.size w9 w9.drew := (Below.refl _ _).drew
    refine wp_region_held_drew (S := (fun _ => True)) (by kernel_rfl) (by trivial) (fun hHeld => ?_)
    refine wpAnyH_take (i := 0) (oi := { dst := some 69, op := Op.move (Operand.tmp 10), type := 4, pos := "law.go:64", after := #[], guard := none }) (v := ?_) rfl (by kernel_rfl) (by kernel_rfl) (by kernel_rfl) (fun _ _ _ h => h) (Or.inl ⟨by rfl, ?_⟩) (by assumption) ?_; rotate_left; · ((intro w hSw; (try dsimp only at hSw); go_simp) <;> with_reducible rfl)
    try simp only [Act.put, List.setIfInBounds_toArray, List.set_cons_zero, List.set_cons_succ]
    refine wpAnyH_take (i := 1) (oi := { dst := some 70, op := Op.unOp UnOp.not 4 (Operand.tmp 69), type := 4, pos := "law.go:64", after := #[{ on := 0, ground := Ground.data }], guard := none }) (v := ?_) rfl (by kernel_rfl) (by kernel_rfl) (by kernel_rfl) (fun _ _ _ h => h) (Or.inl ⟨by rfl, ?_⟩) (by assumption) ?_; rotate_left; · ((intro w hSw; (try dsimp only at hSw); go_simp) <;> with_reducible rfl)
    try simp only [Act.put, List.setIfInBounds_toArray, List.set_cons_zero, List.set_cons_succ]
    refine wpAnyH_take (i := 2) (oi := { dst := some 71, op := Op.move (Operand.tmp 70), type := 4, pos := "law.go:64", after := #[{ on := 1, ground := Ground.data }], guard := none }) (v := ?_) rfl (by kernel_rfl) (by kernel_rfl) (by kernel_rfl) (fun _ _ _ h => h) (Or.inl ⟨by rfl, ?_⟩) (by assumption) ?_; rotate_left; · ((intro w hSw; (try dsimp only at hSw); go_simp) <;> with_reducible rfl)
    try simp only [Act.put, List.setIfInBounds_toArray, List.set_cons_zero, List.set_cons_succ]
    refine wpAnyH_take (i := 3) (oi := { dst := some 72, op := Op.move (Operand.tmp 1), type := 26, pos := "law.go:64", after := #[{ on := 2, ground := Ground.guard }], guard := some (2, false) }) (v := undef) rfl (by kernel_rfl) (by kernel_rfl) (by kernel_rfl) (fun _ _ _ h => h) (Or.inr ⟨by rfl, rfl⟩) (by assumption) ?_
    try simp only [Act.put, List.setIfInBounds_toArray, List.set_cons_zero, List.set_cons_succ]
    refine wpAnyH_take (i := 4) (oi := { dst := some 73, op := Op.slice 26 (Operand.tmp 72) none (some (Operand.const (Value.int IntKind.i64 504))) none, type := 26, pos := "law.go:64", after := #[{ on := 3, ground := Ground.data }, { on := 2, ground := Ground.guard }], guard := some (2, false) }) (v := undef) rfl (by kernel_rfl) (by kernel_rfl) (by kernel_rfl) (fun _ _ _ h => h) (Or.inr ⟨by rfl, rfl⟩) (by assumption) ?_
    try simp only [Act.put, List.setIfInBounds_toArray, List.set_cons_zero, List.set_cons_succ]
    refine wpAnyH_take (i := 6) (oi := { dst := some 75, op := Op.move (Operand.tmp 1), type := 26, pos := "law.go:64", after := #[{ on := 2, ground := Ground.guard }], guard := some (2, false) }) (v := undef) rfl (by kernel_rfl) (by kernel_rfl) (by kernel_rfl) (fun _ _ _ h => h) (Or.inr ⟨by rfl, rfl⟩) (by assumption) ?_
    try simp only [Act.put, List.setIfInBounds_toArray, List.set_cons_zero, List.set_cons_succ]
    refine wpAnyH_take (i := 7) (oi := { dst := some 76, op := Op.slice 26 (Operand.tmp 75) (some (Operand.const (Value.int IntKind.i64 504))) none none, type := 26, pos := "law.go:64", after := #[{ on := 6, ground := Ground.data }, { on := 2, ground := Ground.guard }], guard := some (2, false) }) (v := undef) rfl (by kernel_rfl) (by kernel_rfl) (by kernel_rfl) (fun _ _ _ h => h) (Or.inr ⟨by rfl, rfl⟩) (by assumption) ?_
    try simp only [Act.put, List.setIfInBounds_toArray, List.set_cons_zero, List.set_cons_succ]
    refine wpAnyH_ready (rs := [5]) (by kernel_rfl) (by simp) ?_
    refine AllReadyH.cons (o := { dst := some 74, op := Op.call { callee := Callee.value (Operand.func 50), args := #[Operand.tmp 73], argTypes := #[26] }, type := 26, pos := "law.go:64", after := #[{ on := 4, ground := Ground.data }, { on := 2, ground := Ground.chain }, { on := 2, ground := Ground.guard }], guard := some (2, false) }) rfl (fun K hK => ?_) AllReadyH.nil
    rw [if_neg]; rotate_left; · exact fun h => Bool.noConfusion (show false = true from h)
    refine hK.out _ _ hHeld (fun hHeld => ?_)
    clear hK K
    try simp only [Act.put, List.setIfInBounds_toArray, List.set_cons_zero, List.set_cons_succ]
    refine wpAnyH_ready (rs := [8]) (by kernel_rfl) (by simp) ?_
    refine AllReadyH.cons (o := { dst := some 77, op := Op.call { callee := Callee.value (Operand.func 19), args := #[Operand.tmp 74, Operand.tmp 76], argTypes := #[26, 26] }, type := 4, pos := "law.go:64", after := #[{ on := 5, ground := Ground.data }, { on := 7, ground := Ground.data }, { on := 5, ground := Ground.chain }, { on := 2, ground := Ground.guard }], guard := some (2, false) }) rfl (fun K hK => ?_) AllReadyH.nil
    rw [if_neg]; rotate_left; · exact fun h => Bool.noConfusion (show false = true from h)
    refine hK.out _ _ hHeld (fun hHeld => ?_)
    clear hK K
    try simp only [Act.put, List.setIfInBounds_toArray, List.set_cons_zero, List.set_cons_succ]
    refine wpAnyH_take (i := 9) (oi := { dst := some 78, op := Op.unOp UnOp.not 4 (Operand.tmp 77), type := 4, pos := "law.go:64", after := #[{ on := 8, ground := Ground.data }, { on := 2, ground := Ground.guard }], guard := some (2, false) }) (v := undef) rfl (by kernel_rfl) (by kernel_rfl) (by kernel_rfl) (fun _ _ _ h => h) (Or.inr ⟨by rfl, rfl⟩) (by assumption) ?_
    try simp only [Act.put, List.setIfInBounds_toArray, List.set_cons_zero, List.set_cons_succ]
    refine wpAnyH_take (i := 10) (oi := { dst := some 79, op := Op.pick (Operand.tmp 71) (Operand.const (Value.bool true)) (Operand.tmp 78), type := 4, pos := "law.go:64", after := #[{ on := 2, ground := Ground.data }, { on := 9, ground := Ground.data }], guard := none }) (v := ?_) rfl (by kernel_rfl) (by kernel_rfl) (by kernel_rfl) (fun _ _ _ h => h) (Or.inl ⟨by rfl, ?_⟩) (by assumption) ?_; rotate_left; · ((intro w hSw; (try dsimp only at hSw); go_simp) <;> with_reducible rfl)
    try simp only [Act.put, List.setIfInBounds_toArray, List.set_cons_zero, List.set_cons_succ]
    refine wpAnyH_done (by kernel_rfl) ?_ _
    obtain ⟨w10, hw10⟩ : ∃ w10, w10 = w9.drew := ⟨_, rfl⟩
    have b10 : Below w9.heap.size w9 w10 := by rw [hw10]; exact bd
    try rw [← hw10]
    clear hw10
    have B10 := B8'.on b10
    obtain ⟨c0, c1, c2', c3, c4', fr⟩ := five5 B10
    have bw10 := bt bw9 b10
    go_wp2_with (first
      | (go_at_call 52; refine (back_any X0 A2 c2 _).mono ?_; rintro e w11 ⟨rfl, b11⟩; unfold X0; have bw11 := bt bw10 b11)
      | (go_at_call 51; refine (rsame_any X0 X0 A2 none c2 0 _ (Rd.nil _ _ _) (Rd.nil _ _ _) (by simp [X0]) (by simp [X0])).mono ?_; rintro e w12 ⟨rfl, b12⟩; rw [same_self]; have bw12 := bt bw11 b12)
      | (go_at_call 44; refine (alive_any _).mono ?_; rintro e w13 ⟨rfl, b13⟩; have bw13 := bt bw12 b13))
    go_ret
    exact ⟨rfl, bw13⟩
  | some x =>
    have Ho := Lib.hid ho
    have hxl := reads_len ho
    by_cases hck : ckR b = true
    · have hd0 := Hyes.out x ho
      rw [← hck] at hd0
      have hd := Lib.hid hd0
      have Hck := Lib.hid (show R1.sameB (Crc.sumB (b.take 504)) (b.drop 504) = true from hck)
      clear hd0 hck ho
      go_enter Try.func8, Try.ntmps8
      go_wp2_with fail
      refine (real_any w).mono ?_
      rintro e w1 ⟨g, rfl, hg, hgl, b1⟩
      go_wp2_with fail
      refine (HD.out w1 b1 g hg).mono ?_
      rintro e w2 ⟨⟨A2, c2, rfl, own2⟩, b2⟩
      rw [hd.out] at own2 ⊢
      unfold xv
      have bw2 := bt b1 b2
      have B3 := Blk.new w2 [.int .i64 x.kind, .int .u64 (x.life.toNat : Int), .int .i64 x.seq, .int .u64 (x.gen.toNat : Int), .slice A2 x.body.length c2] 77
      have b3 := b1alloc w2 (.cells #[.int .i64 x.kind, .int .u64 (x.life.toNat : Int), .int .i64 x.seq, .int .u64 (x.gen.toNat : Int), .slice A2 x.body.length c2] 77)
      have own3 := own_on own2 b3
      go_wp2_with fail
      refine (HN.out _).mono ?_
      rintro e w4 ⟨⟨A4, c4, rfl, own4⟩, b4⟩
      unfold xv X0
      have B4 := B3.on b4
      have own4' := own_on own3 b4
      have bw4 := bt (bt bw2 b3) b4
      have B5 := B4.alloc (.cells #[.int .i64 0, .int .u64 0, .int .i64 0, .int .u64 0, .slice A4 0 c4] 77)
      have b5 := b1alloc w4 (.cells #[.int .i64 0, .int .u64 0, .int .i64 0, .int .u64 0, .slice A4 0 c4] 77)
      have own5 := own_on own4' b5
      have bw5 := bt bw4 b5
      go_wp2_with fail
      refine (HI.out _ bw5).mono ?_
      rintro e w6 ⟨rfl, b6⟩
      have bw6 := bt bw5 b6
      have B6 := B5.on b6
      have own6 := own_on own5 b6
      obtain ⟨c0, c1, c2', c3, c4', fr⟩ := five5 B6
      go_wp2_with fail
      refine (HJ.out _ bw6).mono ?_
      rintro e w7 ⟨rfl, rfl⟩
      obtain ⟨bl, hbl⟩ : ∃ bl, bl = blankB b := ⟨_, rfl⟩
      have hbb : (false != false) = false := by simp
      rw [HBl.out]
      clear hbl
      go_wp2_with (first | (go_at_call 48; refine (HJ.out _ bw6).mono ?_; rintro e w7 ⟨rfl, rfl⟩; rw [HBl.out]))
      refine (HO.out _ bw6).mono ?_
      rintro e w8 ⟨ho, b8⟩
      rw [Ho.out] at ho
      obtain ⟨A8, c8, rfl, rd8⟩ := ho
      unfold xv
      have bw8 := bt bw6 b8
      have B8 := B6.on b8
      have own8 := own_on own6 b8
      have B9 := Blk.new w8 [.int .i64 x.kind, .int .u64 (x.life.toNat : Int), .int .i64 x.seq, .int .u64 (x.gen.toNat : Int), .slice A8 x.body.length c8] 83
      have b9 := b1alloc w8 (.cells #[.int .i64 x.kind, .int .u64 (x.life.toNat : Int), .int .i64 x.seq, .int .u64 (x.gen.toNat : Int), .slice A8 x.body.length c8] 83)
      have bw9 := bt bw8 b9
      have own9 := own_on own8 b9
      have B8' := B8.on b9
      go_wp2_with fail
      obtain ⟨w9, hw9⟩ : ∃ w9, w9 = w8.alloc (.cells #[.int .i64 x.kind, .int .u64 (x.life.toNat : Int), .int .i64 x.seq, .int .u64 (x.gen.toNat : Int), .slice A8 x.body.length c8] 83) := ⟨_, rfl⟩
      rw [← hw9] at B9 b9 bw9 own9 B8' ⊢
      have rd9 := rd8.on b9
      clear hw9 c0 c1 c2' c3 c4' fr
      have bd : Below w9.heap.size w9 w9.drew := (Below.refl _ _).drew
      refine wp_region_held_drew (S := (fun _ => True)) (by kernel_rfl) (by trivial) (fun hHeld => ?_)
      refine wpAnyH_take (i := 0) (oi := { dst := some 69, op := Op.move (Operand.tmp 10), type := 4, pos := "law.go:64", after := #[], guard := none }) (v := ?_) rfl (by kernel_rfl) (by kernel_rfl) (by kernel_rfl) (fun _ _ _ h => h) (Or.inl ⟨by rfl, ?_⟩) (by assumption) ?_; rotate_left; · ((intro w hSw; (try dsimp only at hSw); go_simp) <;> with_reducible rfl)
      try simp only [Act.put, List.setIfInBounds_toArray, List.set_cons_zero, List.set_cons_succ]
      refine wpAnyH_take (i := 1) (oi := { dst := some 70, op := Op.unOp UnOp.not 4 (Operand.tmp 69), type := 4, pos := "law.go:64", after := #[{ on := 0, ground := Ground.data }], guard := none }) (v := ?_) rfl (by kernel_rfl) (by kernel_rfl) (by kernel_rfl) (fun _ _ _ h => h) (Or.inl ⟨by rfl, ?_⟩) (by assumption) ?_; rotate_left; · ((intro w hSw; (try dsimp only at hSw); go_simp) <;> with_reducible rfl)
      try simp only [Act.put, List.setIfInBounds_toArray, List.set_cons_zero, List.set_cons_succ]
      refine wpAnyH_take (i := 2) (oi := { dst := some 71, op := Op.move (Operand.tmp 70), type := 4, pos := "law.go:64", after := #[{ on := 1, ground := Ground.data }], guard := none }) (v := ?_) rfl (by kernel_rfl) (by kernel_rfl) (by kernel_rfl) (fun _ _ _ h => h) (Or.inl ⟨by rfl, ?_⟩) (by assumption) ?_; rotate_left; · ((intro w hSw; (try dsimp only at hSw); go_simp) <;> with_reducible rfl)
      try simp only [Act.put, List.setIfInBounds_toArray, List.set_cons_zero, List.set_cons_succ]
      refine wpAnyH_take (i := 3) (oi := { dst := some 72, op := Op.move (Operand.tmp 1), type := 26, pos := "law.go:64", after := #[{ on := 2, ground := Ground.guard }], guard := some (2, false) }) (v := ?_) rfl (by kernel_rfl) (by kernel_rfl) (by kernel_rfl) (fun _ _ _ h => h) (Or.inl ⟨by rfl, ?_⟩) (by assumption) ?_; rotate_left; · ((intro w hSw; (try dsimp only at hSw); go_simp) <;> with_reducible rfl)
      try simp only [Act.put, List.setIfInBounds_toArray, List.set_cons_zero, List.set_cons_succ]
      refine wpAnyH_take (i := 4) (oi := { dst := some 73, op := Op.slice 26 (Operand.tmp 72) none (some (Operand.const (Value.int IntKind.i64 504))) none, type := 26, pos := "law.go:64", after := #[{ on := 3, ground := Ground.data }, { on := 2, ground := Ground.guard }], guard := some (2, false) }) (v := ?_) rfl (by kernel_rfl) (by kernel_rfl) (by kernel_rfl) (fun _ _ _ h => h) (Or.inl ⟨by rfl, ?_⟩) (by assumption) ?_; rotate_left; · ((intro w hSw; (try dsimp only at hSw); go_simp) <;> with_reducible rfl)
      try simp only [Act.put, List.setIfInBounds_toArray, List.set_cons_zero, List.set_cons_succ]
      refine wpAnyH_take (i := 6) (oi := { dst := some 75, op := Op.move (Operand.tmp 1), type := 26, pos := "law.go:64", after := #[{ on := 2, ground := Ground.guard }], guard := some (2, false) }) (v := ?_) rfl (by kernel_rfl) (by kernel_rfl) (by kernel_rfl) (fun _ _ _ h => h) (Or.inl ⟨by rfl, ?_⟩) (by assumption) ?_; rotate_left; · ((intro w hSw; (try dsimp only at hSw); go_simp) <;> with_reducible rfl)
      try simp only [Act.put, List.setIfInBounds_toArray, List.set_cons_zero, List.set_cons_succ]
      refine wpAnyH_take (i := 7) (oi := { dst := some 76, op := Op.slice 26 (Operand.tmp 75) (some (Operand.const (Value.int IntKind.i64 504))) none none, type := 26, pos := "law.go:64", after := #[{ on := 6, ground := Ground.data }, { on := 2, ground := Ground.guard }], guard := some (2, false) }) (v := ?_) rfl (by kernel_rfl) (by kernel_rfl) (by kernel_rfl) (fun _ _ _ h => h) (Or.inl ⟨by rfl, ?_⟩) (by assumption) ?_; rotate_left; · ((intro w hSw; (try dsimp only at hSw); go_simp) <;> with_reducible rfl)
      try simp only [Act.put, List.setIfInBounds_toArray, List.set_cons_zero, List.set_cons_succ]
      refine wpAnyH_ready (rs := [5]) (by kernel_rfl) (by simp) ?_
      refine AllReadyH.cons (o := { dst := some 74, op := Op.call { callee := Callee.value (Operand.func 50), args := #[Operand.tmp 73], argTypes := #[26] }, type := 26, pos := "law.go:64", after := #[{ on := 4, ground := Ground.data }, { on := 2, ground := Ground.chain }, { on := 2, ground := Ground.guard }], guard := some (2, false) }) rfl (fun K hK => ?_) AllReadyH.nil
      go_simp; (first | ((go_at_call 50; refine (HSum.out _ (bt bw9 bd)).mono ?_; rintro e w10 ⟨A10, c10, rfl, own10, b10⟩; rw [sumB_len]; have bb10 := bt bd b10)) | ((go_at_call 19; rw [H8.out]; refine (HSame.out _ (bt bw9 bb10) A10 c10 _ (Rd.own own10)).mono ?_; rintro e w11 ⟨rfl, b11⟩; rw [Hck.out]; have bb11 := bt bb10 b11))); (try (go_wp2_with fail)); refine hK.out _ _ (by first | trivial | ((try dsimp only); trivial)) (fun hHeld => ?_)
      clear hK K
      try simp only [Act.put, List.setIfInBounds_toArray, List.set_cons_zero, List.set_cons_succ]
      refine wpAnyH_ready (rs := [8]) (by kernel_rfl) (by simp) ?_
      refine AllReadyH.cons (o := { dst := some 77, op := Op.call { callee := Callee.value (Operand.func 19), args := #[Operand.tmp 74, Operand.tmp 76], argTypes := #[26, 26] }, type := 4, pos := "law.go:64", after := #[{ on := 5, ground := Ground.data }, { on := 7, ground := Ground.data }, { on := 5, ground := Ground.chain }, { on := 2, ground := Ground.guard }], guard := some (2, false) }) rfl (fun K hK => ?_) AllReadyH.nil
      go_simp; (first | ((go_at_call 50; refine (HSum.out _ (bt bw9 bd)).mono ?_; rintro e w10 ⟨A10, c10, rfl, own10, b10⟩; rw [sumB_len]; have bb10 := bt bd b10)) | ((go_at_call 19; rw [H8.out]; refine (HSame.out _ (bt bw9 bb10) A10 c10 _ (Rd.own own10)).mono ?_; rintro e w11 ⟨rfl, b11⟩; rw [Hck.out]; have bb11 := bt bb10 b11))); (try (go_wp2_with fail)); refine hK.out _ _ (by first | trivial | ((try dsimp only); trivial)) (fun hHeld => ?_)
      clear hK K
      try simp only [Act.put, List.setIfInBounds_toArray, List.set_cons_zero, List.set_cons_succ]
      refine wpAnyH_take (i := 9) (oi := { dst := some 78, op := Op.unOp UnOp.not 4 (Operand.tmp 77), type := 4, pos := "law.go:64", after := #[{ on := 8, ground := Ground.data }, { on := 2, ground := Ground.guard }], guard := some (2, false) }) (v := ?_) rfl (by kernel_rfl) (by kernel_rfl) (by kernel_rfl) (fun _ _ _ h => h) (Or.inl ⟨by rfl, ?_⟩) (by assumption) ?_; rotate_left; · ((intro w hSw; (try dsimp only at hSw); go_simp) <;> with_reducible rfl)
      try simp only [Act.put, List.setIfInBounds_toArray, List.set_cons_zero, List.set_cons_succ]
      refine wpAnyH_take (i := 10) (oi := { dst := some 79, op := Op.pick (Operand.tmp 71) (Operand.const (Value.bool true)) (Operand.tmp 78), type := 4, pos := "law.go:64", after := #[{ on := 2, ground := Ground.data }, { on := 9, ground := Ground.data }], guard := none }) (v := ?_) rfl (by kernel_rfl) (by kernel_rfl) (by kernel_rfl) (fun _ _ _ h => h) (Or.inl ⟨by rfl, ?_⟩) (by assumption) ?_; rotate_left; · ((intro w hSw; (try dsimp only at hSw); go_simp) <;> with_reducible rfl)
      try simp only [Act.put, List.setIfInBounds_toArray, List.set_cons_zero, List.set_cons_succ]
      refine wpAnyH_done (by kernel_rfl) ?_ _
      have B10 := B8'.on bb11
      have B11 := B9.on bb11
      have own11 := own_on own9 bb11
      have rd11 := rd9.on bb11
      have bw11 := bt bw9 bb11
      go_wp2_with fail
      have hz : Below w11.heap.size w11 w11.drew := (Below.refl _ _).drew
      refine wp_region_held_drew (S := (fun w' => (w'.cell? ⟨w2.heap.size, 0, none⟩ = some (.int .i64 x.kind) ∧ w'.cell? ⟨w2.heap.size, 1, none⟩ = some (.int .u64 (x.life.toNat : Int)) ∧ w'.cell? ⟨w2.heap.size, 2, none⟩ = some (.int .i64 x.seq) ∧ w'.cell? ⟨w2.heap.size, 3, none⟩ = some (.int .u64 (x.gen.toNat : Int)) ∧ w'.cell? ⟨w2.heap.size, 4, none⟩ = some (.slice A2 x.body.length c2)) ∧ (w'.cell? ⟨w8.heap.size, 0, none⟩ = some (.int .i64 x.kind) ∧ w'.cell? ⟨w8.heap.size, 1, none⟩ = some (.int .u64 (x.life.toNat : Int)) ∧ w'.cell? ⟨w8.heap.size, 2, none⟩ = some (.int .i64 x.seq) ∧ w'.cell? ⟨w8.heap.size, 3, none⟩ = some (.int .u64 (x.gen.toNat : Int)) ∧ w'.cell? ⟨w8.heap.size, 4, none⟩ = some (.slice A8 x.body.length c8)))) (by kernel_rfl) (by exact ⟨five5x (B10.on hz), five5x (B11.on hz)⟩) (fun hHeld => ?_)
      refine wpAnyH_take (i := 0) (oi := { dst := some 91, op := Op.move (Operand.tmp 6), type := 43, pos := "law.go:67", after := #[], guard := none }) (v := ?_) rfl (by kernel_rfl) (by kernel_rfl) (by kernel_rfl) (fun _ _ _ h => h) (Or.inl ⟨by rfl, ?_⟩) (by assumption) ?_; rotate_left; · ((intro w hSw; (try dsimp only at hSw); go_simp) <;> with_reducible rfl)
      try simp only [Act.put, List.setIfInBounds_toArray, List.set_cons_zero, List.set_cons_succ]
      refine wpAnyH_take (i := 1) (oi := { dst := some 92, op := Op.binOp BinOp.eql 43 (Operand.tmp 91) (Operand.const (Value.int IntKind.i64 0)) 43, type := 4, pos := "law.go:67", after := #[{ on := 0, ground := Ground.data }], guard := none }) (v := ?_) rfl (by kernel_rfl) (by kernel_rfl) (by kernel_rfl) (fun _ _ _ h => h) (Or.inl ⟨by rfl, ?_⟩) (by assumption) ?_; rotate_left; · ((intro w hSw; (try dsimp only at hSw); go_simp) <;> with_reducible rfl)
      try simp only [Act.put, List.setIfInBounds_toArray, List.set_cons_zero, List.set_cons_succ]
      refine wpAnyH_take (i := 2) (oi := { dst := some 93, op := Op.move (Operand.tmp 92), type := 4, pos := "law.go:67", after := #[{ on := 1, ground := Ground.data }], guard := none }) (v := ?_) rfl (by kernel_rfl) (by kernel_rfl) (by kernel_rfl) (fun _ _ _ h => h) (Or.inl ⟨by rfl, ?_⟩) (by assumption) ?_; rotate_left; · ((intro w hSw; (try dsimp only at hSw); go_simp) <;> with_reducible rfl)
      try simp only [Act.put, List.setIfInBounds_toArray, List.set_cons_zero, List.set_cons_succ]
      refine wpAnyH_take (i := 3) (oi := { dst := some 94, op := Op.load 77 (Operand.tmp 5), type := 77, pos := "law.go:67", after := #[{ on := 2, ground := Ground.guard }], guard := some (2, true) }) (v := ?_) rfl (by kernel_rfl) (by kernel_rfl) (by kernel_rfl) (fun _ _ _ h => h) (Or.inl ⟨by rfl, ?_⟩) (by assumption) ?_; rotate_left; · ((intro w hSw; (try dsimp only at hSw); go_simp) <;> with_reducible rfl)
      try simp only [Act.put, List.setIfInBounds_toArray, List.set_cons_zero, List.set_cons_succ]
      refine wpAnyH_take (i := 5) (oi := { dst := some 96, op := Op.load 83 (Operand.tmp 9), type := 83, pos := "law.go:67", after := #[{ on := 2, ground := Ground.guard }], guard := some (2, true) }) (v := ?_) rfl (by kernel_rfl) (by kernel_rfl) (by kernel_rfl) (fun _ _ _ h => h) (Or.inl ⟨by rfl, ?_⟩) (by assumption) ?_; rotate_left; · ((intro w hSw; (try dsimp only at hSw); go_simp) <;> with_reducible rfl)
      try simp only [Act.put, List.setIfInBounds_toArray, List.set_cons_zero, List.set_cons_succ]
      refine wpAnyH_ready (rs := [4]) (by kernel_rfl) (by simp) ?_
      refine AllReadyH.cons (o := { dst := some 95, op := Op.call { callee := Callee.value (Operand.func 52), args := #[Operand.tmp 94], argTypes := #[77] }, type := 83, pos := "law.go:67", after := #[{ on := 3, ground := Ground.data }, { on := 2, ground := Ground.chain }, { on := 2, ground := Ground.guard }], guard := some (2, true) }) rfl (fun K hK => ?_) AllReadyH.nil
      go_simp; (first | ((go_at_call 52; refine (back_any x A2 c2 _).mono ?_; rintro e w12 ⟨rfl, b12⟩; have bz1 := bt hz b12)) | ((go_at_call 51; refine (rsame_any x x A2 A8 c2 c8 _ ((Rd.own own11).on bz1) (rd11.on bz1) (by omega) (by omega)).mono ?_; rintro e w13 ⟨rfl, b13⟩; rw [same_self]; have bz2 := bt bz1 b13)) | ((go_at_call 44; refine (alive_any _).mono ?_; rintro e w14 ⟨rfl, b14⟩; have bz3 := bt bz2 b14))); (try (go_wp2_with fail)); refine hK.out _ _ (by first | (first | exact ⟨five5x (B10.on hz), five5x (B11.on hz)⟩ | exact ⟨five5x (B10.on bz1), five5x (B11.on bz1)⟩ | exact ⟨five5x (B10.on bz2), five5x (B11.on bz2)⟩ | exact ⟨five5x (B10.on bz3), five5x (B11.on bz3)⟩) | ((try dsimp only); (first | exact ⟨five5x (B10.on hz), five5x (B11.on hz)⟩ | exact ⟨five5x (B10.on bz1), five5x (B11.on bz1)⟩ | exact ⟨five5x (B10.on bz2), five5x (B11.on bz2)⟩ | exact ⟨five5x (B10.on bz3), five5x (B11.on bz3)⟩))) (fun hHeld => ?_)
      clear hK K
      try simp only [Act.put, List.setIfInBounds_toArray, List.set_cons_zero, List.set_cons_succ]
      refine wpAnyH_ready (rs := [6]) (by kernel_rfl) (by simp) ?_
      refine AllReadyH.cons (o := { dst := some 97, op := Op.call { callee := Callee.value (Operand.func 51), args := #[Operand.tmp 95, Operand.tmp 96], argTypes := #[83, 83] }, type := 4, pos := "law.go:67", after := #[{ on := 4, ground := Ground.data }, { on := 5, ground := Ground.data }, { on := 4, ground := Ground.chain }, { on := 2, ground := Ground.guard }], guard := some (2, true) }) rfl (fun K hK => ?_) AllReadyH.nil
      go_simp; (first | ((go_at_call 52; refine (back_any x A2 c2 _).mono ?_; rintro e w12 ⟨rfl, b12⟩; have bz1 := bt hz b12)) | ((go_at_call 51; refine (rsame_any x x A2 A8 c2 c8 _ ((Rd.own own11).on bz1) (rd11.on bz1) (by omega) (by omega)).mono ?_; rintro e w13 ⟨rfl, b13⟩; rw [same_self]; have bz2 := bt bz1 b13)) | ((go_at_call 44; refine (alive_any _).mono ?_; rintro e w14 ⟨rfl, b14⟩; have bz3 := bt bz2 b14))); (try (go_wp2_with fail)); refine hK.out _ _ (by first | (first | exact ⟨five5x (B10.on hz), five5x (B11.on hz)⟩ | exact ⟨five5x (B10.on bz1), five5x (B11.on bz1)⟩ | exact ⟨five5x (B10.on bz2), five5x (B11.on bz2)⟩ | exact ⟨five5x (B10.on bz3), five5x (B11.on bz3)⟩) | ((try dsimp only); (first | exact ⟨five5x (B10.on hz), five5x (B11.on hz)⟩ | exact ⟨five5x (B10.on bz1), five5x (B11.on bz1)⟩ | exact ⟨five5x (B10.on bz2), five5x (B11.on bz2)⟩ | exact ⟨five5x (B10.on bz3), five5x (B11.on bz3)⟩))) (fun hHeld => ?_)
      clear hK K
      try simp only [Act.put, List.setIfInBounds_toArray, List.set_cons_zero, List.set_cons_succ]
      refine wpAnyH_take (i := 7) (oi := { dst := some 98, op := Op.pick (Operand.tmp 93) (Operand.tmp 97) (Operand.const (Value.bool false)), type := 4, pos := "law.go:67", after := #[{ on := 2, ground := Ground.data }, { on := 6, ground := Ground.data }], guard := none }) (v := ?_) rfl (by kernel_rfl) (by kernel_rfl) (by kernel_rfl) (fun _ _ _ h => h) (Or.inl ⟨by rfl, ?_⟩) (by assumption) ?_; rotate_left; · ((intro w hSw; (try dsimp only at hSw); go_simp) <;> with_reducible rfl)
      try simp only [Act.put, List.setIfInBounds_toArray, List.set_cons_zero, List.set_cons_succ]
      refine wpAnyH_take (i := 8) (oi := { dst := some 99, op := Op.move (Operand.tmp 98), type := 4, pos := "law.go:67", after := #[{ on := 7, ground := Ground.data }, { on := 6, ground := Ground.chain }], guard := none }) (v := ?_) rfl (by kernel_rfl) (by kernel_rfl) (by kernel_rfl) (fun _ _ _ h => h) (Or.inl ⟨by rfl, ?_⟩) (by assumption) ?_; rotate_left; · ((intro w hSw; (try dsimp only at hSw); go_simp) <;> with_reducible rfl)
      try simp only [Act.put, List.setIfInBounds_toArray, List.set_cons_zero, List.set_cons_succ]
      refine wpAnyH_ready (rs := [9]) (by kernel_rfl) (by simp) ?_
      refine AllReadyH.cons (o := { dst := some 100, op := Op.call { callee := Callee.value (Operand.func 44), args := #[], argTypes := #[] }, type := 4, pos := "law.go:67", after := #[{ on := 8, ground := Ground.chain }, { on := 8, ground := Ground.guard }], guard := some (8, true) }) rfl (fun K hK => ?_) AllReadyH.nil
      go_simp; (first | ((go_at_call 52; refine (back_any x A2 c2 _).mono ?_; rintro e w12 ⟨rfl, b12⟩; have bz1 := bt hz b12)) | ((go_at_call 51; refine (rsame_any x x A2 A8 c2 c8 _ ((Rd.own own11).on bz1) (rd11.on bz1) (by omega) (by omega)).mono ?_; rintro e w13 ⟨rfl, b13⟩; rw [same_self]; have bz2 := bt bz1 b13)) | ((go_at_call 44; refine (alive_any _).mono ?_; rintro e w14 ⟨rfl, b14⟩; have bz3 := bt bz2 b14))); (try (go_wp2_with fail)); refine hK.out _ _ (by first | (first | exact ⟨five5x (B10.on hz), five5x (B11.on hz)⟩ | exact ⟨five5x (B10.on bz1), five5x (B11.on bz1)⟩ | exact ⟨five5x (B10.on bz2), five5x (B11.on bz2)⟩ | exact ⟨five5x (B10.on bz3), five5x (B11.on bz3)⟩) | ((try dsimp only); (first | exact ⟨five5x (B10.on hz), five5x (B11.on hz)⟩ | exact ⟨five5x (B10.on bz1), five5x (B11.on bz1)⟩ | exact ⟨five5x (B10.on bz2), five5x (B11.on bz2)⟩ | exact ⟨five5x (B10.on bz3), five5x (B11.on bz3)⟩))) (fun hHeld => ?_)
      clear hK K
      try simp only [Act.put, List.setIfInBounds_toArray, List.set_cons_zero, List.set_cons_succ]
      refine wpAnyH_take (i := 10) (oi := { dst := some 101, op := Op.pick (Operand.tmp 99) (Operand.tmp 100) (Operand.const (Value.bool false)), type := 4, pos := "law.go:67", after := #[{ on := 8, ground := Ground.data }, { on := 9, ground := Ground.data }], guard := none }) (v := ?_) rfl (by kernel_rfl) (by kernel_rfl) (by kernel_rfl) (fun _ _ _ h => h) (Or.inl ⟨by rfl, ?_⟩) (by assumption) ?_; rotate_left; · ((intro w hSw; (try dsimp only at hSw); go_simp) <;> with_reducible rfl)
      try simp only [Act.put, List.setIfInBounds_toArray, List.set_cons_zero, List.set_cons_succ]
      refine wpAnyH_take (i := 11) (oi := { dst := some 4, op := Op.assign (Operand.tmp 101), type := 4, pos := "law.go:67", after := #[{ on := 10, ground := Ground.data }, { on := 9, ground := Ground.chain }, { on := 0, ground := Ground.phase }, { on := 1, ground := Ground.phase }, { on := 2, ground := Ground.phase }, { on := 3, ground := Ground.phase }, { on := 4, ground := Ground.phase }, { on := 5, ground := Ground.phase }, { on := 6, ground := Ground.phase }, { on := 7, ground := Ground.phase }, { on := 8, ground := Ground.phase }, { on := 9, ground := Ground.phase }, { on := 10, ground := Ground.phase }], guard := none }) (v := ?_) rfl (by kernel_rfl) (by kernel_rfl) (by kernel_rfl) (fun _ _ _ h => h) (Or.inl ⟨by rfl, ?_⟩) (by assumption) ?_; rotate_left; · ((intro w hSw; (try dsimp only at hSw); go_simp) <;> with_reducible rfl)
      try simp only [Act.put, List.setIfInBounds_toArray, List.set_cons_zero, List.set_cons_succ]
      refine wpAnyH_done (by kernel_rfl) ?_ _
      go_wp2
      go_ret
      exact ⟨rfl, bt bw11 bz3⟩
    · have hckf : ckR b = false := by simpa using hck
      have hd := Lib.hid (Hbad.out (.inr hckf))
      have Hck := Lib.hid (show R1.sameB (Crc.sumB (b.take 504)) (b.drop 504) = false from hckf)
      clear hckf hck ho
      go_enter Try.func8, Try.ntmps8
      go_wp2_with fail
      refine (real_any w).mono ?_
      rintro e w1 ⟨g, rfl, hg, hgl, b1⟩
      go_wp2_with fail
      refine (HD.out w1 b1 g hg).mono ?_
      rintro e w2 ⟨⟨A2, c2, rfl, own2⟩, b2⟩
      rw [hd.out] at own2 ⊢
      unfold xv X0
      have bw2 := bt b1 b2
      have B3 := Blk.new w2 [.int .i64 0, .int .u64 0, .int .i64 0, .int .u64 0, .slice A2 0 c2] 77
      have b3 := b1alloc w2 (.cells #[.int .i64 0, .int .u64 0, .int .i64 0, .int .u64 0, .slice A2 0 c2] 77)
      have own3 := own_on own2 b3
      go_wp2_with fail
      refine (HN.out _).mono ?_
      rintro e w4 ⟨⟨A4, c4, rfl, own4⟩, b4⟩
      unfold xv X0
      have B4 := B3.on b4
      have own4' := own_on own3 b4
      have bw4 := bt (bt bw2 b3) b4
      have B5 := B4.alloc (.cells #[.int .i64 0, .int .u64 0, .int .i64 0, .int .u64 0, .slice A4 0 c4] 77)
      have b5 := b1alloc w4 (.cells #[.int .i64 0, .int .u64 0, .int .i64 0, .int .u64 0, .slice A4 0 c4] 77)
      have own5 := own_on own4' b5
      have bw5 := bt bw4 b5
      go_wp2_with fail
      refine (HI.out _ bw5).mono ?_
      rintro e w6 ⟨rfl, b6⟩
      have bw6 := bt bw5 b6
      have B6 := B5.on b6
      have own6 := own_on own5 b6
      obtain ⟨c0, c1, c2', c3, c4', fr⟩ := five5 B6
      go_wp2_with fail
      refine (HJ.out _ bw6).mono ?_
      rintro e w7 ⟨rfl, rfl⟩
      obtain ⟨bl, hbl⟩ : ∃ bl, bl = blankB b := ⟨_, rfl⟩
      have hbb : (false != false) = false := by simp
      rw [HBl.out]
      clear hbl
      go_wp2_with (first | (go_at_call 48; refine (HJ.out _ bw6).mono ?_; rintro e w7 ⟨rfl, rfl⟩; rw [HBl.out]))
      refine (HO.out _ bw6).mono ?_
      rintro e w8 ⟨ho, b8⟩
      rw [Ho.out] at ho
      obtain ⟨A8, c8, rfl, rd8⟩ := ho
      unfold xv
      have bw8 := bt bw6 b8
      have B8 := B6.on b8
      have own8 := own_on own6 b8
      have B9 := Blk.new w8 [.int .i64 x.kind, .int .u64 (x.life.toNat : Int), .int .i64 x.seq, .int .u64 (x.gen.toNat : Int), .slice A8 x.body.length c8] 83
      have b9 := b1alloc w8 (.cells #[.int .i64 x.kind, .int .u64 (x.life.toNat : Int), .int .i64 x.seq, .int .u64 (x.gen.toNat : Int), .slice A8 x.body.length c8] 83)
      have bw9 := bt bw8 b9
      have own9 := own_on own8 b9
      have B8' := B8.on b9
      go_wp2_with fail
      obtain ⟨w9, hw9⟩ : ∃ w9, w9 = w8.alloc (.cells #[.int .i64 x.kind, .int .u64 (x.life.toNat : Int), .int .i64 x.seq, .int .u64 (x.gen.toNat : Int), .slice A8 x.body.length c8] 83) := ⟨_, rfl⟩
      rw [← hw9] at B9 b9 bw9 own9 B8' ⊢
      have rd9 := rd8.on b9
      clear hw9 c0 c1 c2' c3 c4' fr
      have bd : Below w9.heap.size w9 w9.drew := (Below.refl _ _).drew
      refine wp_region_held_drew (S := (fun _ => True)) (by kernel_rfl) (by trivial) (fun hHeld => ?_)
      refine wpAnyH_take (i := 0) (oi := { dst := some 69, op := Op.move (Operand.tmp 10), type := 4, pos := "law.go:64", after := #[], guard := none }) (v := ?_) rfl (by kernel_rfl) (by kernel_rfl) (by kernel_rfl) (fun _ _ _ h => h) (Or.inl ⟨by rfl, ?_⟩) (by assumption) ?_; rotate_left; · ((intro w hSw; (try dsimp only at hSw); go_simp) <;> with_reducible rfl)
      try simp only [Act.put, List.setIfInBounds_toArray, List.set_cons_zero, List.set_cons_succ]
      refine wpAnyH_take (i := 1) (oi := { dst := some 70, op := Op.unOp UnOp.not 4 (Operand.tmp 69), type := 4, pos := "law.go:64", after := #[{ on := 0, ground := Ground.data }], guard := none }) (v := ?_) rfl (by kernel_rfl) (by kernel_rfl) (by kernel_rfl) (fun _ _ _ h => h) (Or.inl ⟨by rfl, ?_⟩) (by assumption) ?_; rotate_left; · ((intro w hSw; (try dsimp only at hSw); go_simp) <;> with_reducible rfl)
      try simp only [Act.put, List.setIfInBounds_toArray, List.set_cons_zero, List.set_cons_succ]
      refine wpAnyH_take (i := 2) (oi := { dst := some 71, op := Op.move (Operand.tmp 70), type := 4, pos := "law.go:64", after := #[{ on := 1, ground := Ground.data }], guard := none }) (v := ?_) rfl (by kernel_rfl) (by kernel_rfl) (by kernel_rfl) (fun _ _ _ h => h) (Or.inl ⟨by rfl, ?_⟩) (by assumption) ?_; rotate_left; · ((intro w hSw; (try dsimp only at hSw); go_simp) <;> with_reducible rfl)
      try simp only [Act.put, List.setIfInBounds_toArray, List.set_cons_zero, List.set_cons_succ]
      refine wpAnyH_take (i := 3) (oi := { dst := some 72, op := Op.move (Operand.tmp 1), type := 26, pos := "law.go:64", after := #[{ on := 2, ground := Ground.guard }], guard := some (2, false) }) (v := ?_) rfl (by kernel_rfl) (by kernel_rfl) (by kernel_rfl) (fun _ _ _ h => h) (Or.inl ⟨by rfl, ?_⟩) (by assumption) ?_; rotate_left; · ((intro w hSw; (try dsimp only at hSw); go_simp) <;> with_reducible rfl)
      try simp only [Act.put, List.setIfInBounds_toArray, List.set_cons_zero, List.set_cons_succ]
      refine wpAnyH_take (i := 4) (oi := { dst := some 73, op := Op.slice 26 (Operand.tmp 72) none (some (Operand.const (Value.int IntKind.i64 504))) none, type := 26, pos := "law.go:64", after := #[{ on := 3, ground := Ground.data }, { on := 2, ground := Ground.guard }], guard := some (2, false) }) (v := ?_) rfl (by kernel_rfl) (by kernel_rfl) (by kernel_rfl) (fun _ _ _ h => h) (Or.inl ⟨by rfl, ?_⟩) (by assumption) ?_; rotate_left; · ((intro w hSw; (try dsimp only at hSw); go_simp) <;> with_reducible rfl)
      try simp only [Act.put, List.setIfInBounds_toArray, List.set_cons_zero, List.set_cons_succ]
      refine wpAnyH_take (i := 6) (oi := { dst := some 75, op := Op.move (Operand.tmp 1), type := 26, pos := "law.go:64", after := #[{ on := 2, ground := Ground.guard }], guard := some (2, false) }) (v := ?_) rfl (by kernel_rfl) (by kernel_rfl) (by kernel_rfl) (fun _ _ _ h => h) (Or.inl ⟨by rfl, ?_⟩) (by assumption) ?_; rotate_left; · ((intro w hSw; (try dsimp only at hSw); go_simp) <;> with_reducible rfl)
      try simp only [Act.put, List.setIfInBounds_toArray, List.set_cons_zero, List.set_cons_succ]
      refine wpAnyH_take (i := 7) (oi := { dst := some 76, op := Op.slice 26 (Operand.tmp 75) (some (Operand.const (Value.int IntKind.i64 504))) none none, type := 26, pos := "law.go:64", after := #[{ on := 6, ground := Ground.data }, { on := 2, ground := Ground.guard }], guard := some (2, false) }) (v := ?_) rfl (by kernel_rfl) (by kernel_rfl) (by kernel_rfl) (fun _ _ _ h => h) (Or.inl ⟨by rfl, ?_⟩) (by assumption) ?_; rotate_left; · ((intro w hSw; (try dsimp only at hSw); go_simp) <;> with_reducible rfl)
      try simp only [Act.put, List.setIfInBounds_toArray, List.set_cons_zero, List.set_cons_succ]
      refine wpAnyH_ready (rs := [5]) (by kernel_rfl) (by simp) ?_
      refine AllReadyH.cons (o := { dst := some 74, op := Op.call { callee := Callee.value (Operand.func 50), args := #[Operand.tmp 73], argTypes := #[26] }, type := 26, pos := "law.go:64", after := #[{ on := 4, ground := Ground.data }, { on := 2, ground := Ground.chain }, { on := 2, ground := Ground.guard }], guard := some (2, false) }) rfl (fun K hK => ?_) AllReadyH.nil
      go_simp; (first | ((go_at_call 50; refine (HSum.out _ (bt bw9 bd)).mono ?_; rintro e w10 ⟨A10, c10, rfl, own10, b10⟩; rw [sumB_len]; have bb10 := bt bd b10)) | ((go_at_call 19; rw [H8.out]; refine (HSame.out _ (bt bw9 bb10) A10 c10 _ (Rd.own own10)).mono ?_; rintro e w11 ⟨rfl, b11⟩; rw [Hck.out]; have bb11 := bt bb10 b11))); (try (go_wp2_with fail)); refine hK.out _ _ (by first | trivial | ((try dsimp only); trivial)) (fun hHeld => ?_)
      clear hK K
      try simp only [Act.put, List.setIfInBounds_toArray, List.set_cons_zero, List.set_cons_succ]
      refine wpAnyH_ready (rs := [8]) (by kernel_rfl) (by simp) ?_
      refine AllReadyH.cons (o := { dst := some 77, op := Op.call { callee := Callee.value (Operand.func 19), args := #[Operand.tmp 74, Operand.tmp 76], argTypes := #[26, 26] }, type := 4, pos := "law.go:64", after := #[{ on := 5, ground := Ground.data }, { on := 7, ground := Ground.data }, { on := 5, ground := Ground.chain }, { on := 2, ground := Ground.guard }], guard := some (2, false) }) rfl (fun K hK => ?_) AllReadyH.nil
      go_simp; (first | ((go_at_call 50; refine (HSum.out _ (bt bw9 bd)).mono ?_; rintro e w10 ⟨A10, c10, rfl, own10, b10⟩; rw [sumB_len]; have bb10 := bt bd b10)) | ((go_at_call 19; rw [H8.out]; refine (HSame.out _ (bt bw9 bb10) A10 c10 _ (Rd.own own10)).mono ?_; rintro e w11 ⟨rfl, b11⟩; rw [Hck.out]; have bb11 := bt bb10 b11))); (try (go_wp2_with fail)); refine hK.out _ _ (by first | trivial | ((try dsimp only); trivial)) (fun hHeld => ?_)
      clear hK K
      try simp only [Act.put, List.setIfInBounds_toArray, List.set_cons_zero, List.set_cons_succ]
      refine wpAnyH_take (i := 9) (oi := { dst := some 78, op := Op.unOp UnOp.not 4 (Operand.tmp 77), type := 4, pos := "law.go:64", after := #[{ on := 8, ground := Ground.data }, { on := 2, ground := Ground.guard }], guard := some (2, false) }) (v := ?_) rfl (by kernel_rfl) (by kernel_rfl) (by kernel_rfl) (fun _ _ _ h => h) (Or.inl ⟨by rfl, ?_⟩) (by assumption) ?_; rotate_left; · ((intro w hSw; (try dsimp only at hSw); go_simp) <;> with_reducible rfl)
      try simp only [Act.put, List.setIfInBounds_toArray, List.set_cons_zero, List.set_cons_succ]
      refine wpAnyH_take (i := 10) (oi := { dst := some 79, op := Op.pick (Operand.tmp 71) (Operand.const (Value.bool true)) (Operand.tmp 78), type := 4, pos := "law.go:64", after := #[{ on := 2, ground := Ground.data }, { on := 9, ground := Ground.data }], guard := none }) (v := ?_) rfl (by kernel_rfl) (by kernel_rfl) (by kernel_rfl) (fun _ _ _ h => h) (Or.inl ⟨by rfl, ?_⟩) (by assumption) ?_; rotate_left; · ((intro w hSw; (try dsimp only at hSw); go_simp) <;> with_reducible rfl)
      try simp only [Act.put, List.setIfInBounds_toArray, List.set_cons_zero, List.set_cons_succ]
      refine wpAnyH_done (by kernel_rfl) ?_ _
      obtain ⟨w10, hw10⟩ : ∃ w10, w10 = w11 := ⟨_, rfl⟩
      have b10 : Below w9.heap.size w9 w10 := by rw [hw10]; exact bb11
      try rw [← hw10]
      clear hw10
      have B10 := B8'.on b10
      obtain ⟨c0, c1, c2', c3, c4', fr⟩ := five5 B10
      have bw10 := bt bw9 b10
      go_wp2_with (first
        | (go_at_call 52; refine (back_any X0 A2 c2 _).mono ?_; rintro e w21 ⟨rfl, b21⟩; unfold X0; have bw11 := bt bw10 b21)
        | (go_at_call 51; refine (rsame_any X0 X0 A2 none c2 0 _ (Rd.nil _ _ _) (Rd.nil _ _ _) (by simp [X0]) (by simp [X0])).mono ?_; rintro e w12 ⟨rfl, b12⟩; rw [same_self]; have bw12 := bt bw11 b12)
        | (go_at_call 44; refine (alive_any _).mono ?_; rintro e w13 ⟨rfl, b13⟩; have bw13 := bt bw12 b13))
      go_ret
      exact ⟨rfl, bw13⟩
set_option maxRecDepth 100000 in
theorem lifted (os : Os) (started : os.Started) (H : Type) (enc : TypeId × Value → H) :
    ReturnsInHanded {} Try.checked os 8 .any (Rows.sectorReadsSpec.pre6 enc Try.prog Try.f8 Rows.sectorReadsRow.domain false) (Rows.sectorReadsSpec.post enc Try.prog Try.f8 false true false false) := by
  refine returnsInHanded_of_change (C := Try.checked) own started (by kernel_rfl) Try.func8
    (ChangeSpec.witness6 (enc := enc) (C := Try.checked) false ⟨#[], #[.int .i64 0, .slice none 0 0], []⟩ 8 (by kernel_rfl) (by kernel_rfl) (by kernel_rfl) (by kernel_rfl)) ?_
  intro W base args ds gs before hval0 hW hcnd _
  have hval : ∀ (j : Nat) t v, Try.f8.params[j]? = some t → args[j]? = some v → Value.okWide Try.prog W .any base t v := hval0
  have hW' := hW
  obtain ⟨p, q, hA0, hV, rfl, hfz, hnd⟩ := hW
  have hA : DataW.TrodAll enc Try.prog W 0 (fun _ => true) true Try.f8.params.toList args.toList ds p := hA0
  rw [Try.params8] at hA hval
  obtain ⟨v0, vs0, d0, ds0, p0, q0, hargs, rfl, rfl, h0, r0⟩ := trodAll_cons hA
  obtain ⟨v1, vs1, d1, ds1, p1, q1, rfl, rfl, rfl, h1, r1⟩ := trodAll_cons r0
  obtain ⟨rfl, rfl, rfl⟩ := trodAll_nil r1
  obtain rfl : args = #[v0, v1] := by cases args; simp_all
  obtain ⟨rfl, rfl⟩ := trodVars_none hV
  have k0 := h0
  have lt0 := places_lt k0
  obtain ⟨n0, rfl, _, _, w0⟩ := open_int Try.underlying3 (hval 0 3 v0 rfl rfl) h0
  have k1 := h1
  have lt1 := places_lt k1
  obtain ⟨a1, len1, cap1, rfl⟩ := okWide_slice Try.underlying26 (hval 1 26 v1 rfl rfl)
  obtain ⟨fuel1, hf1⟩ := h1
  obtain ⟨l1, rfl, rr1, rc1, rm1⟩ := bytes_of rfl Try.underlying26 Try.underlying5 (by kernel_rfl) hf1
  clear hA0 hval0
  refine (walk n0 a1 l1 cap1 W (wfi w0).1 (wfi w0).2 rr1 rc1 rm1).mono fun e W' ⟨he, bel⟩ => ?_
  subst he
  exact ⟨_, rfl, _, _, _, [], _, [], hW', trodAll_mk1 (shut_bool Try.underlying4 _), (trodAll_cons_mk (Below.trod laidOut (by kernel_rfl) (of_decide_eq_true (by kernel_rfl)) k0 bel lt0) (trodAll_cons_mk (Below.trod laidOut (by kernel_rfl) (of_decide_eq_true (by kernel_rfl)) k1 bel lt1) trodAll_mk0)), rfl, bel.frame _, fun h => by cases h⟩

theorem proved : Rows.SectorReadsSaid :=
  OpenClaim.holds_of_wide 8 Try.f8 rfl rfl rfl rfl rfl rfl rfl ⟨rfl, rfl, rfl, rfl, rfl⟩ rfl rfl rfl rfl rfl (by kernel_rfl) Try.func8 (by kernel_rfl)
    (of_decide_eq_true (by kernel_rfl)) (by unfold Func.isWrapper; first | (rw [if_pos (by decide +kernel)]; kernel_rfl) | (rw [if_neg (by decide +kernel)]; exact ⟨rfl, rfl⟩))
    (fun os started H enc _ => lifted os started H enc)
#print axioms proved
end Go.Proofs.Ytdkcdojcglmlbaa.SectorReads
