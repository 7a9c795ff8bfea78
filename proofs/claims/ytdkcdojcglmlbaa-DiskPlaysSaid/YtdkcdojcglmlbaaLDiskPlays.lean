/- DiskPlays: for every input the law returns true: what a disk tells and keeps behind any acts: any writes, pending or kept, torn, lost, and whenever its power goes. No condition. -/
import Derived.Test.YtdkcdojcglmlbaaPlay3
import Derived.Deep.RegionHeld3
namespace Go.Proofs.Ytdkcdojcglmlbaa.DiskPlays
open Go.ChangeShapes Go.WideShapes Go.ChangeAt Go.RowKit Go.Joins
open Go.ChangeMaps (open_string shut_string)
open Go.Proofs.Ytdkcdojcglmlbaa.Disk
set_option linter.unusedVariables false
set_option maxRecDepth 100000
set_option maxHeartbeats 20000000 in
theorem walk (n : Int) (A : Option Addr) (l : List Act') (c : Nat) (w : World) (hn0 : -9223372036854775808 ≤ n) (hn1 : n ≤ 9223372036854775807) (hr : Acts w w.heap.size A l) (hc : l.length ≤ c) (hcm : c ≤ maxLen) :
    Calls Try.prog 12 #[.int .i64 n, .slice A l.length c] w fun e w' => e = .returned (.bool true) ∧ Below w.heap.size w w' := by
  have hLi := Lib.hid (light_any A l l.length c w rfl hr (by unfold maxLen at hcm; omega))
  cases hlt : lightA l with
  | false =>
    rw [hlt] at hLi
    go_enter Try.func12, Try.ntmps12
    go_wp2_with (first | (go_at_call 64; refine (hLi.out).mono ?_; rintro e w1 ⟨rfl, rfl⟩) | (go_at_call 30; refine (alive_any _).mono ?_; rintro e w2 ⟨rfl, b2⟩))
    go_ret
    exact ⟨rfl, b2⟩
  | true =>
    rw [hlt] at hLi
    by_cases hbig : 12 < n ∧ n ≤ 1024
    · obtain ⟨h1, h2⟩ := hbig
      go_enter Try.func12, Try.ntmps12
      go_wp2_with (first | (go_at_call 64; refine (hLi.out).mono ?_; rintro e w1 ⟨rfl, rfl⟩) | (go_at_call 30; refine (alive_any _).mono ?_; rintro e w2 ⟨rfl, b2⟩))
      go_ret
      exact ⟨rfl, b2⟩
    have hNew := Lib.hid (new_any n w hn0 hn1)
    by_cases hsm : n < 1 ∨ 1024 < n
    · simp only [if_pos hsm] at hNew
      rcases hsm with h1 | h1
      all_goals
        clear hbig
        go_enter Try.func12, Try.ntmps12
        go_wp2_with (first | (go_at_call 64; refine (hLi.out).mono ?_; rintro e w1 ⟨rfl, rfl⟩) | (go_at_call 31; refine (hNew.out).mono ?_; rintro e w2 ⟨rfl, b2⟩) | (go_at_call 30; refine (alive_any _).mono ?_; rintro e w3 ⟨rfl, b3⟩))
        go_ret
        exact ⟨rfl, bt b2 b3⟩
    simp only [if_neg hsm] at hNew
    obtain ⟨m, rfl⟩ : ∃ m : Nat, n = (m : Int) := ⟨n.toNat, by omega⟩
    have hm1 : 1 ≤ m := by omega
    have hm2 : m ≤ 12 := by omega
    simp only [Int.toNat_natCast] at hNew
    obtain ⟨hl40, hlo⟩ := lightA_of hlt
    have Hlo := Lib.hid hlo
    clear hbig hsm hlt hlo
    have hmI : (1 : Int) ≤ (m : Int) := by omega
    have hmI2 : (m : Int) ≤ 12 := by omega
    go_enter Try.func12, Try.ntmps12
    go_wp2_with (first | (go_at_call 64; refine (hLi.out).mono ?_; rintro e w1 ⟨rfl, rfl⟩) | (go_at_call 31; refine (hNew.out).mono ?_; rintro e w2 ⟨⟨g, fp, rfl, hD, hfp⟩, b2⟩))
    refine (rnew_any m w2).mono ?_
    rintro e w3 ⟨x3, rfl, hx3, b3⟩
    obtain ⟨K1, m1, e1, K2, m2, e2, K3, m3, e3, rfl⟩ := (hx3 fp).form2
    have bw3 := bt b2 b3
    have b4 := b1alloc w3 (.cells (rvL (new m).size (.slice K1 m1 e1) (.slice K2 m2 e2) (.slice K3 m3 e3) (new m).fuse (new m).calls (new m).down).toArray 108)
    have h7 : BlkT (w3.alloc (.cells (rvL (new m).size (.slice K1 m1 e1) (.slice K2 m2 e2) (.slice K3 m3 e3) (new m).fuse (new m).calls (new m).down).toArray 108)) w3.heap.size 108 (rvL (new m).size (.slice K1 m1 e1) (.slice K2 m2 e2) (.slice K3 m3 e3) (new m).fuse (new m).calls (new m).down) := heap_alloc_new w3 _
    have hx4 := (hx3 (w3.heap.size :: fp)).on b4
    have hD4 := (hD.on b3).on b4
    have hltD := hD.lt
    have bw4 := bt bw3 b4
    obtain ⟨T7, hT7⟩ : ∃ t, t = w3.heap.size := ⟨_, rfl⟩
    have hT7n : T7 ∉ fp := fun e => by have := hltD _ e; have := b3.size; omega
    have HsN := Lib.hid (show ∀ k, ((l.take k).foldl act (new m)).sz ≤ 80 from fun k => by
      have := sz_acts (l.take k) (new m)
      have h0 : (new m).sz = 0 := rfl
      rw [List.length_take] at this
      omega)
    unfold rvL at b4 h7 hx4 hD4 bw4 ⊢
    go_wp2_with fail
    obtain ⟨w4, hw4⟩ : ∃ w4, w4 = w3.alloc (.cells ([.int .i64 ((new m).size : Int), .slice K1 m1 e1, .slice K2 m2 e2, .slice K3 m3 e3, .int .i64 (new m).fuse, .int .i64 ((new m).calls : Int), .bool (new m).down] : List Value).toArray 108) := ⟨_, rfl⟩
    simp only [← hw4] at b4 h7 hx4 hD4 bw4
    first | rw [← hw4] | (have hw4' : w4 = _ := hw4; simp only [List.toArray] at hw4'; skip)
    rw [← hT7] at h7 hx4 ⊢
    have hT7l : w.heap.size ≤ T7 := by rw [hT7]; exact bw3.size
    clear hw4 hx3 hD b2 b3 b4 hT7 hltD bw3
    go_loopw [8, 9] (fun i _ wr => ∃ k : Nat, k ≤ l.length ∧ i = .int .i64 k ∧ ∃ fq K1 m1 e1 K2 m2 e2 K3 m3 e3, DAt wr g fq ((l.take k).foldl act (new m)) ∧ (∀ j ∈ fq, w.heap.size ≤ j) ∧ T7 ∉ fq ∧ BlkT wr T7 108 (rvL ((l.take k).foldl act (new m)).size (.slice K1 m1 e1) (.slice K2 m2 e2) (.slice K3 m3 e3) ((l.take k).foldl act (new m)).fuse ((l.take k).foldl act (new m)).calls ((l.take k).foldl act (new m)).down) ∧ RAt wr (T7 :: fq) (.agg (rvL ((l.take k).foldl act (new m)).size (.slice K1 m1 e1) (.slice K2 m2 e2) (.slice K3 m3 e3) ((l.take k).foldl act (new m)).fuse ((l.take k).foldl act (new m)).calls ((l.take k).foldl act (new m)).down).toArray) ((l.take k).foldl act (new m)) ∧ Below w.heap.size w wr) (fun i _ _ => l.length - (intOf i).toNat)
    case atStart => exact ⟨0, by omega, rfl, fp, K1, m1, e1, K2, m2, e2, K3, m3, e3, by rw [List.take_zero]; exact hD4, hfp, hT7n, by rw [List.take_zero]; exact h7, by rw [List.take_zero]; exact hx4, bw4⟩
    case round =>
      clear h7 hx4 hD4 bw4 hfp hT7n
      obtain ⟨k, hk, rfl, fq, K1, m1, e1, K2, m2, e2, K3, m3, e3, hD, hge, hTn, hB7, hx, bel⟩ := hrel
      have hsz := HsN.out k
      have htk := Lib.hid (fun (h : k < l.length) => show (l.take (k + 1)).foldl act (new m) = act ((l.take k).foldl act (new m)) (l[k]'h) by rw [List.take_succ_eq_append_getElem h, List.foldl_append]; rfl)
      obtain ⟨s, hs⟩ : ∃ s, s = (l.take k).foldl act (new m) := ⟨_, rfl⟩
      rw [← hs] at hD hB7 hx hsz htk
      have Hs := Lib.hid hs
      clear hs
      by_cases hlt : k < l.length
      · obtain ⟨b, off, Ak, ck, rfl, hbb, y0, y1, y2, y3, y4, y5, y6, hkr, hkc, hkm, hyo⟩ := (hr.below bel).get hlt
        obtain ⟨hk20, hs0, hs6⟩ := Hlo.out _ (List.getElem_mem hlt)
        have Htk := Lib.hid (htk.out hlt)
        obtain ⟨y, hy⟩ : ∃ y, y = l[k] := ⟨_, rfl⟩
        rw [← hy] at y0 y1 y2 y3 y4 y5 y6 hkr hkc hyo hk20 hs0 hs6 Htk
        clear hy htk
        have hbr : b < wr.heap.size := Nat.lt_of_lt_of_le hbb bel.size
        have hbq : b ∉ fq := fun e => by have := hge b e; omega
        have hkrN : RdN wr fq Ak (y.keep.map (Value.int .i64)) := RdN.of hkr hge bel.size
        have hl7 := lt_of_block hB7
        have Hdo := Lib.hid (fun W (bW : Below wr.heap.size wr W) ex (hex : ∀ j ∈ ex, j < W.heap.size) (hX : RAt W (ex ++ fq) (.agg (rvL s.size (.slice K1 m1 e1) (.slice K2 m2 e2) (.slice K3 m3 e3) s.fuse s.calls s.down).toArray) s) => do_any W g fq s _ y Ak ck ex hex (hD.on bW) hX (by omega) (hkrN.on bW) hk20 hs0 hs6 hyo)
        go_wp2_with fail
        have bA : Below wr.heap.size wr wr.drew := (Below.refl _ _).drew
        have cells := (show ∀ W : World, Keep fq wr W → (fun w' : World => (w'.cell? ⟨T7, 0, none⟩ = some (.int .i64 (s.size : Int)) ∧ w'.cell? ⟨T7, 1, none⟩ = some (.slice K1 m1 e1) ∧ w'.cell? ⟨T7, 2, none⟩ = some (.slice K2 m2 e2) ∧ w'.cell? ⟨T7, 3, none⟩ = some (.slice K3 m3 e3) ∧ w'.cell? ⟨T7, 4, none⟩ = some (.int .i64 s.fuse) ∧ w'.cell? ⟨T7, 5, none⟩ = some (.int .i64 (s.calls : Int)) ∧ w'.cell? ⟨T7, 6, none⟩ = some (.bool s.down)) ∧ (w'.cell? ⟨b, off + k * 7, none⟩ = some (.int .i64 y.kind) ∧ w'.cell? ⟨b, off + k * 7 + 1, none⟩ = some (.int .i64 y.place) ∧ w'.cell? ⟨b, off + k * 7 + 2, none⟩ = some (.int .i64 y.size) ∧ w'.cell? ⟨b, off + k * 7 + 3, none⟩ = some (.int .i64 y.n) ∧ w'.cell? ⟨b, off + k * 7 + 4, none⟩ = some (.int .i64 y.at') ∧ w'.cell? ⟨b, off + k * 7 + 5, none⟩ = some (.int .u8 (y.fill.toNat : Int)) ∧ w'.cell? ⟨b, off + k * 7 + 6, none⟩ = some (.slice Ak y.keep.length ck))) W from fun W kW => by
          have h : ∀ p : Addr, p.block < wr.heap.size → p.block ∉ fq → W.cell? p = wr.cell? p := fun p h1 h2 => by simp only [World.cell?, kW.block h1 h2]
          have q0 := hB7.blk.cell (k := 0) (by simp [rvL])
          have q1 := hB7.blk.cell (k := 1) (by simp [rvL])
          have q2 := hB7.blk.cell (k := 2) (by simp [rvL])
          have q3 := hB7.blk.cell (k := 3) (by simp [rvL])
          have q4 := hB7.blk.cell (k := 4) (by simp [rvL])
          have q5 := hB7.blk.cell (k := 5) (by simp [rvL])
          have q6 := hB7.blk.cell (k := 6) (by simp [rvL])
          exact ⟨⟨(h ⟨T7, 0, none⟩ hl7 hTn).trans q0, (h ⟨T7, 1, none⟩ hl7 hTn).trans q1, (h ⟨T7, 2, none⟩ hl7 hTn).trans q2, (h ⟨T7, 3, none⟩ hl7 hTn).trans q3, (h ⟨T7, 4, none⟩ hl7 hTn).trans q4, (h ⟨T7, 5, none⟩ hl7 hTn).trans q5, (h ⟨T7, 6, none⟩ hl7 hTn).trans q6⟩,
            (h ⟨b, _, none⟩ hbr hbq).trans y0, (h ⟨b, _, none⟩ hbr hbq).trans y1, (h ⟨b, _, none⟩ hbr hbq).trans y2, (h ⟨b, _, none⟩ hbr hbq).trans y3, (h ⟨b, _, none⟩ hbr hbq).trans y4, (h ⟨b, _, none⟩ hbr hbq).trans y5, (h ⟨b, _, none⟩ hbr hbq).trans y6⟩)
        have kA := (show Keep fq wr wr.drew from Keep.of_below bA fq)
        have hX1 := (show RAt wr.drew ([T7] ++ fq) _ s from hx.on bA)
        have hE1 := (show ∀ j ∈ [T7], j < wr.drew.heap.size from fun j hj => by rw [List.mem_singleton.1 hj]; exact hl7)
        have HdoA := Lib.hid (Hdo.out wr.drew bA [T7] hE1 hX1)
        have HdoB := Lib.hid (fun o => Hdo.out (wr.drew.alloc o) (bt bA (b1alloc _ o)) [wr.drew.heap.size, T7] (fun j hj => by
          have : j = wr.drew.heap.size ∨ j = T7 := by simpa using hj
          have h7 := hE1 T7 (by simp)
          have hsz := (b1alloc wr.drew o).size
          rcases this with h | h
          · rw [h]; simp
          · rw [h]; exact Nat.lt_of_lt_of_le h7 hsz) (show RAt (wr.drew.alloc o) (wr.drew.heap.size :: (T7 :: fq)) _ s from by
          obtain ⟨vk, vw, vh, h1, h2, h3, h4⟩ := hX1
          exact ⟨vk, vw, vh, h1, (h2.cons (Nat.le_refl _)).on (b1alloc _ o), (h3.cons (Nat.le_refl _)).on (b1alloc _ o), (h4.cons (Nat.le_refl _)).on (b1alloc _ o)⟩))
        have kZ := (show Keep fq wr (wr.alloc (.cells #[.int .i64 0, .slice none 0 0, .slice none 0 0, .slice none 0 0, .int .i64 0, .int .i64 0, .bool false] 108)).drew from ((Keep.refl fq wr).alloc _))
        clear hX1 hx Hdo
        have hlf := (show ∀ j ∈ fq, j < wr.drew.heap.size from hD.lt)
        obtain ⟨s5, hs5⟩ : ∃ s5, s5 = act s y := ⟨_, rfl⟩
        rw [← hs5] at Htk HdoA
        simp only [← hs5] at HdoB
        clear hs5
        refine wp_region_held_drew (S := (fun w' => (w'.cell? ⟨T7, 0, none⟩ = some (.int .i64 (s.size : Int)) ∧ w'.cell? ⟨T7, 1, none⟩ = some (.slice K1 m1 e1) ∧ w'.cell? ⟨T7, 2, none⟩ = some (.slice K2 m2 e2) ∧ w'.cell? ⟨T7, 3, none⟩ = some (.slice K3 m3 e3) ∧ w'.cell? ⟨T7, 4, none⟩ = some (.int .i64 s.fuse) ∧ w'.cell? ⟨T7, 5, none⟩ = some (.int .i64 (s.calls : Int)) ∧ w'.cell? ⟨T7, 6, none⟩ = some (.bool s.down)) ∧ (w'.cell? ⟨b, off + k * 7, none⟩ = some (.int .i64 y.kind) ∧ w'.cell? ⟨b, off + k * 7 + 1, none⟩ = some (.int .i64 y.place) ∧ w'.cell? ⟨b, off + k * 7 + 2, none⟩ = some (.int .i64 y.size) ∧ w'.cell? ⟨b, off + k * 7 + 3, none⟩ = some (.int .i64 y.n) ∧ w'.cell? ⟨b, off + k * 7 + 4, none⟩ = some (.int .i64 y.at') ∧ w'.cell? ⟨b, off + k * 7 + 5, none⟩ = some (.int .u8 (y.fill.toNat : Int)) ∧ w'.cell? ⟨b, off + k * 7 + 6, none⟩ = some (.slice Ak y.keep.length ck)))) (by kernel_rfl) (by exact cells _ kA) (fun hHeld => ?_)
        refine wpAnyH_take (i := 0) (oi := { dst := some 53, op := Op.move (Operand.tmp 5), type := 59, pos := "law.go:87", after := #[], guard := none }) (v := ?_) rfl (by kernel_rfl) (by kernel_rfl) (by kernel_rfl) (fun _ _ _ h => h) (Or.inl ⟨by rfl, ?_⟩) (by assumption) ?_; rotate_left; · ((intro w hSw; (try dsimp only at hSw); go_simp) <;> with_reducible rfl)
        try simp only [Act.put, List.setIfInBounds_toArray, List.set_cons_zero, List.set_cons_succ]
        refine wpAnyH_take (i := 1) (oi := { dst := some 54, op := Op.load 108 (Operand.tmp 7), type := 108, pos := "law.go:87", after := #[], guard := none }) (v := ?_) rfl (by kernel_rfl) (by kernel_rfl) (by kernel_rfl) (fun _ _ _ h => h) (Or.inl ⟨by rfl, ?_⟩) (by assumption) ?_; rotate_left; · ((intro w hSw; (try dsimp only at hSw); go_simp) <;> with_reducible rfl)
        try simp only [Act.put, List.setIfInBounds_toArray, List.set_cons_zero, List.set_cons_succ]
        refine wpAnyH_take (i := 2) (oi := { dst := some 55, op := Op.move (Operand.tmp 1), type := 105, pos := "law.go:87", after := #[], guard := none }) (v := ?_) rfl (by kernel_rfl) (by kernel_rfl) (by kernel_rfl) (fun _ _ _ h => h) (Or.inl ⟨by rfl, ?_⟩) (by assumption) ?_; rotate_left; · ((intro w hSw; (try dsimp only at hSw); go_simp) <;> with_reducible rfl)
        try simp only [Act.put, List.setIfInBounds_toArray, List.set_cons_zero, List.set_cons_succ]
        refine wpAnyH_take (i := 3) (oi := { dst := some 56, op := Op.move (Operand.tmp 8), type := 3, pos := "law.go:87", after := #[], guard := none }) (v := ?_) rfl (by kernel_rfl) (by kernel_rfl) (by kernel_rfl) (fun _ _ _ h => h) (Or.inl ⟨by rfl, ?_⟩) (by assumption) ?_; rotate_left; · ((intro w hSw; (try dsimp only at hSw); go_simp) <;> with_reducible rfl)
        try simp only [Act.put, List.setIfInBounds_toArray, List.set_cons_zero, List.set_cons_succ]
        refine wpAnyH_take (i := 4) (oi := { dst := some 57, op := Op.indexAddr 105 (Operand.tmp 55) (Operand.tmp 56), type := 0, pos := "law.go:87", after := #[{ on := 2, ground := Ground.data }, { on := 3, ground := Ground.data }], guard := none }) (v := ?_) rfl (by kernel_rfl) (by kernel_rfl) (by kernel_rfl) (fun _ _ _ h => h) (Or.inl ⟨by rfl, ?_⟩) (by assumption) ?_; rotate_left; · ((intro w hSw; (try dsimp only at hSw); go_simp) <;> with_reducible rfl)
        try simp only [Act.put, List.setIfInBounds_toArray, List.set_cons_zero, List.set_cons_succ]
        refine wpAnyH_take (i := 5) (oi := { dst := some 58, op := Op.load 113 (Operand.tmp 57), type := 113, pos := "law.go:87", after := #[{ on := 4, ground := Ground.data }], guard := none }) (v := ?_) rfl (by kernel_rfl) (by kernel_rfl) (by kernel_rfl) (fun _ _ _ h => h) (Or.inl ⟨by rfl, ?_⟩) (by assumption) ?_; rotate_left; · ((intro w hSw; (try dsimp only at hSw); go_simp) <;> with_reducible rfl)
        try simp only [Act.put, List.setIfInBounds_toArray, List.set_cons_zero, List.set_cons_succ]
        refine wpAnyH_ready (rs := [6, 10]) (by kernel_rfl) (by simp) ?_
        refine (AllReadyH.cons (o := { dst := some 59, op := Op.call { callee := Callee.value (Operand.func 66), args := #[Operand.tmp 53, Operand.tmp 54, Operand.tmp 58], argTypes := #[59, 108, 113] }, type := 110, pos := "law.go:87", after := #[{ on := 0, ground := Ground.data }, { on := 1, ground := Ground.data }, { on := 5, ground := Ground.data }], guard := none }) rfl (fun K hK => ?way2) (AllReadyH.cons (o := { dst := some 9, op := Op.alloc 108, type := 0, pos := "law.go:87", after := #[], guard := none }) rfl (fun K hK => ?way1) AllReadyH.nil))
        case' way2 =>
          go_simp; (first | (go_at_call 66; first | (refine (HdoA.out).mono ?_; rintro e w5 ⟨x5, rfl, fq5, hD5, hx5, k5, f5⟩; obtain ⟨L1, n1, c1, L2, n2, c2, L3, n3, c3, rfl⟩ := hx5.form2; have kB := kA.trans k5 (Fresh.refl _ _); have hk9 := kB.size; have kC := kB.alloc (.cells #[.int .i64 0, .slice none 0 0, .slice none 0 0, .slice none 0 0, .int .i64 0, .int .i64 0, .bool false] 108); unfold rvL) | (refine (HdoB.out (.cells #[.int .i64 0, .slice none 0 0, .slice none 0 0, .slice none 0 0, .int .i64 0, .int .i64 0, .bool false] 108)).mono ?_; rintro e w5 ⟨x5, rfl, fq5, hD5, hx5, k5, f5⟩; obtain ⟨L1, n1, c1, L2, n2, c2, L3, n3, c3, rfl⟩ := hx5.form2; have kB := (kA.alloc _).trans k5 (Fresh.refl _ _); have hk9 := (Nat.le_refl wr.heap.size); have kC := kB; have hZ := (show BlkT w5 wr.heap.size 108 [.int .i64 0, .slice none 0 0, .slice none 0 0, .slice none 0 0, .int .i64 0, .int .i64 0, .bool false] from (k5.block (by simp) (fun e => Nat.lt_irrefl _ (hlf _ e))).trans (heap_alloc_new wr.drew _)); obtain ⟨d0, d1, d2, d3, d4, d5, d6, df⟩ := sevenT hZ; unfold rvL)) | skip); (try (go_wp2_with fail)); refine hK.out _ _ (by first | (first | with_reducible exact cells _ kA | with_reducible exact cells _ kZ | with_reducible exact cells _ (kA.alloc _) | with_reducible exact cells _ kB | with_reducible exact cells _ (kB.alloc _) | with_reducible exact cells _ (((((((kC.set (.inr hk9) _).set (.inr hk9) _).set (.inr hk9) _).set (.inr hk9) _).set (.inr hk9) _).set (.inr hk9) _).set (.inr hk9) _)) | ((try dsimp only); (first | with_reducible exact cells _ kA | with_reducible exact cells _ kZ | with_reducible exact cells _ (kA.alloc _) | with_reducible exact cells _ kB | with_reducible exact cells _ (kB.alloc _) | with_reducible exact cells _ (((((((kC.set (.inr hk9) _).set (.inr hk9) _).set (.inr hk9) _).set (.inr hk9) _).set (.inr hk9) _).set (.inr hk9) _).set (.inr hk9) _)))) (fun hHeld => ?_)
          clear hK K
          try simp only [Act.put, List.setIfInBounds_toArray, List.set_cons_zero, List.set_cons_succ]
          refine wpAnyH_take (i := 7) (oi := { dst := some 52, op := Op.move (Operand.tmp 59), type := 110, pos := "law.go:87", after := #[{ on := 6, ground := Ground.data }], guard := none }) (v := ?_) rfl (by kernel_rfl) (by kernel_rfl) (by kernel_rfl) (fun _ _ _ h => h) (Or.inl ⟨by rfl, ?_⟩) (by assumption) ?_; rotate_left; · ((intro w hSw; (try dsimp only at hSw); go_simp) <;> with_reducible rfl)
          try simp only [Act.put, List.setIfInBounds_toArray, List.set_cons_zero, List.set_cons_succ]
          refine wpAnyH_take (i := 8) (oi := { dst := some 60, op := Op.extract (Operand.tmp 52) 0, type := 108, pos := "law.go:87", after := #[{ on := 7, ground := Ground.data }], guard := none }) (v := ?_) rfl (by kernel_rfl) (by kernel_rfl) (by kernel_rfl) (fun _ _ _ h => h) (Or.inl ⟨by rfl, ?_⟩) (by assumption) ?_; rotate_left; · ((intro w hSw; (try dsimp only at hSw); go_simp) <;> with_reducible rfl)
          try simp only [Act.put, List.setIfInBounds_toArray, List.set_cons_zero, List.set_cons_succ]
          refine wpAnyH_take (i := 9) (oi := { dst := some 61, op := Op.extract (Operand.tmp 52) 1, type := 4, pos := "law.go:87", after := #[{ on := 7, ground := Ground.data }, { on := 11, ground := Ground.gcOnly Go.Departure.lateStores }], guard := none }) (v := ?_) rfl (by kernel_rfl) (by kernel_rfl) (by kernel_rfl) (fun _ _ _ h => h) (Or.inl ⟨by rfl, ?_⟩) (by assumption) ?_; rotate_left; · ((intro w hSw; (try dsimp only at hSw); go_simp) <;> with_reducible rfl)
          try simp only [Act.put, List.setIfInBounds_toArray, List.set_cons_zero, List.set_cons_succ]
          refine wpAnyH_ready (rs := [10]) (by kernel_rfl) (by simp) ?_
          refine AllReadyH.cons (o := { dst := some 9, op := Op.alloc 108, type := 0, pos := "law.go:87", after := #[], guard := none }) rfl (fun K hK => ?_) AllReadyH.nil
          go_simp; (first | (go_at_call 66; first | (refine (HdoA.out).mono ?_; rintro e w5 ⟨x5, rfl, fq5, hD5, hx5, k5, f5⟩; obtain ⟨L1, n1, c1, L2, n2, c2, L3, n3, c3, rfl⟩ := hx5.form2; have kB := kA.trans k5 (Fresh.refl _ _); have hk9 := kB.size; have kC := kB.alloc (.cells #[.int .i64 0, .slice none 0 0, .slice none 0 0, .slice none 0 0, .int .i64 0, .int .i64 0, .bool false] 108); unfold rvL) | (refine (HdoB.out (.cells #[.int .i64 0, .slice none 0 0, .slice none 0 0, .slice none 0 0, .int .i64 0, .int .i64 0, .bool false] 108)).mono ?_; rintro e w5 ⟨x5, rfl, fq5, hD5, hx5, k5, f5⟩; obtain ⟨L1, n1, c1, L2, n2, c2, L3, n3, c3, rfl⟩ := hx5.form2; have kB := (kA.alloc _).trans k5 (Fresh.refl _ _); have hk9 := (Nat.le_refl wr.heap.size); have kC := kB; have hZ := (show BlkT w5 wr.heap.size 108 [.int .i64 0, .slice none 0 0, .slice none 0 0, .slice none 0 0, .int .i64 0, .int .i64 0, .bool false] from (k5.block (by simp) (fun e => Nat.lt_irrefl _ (hlf _ e))).trans (heap_alloc_new wr.drew _)); obtain ⟨d0, d1, d2, d3, d4, d5, d6, df⟩ := sevenT hZ; unfold rvL)) | skip); (try (go_wp2_with fail)); refine hK.out _ _ (by first | (first | with_reducible exact cells _ kA | with_reducible exact cells _ kZ | with_reducible exact cells _ (kA.alloc _) | with_reducible exact cells _ kB | with_reducible exact cells _ (kB.alloc _) | with_reducible exact cells _ (((((((kC.set (.inr hk9) _).set (.inr hk9) _).set (.inr hk9) _).set (.inr hk9) _).set (.inr hk9) _).set (.inr hk9) _).set (.inr hk9) _)) | ((try dsimp only); (first | with_reducible exact cells _ kA | with_reducible exact cells _ kZ | with_reducible exact cells _ (kA.alloc _) | with_reducible exact cells _ kB | with_reducible exact cells _ (kB.alloc _) | with_reducible exact cells _ (((((((kC.set (.inr hk9) _).set (.inr hk9) _).set (.inr hk9) _).set (.inr hk9) _).set (.inr hk9) _).set (.inr hk9) _).set (.inr hk9) _)))) (fun hHeld => ?_)
          clear hK K
          try simp only [Act.put, List.setIfInBounds_toArray, List.set_cons_zero, List.set_cons_succ]
          refine wpAnyH_ready (rs := [11]) (by kernel_rfl) (by simp) ?_
          refine AllReadyH.cons (o := { dst := none, op := Op.store 108 (Operand.tmp 9) (Operand.tmp 60), type := 0, pos := "law.go:87", after := #[{ on := 10, ground := Ground.data }, { on := 8, ground := Ground.data }, { on := 6, ground := Ground.chain }, { on := 0, ground := Ground.phase }, { on := 1, ground := Ground.phase }, { on := 2, ground := Ground.phase }, { on := 3, ground := Ground.phase }, { on := 4, ground := Ground.phase }, { on := 5, ground := Ground.phase }, { on := 6, ground := Ground.phase }, { on := 7, ground := Ground.phase }, { on := 8, ground := Ground.phase }, { on := 9, ground := Ground.textOnly Go.Departure.lateStores }, { on := 10, ground := Ground.phase }], guard := none }) rfl (fun K hK => ?_) AllReadyH.nil
          go_simp; (first | (go_at_call 66; first | (refine (HdoA.out).mono ?_; rintro e w5 ⟨x5, rfl, fq5, hD5, hx5, k5, f5⟩; obtain ⟨L1, n1, c1, L2, n2, c2, L3, n3, c3, rfl⟩ := hx5.form2; have kB := kA.trans k5 (Fresh.refl _ _); have hk9 := kB.size; have kC := kB.alloc (.cells #[.int .i64 0, .slice none 0 0, .slice none 0 0, .slice none 0 0, .int .i64 0, .int .i64 0, .bool false] 108); unfold rvL) | (refine (HdoB.out (.cells #[.int .i64 0, .slice none 0 0, .slice none 0 0, .slice none 0 0, .int .i64 0, .int .i64 0, .bool false] 108)).mono ?_; rintro e w5 ⟨x5, rfl, fq5, hD5, hx5, k5, f5⟩; obtain ⟨L1, n1, c1, L2, n2, c2, L3, n3, c3, rfl⟩ := hx5.form2; have kB := (kA.alloc _).trans k5 (Fresh.refl _ _); have hk9 := (Nat.le_refl wr.heap.size); have kC := kB; have hZ := (show BlkT w5 wr.heap.size 108 [.int .i64 0, .slice none 0 0, .slice none 0 0, .slice none 0 0, .int .i64 0, .int .i64 0, .bool false] from (k5.block (by simp) (fun e => Nat.lt_irrefl _ (hlf _ e))).trans (heap_alloc_new wr.drew _)); obtain ⟨d0, d1, d2, d3, d4, d5, d6, df⟩ := sevenT hZ; unfold rvL)) | skip); (try (go_wp2_with fail)); refine hK.out _ _ (by first | (first | with_reducible exact cells _ kA | with_reducible exact cells _ kZ | with_reducible exact cells _ (kA.alloc _) | with_reducible exact cells _ kB | with_reducible exact cells _ (kB.alloc _) | with_reducible exact cells _ (((((((kC.set (.inr hk9) _).set (.inr hk9) _).set (.inr hk9) _).set (.inr hk9) _).set (.inr hk9) _).set (.inr hk9) _).set (.inr hk9) _)) | ((try dsimp only); (first | with_reducible exact cells _ kA | with_reducible exact cells _ kZ | with_reducible exact cells _ (kA.alloc _) | with_reducible exact cells _ kB | with_reducible exact cells _ (kB.alloc _) | with_reducible exact cells _ (((((((kC.set (.inr hk9) _).set (.inr hk9) _).set (.inr hk9) _).set (.inr hk9) _).set (.inr hk9) _).set (.inr hk9) _).set (.inr hk9) _)))) (fun hHeld => ?_)
          clear hK K
          try simp only [Act.put, List.setIfInBounds_toArray, List.set_cons_zero, List.set_cons_succ]
          refine wpAnyH_take (i := 12) (oi := { dst := some 10, op := Op.assign (Operand.tmp 61), type := 4, pos := "law.go:87", after := #[{ on := 9, ground := Ground.data }, { on := 11, ground := Ground.chain }, { on := 0, ground := Ground.phase }, { on := 1, ground := Ground.phase }, { on := 2, ground := Ground.phase }, { on := 3, ground := Ground.phase }, { on := 4, ground := Ground.phase }, { on := 5, ground := Ground.phase }, { on := 6, ground := Ground.phase }, { on := 7, ground := Ground.phase }, { on := 8, ground := Ground.phase }, { on := 9, ground := Ground.phase }, { on := 10, ground := Ground.phase }, { on := 11, ground := Ground.phase }], guard := none }) (v := ?_) rfl (by kernel_rfl) (by kernel_rfl) (by kernel_rfl) (fun _ _ _ h => h) (Or.inl ⟨by rfl, ?_⟩) (by assumption) ?_; rotate_left; · ((intro w hSw; (try dsimp only at hSw); go_simp) <;> with_reducible rfl)
          try simp only [Act.put, List.setIfInBounds_toArray, List.set_cons_zero, List.set_cons_succ]
          refine wpAnyH_done (by kernel_rfl) ?_ _
        case' way1 =>
          go_simp; (first | (go_at_call 66; first | (refine (HdoA.out).mono ?_; rintro e w5 ⟨x5, rfl, fq5, hD5, hx5, k5, f5⟩; obtain ⟨L1, n1, c1, L2, n2, c2, L3, n3, c3, rfl⟩ := hx5.form2; have kB := kA.trans k5 (Fresh.refl _ _); have hk9 := kB.size; have kC := kB.alloc (.cells #[.int .i64 0, .slice none 0 0, .slice none 0 0, .slice none 0 0, .int .i64 0, .int .i64 0, .bool false] 108); unfold rvL) | (refine (HdoB.out (.cells #[.int .i64 0, .slice none 0 0, .slice none 0 0, .slice none 0 0, .int .i64 0, .int .i64 0, .bool false] 108)).mono ?_; rintro e w5 ⟨x5, rfl, fq5, hD5, hx5, k5, f5⟩; obtain ⟨L1, n1, c1, L2, n2, c2, L3, n3, c3, rfl⟩ := hx5.form2; have kB := (kA.alloc _).trans k5 (Fresh.refl _ _); have hk9 := (Nat.le_refl wr.heap.size); have kC := kB; have hZ := (show BlkT w5 wr.heap.size 108 [.int .i64 0, .slice none 0 0, .slice none 0 0, .slice none 0 0, .int .i64 0, .int .i64 0, .bool false] from (k5.block (by simp) (fun e => Nat.lt_irrefl _ (hlf _ e))).trans (heap_alloc_new wr.drew _)); obtain ⟨d0, d1, d2, d3, d4, d5, d6, df⟩ := sevenT hZ; unfold rvL)) | skip); (try (go_wp2_with fail)); refine hK.out _ _ (by first | (first | with_reducible exact cells _ kA | with_reducible exact cells _ kZ | with_reducible exact cells _ (kA.alloc _) | with_reducible exact cells _ kB | with_reducible exact cells _ (kB.alloc _) | with_reducible exact cells _ (((((((kC.set (.inr hk9) _).set (.inr hk9) _).set (.inr hk9) _).set (.inr hk9) _).set (.inr hk9) _).set (.inr hk9) _).set (.inr hk9) _)) | ((try dsimp only); (first | with_reducible exact cells _ kA | with_reducible exact cells _ kZ | with_reducible exact cells _ (kA.alloc _) | with_reducible exact cells _ kB | with_reducible exact cells _ (kB.alloc _) | with_reducible exact cells _ (((((((kC.set (.inr hk9) _).set (.inr hk9) _).set (.inr hk9) _).set (.inr hk9) _).set (.inr hk9) _).set (.inr hk9) _).set (.inr hk9) _)))) (fun hHeld => ?_)
          clear hK K
          try simp only [Act.put, List.setIfInBounds_toArray, List.set_cons_zero, List.set_cons_succ]
          refine wpAnyH_ready (rs := [6]) (by kernel_rfl) (by simp) ?_
          refine AllReadyH.cons (o := { dst := some 59, op := Op.call { callee := Callee.value (Operand.func 66), args := #[Operand.tmp 53, Operand.tmp 54, Operand.tmp 58], argTypes := #[59, 108, 113] }, type := 110, pos := "law.go:87", after := #[{ on := 0, ground := Ground.data }, { on := 1, ground := Ground.data }, { on := 5, ground := Ground.data }], guard := none }) rfl (fun K hK => ?_) AllReadyH.nil
          go_simp; (first | (go_at_call 66; first | (refine (HdoA.out).mono ?_; rintro e w5 ⟨x5, rfl, fq5, hD5, hx5, k5, f5⟩; obtain ⟨L1, n1, c1, L2, n2, c2, L3, n3, c3, rfl⟩ := hx5.form2; have kB := kA.trans k5 (Fresh.refl _ _); have hk9 := kB.size; have kC := kB.alloc (.cells #[.int .i64 0, .slice none 0 0, .slice none 0 0, .slice none 0 0, .int .i64 0, .int .i64 0, .bool false] 108); unfold rvL) | (refine (HdoB.out (.cells #[.int .i64 0, .slice none 0 0, .slice none 0 0, .slice none 0 0, .int .i64 0, .int .i64 0, .bool false] 108)).mono ?_; rintro e w5 ⟨x5, rfl, fq5, hD5, hx5, k5, f5⟩; obtain ⟨L1, n1, c1, L2, n2, c2, L3, n3, c3, rfl⟩ := hx5.form2; have kB := (kA.alloc _).trans k5 (Fresh.refl _ _); have hk9 := (Nat.le_refl wr.heap.size); have kC := kB; have hZ := (show BlkT w5 wr.heap.size 108 [.int .i64 0, .slice none 0 0, .slice none 0 0, .slice none 0 0, .int .i64 0, .int .i64 0, .bool false] from (k5.block (by simp) (fun e => Nat.lt_irrefl _ (hlf _ e))).trans (heap_alloc_new wr.drew _)); obtain ⟨d0, d1, d2, d3, d4, d5, d6, df⟩ := sevenT hZ; unfold rvL)) | skip); (try (go_wp2_with fail)); refine hK.out _ _ (by first | (first | with_reducible exact cells _ kA | with_reducible exact cells _ kZ | with_reducible exact cells _ (kA.alloc _) | with_reducible exact cells _ kB | with_reducible exact cells _ (kB.alloc _) | with_reducible exact cells _ (((((((kC.set (.inr hk9) _).set (.inr hk9) _).set (.inr hk9) _).set (.inr hk9) _).set (.inr hk9) _).set (.inr hk9) _).set (.inr hk9) _)) | ((try dsimp only); (first | with_reducible exact cells _ kA | with_reducible exact cells _ kZ | with_reducible exact cells _ (kA.alloc _) | with_reducible exact cells _ kB | with_reducible exact cells _ (kB.alloc _) | with_reducible exact cells _ (((((((kC.set (.inr hk9) _).set (.inr hk9) _).set (.inr hk9) _).set (.inr hk9) _).set (.inr hk9) _).set (.inr hk9) _).set (.inr hk9) _)))) (fun hHeld => ?_)
          clear hK K
          try simp only [Act.put, List.setIfInBounds_toArray, List.set_cons_zero, List.set_cons_succ]
          refine wpAnyH_take (i := 7) (oi := { dst := some 52, op := Op.move (Operand.tmp 59), type := 110, pos := "law.go:87", after := #[{ on := 6, ground := Ground.data }], guard := none }) (v := ?_) rfl (by kernel_rfl) (by kernel_rfl) (by kernel_rfl) (fun _ _ _ h => h) (Or.inl ⟨by rfl, ?_⟩) (by assumption) ?_; rotate_left; · ((intro w hSw; (try dsimp only at hSw); go_simp) <;> with_reducible rfl)
          try simp only [Act.put, List.setIfInBounds_toArray, List.set_cons_zero, List.set_cons_succ]
          refine wpAnyH_take (i := 8) (oi := { dst := some 60, op := Op.extract (Operand.tmp 52) 0, type := 108, pos := "law.go:87", after := #[{ on := 7, ground := Ground.data }], guard := none }) (v := ?_) rfl (by kernel_rfl) (by kernel_rfl) (by kernel_rfl) (fun _ _ _ h => h) (Or.inl ⟨by rfl, ?_⟩) (by assumption) ?_; rotate_left; · ((intro w hSw; (try dsimp only at hSw); go_simp) <;> with_reducible rfl)
          try simp only [Act.put, List.setIfInBounds_toArray, List.set_cons_zero, List.set_cons_succ]
          refine wpAnyH_take (i := 9) (oi := { dst := some 61, op := Op.extract (Operand.tmp 52) 1, type := 4, pos := "law.go:87", after := #[{ on := 7, ground := Ground.data }, { on := 11, ground := Ground.gcOnly Go.Departure.lateStores }], guard := none }) (v := ?_) rfl (by kernel_rfl) (by kernel_rfl) (by kernel_rfl) (fun _ _ _ h => h) (Or.inl ⟨by rfl, ?_⟩) (by assumption) ?_; rotate_left; · ((intro w hSw; (try dsimp only at hSw); go_simp) <;> with_reducible rfl)
          try simp only [Act.put, List.setIfInBounds_toArray, List.set_cons_zero, List.set_cons_succ]
          refine wpAnyH_ready (rs := [11]) (by kernel_rfl) (by simp) ?_
          refine AllReadyH.cons (o := { dst := none, op := Op.store 108 (Operand.tmp 9) (Operand.tmp 60), type := 0, pos := "law.go:87", after := #[{ on := 10, ground := Ground.data }, { on := 8, ground := Ground.data }, { on := 6, ground := Ground.chain }, { on := 0, ground := Ground.phase }, { on := 1, ground := Ground.phase }, { on := 2, ground := Ground.phase }, { on := 3, ground := Ground.phase }, { on := 4, ground := Ground.phase }, { on := 5, ground := Ground.phase }, { on := 6, ground := Ground.phase }, { on := 7, ground := Ground.phase }, { on := 8, ground := Ground.phase }, { on := 9, ground := Ground.textOnly Go.Departure.lateStores }, { on := 10, ground := Ground.phase }], guard := none }) rfl (fun K hK => ?_) AllReadyH.nil
          go_simp; (first | (go_at_call 66; first | (refine (HdoA.out).mono ?_; rintro e w5 ⟨x5, rfl, fq5, hD5, hx5, k5, f5⟩; obtain ⟨L1, n1, c1, L2, n2, c2, L3, n3, c3, rfl⟩ := hx5.form2; have kB := kA.trans k5 (Fresh.refl _ _); have hk9 := kB.size; have kC := kB.alloc (.cells #[.int .i64 0, .slice none 0 0, .slice none 0 0, .slice none 0 0, .int .i64 0, .int .i64 0, .bool false] 108); unfold rvL) | (refine (HdoB.out (.cells #[.int .i64 0, .slice none 0 0, .slice none 0 0, .slice none 0 0, .int .i64 0, .int .i64 0, .bool false] 108)).mono ?_; rintro e w5 ⟨x5, rfl, fq5, hD5, hx5, k5, f5⟩; obtain ⟨L1, n1, c1, L2, n2, c2, L3, n3, c3, rfl⟩ := hx5.form2; have kB := (kA.alloc _).trans k5 (Fresh.refl _ _); have hk9 := (Nat.le_refl wr.heap.size); have kC := kB; have hZ := (show BlkT w5 wr.heap.size 108 [.int .i64 0, .slice none 0 0, .slice none 0 0, .slice none 0 0, .int .i64 0, .int .i64 0, .bool false] from (k5.block (by simp) (fun e => Nat.lt_irrefl _ (hlf _ e))).trans (heap_alloc_new wr.drew _)); obtain ⟨d0, d1, d2, d3, d4, d5, d6, df⟩ := sevenT hZ; unfold rvL)) | skip); (try (go_wp2_with fail)); refine hK.out _ _ (by first | (first | with_reducible exact cells _ kA | with_reducible exact cells _ kZ | with_reducible exact cells _ (kA.alloc _) | with_reducible exact cells _ kB | with_reducible exact cells _ (kB.alloc _) | with_reducible exact cells _ (((((((kC.set (.inr hk9) _).set (.inr hk9) _).set (.inr hk9) _).set (.inr hk9) _).set (.inr hk9) _).set (.inr hk9) _).set (.inr hk9) _)) | ((try dsimp only); (first | with_reducible exact cells _ kA | with_reducible exact cells _ kZ | with_reducible exact cells _ (kA.alloc _) | with_reducible exact cells _ kB | with_reducible exact cells _ (kB.alloc _) | with_reducible exact cells _ (((((((kC.set (.inr hk9) _).set (.inr hk9) _).set (.inr hk9) _).set (.inr hk9) _).set (.inr hk9) _).set (.inr hk9) _).set (.inr hk9) _)))) (fun hHeld => ?_)
          clear hK K
          try simp only [Act.put, List.setIfInBounds_toArray, List.set_cons_zero, List.set_cons_succ]
          refine wpAnyH_take (i := 12) (oi := { dst := some 10, op := Op.assign (Operand.tmp 61), type := 4, pos := "law.go:87", after := #[{ on := 9, ground := Ground.data }, { on := 11, ground := Ground.chain }, { on := 0, ground := Ground.phase }, { on := 1, ground := Ground.phase }, { on := 2, ground := Ground.phase }, { on := 3, ground := Ground.phase }, { on := 4, ground := Ground.phase }, { on := 5, ground := Ground.phase }, { on := 6, ground := Ground.phase }, { on := 7, ground := Ground.phase }, { on := 8, ground := Ground.phase }, { on := 9, ground := Ground.phase }, { on := 10, ground := Ground.phase }, { on := 11, ground := Ground.phase }], guard := none }) (v := ?_) rfl (by kernel_rfl) (by kernel_rfl) (by kernel_rfl) (fun _ _ _ h => h) (Or.inl ⟨by rfl, ?_⟩) (by assumption) ?_; rotate_left; · ((intro w hSw; (try dsimp only at hSw); go_simp) <;> with_reducible rfl)
          try simp only [Act.put, List.setIfInBounds_toArray, List.set_cons_zero, List.set_cons_succ]
          refine wpAnyH_done (by kernel_rfl) ?_ _
        all_goals
          unfold rvL at hx5 hB7
          clear hHeld
          first
            | (have hM := mid_A hB7 hTn hD.lt hD5 hx5 k5 f5; generalize hwe : World.alloc w5 (.cells ([.int .i64 (s5.size : Int), .slice L1 n1 c1, .slice L2 n2 c2, .slice L3 n3 c3, .int .i64 s5.fuse, .int .i64 (s5.calls : Int), .bool s5.down] : List Value).toArray 108) = we at hM ⊢)
            | (have hM := mid_B (o := (.cells #[.int .i64 0, .slice none 0 0, .slice none 0 0, .slice none 0 0, .int .i64 0, .int .i64 0, .bool false] 108)) hB7 hTn hD.lt hD5 hx5 k5 f5 hZ rfl; generalize hwe : ((((((w5.setCell ⟨wr.heap.size, 0, none⟩ (.int .i64 (s5.size : Int))).setCell ⟨wr.heap.size, 1, none⟩ (.slice L1 n1 c1)).setCell ⟨wr.heap.size, 2, none⟩ (.slice L2 n2 c2)).setCell ⟨wr.heap.size, 3, none⟩ (.slice L3 n3 c3)).setCell ⟨wr.heap.size, 4, none⟩ (.int .i64 s5.fuse)).setCell ⟨wr.heap.size, 5, none⟩ (.int .i64 (s5.calls : Int))).setCell ⟨wr.heap.size, 6, none⟩ (.bool s5.down) = we at hM ⊢)
          obtain ⟨z9, z7, hX5, hDw, kW, fW, hn97, hn7⟩ := hM
          clear hwe k5 hx5 hD5 cells HdoA HdoB kA kB kC kZ f5 hlf
          (try clear hZ d0 d1 d2 d3 d4 d5 d6 df)
          have hT9 := lt_of_block z9
          obtain ⟨p0, p1, p2, p3, p4, p5, p6, pf⟩ := sevenT z7
          obtain ⟨r0, r1, r2, r3, r4, r5, r6, rf⟩ := sevenT z9
          go_wp2_with fail
          generalize hwf : ((((((we.setCell ⟨T7, 0, none⟩ (.int .i64 (s5.size : Int))).setCell ⟨T7, 1, none⟩ (.slice L1 n1 c1)).setCell ⟨T7, 2, none⟩ (.slice L2 n2 c2)).setCell ⟨T7, 3, none⟩ (.slice L3 n3 c3)).setCell ⟨T7, 4, none⟩ (.int .i64 s5.fuse)).setCell ⟨T7, 5, none⟩ (.int .i64 (s5.calls : Int))).setCell ⟨T7, 6, none⟩ (.bool s5.down) = wf
          obtain ⟨zf, hXf, hDf, belf, gef⟩ := mid_end z7 hX5 hDw kW fW hn7 hge bel hT7l hwf.symm
          have hs5 : s5.sz ≤ 100000000 := by have := HsN.out (k + 1); rw [Htk.out] at this; omega
          have hm5 : s5.size = m := by rw [← Htk.out, size_acts]; rfl
          have hnb1 : (s5.down != s5.down) = false := by simp
          have hnb2 : ((s5.calls : Int) != (s5.calls : Int)) = false := by simp
          have hnb3 : ((s5.size : Int) != (m : Int)) = false := by rw [hm5]; simp
          have hrw := hXf.rows.2.1
          have hrw0 := Lib.hid (fun W (bW : Below wf.heap.size wf W) => (show WRow W [] (.slice L2 n2 c2) s5.pend from (hrw.on bW).less (fun j hj => by cases hj)))
          have hp512 := Lib.hid (fun x hx => (hDf.ok.pend x hx).2 : ∀ x ∈ s5.pend, x.2.length = 512)
          have hpl := Lib.hid (show s5.pend.length ≤ 1000000 from by have := HsN.out (k + 1); rw [Htk.out] at this; unfold St.sz at this; omega)
          have bd : Below wf.heap.size wf wf.drew := (Below.refl _ _).drew
          clear z7 hX5 hDw kW fW hwf p0 p1 p2 p3 p4 p5 p6 pf r0 r1 r2 r3 r4 r5 r6 rf z9 y0 y1 y2 y3 y4 y5 y6 hB7 hD hkr hkrN hm5 hrw bA
          refine wp_region_held_drew (S := (fun w' => w'.cell? ⟨T7, 2, none⟩ = some (.slice L2 n2 c2) ∧ w'.cell? ⟨T7, 5, none⟩ = some (.int .i64 (s5.calls : Int)) ∧ w'.cell? ⟨T7, 6, none⟩ = some (.bool s5.down))) (by kernel_rfl) (by exact three_of zf bd) (fun hHeld => ?_)
          refine wpAnyH_take (i := 0) (oi := { dst := some 63, op := Op.move (Operand.tmp 10), type := 4, pos := "law.go:89", after := #[], guard := none }) (v := ?_) rfl (by kernel_rfl) (by kernel_rfl) (by kernel_rfl) (fun _ _ _ h => h) (Or.inl ⟨by rfl, ?_⟩) (by assumption) ?_; rotate_left; · ((intro w hSw; (try dsimp only at hSw); go_simp) <;> with_reducible rfl)
          try simp only [Act.put, List.setIfInBounds_toArray, List.set_cons_zero, List.set_cons_succ]
          refine wpAnyH_take (i := 1) (oi := { dst := some 64, op := Op.unOp UnOp.not 4 (Operand.tmp 63), type := 4, pos := "law.go:89", after := #[{ on := 0, ground := Ground.data }], guard := none }) (v := ?_) rfl (by kernel_rfl) (by kernel_rfl) (by kernel_rfl) (fun _ _ _ h => h) (Or.inl ⟨by rfl, ?_⟩) (by assumption) ?_; rotate_left; · ((intro w hSw; (try dsimp only at hSw); go_simp) <;> with_reducible rfl)
          try simp only [Act.put, List.setIfInBounds_toArray, List.set_cons_zero, List.set_cons_succ]
          refine wpAnyH_take (i := 2) (oi := { dst := some 65, op := Op.move (Operand.tmp 64), type := 4, pos := "law.go:89", after := #[{ on := 1, ground := Ground.data }], guard := none }) (v := ?_) rfl (by kernel_rfl) (by kernel_rfl) (by kernel_rfl) (fun _ _ _ h => h) (Or.inl ⟨by rfl, ?_⟩) (by assumption) ?_; rotate_left; · ((intro w hSw; (try dsimp only at hSw); go_simp) <;> with_reducible rfl)
          try simp only [Act.put, List.setIfInBounds_toArray, List.set_cons_zero, List.set_cons_succ]
          refine wpAnyH_take (i := 3) (oi := { dst := some 66, op := Op.move (Operand.tmp 5), type := 59, pos := "law.go:89", after := #[{ on := 2, ground := Ground.guard }], guard := some (2, false) }) (v := ?_) rfl (by kernel_rfl) (by kernel_rfl) (by kernel_rfl) (fun _ _ _ h => h) (Or.inl ⟨by rfl, ?_⟩) (by assumption) ?_; rotate_left; · ((intro w hSw; (try dsimp only at hSw); go_simp) <;> with_reducible rfl)
          try simp only [Act.put, List.setIfInBounds_toArray, List.set_cons_zero, List.set_cons_succ]
          refine wpAnyH_take (i := 5) (oi := { dst := some 68, op := Op.fieldAddr 108 (Operand.tmp 7) 6, type := 0, pos := "law.go:89", after := #[{ on := 2, ground := Ground.guard }], guard := some (2, false) }) (v := ?_) rfl (by kernel_rfl) (by kernel_rfl) (by kernel_rfl) (fun _ _ _ h => h) (Or.inl ⟨by rfl, ?_⟩) (by assumption) ?_; rotate_left; · ((intro w hSw; (try dsimp only at hSw); go_simp) <;> with_reducible rfl)
          try simp only [Act.put, List.setIfInBounds_toArray, List.set_cons_zero, List.set_cons_succ]
          refine wpAnyH_take (i := 6) (oi := { dst := some 69, op := Op.load 4 (Operand.tmp 68), type := 4, pos := "law.go:89", after := #[{ on := 5, ground := Ground.data }, { on := 2, ground := Ground.guard }], guard := some (2, false) }) (v := ?_) rfl (by kernel_rfl) (by kernel_rfl) (by kernel_rfl) (fun _ _ _ h => h) (Or.inl ⟨by rfl, ?_⟩) (by assumption) ?_; rotate_left; · ((intro w hSw; (try dsimp only at hSw); go_simp) <;> with_reducible rfl)
          try simp only [Act.put, List.setIfInBounds_toArray, List.set_cons_zero, List.set_cons_succ]
          refine wpAnyH_ready (rs := [4]) (by kernel_rfl) (by simp) ?_
          refine AllReadyH.cons (o := { dst := some 67, op := Op.call { callee := Callee.value (Operand.func 67), args := #[Operand.tmp 66], argTypes := #[59] }, type := 4, pos := "law.go:89", after := #[{ on := 3, ground := Ground.data }, { on := 2, ground := Ground.chain }, { on := 2, ground := Ground.guard }], guard := some (2, false) }) rfl (fun K hK => ?_) AllReadyH.nil
          go_simp; (first | (go_at_call 67; refine (down_any g fq5 s5 _ (hDf.on bd)).mono ?_; rintro e w6 ⟨rfl, rfl⟩) | (go_at_call 68; refine (calls_any g fq5 s5 _ (hDf.on bd)).mono ?_; rintro e w6 ⟨rfl, rfl⟩) | (go_at_call 69; refine (size_any g fq5 s5 _ (hDf.on bd)).mono ?_; rintro e w6 ⟨rfl, rfl⟩) | (go_at_call 71; refine (pending_any g fq5 s5 _ (hDf.on bd) hs5).mono ?_; rintro e w6 ⟨v6, rfl, hN6, b6⟩; have bd6 := bt bd b6; have hr6 := hN6.row) | (go_at_call 70; refine (writes_any _ [] v6 (.slice L2 n2 c2) s5.pend hr6 (hrw0.out _ bd6) hpl.out hp512.out).mono ?_; rintro e w7 ⟨rfl, b7⟩; have bd7 := bt bd6 b7)); (try (go_wp2_with fail)); refine hK.out _ _ (by first | (first | with_reducible exact three_of zf bd | with_reducible exact three_of zf bd6 | with_reducible exact three_of zf bd7) | ((try dsimp only); (first | with_reducible exact three_of zf bd | with_reducible exact three_of zf bd6 | with_reducible exact three_of zf bd7))) (fun hHeld => ?_)
          clear hK K
          try simp only [Act.put, List.setIfInBounds_toArray, List.set_cons_zero, List.set_cons_succ]
          refine wpAnyH_take (i := 7) (oi := { dst := some 70, op := Op.binOp BinOp.neq 4 (Operand.tmp 67) (Operand.tmp 69) 4, type := 4, pos := "law.go:89", after := #[{ on := 4, ground := Ground.data }, { on := 6, ground := Ground.data }, { on := 2, ground := Ground.guard }], guard := some (2, false) }) (v := ?_) rfl (by kernel_rfl) (by kernel_rfl) (by kernel_rfl) (fun _ _ _ h => h) (Or.inl ⟨by rfl, ?_⟩) (by assumption) ?_; rotate_left; · ((intro w hSw; (try dsimp only at hSw); go_simp) <;> with_reducible rfl)
          try simp only [Act.put, List.setIfInBounds_toArray, List.set_cons_zero, List.set_cons_succ]
          refine wpAnyH_take (i := 8) (oi := { dst := some 71, op := Op.pick (Operand.tmp 65) (Operand.const (Value.bool true)) (Operand.tmp 70), type := 4, pos := "law.go:89", after := #[{ on := 2, ground := Ground.data }, { on := 7, ground := Ground.data }], guard := none }) (v := ?_) rfl (by kernel_rfl) (by kernel_rfl) (by kernel_rfl) (fun _ _ _ h => h) (Or.inl ⟨by rfl, ?_⟩) (by assumption) ?_; rotate_left; · ((intro w hSw; (try dsimp only at hSw); go_simp) <;> with_reducible rfl)
          try simp only [Act.put, List.setIfInBounds_toArray, List.set_cons_zero, List.set_cons_succ]
          refine wpAnyH_take (i := 9) (oi := { dst := some 72, op := Op.move (Operand.tmp 71), type := 4, pos := "law.go:89", after := #[{ on := 8, ground := Ground.data }, { on := 4, ground := Ground.chain }], guard := none }) (v := ?_) rfl (by kernel_rfl) (by kernel_rfl) (by kernel_rfl) (fun _ _ _ h => h) (Or.inl ⟨by rfl, ?_⟩) (by assumption) ?_; rotate_left; · ((intro w hSw; (try dsimp only at hSw); go_simp) <;> with_reducible rfl)
          try simp only [Act.put, List.setIfInBounds_toArray, List.set_cons_zero, List.set_cons_succ]
          refine wpAnyH_take (i := 10) (oi := { dst := some 73, op := Op.move (Operand.tmp 5), type := 59, pos := "law.go:89", after := #[{ on := 9, ground := Ground.guard }], guard := some (9, false) }) (v := ?_) rfl (by kernel_rfl) (by kernel_rfl) (by kernel_rfl) (fun _ _ _ h => h) (Or.inl ⟨by rfl, ?_⟩) (by assumption) ?_; rotate_left; · ((intro w hSw; (try dsimp only at hSw); go_simp) <;> with_reducible rfl)
          try simp only [Act.put, List.setIfInBounds_toArray, List.set_cons_zero, List.set_cons_succ]
          refine wpAnyH_take (i := 12) (oi := { dst := some 75, op := Op.fieldAddr 108 (Operand.tmp 7) 5, type := 0, pos := "law.go:89", after := #[{ on := 9, ground := Ground.guard }], guard := some (9, false) }) (v := ?_) rfl (by kernel_rfl) (by kernel_rfl) (by kernel_rfl) (fun _ _ _ h => h) (Or.inl ⟨by rfl, ?_⟩) (by assumption) ?_; rotate_left; · ((intro w hSw; (try dsimp only at hSw); go_simp) <;> with_reducible rfl)
          try simp only [Act.put, List.setIfInBounds_toArray, List.set_cons_zero, List.set_cons_succ]
          refine wpAnyH_take (i := 13) (oi := { dst := some 76, op := Op.load 3 (Operand.tmp 75), type := 3, pos := "law.go:89", after := #[{ on := 12, ground := Ground.data }, { on := 9, ground := Ground.guard }], guard := some (9, false) }) (v := ?_) rfl (by kernel_rfl) (by kernel_rfl) (by kernel_rfl) (fun _ _ _ h => h) (Or.inl ⟨by rfl, ?_⟩) (by assumption) ?_; rotate_left; · ((intro w hSw; (try dsimp only at hSw); go_simp) <;> with_reducible rfl)
          try simp only [Act.put, List.setIfInBounds_toArray, List.set_cons_zero, List.set_cons_succ]
          refine wpAnyH_ready (rs := [11]) (by kernel_rfl) (by simp) ?_
          refine AllReadyH.cons (o := { dst := some 74, op := Op.call { callee := Callee.value (Operand.func 68), args := #[Operand.tmp 73], argTypes := #[59] }, type := 3, pos := "law.go:89", after := #[{ on := 10, ground := Ground.data }, { on := 9, ground := Ground.chain }, { on := 9, ground := Ground.guard }], guard := some (9, false) }) rfl (fun K hK => ?_) AllReadyH.nil
          go_simp; (first | (go_at_call 67; refine (down_any g fq5 s5 _ (hDf.on bd)).mono ?_; rintro e w6 ⟨rfl, rfl⟩) | (go_at_call 68; refine (calls_any g fq5 s5 _ (hDf.on bd)).mono ?_; rintro e w6 ⟨rfl, rfl⟩) | (go_at_call 69; refine (size_any g fq5 s5 _ (hDf.on bd)).mono ?_; rintro e w6 ⟨rfl, rfl⟩) | (go_at_call 71; refine (pending_any g fq5 s5 _ (hDf.on bd) hs5).mono ?_; rintro e w6 ⟨v6, rfl, hN6, b6⟩; have bd6 := bt bd b6; have hr6 := hN6.row) | (go_at_call 70; refine (writes_any _ [] v6 (.slice L2 n2 c2) s5.pend hr6 (hrw0.out _ bd6) hpl.out hp512.out).mono ?_; rintro e w7 ⟨rfl, b7⟩; have bd7 := bt bd6 b7)); (try (go_wp2_with fail)); refine hK.out _ _ (by first | (first | with_reducible exact three_of zf bd | with_reducible exact three_of zf bd6 | with_reducible exact three_of zf bd7) | ((try dsimp only); (first | with_reducible exact three_of zf bd | with_reducible exact three_of zf bd6 | with_reducible exact three_of zf bd7))) (fun hHeld => ?_)
          clear hK K
          try simp only [Act.put, List.setIfInBounds_toArray, List.set_cons_zero, List.set_cons_succ]
          refine wpAnyH_take (i := 14) (oi := { dst := some 77, op := Op.binOp BinOp.neq 3 (Operand.tmp 74) (Operand.tmp 76) 3, type := 4, pos := "law.go:89", after := #[{ on := 11, ground := Ground.data }, { on := 13, ground := Ground.data }, { on := 9, ground := Ground.guard }], guard := some (9, false) }) (v := ?_) rfl (by kernel_rfl) (by kernel_rfl) (by kernel_rfl) (fun _ _ _ h => h) (Or.inl ⟨by rfl, ?_⟩) (by assumption) ?_; rotate_left; · ((intro w hSw; (try dsimp only at hSw); go_simp) <;> with_reducible rfl)
          try simp only [Act.put, List.setIfInBounds_toArray, List.set_cons_zero, List.set_cons_succ]
          refine wpAnyH_take (i := 15) (oi := { dst := some 78, op := Op.pick (Operand.tmp 72) (Operand.const (Value.bool true)) (Operand.tmp 77), type := 4, pos := "law.go:89", after := #[{ on := 9, ground := Ground.data }, { on := 14, ground := Ground.data }], guard := none }) (v := ?_) rfl (by kernel_rfl) (by kernel_rfl) (by kernel_rfl) (fun _ _ _ h => h) (Or.inl ⟨by rfl, ?_⟩) (by assumption) ?_; rotate_left; · ((intro w hSw; (try dsimp only at hSw); go_simp) <;> with_reducible rfl)
          try simp only [Act.put, List.setIfInBounds_toArray, List.set_cons_zero, List.set_cons_succ]
          refine wpAnyH_take (i := 16) (oi := { dst := some 79, op := Op.move (Operand.tmp 78), type := 4, pos := "law.go:89", after := #[{ on := 15, ground := Ground.data }, { on := 11, ground := Ground.chain }], guard := none }) (v := ?_) rfl (by kernel_rfl) (by kernel_rfl) (by kernel_rfl) (fun _ _ _ h => h) (Or.inl ⟨by rfl, ?_⟩) (by assumption) ?_; rotate_left; · ((intro w hSw; (try dsimp only at hSw); go_simp) <;> with_reducible rfl)
          try simp only [Act.put, List.setIfInBounds_toArray, List.set_cons_zero, List.set_cons_succ]
          refine wpAnyH_take (i := 17) (oi := { dst := some 80, op := Op.move (Operand.tmp 5), type := 59, pos := "law.go:89", after := #[{ on := 16, ground := Ground.guard }], guard := some (16, false) }) (v := ?_) rfl (by kernel_rfl) (by kernel_rfl) (by kernel_rfl) (fun _ _ _ h => h) (Or.inl ⟨by rfl, ?_⟩) (by assumption) ?_; rotate_left; · ((intro w hSw; (try dsimp only at hSw); go_simp) <;> with_reducible rfl)
          try simp only [Act.put, List.setIfInBounds_toArray, List.set_cons_zero, List.set_cons_succ]
          refine wpAnyH_take (i := 19) (oi := { dst := some 82, op := Op.move (Operand.tmp 0), type := 3, pos := "law.go:89", after := #[{ on := 16, ground := Ground.guard }], guard := some (16, false) }) (v := ?_) rfl (by kernel_rfl) (by kernel_rfl) (by kernel_rfl) (fun _ _ _ h => h) (Or.inl ⟨by rfl, ?_⟩) (by assumption) ?_; rotate_left; · ((intro w hSw; (try dsimp only at hSw); go_simp) <;> with_reducible rfl)
          try simp only [Act.put, List.setIfInBounds_toArray, List.set_cons_zero, List.set_cons_succ]
          refine wpAnyH_ready (rs := [18]) (by kernel_rfl) (by simp) ?_
          refine AllReadyH.cons (o := { dst := some 81, op := Op.call { callee := Callee.value (Operand.func 69), args := #[Operand.tmp 80], argTypes := #[59] }, type := 3, pos := "law.go:89", after := #[{ on := 17, ground := Ground.data }, { on := 16, ground := Ground.chain }, { on := 16, ground := Ground.guard }], guard := some (16, false) }) rfl (fun K hK => ?_) AllReadyH.nil
          go_simp; (first | (go_at_call 67; refine (down_any g fq5 s5 _ (hDf.on bd)).mono ?_; rintro e w6 ⟨rfl, rfl⟩) | (go_at_call 68; refine (calls_any g fq5 s5 _ (hDf.on bd)).mono ?_; rintro e w6 ⟨rfl, rfl⟩) | (go_at_call 69; refine (size_any g fq5 s5 _ (hDf.on bd)).mono ?_; rintro e w6 ⟨rfl, rfl⟩) | (go_at_call 71; refine (pending_any g fq5 s5 _ (hDf.on bd) hs5).mono ?_; rintro e w6 ⟨v6, rfl, hN6, b6⟩; have bd6 := bt bd b6; have hr6 := hN6.row) | (go_at_call 70; refine (writes_any _ [] v6 (.slice L2 n2 c2) s5.pend hr6 (hrw0.out _ bd6) hpl.out hp512.out).mono ?_; rintro e w7 ⟨rfl, b7⟩; have bd7 := bt bd6 b7)); (try (go_wp2_with fail)); refine hK.out _ _ (by first | (first | with_reducible exact three_of zf bd | with_reducible exact three_of zf bd6 | with_reducible exact three_of zf bd7) | ((try dsimp only); (first | with_reducible exact three_of zf bd | with_reducible exact three_of zf bd6 | with_reducible exact three_of zf bd7))) (fun hHeld => ?_)
          clear hK K
          try simp only [Act.put, List.setIfInBounds_toArray, List.set_cons_zero, List.set_cons_succ]
          refine wpAnyH_take (i := 20) (oi := { dst := some 83, op := Op.binOp BinOp.neq 3 (Operand.tmp 81) (Operand.tmp 82) 3, type := 4, pos := "law.go:89", after := #[{ on := 18, ground := Ground.data }, { on := 19, ground := Ground.data }, { on := 16, ground := Ground.guard }], guard := some (16, false) }) (v := ?_) rfl (by kernel_rfl) (by kernel_rfl) (by kernel_rfl) (fun _ _ _ h => h) (Or.inl ⟨by rfl, ?_⟩) (by assumption) ?_; rotate_left; · ((intro w hSw; (try dsimp only at hSw); go_simp) <;> with_reducible rfl)
          try simp only [Act.put, List.setIfInBounds_toArray, List.set_cons_zero, List.set_cons_succ]
          refine wpAnyH_take (i := 21) (oi := { dst := some 84, op := Op.pick (Operand.tmp 79) (Operand.const (Value.bool true)) (Operand.tmp 83), type := 4, pos := "law.go:89", after := #[{ on := 16, ground := Ground.data }, { on := 20, ground := Ground.data }], guard := none }) (v := ?_) rfl (by kernel_rfl) (by kernel_rfl) (by kernel_rfl) (fun _ _ _ h => h) (Or.inl ⟨by rfl, ?_⟩) (by assumption) ?_; rotate_left; · ((intro w hSw; (try dsimp only at hSw); go_simp) <;> with_reducible rfl)
          try simp only [Act.put, List.setIfInBounds_toArray, List.set_cons_zero, List.set_cons_succ]
          refine wpAnyH_take (i := 22) (oi := { dst := some 85, op := Op.move (Operand.tmp 84), type := 4, pos := "law.go:89", after := #[{ on := 21, ground := Ground.data }, { on := 18, ground := Ground.chain }], guard := none }) (v := ?_) rfl (by kernel_rfl) (by kernel_rfl) (by kernel_rfl) (fun _ _ _ h => h) (Or.inl ⟨by rfl, ?_⟩) (by assumption) ?_; rotate_left; · ((intro w hSw; (try dsimp only at hSw); go_simp) <;> with_reducible rfl)
          try simp only [Act.put, List.setIfInBounds_toArray, List.set_cons_zero, List.set_cons_succ]
          refine wpAnyH_take (i := 23) (oi := { dst := some 86, op := Op.move (Operand.tmp 5), type := 59, pos := "law.go:89", after := #[{ on := 22, ground := Ground.guard }], guard := some (22, false) }) (v := ?_) rfl (by kernel_rfl) (by kernel_rfl) (by kernel_rfl) (fun _ _ _ h => h) (Or.inl ⟨by rfl, ?_⟩) (by assumption) ?_; rotate_left; · ((intro w hSw; (try dsimp only at hSw); go_simp) <;> with_reducible rfl)
          try simp only [Act.put, List.setIfInBounds_toArray, List.set_cons_zero, List.set_cons_succ]
          refine wpAnyH_take (i := 25) (oi := { dst := some 88, op := Op.fieldAddr 108 (Operand.tmp 7) 2, type := 0, pos := "law.go:89", after := #[{ on := 22, ground := Ground.guard }], guard := some (22, false) }) (v := ?_) rfl (by kernel_rfl) (by kernel_rfl) (by kernel_rfl) (fun _ _ _ h => h) (Or.inl ⟨by rfl, ?_⟩) (by assumption) ?_; rotate_left; · ((intro w hSw; (try dsimp only at hSw); go_simp) <;> with_reducible rfl)
          try simp only [Act.put, List.setIfInBounds_toArray, List.set_cons_zero, List.set_cons_succ]
          refine wpAnyH_take (i := 26) (oi := { dst := some 89, op := Op.load 66 (Operand.tmp 88), type := 66, pos := "law.go:89", after := #[{ on := 25, ground := Ground.data }, { on := 22, ground := Ground.guard }], guard := some (22, false) }) (v := ?_) rfl (by kernel_rfl) (by kernel_rfl) (by kernel_rfl) (fun _ _ _ h => h) (Or.inl ⟨by rfl, ?_⟩) (by assumption) ?_; rotate_left; · ((intro w hSw; (try dsimp only at hSw); go_simp) <;> with_reducible rfl)
          try simp only [Act.put, List.setIfInBounds_toArray, List.set_cons_zero, List.set_cons_succ]
          refine wpAnyH_ready (rs := [24]) (by kernel_rfl) (by simp) ?_
          refine AllReadyH.cons (o := { dst := some 87, op := Op.call { callee := Callee.value (Operand.func 71), args := #[Operand.tmp 86], argTypes := #[59] }, type := 66, pos := "law.go:89", after := #[{ on := 23, ground := Ground.data }, { on := 22, ground := Ground.chain }, { on := 22, ground := Ground.guard }], guard := some (22, false) }) rfl (fun K hK => ?_) AllReadyH.nil
          go_simp; (first | (go_at_call 67; refine (down_any g fq5 s5 _ (hDf.on bd)).mono ?_; rintro e w6 ⟨rfl, rfl⟩) | (go_at_call 68; refine (calls_any g fq5 s5 _ (hDf.on bd)).mono ?_; rintro e w6 ⟨rfl, rfl⟩) | (go_at_call 69; refine (size_any g fq5 s5 _ (hDf.on bd)).mono ?_; rintro e w6 ⟨rfl, rfl⟩) | (go_at_call 71; refine (pending_any g fq5 s5 _ (hDf.on bd) hs5).mono ?_; rintro e w6 ⟨v6, rfl, hN6, b6⟩; have bd6 := bt bd b6; have hr6 := hN6.row) | (go_at_call 70; refine (writes_any _ [] v6 (.slice L2 n2 c2) s5.pend hr6 (hrw0.out _ bd6) hpl.out hp512.out).mono ?_; rintro e w7 ⟨rfl, b7⟩; have bd7 := bt bd6 b7)); (try (go_wp2_with fail)); refine hK.out _ _ (by first | (first | with_reducible exact three_of zf bd | with_reducible exact three_of zf bd6 | with_reducible exact three_of zf bd7) | ((try dsimp only); (first | with_reducible exact three_of zf bd | with_reducible exact three_of zf bd6 | with_reducible exact three_of zf bd7))) (fun hHeld => ?_)
          clear hK K
          try simp only [Act.put, List.setIfInBounds_toArray, List.set_cons_zero, List.set_cons_succ]
          refine wpAnyH_ready (rs := [27]) (by kernel_rfl) (by simp) ?_
          refine AllReadyH.cons (o := { dst := some 90, op := Op.call { callee := Callee.value (Operand.func 70), args := #[Operand.tmp 87, Operand.tmp 89], argTypes := #[66, 66] }, type := 4, pos := "law.go:89", after := #[{ on := 24, ground := Ground.data }, { on := 26, ground := Ground.data }, { on := 24, ground := Ground.chain }, { on := 22, ground := Ground.guard }], guard := some (22, false) }) rfl (fun K hK => ?_) AllReadyH.nil
          go_simp; (first | (go_at_call 67; refine (down_any g fq5 s5 _ (hDf.on bd)).mono ?_; rintro e w6 ⟨rfl, rfl⟩) | (go_at_call 68; refine (calls_any g fq5 s5 _ (hDf.on bd)).mono ?_; rintro e w6 ⟨rfl, rfl⟩) | (go_at_call 69; refine (size_any g fq5 s5 _ (hDf.on bd)).mono ?_; rintro e w6 ⟨rfl, rfl⟩) | (go_at_call 71; refine (pending_any g fq5 s5 _ (hDf.on bd) hs5).mono ?_; rintro e w6 ⟨v6, rfl, hN6, b6⟩; have bd6 := bt bd b6; have hr6 := hN6.row) | (go_at_call 70; refine (writes_any _ [] v6 (.slice L2 n2 c2) s5.pend hr6 (hrw0.out _ bd6) hpl.out hp512.out).mono ?_; rintro e w7 ⟨rfl, b7⟩; have bd7 := bt bd6 b7)); (try (go_wp2_with fail)); refine hK.out _ _ (by first | (first | with_reducible exact three_of zf bd | with_reducible exact three_of zf bd6 | with_reducible exact three_of zf bd7) | ((try dsimp only); (first | with_reducible exact three_of zf bd | with_reducible exact three_of zf bd6 | with_reducible exact three_of zf bd7))) (fun hHeld => ?_)
          clear hK K
          try simp only [Act.put, List.setIfInBounds_toArray, List.set_cons_zero, List.set_cons_succ]
          refine wpAnyH_take (i := 28) (oi := { dst := some 91, op := Op.unOp UnOp.not 4 (Operand.tmp 90), type := 4, pos := "law.go:89", after := #[{ on := 27, ground := Ground.data }, { on := 22, ground := Ground.guard }], guard := some (22, false) }) (v := ?_) rfl (by kernel_rfl) (by kernel_rfl) (by kernel_rfl) (fun _ _ _ h => h) (Or.inl ⟨by rfl, ?_⟩) (by assumption) ?_; rotate_left; · ((intro w hSw; (try dsimp only at hSw); go_simp) <;> with_reducible rfl)
          try simp only [Act.put, List.setIfInBounds_toArray, List.set_cons_zero, List.set_cons_succ]
          refine wpAnyH_take (i := 29) (oi := { dst := some 92, op := Op.pick (Operand.tmp 85) (Operand.const (Value.bool true)) (Operand.tmp 91), type := 4, pos := "law.go:89", after := #[{ on := 22, ground := Ground.data }, { on := 28, ground := Ground.data }], guard := none }) (v := ?_) rfl (by kernel_rfl) (by kernel_rfl) (by kernel_rfl) (fun _ _ _ h => h) (Or.inl ⟨by rfl, ?_⟩) (by assumption) ?_; rotate_left; · ((intro w hSw; (try dsimp only at hSw); go_simp) <;> with_reducible rfl)
          try simp only [Act.put, List.setIfInBounds_toArray, List.set_cons_zero, List.set_cons_succ]
          refine wpAnyH_done (by kernel_rfl) ?_ _
          go_wp2_with fail
          go_roundw
          case rel => exact ⟨k + 1, by omega, by go_num, fq5, L1, n1, c1, L2, n2, c2, L3, n3, c3, by rw [Htk.out]; exact hDf.on bd7, gef, hn7, by rw [Htk.out]; exact (bd7.block _ (lt_of_block zf)).trans zf, by rw [Htk.out]; exact hXf.on bd7, bt belf bd7⟩
          case measure => simp [intOf]; omega
      · obtain rfl : k = l.length := by omega
        rw [List.take_length] at Hs
        have hsm : s.size = m := by rw [Hs.out, size_acts]; rfl
        have hs8 : s.sz ≤ 100000000 := by omega
        unfold rvL at hB7 hx
        obtain ⟨hw1, hw2, hw3⟩ := hx.rows
        have hal := Lib.hid (fun x h => (hD.ok.all x h).2 : ∀ x ∈ s.all, x.2.length = 512)
        have hall := Lib.hid (show s.all.length ≤ 1000000 from by unfold St.sz at hsz; omega)
        have Hkl := Lib.hid (fun p => kept_len hD.ok.all p)
        have Hin := Lib.hid (fun (p : Nat) (hp : p < m) => show keptAt s (p : Int) = kept s.all p from by unfold keptAt; rw [if_neg (by omega)]; simp)
        have Hat := Lib.hid (fun (p : Nat) W (bW : Below wr.heap.size wr W) => at_any W [] p s.all (.slice K1 m1 e1) (.slice K2 m2 e2) (.slice K3 m3 e3) s.size s.calls s.fuse s.down (fun j hj => by cases hj) ((hw1.on bW).less (fun j hj => by cases hj)) hal.out hall.out rfl rfl)
        unfold rvL at Hat
        have HK := Lib.hid (fun (p : Int) W (bW : Below wr.heap.size wr W) => kept_any g fq s p W (hD.on bW))
        have Hh := Lib.hid (fun W (bW : Below wr.heap.size wr W) => history_any g fq s W (hD.on bW) hs8)
        have hw3' := Lib.hid (fun W (bW : Below wr.heap.size wr W) => (show WRow W [] (.slice K3 m3 e3) s.all from (hw3.on bW).less (fun j hj => by cases hj)))
        have H7 := Lib.hid (fun W (bW : Below wr.heap.size wr W) => seven_of ((bW.block _ (lt_of_block hB7)).trans hB7 : BlkT W T7 _ _))
        have Hsm := Lib.hid hsm
        clear hD hB7 hx hw1 hw2 hw3 hr hsm
        go_wp2_with fail
        go_loopw [11] (fun i w' => ∃ p : Nat, p ≤ m ∧ i = .int .i64 p ∧ Below wr.heap.size wr w') (fun i _ => m - (intOf i).toNat)
        case atStart => exact ⟨0, by omega, rfl, Below.refl _ _⟩
        case round =>
          rename_i wq
          obtain ⟨p, hp, rfl, bq⟩ := hrel
          by_cases hpm : p < m
          · go_wp2_with fail
            have bd := bt bq ((Below.refl _ _).drew)
            have HHK := HK.out (p : Int)
            have HHA := Hat.out p
            have hXl := Hkl.out p
            rw [Hin.out p hpm] at HHK
            obtain ⟨X, hX⟩ : ∃ X, X = kept s.all p := ⟨_, rfl⟩
            rw [← hX] at HHK HHA hXl
            clear hX
            have hXb : X.length ≤ 1000000000000 := by omega
            clear hXl
            replace HHK := Lib.hid HHK
            replace HHA := Lib.hid HHA
            have hXl := Lib.hid hXb
            clear hXb
            refine wp_region_held_drew (S := (fun w' => w'.cell? ⟨T7, 0, none⟩ = some (.int .i64 (s.size : Int)) ∧ w'.cell? ⟨T7, 1, none⟩ = some (.slice K1 m1 e1) ∧ w'.cell? ⟨T7, 2, none⟩ = some (.slice K2 m2 e2) ∧ w'.cell? ⟨T7, 3, none⟩ = some (.slice K3 m3 e3) ∧ w'.cell? ⟨T7, 4, none⟩ = some (.int .i64 s.fuse) ∧ w'.cell? ⟨T7, 5, none⟩ = some (.int .i64 (s.calls : Int)) ∧ w'.cell? ⟨T7, 6, none⟩ = some (.bool s.down))) (by kernel_rfl) (by exact H7.out _ bd) (fun hHeld => ?_)
            refine wpAnyH_take (i := 0) (oi := { dst := some 98, op := Op.move (Operand.tmp 5), type := 59, pos := "law.go:94", after := #[], guard := none }) (v := ?_) rfl (by kernel_rfl) (by kernel_rfl) (by kernel_rfl) (fun _ _ _ h => h) (Or.inl ⟨by rfl, ?_⟩) (by assumption) ?_; rotate_left; · ((intro w hSw; (try dsimp only at hSw); go_simp) <;> with_reducible rfl)
            try simp only [Act.put, List.setIfInBounds_toArray, List.set_cons_zero, List.set_cons_succ]
            refine wpAnyH_take (i := 1) (oi := { dst := some 99, op := Op.move (Operand.tmp 11), type := 3, pos := "law.go:94", after := #[], guard := none }) (v := ?_) rfl (by kernel_rfl) (by kernel_rfl) (by kernel_rfl) (fun _ _ _ h => h) (Or.inl ⟨by rfl, ?_⟩) (by assumption) ?_; rotate_left; · ((intro w hSw; (try dsimp only at hSw); go_simp) <;> with_reducible rfl)
            try simp only [Act.put, List.setIfInBounds_toArray, List.set_cons_zero, List.set_cons_succ]
            refine wpAnyH_take (i := 3) (oi := { dst := some 101, op := Op.load 108 (Operand.tmp 7), type := 108, pos := "law.go:94", after := #[], guard := none }) (v := ?_) rfl (by kernel_rfl) (by kernel_rfl) (by kernel_rfl) (fun _ _ _ h => h) (Or.inl ⟨by rfl, ?_⟩) (by assumption) ?_; rotate_left; · ((intro w hSw; (try dsimp only at hSw); go_simp) <;> with_reducible rfl)
            try simp only [Act.put, List.setIfInBounds_toArray, List.set_cons_zero, List.set_cons_succ]
            refine wpAnyH_take (i := 4) (oi := { dst := some 102, op := Op.move (Operand.tmp 11), type := 3, pos := "law.go:94", after := #[], guard := none }) (v := ?_) rfl (by kernel_rfl) (by kernel_rfl) (by kernel_rfl) (fun _ _ _ h => h) (Or.inl ⟨by rfl, ?_⟩) (by assumption) ?_; rotate_left; · ((intro w hSw; (try dsimp only at hSw); go_simp) <;> with_reducible rfl)
            try simp only [Act.put, List.setIfInBounds_toArray, List.set_cons_zero, List.set_cons_succ]
            refine wpAnyH_ready (rs := [2]) (by kernel_rfl) (by simp) ?_
            refine AllReadyH.cons (o := { dst := some 100, op := Op.call { callee := Callee.value (Operand.func 38), args := #[Operand.tmp 98, Operand.tmp 99], argTypes := #[59, 3] }, type := 26, pos := "law.go:94", after := #[{ on := 0, ground := Ground.data }, { on := 1, ground := Ground.data }], guard := none }) rfl (fun K hK => ?_) AllReadyH.nil
            go_simp; (first | (go_at_call 38; refine (HHK.out _ bd).mono ?_; rintro e w5 ⟨v5, rfl, hN5, b5⟩; obtain ⟨A5, c5, rfl, hc51, hc52, hr5⟩ := hN5.rdN (fp := []) (fun j hj => by cases hj); have bd5 := bt bd b5) | (go_at_call 72; refine (HHA.out _ bd5).mono ?_; rintro e w6 ⟨v6, rfl, ⟨A6, c6, rfl, hc61, hc62, hr6⟩, b6⟩; have bd6 := bt bd5 b6) | (go_at_call 19; refine (R1.same_any A5 A6 X X X.length X.length c5 c6 _ rfl rfl (hr5.on b6).rd hr6.rd hXl.out hXl.out).mono ?_; rw [sameB_refl]; rintro e w7 ⟨rfl, b7⟩; have bd7 := bt bd6 b7)); (try (go_wp2_with fail)); refine hK.out _ _ (by first | (first | with_reducible exact H7.out _ bd | with_reducible exact H7.out _ bd5 | with_reducible exact H7.out _ bd6 | with_reducible exact H7.out _ bd7) | ((try dsimp only); (first | with_reducible exact H7.out _ bd | with_reducible exact H7.out _ bd5 | with_reducible exact H7.out _ bd6 | with_reducible exact H7.out _ bd7))) (fun hHeld => ?_)
            clear hK K
            try simp only [Act.put, List.setIfInBounds_toArray, List.set_cons_zero, List.set_cons_succ]
            refine wpAnyH_ready (rs := [5]) (by kernel_rfl) (by simp) ?_
            refine AllReadyH.cons (o := { dst := some 103, op := Op.call { callee := Callee.value (Operand.func 72), args := #[Operand.tmp 101, Operand.tmp 102], argTypes := #[108, 3] }, type := 26, pos := "law.go:94", after := #[{ on := 3, ground := Ground.data }, { on := 4, ground := Ground.data }, { on := 2, ground := Ground.chain }], guard := none }) rfl (fun K hK => ?_) AllReadyH.nil
            go_simp; (first | (go_at_call 38; refine (HHK.out _ bd).mono ?_; rintro e w5 ⟨v5, rfl, hN5, b5⟩; obtain ⟨A5, c5, rfl, hc51, hc52, hr5⟩ := hN5.rdN (fp := []) (fun j hj => by cases hj); have bd5 := bt bd b5) | (go_at_call 72; refine (HHA.out _ bd5).mono ?_; rintro e w6 ⟨v6, rfl, ⟨A6, c6, rfl, hc61, hc62, hr6⟩, b6⟩; have bd6 := bt bd5 b6) | (go_at_call 19; refine (R1.same_any A5 A6 X X X.length X.length c5 c6 _ rfl rfl (hr5.on b6).rd hr6.rd hXl.out hXl.out).mono ?_; rw [sameB_refl]; rintro e w7 ⟨rfl, b7⟩; have bd7 := bt bd6 b7)); (try (go_wp2_with fail)); refine hK.out _ _ (by first | (first | with_reducible exact H7.out _ bd | with_reducible exact H7.out _ bd5 | with_reducible exact H7.out _ bd6 | with_reducible exact H7.out _ bd7) | ((try dsimp only); (first | with_reducible exact H7.out _ bd | with_reducible exact H7.out _ bd5 | with_reducible exact H7.out _ bd6 | with_reducible exact H7.out _ bd7))) (fun hHeld => ?_)
            clear hK K
            try simp only [Act.put, List.setIfInBounds_toArray, List.set_cons_zero, List.set_cons_succ]
            refine wpAnyH_ready (rs := [6]) (by kernel_rfl) (by simp) ?_
            refine AllReadyH.cons (o := { dst := some 104, op := Op.call { callee := Callee.value (Operand.func 19), args := #[Operand.tmp 100, Operand.tmp 103], argTypes := #[26, 26] }, type := 4, pos := "law.go:94", after := #[{ on := 2, ground := Ground.data }, { on := 5, ground := Ground.data }, { on := 5, ground := Ground.chain }], guard := none }) rfl (fun K hK => ?_) AllReadyH.nil
            go_simp; (first | (go_at_call 38; refine (HHK.out _ bd).mono ?_; rintro e w5 ⟨v5, rfl, hN5, b5⟩; obtain ⟨A5, c5, rfl, hc51, hc52, hr5⟩ := hN5.rdN (fp := []) (fun j hj => by cases hj); have bd5 := bt bd b5) | (go_at_call 72; refine (HHA.out _ bd5).mono ?_; rintro e w6 ⟨v6, rfl, ⟨A6, c6, rfl, hc61, hc62, hr6⟩, b6⟩; have bd6 := bt bd5 b6) | (go_at_call 19; refine (R1.same_any A5 A6 X X X.length X.length c5 c6 _ rfl rfl (hr5.on b6).rd hr6.rd hXl.out hXl.out).mono ?_; rw [sameB_refl]; rintro e w7 ⟨rfl, b7⟩; have bd7 := bt bd6 b7)); (try (go_wp2_with fail)); refine hK.out _ _ (by first | (first | with_reducible exact H7.out _ bd | with_reducible exact H7.out _ bd5 | with_reducible exact H7.out _ bd6 | with_reducible exact H7.out _ bd7) | ((try dsimp only); (first | with_reducible exact H7.out _ bd | with_reducible exact H7.out _ bd5 | with_reducible exact H7.out _ bd6 | with_reducible exact H7.out _ bd7))) (fun hHeld => ?_)
            clear hK K
            try simp only [Act.put, List.setIfInBounds_toArray, List.set_cons_zero, List.set_cons_succ]
            refine wpAnyH_take (i := 7) (oi := { dst := some 105, op := Op.unOp UnOp.not 4 (Operand.tmp 104), type := 4, pos := "law.go:94", after := #[{ on := 6, ground := Ground.data }], guard := none }) (v := ?_) rfl (by kernel_rfl) (by kernel_rfl) (by kernel_rfl) (fun _ _ _ h => h) (Or.inl ⟨by rfl, ?_⟩) (by assumption) ?_; rotate_left; · ((intro w hSw; (try dsimp only at hSw); go_simp) <;> with_reducible rfl)
            try simp only [Act.put, List.setIfInBounds_toArray, List.set_cons_zero, List.set_cons_succ]
            refine wpAnyH_done (by kernel_rfl) ?_ _
            go_wp2_with fail
            go_roundw
            case rel => exact ⟨p + 1, by omega, by go_num, bd7⟩
            case measure => simp [intOf]; omega
          · obtain rfl : p = m := by omega
            go_wp2_with fail
            have bd := bt bq ((Below.refl _ _).drew)
            have Hm1 := Lib.hid (HK.out (p : Int))
            rw [show keptAt s (p : Int) = [] from by unfold keptAt; rw [if_pos (by have := Hsm.out; omega)]] at Hm1
            have Hm2 := Lib.hid (HK.out (-1))
            rw [show keptAt s (-1) = [] from by unfold keptAt; rw [if_pos (by omega)]] at Hm2
            refine wp_region_held_drew (S := (fun w' => w'.cell? ⟨T7, 3, none⟩ = some (.slice K3 m3 e3))) (by kernel_rfl) (by exact (H7.out _ bd).2.2.2.1) (fun hHeld => ?_)
            refine wpAnyH_take (i := 0) (oi := { dst := some 106, op := Op.move (Operand.tmp 6), type := 43, pos := "law.go:98", after := #[], guard := none }) (v := ?_) rfl (by kernel_rfl) (by kernel_rfl) (by kernel_rfl) (fun _ _ _ h => h) (Or.inl ⟨by rfl, ?_⟩) (by assumption) ?_; rotate_left; · ((intro w hSw; (try dsimp only at hSw); go_simp) <;> with_reducible rfl)
            try simp only [Act.put, List.setIfInBounds_toArray, List.set_cons_zero, List.set_cons_succ]
            refine wpAnyH_take (i := 1) (oi := { dst := some 107, op := Op.binOp BinOp.eql 43 (Operand.tmp 106) (Operand.const (Value.int IntKind.i64 0)) 43, type := 4, pos := "law.go:98", after := #[{ on := 0, ground := Ground.data }], guard := none }) (v := ?_) rfl (by kernel_rfl) (by kernel_rfl) (by kernel_rfl) (fun _ _ _ h => h) (Or.inl ⟨by rfl, ?_⟩) (by assumption) ?_; rotate_left; · ((intro w hSw; (try dsimp only at hSw); go_simp) <;> with_reducible rfl)
            try simp only [Act.put, List.setIfInBounds_toArray, List.set_cons_zero, List.set_cons_succ]
            refine wpAnyH_take (i := 2) (oi := { dst := some 108, op := Op.move (Operand.tmp 107), type := 4, pos := "law.go:98", after := #[{ on := 1, ground := Ground.data }], guard := none }) (v := ?_) rfl (by kernel_rfl) (by kernel_rfl) (by kernel_rfl) (fun _ _ _ h => h) (Or.inl ⟨by rfl, ?_⟩) (by assumption) ?_; rotate_left; · ((intro w hSw; (try dsimp only at hSw); go_simp) <;> with_reducible rfl)
            try simp only [Act.put, List.setIfInBounds_toArray, List.set_cons_zero, List.set_cons_succ]
            refine wpAnyH_take (i := 3) (oi := { dst := some 109, op := Op.move (Operand.tmp 5), type := 59, pos := "law.go:98", after := #[{ on := 2, ground := Ground.guard }], guard := some (2, true) }) (v := ?_) rfl (by kernel_rfl) (by kernel_rfl) (by kernel_rfl) (fun _ _ _ h => h) (Or.inl ⟨by rfl, ?_⟩) (by assumption) ?_; rotate_left; · ((intro w hSw; (try dsimp only at hSw); go_simp) <;> with_reducible rfl)
            try simp only [Act.put, List.setIfInBounds_toArray, List.set_cons_zero, List.set_cons_succ]
            refine wpAnyH_take (i := 5) (oi := { dst := some 111, op := Op.fieldAddr 108 (Operand.tmp 7) 3, type := 0, pos := "law.go:98", after := #[{ on := 2, ground := Ground.guard }], guard := some (2, true) }) (v := ?_) rfl (by kernel_rfl) (by kernel_rfl) (by kernel_rfl) (fun _ _ _ h => h) (Or.inl ⟨by rfl, ?_⟩) (by assumption) ?_; rotate_left; · ((intro w hSw; (try dsimp only at hSw); go_simp) <;> with_reducible rfl)
            try simp only [Act.put, List.setIfInBounds_toArray, List.set_cons_zero, List.set_cons_succ]
            refine wpAnyH_take (i := 6) (oi := { dst := some 112, op := Op.load 66 (Operand.tmp 111), type := 66, pos := "law.go:98", after := #[{ on := 5, ground := Ground.data }, { on := 2, ground := Ground.guard }], guard := some (2, true) }) (v := ?_) rfl (by kernel_rfl) (by kernel_rfl) (by kernel_rfl) (fun _ _ _ h => h) (Or.inl ⟨by rfl, ?_⟩) (by assumption) ?_; rotate_left; · ((intro w hSw; (try dsimp only at hSw); go_simp) <;> with_reducible rfl)
            try simp only [Act.put, List.setIfInBounds_toArray, List.set_cons_zero, List.set_cons_succ]
            refine wpAnyH_ready (rs := [4]) (by kernel_rfl) (by simp) ?_
            refine AllReadyH.cons (o := { dst := some 110, op := Op.call { callee := Callee.value (Operand.func 37), args := #[Operand.tmp 109], argTypes := #[59] }, type := 66, pos := "law.go:98", after := #[{ on := 3, ground := Ground.data }, { on := 2, ground := Ground.chain }, { on := 2, ground := Ground.guard }], guard := some (2, true) }) rfl (fun K hK => ?_) AllReadyH.nil
            go_simp; (first | (go_at_call 37; refine (Hh.out _ bd).mono ?_; rintro e w5 ⟨v5, rfl, hN5, b5⟩; have hr5 := hN5.row; have bd5 := bt bd b5) | (go_at_call 70; refine (writes_any _ [] v5 (.slice K3 m3 e3) s.all hr5 (hw3'.out _ bd5) hall.out hal.out).mono ?_; rintro e w6 ⟨rfl, b6⟩; have bd6 := bt bd5 b6) | (go_at_call 38; (with_reducible refine (Hm1.out _ bd6).mono ?_); rintro e w7 ⟨v7, rfl, ⟨A7, c7, rfl, _, _, _⟩, b7⟩; have bd7 := bt bd6 b7; (try simp only [List.length_nil])) | (go_at_call 38; (with_reducible refine (Hm2.out _ bd7).mono ?_); rintro e w8 ⟨v8, rfl, ⟨A8, c8, rfl, _, _, _⟩, b8⟩; have bd8 := bt bd7 b8; (try simp only [List.length_nil])) | (go_at_call 30; refine (alive_any _).mono ?_; rintro e w9 ⟨rfl, b9⟩; have bd9 := bt bd8 b9)); (try (go_wp2_with fail)); refine hK.out _ _ (by first | (first | with_reducible exact (H7.out _ bd).2.2.2.1 | with_reducible exact (H7.out _ bd5).2.2.2.1 | with_reducible exact (H7.out _ bd6).2.2.2.1 | with_reducible exact (H7.out _ bd7).2.2.2.1 | with_reducible exact (H7.out _ bd8).2.2.2.1 | with_reducible exact (H7.out _ bd9).2.2.2.1) | ((try dsimp only); (first | with_reducible exact (H7.out _ bd).2.2.2.1 | with_reducible exact (H7.out _ bd5).2.2.2.1 | with_reducible exact (H7.out _ bd6).2.2.2.1 | with_reducible exact (H7.out _ bd7).2.2.2.1 | with_reducible exact (H7.out _ bd8).2.2.2.1 | with_reducible exact (H7.out _ bd9).2.2.2.1))) (fun hHeld => ?_)
            clear hK K
            try simp only [Act.put, List.setIfInBounds_toArray, List.set_cons_zero, List.set_cons_succ]
            refine wpAnyH_ready (rs := [7]) (by kernel_rfl) (by simp) ?_
            refine AllReadyH.cons (o := { dst := some 113, op := Op.call { callee := Callee.value (Operand.func 70), args := #[Operand.tmp 110, Operand.tmp 112], argTypes := #[66, 66] }, type := 4, pos := "law.go:98", after := #[{ on := 4, ground := Ground.data }, { on := 6, ground := Ground.data }, { on := 4, ground := Ground.chain }, { on := 2, ground := Ground.guard }], guard := some (2, true) }) rfl (fun K hK => ?_) AllReadyH.nil
            go_simp; (first | (go_at_call 37; refine (Hh.out _ bd).mono ?_; rintro e w5 ⟨v5, rfl, hN5, b5⟩; have hr5 := hN5.row; have bd5 := bt bd b5) | (go_at_call 70; refine (writes_any _ [] v5 (.slice K3 m3 e3) s.all hr5 (hw3'.out _ bd5) hall.out hal.out).mono ?_; rintro e w6 ⟨rfl, b6⟩; have bd6 := bt bd5 b6) | (go_at_call 38; (with_reducible refine (Hm1.out _ bd6).mono ?_); rintro e w7 ⟨v7, rfl, ⟨A7, c7, rfl, _, _, _⟩, b7⟩; have bd7 := bt bd6 b7; (try simp only [List.length_nil])) | (go_at_call 38; (with_reducible refine (Hm2.out _ bd7).mono ?_); rintro e w8 ⟨v8, rfl, ⟨A8, c8, rfl, _, _, _⟩, b8⟩; have bd8 := bt bd7 b8; (try simp only [List.length_nil])) | (go_at_call 30; refine (alive_any _).mono ?_; rintro e w9 ⟨rfl, b9⟩; have bd9 := bt bd8 b9)); (try (go_wp2_with fail)); refine hK.out _ _ (by first | (first | with_reducible exact (H7.out _ bd).2.2.2.1 | with_reducible exact (H7.out _ bd5).2.2.2.1 | with_reducible exact (H7.out _ bd6).2.2.2.1 | with_reducible exact (H7.out _ bd7).2.2.2.1 | with_reducible exact (H7.out _ bd8).2.2.2.1 | with_reducible exact (H7.out _ bd9).2.2.2.1) | ((try dsimp only); (first | with_reducible exact (H7.out _ bd).2.2.2.1 | with_reducible exact (H7.out _ bd5).2.2.2.1 | with_reducible exact (H7.out _ bd6).2.2.2.1 | with_reducible exact (H7.out _ bd7).2.2.2.1 | with_reducible exact (H7.out _ bd8).2.2.2.1 | with_reducible exact (H7.out _ bd9).2.2.2.1))) (fun hHeld => ?_)
            clear hK K
            try simp only [Act.put, List.setIfInBounds_toArray, List.set_cons_zero, List.set_cons_succ]
            refine wpAnyH_take (i := 8) (oi := { dst := some 114, op := Op.pick (Operand.tmp 108) (Operand.tmp 113) (Operand.const (Value.bool false)), type := 4, pos := "law.go:98", after := #[{ on := 2, ground := Ground.data }, { on := 7, ground := Ground.data }], guard := none }) (v := ?_) rfl (by kernel_rfl) (by kernel_rfl) (by kernel_rfl) (fun _ _ _ h => h) (Or.inl ⟨by rfl, ?_⟩) (by assumption) ?_; rotate_left; · ((intro w hSw; (try dsimp only at hSw); go_simp) <;> with_reducible rfl)
            try simp only [Act.put, List.setIfInBounds_toArray, List.set_cons_zero, List.set_cons_succ]
            refine wpAnyH_take (i := 9) (oi := { dst := some 115, op := Op.move (Operand.tmp 114), type := 4, pos := "law.go:98", after := #[{ on := 8, ground := Ground.data }, { on := 7, ground := Ground.chain }], guard := none }) (v := ?_) rfl (by kernel_rfl) (by kernel_rfl) (by kernel_rfl) (fun _ _ _ h => h) (Or.inl ⟨by rfl, ?_⟩) (by assumption) ?_; rotate_left; · ((intro w hSw; (try dsimp only at hSw); go_simp) <;> with_reducible rfl)
            try simp only [Act.put, List.setIfInBounds_toArray, List.set_cons_zero, List.set_cons_succ]
            refine wpAnyH_take (i := 10) (oi := { dst := some 116, op := Op.move (Operand.tmp 5), type := 59, pos := "law.go:98", after := #[{ on := 9, ground := Ground.guard }], guard := some (9, true) }) (v := ?_) rfl (by kernel_rfl) (by kernel_rfl) (by kernel_rfl) (fun _ _ _ h => h) (Or.inl ⟨by rfl, ?_⟩) (by assumption) ?_; rotate_left; · ((intro w hSw; (try dsimp only at hSw); go_simp) <;> with_reducible rfl)
            try simp only [Act.put, List.setIfInBounds_toArray, List.set_cons_zero, List.set_cons_succ]
            refine wpAnyH_take (i := 11) (oi := { dst := some 117, op := Op.move (Operand.tmp 0), type := 3, pos := "law.go:98", after := #[{ on := 9, ground := Ground.guard }], guard := some (9, true) }) (v := ?_) rfl (by kernel_rfl) (by kernel_rfl) (by kernel_rfl) (fun _ _ _ h => h) (Or.inl ⟨by rfl, ?_⟩) (by assumption) ?_; rotate_left; · ((intro w hSw; (try dsimp only at hSw); go_simp) <;> with_reducible rfl)
            try simp only [Act.put, List.setIfInBounds_toArray, List.set_cons_zero, List.set_cons_succ]
            refine wpAnyH_ready (rs := [12]) (by kernel_rfl) (by simp) ?_
            refine AllReadyH.cons (o := { dst := some 118, op := Op.call { callee := Callee.value (Operand.func 38), args := #[Operand.tmp 116, Operand.tmp 117], argTypes := #[59, 3] }, type := 26, pos := "law.go:98", after := #[{ on := 10, ground := Ground.data }, { on := 11, ground := Ground.data }, { on := 9, ground := Ground.chain }, { on := 9, ground := Ground.guard }], guard := some (9, true) }) rfl (fun K hK => ?_) AllReadyH.nil
            go_simp; (first | (go_at_call 37; refine (Hh.out _ bd).mono ?_; rintro e w5 ⟨v5, rfl, hN5, b5⟩; have hr5 := hN5.row; have bd5 := bt bd b5) | (go_at_call 70; refine (writes_any _ [] v5 (.slice K3 m3 e3) s.all hr5 (hw3'.out _ bd5) hall.out hal.out).mono ?_; rintro e w6 ⟨rfl, b6⟩; have bd6 := bt bd5 b6) | (go_at_call 38; (with_reducible refine (Hm1.out _ bd6).mono ?_); rintro e w7 ⟨v7, rfl, ⟨A7, c7, rfl, _, _, _⟩, b7⟩; have bd7 := bt bd6 b7; (try simp only [List.length_nil])) | (go_at_call 38; (with_reducible refine (Hm2.out _ bd7).mono ?_); rintro e w8 ⟨v8, rfl, ⟨A8, c8, rfl, _, _, _⟩, b8⟩; have bd8 := bt bd7 b8; (try simp only [List.length_nil])) | (go_at_call 30; refine (alive_any _).mono ?_; rintro e w9 ⟨rfl, b9⟩; have bd9 := bt bd8 b9)); (try (go_wp2_with fail)); refine hK.out _ _ (by first | (first | with_reducible exact (H7.out _ bd).2.2.2.1 | with_reducible exact (H7.out _ bd5).2.2.2.1 | with_reducible exact (H7.out _ bd6).2.2.2.1 | with_reducible exact (H7.out _ bd7).2.2.2.1 | with_reducible exact (H7.out _ bd8).2.2.2.1 | with_reducible exact (H7.out _ bd9).2.2.2.1) | ((try dsimp only); (first | with_reducible exact (H7.out _ bd).2.2.2.1 | with_reducible exact (H7.out _ bd5).2.2.2.1 | with_reducible exact (H7.out _ bd6).2.2.2.1 | with_reducible exact (H7.out _ bd7).2.2.2.1 | with_reducible exact (H7.out _ bd8).2.2.2.1 | with_reducible exact (H7.out _ bd9).2.2.2.1))) (fun hHeld => ?_)
            clear hK K
            try simp only [Act.put, List.setIfInBounds_toArray, List.set_cons_zero, List.set_cons_succ]
            refine wpAnyH_take (i := 13) (oi := { dst := some 119, op := Op.call { callee := Callee.builtin Builtin.len, args := #[Operand.tmp 118], argTypes := #[26] }, type := 3, pos := "law.go:98", after := #[{ on := 12, ground := Ground.data }, { on := 9, ground := Ground.guard }], guard := some (9, true) }) (v := ?_) rfl (by kernel_rfl) (by kernel_rfl) (by kernel_rfl) (fun _ _ _ h => h) (Or.inl ⟨by rfl, ?_⟩) (by assumption) ?_; rotate_left; · ((intro w hSw; (try dsimp only at hSw); go_simp) <;> with_reducible rfl)
            try simp only [Act.put, List.setIfInBounds_toArray, List.set_cons_zero, List.set_cons_succ]
            refine wpAnyH_take (i := 14) (oi := { dst := some 120, op := Op.binOp BinOp.eql 3 (Operand.tmp 119) (Operand.const (Value.int IntKind.i64 0)) 3, type := 4, pos := "law.go:98", after := #[{ on := 13, ground := Ground.data }, { on := 9, ground := Ground.guard }], guard := some (9, true) }) (v := ?_) rfl (by kernel_rfl) (by kernel_rfl) (by kernel_rfl) (fun _ _ _ h => h) (Or.inl ⟨by rfl, ?_⟩) (by assumption) ?_; rotate_left; · ((intro w hSw; (try dsimp only at hSw); go_simp) <;> with_reducible rfl)
            try simp only [Act.put, List.setIfInBounds_toArray, List.set_cons_zero, List.set_cons_succ]
            refine wpAnyH_take (i := 15) (oi := { dst := some 121, op := Op.pick (Operand.tmp 115) (Operand.tmp 120) (Operand.const (Value.bool false)), type := 4, pos := "law.go:98", after := #[{ on := 9, ground := Ground.data }, { on := 14, ground := Ground.data }], guard := none }) (v := ?_) rfl (by kernel_rfl) (by kernel_rfl) (by kernel_rfl) (fun _ _ _ h => h) (Or.inl ⟨by rfl, ?_⟩) (by assumption) ?_; rotate_left; · ((intro w hSw; (try dsimp only at hSw); go_simp) <;> with_reducible rfl)
            try simp only [Act.put, List.setIfInBounds_toArray, List.set_cons_zero, List.set_cons_succ]
            refine wpAnyH_take (i := 16) (oi := { dst := some 122, op := Op.move (Operand.tmp 121), type := 4, pos := "law.go:98", after := #[{ on := 15, ground := Ground.data }, { on := 12, ground := Ground.chain }], guard := none }) (v := ?_) rfl (by kernel_rfl) (by kernel_rfl) (by kernel_rfl) (fun _ _ _ h => h) (Or.inl ⟨by rfl, ?_⟩) (by assumption) ?_; rotate_left; · ((intro w hSw; (try dsimp only at hSw); go_simp) <;> with_reducible rfl)
            try simp only [Act.put, List.setIfInBounds_toArray, List.set_cons_zero, List.set_cons_succ]
            refine wpAnyH_take (i := 17) (oi := { dst := some 123, op := Op.move (Operand.tmp 5), type := 59, pos := "law.go:98", after := #[{ on := 16, ground := Ground.guard }], guard := some (16, true) }) (v := ?_) rfl (by kernel_rfl) (by kernel_rfl) (by kernel_rfl) (fun _ _ _ h => h) (Or.inl ⟨by rfl, ?_⟩) (by assumption) ?_; rotate_left; · ((intro w hSw; (try dsimp only at hSw); go_simp) <;> with_reducible rfl)
            try simp only [Act.put, List.setIfInBounds_toArray, List.set_cons_zero, List.set_cons_succ]
            refine wpAnyH_ready (rs := [18]) (by kernel_rfl) (by simp) ?_
            refine AllReadyH.cons (o := { dst := some 124, op := Op.call { callee := Callee.value (Operand.func 38), args := #[Operand.tmp 123, Operand.const (Value.int IntKind.i64 (-1))], argTypes := #[59, 3] }, type := 26, pos := "law.go:98", after := #[{ on := 17, ground := Ground.data }, { on := 16, ground := Ground.chain }, { on := 16, ground := Ground.guard }], guard := some (16, true) }) rfl (fun K hK => ?_) AllReadyH.nil
            go_simp; (first | (go_at_call 37; refine (Hh.out _ bd).mono ?_; rintro e w5 ⟨v5, rfl, hN5, b5⟩; have hr5 := hN5.row; have bd5 := bt bd b5) | (go_at_call 70; refine (writes_any _ [] v5 (.slice K3 m3 e3) s.all hr5 (hw3'.out _ bd5) hall.out hal.out).mono ?_; rintro e w6 ⟨rfl, b6⟩; have bd6 := bt bd5 b6) | (go_at_call 38; (with_reducible refine (Hm1.out _ bd6).mono ?_); rintro e w7 ⟨v7, rfl, ⟨A7, c7, rfl, _, _, _⟩, b7⟩; have bd7 := bt bd6 b7; (try simp only [List.length_nil])) | (go_at_call 38; (with_reducible refine (Hm2.out _ bd7).mono ?_); rintro e w8 ⟨v8, rfl, ⟨A8, c8, rfl, _, _, _⟩, b8⟩; have bd8 := bt bd7 b8; (try simp only [List.length_nil])) | (go_at_call 30; refine (alive_any _).mono ?_; rintro e w9 ⟨rfl, b9⟩; have bd9 := bt bd8 b9)); (try (go_wp2_with fail)); refine hK.out _ _ (by first | (first | with_reducible exact (H7.out _ bd).2.2.2.1 | with_reducible exact (H7.out _ bd5).2.2.2.1 | with_reducible exact (H7.out _ bd6).2.2.2.1 | with_reducible exact (H7.out _ bd7).2.2.2.1 | with_reducible exact (H7.out _ bd8).2.2.2.1 | with_reducible exact (H7.out _ bd9).2.2.2.1) | ((try dsimp only); (first | with_reducible exact (H7.out _ bd).2.2.2.1 | with_reducible exact (H7.out _ bd5).2.2.2.1 | with_reducible exact (H7.out _ bd6).2.2.2.1 | with_reducible exact (H7.out _ bd7).2.2.2.1 | with_reducible exact (H7.out _ bd8).2.2.2.1 | with_reducible exact (H7.out _ bd9).2.2.2.1))) (fun hHeld => ?_)
            clear hK K
            try simp only [Act.put, List.setIfInBounds_toArray, List.set_cons_zero, List.set_cons_succ]
            refine wpAnyH_take (i := 19) (oi := { dst := some 125, op := Op.call { callee := Callee.builtin Builtin.len, args := #[Operand.tmp 124], argTypes := #[26] }, type := 3, pos := "law.go:98", after := #[{ on := 18, ground := Ground.data }, { on := 16, ground := Ground.guard }], guard := some (16, true) }) (v := ?_) rfl (by kernel_rfl) (by kernel_rfl) (by kernel_rfl) (fun _ _ _ h => h) (Or.inl ⟨by rfl, ?_⟩) (by assumption) ?_; rotate_left; · ((intro w hSw; (try dsimp only at hSw); go_simp) <;> with_reducible rfl)
            try simp only [Act.put, List.setIfInBounds_toArray, List.set_cons_zero, List.set_cons_succ]
            refine wpAnyH_take (i := 20) (oi := { dst := some 126, op := Op.binOp BinOp.eql 3 (Operand.tmp 125) (Operand.const (Value.int IntKind.i64 0)) 3, type := 4, pos := "law.go:98", after := #[{ on := 19, ground := Ground.data }, { on := 16, ground := Ground.guard }], guard := some (16, true) }) (v := ?_) rfl (by kernel_rfl) (by kernel_rfl) (by kernel_rfl) (fun _ _ _ h => h) (Or.inl ⟨by rfl, ?_⟩) (by assumption) ?_; rotate_left; · ((intro w hSw; (try dsimp only at hSw); go_simp) <;> with_reducible rfl)
            try simp only [Act.put, List.setIfInBounds_toArray, List.set_cons_zero, List.set_cons_succ]
            refine wpAnyH_take (i := 21) (oi := { dst := some 127, op := Op.pick (Operand.tmp 122) (Operand.tmp 126) (Operand.const (Value.bool false)), type := 4, pos := "law.go:98", after := #[{ on := 16, ground := Ground.data }, { on := 20, ground := Ground.data }], guard := none }) (v := ?_) rfl (by kernel_rfl) (by kernel_rfl) (by kernel_rfl) (fun _ _ _ h => h) (Or.inl ⟨by rfl, ?_⟩) (by assumption) ?_; rotate_left; · ((intro w hSw; (try dsimp only at hSw); go_simp) <;> with_reducible rfl)
            try simp only [Act.put, List.setIfInBounds_toArray, List.set_cons_zero, List.set_cons_succ]
            refine wpAnyH_take (i := 22) (oi := { dst := some 128, op := Op.move (Operand.tmp 127), type := 4, pos := "law.go:98", after := #[{ on := 21, ground := Ground.data }, { on := 18, ground := Ground.chain }], guard := none }) (v := ?_) rfl (by kernel_rfl) (by kernel_rfl) (by kernel_rfl) (fun _ _ _ h => h) (Or.inl ⟨by rfl, ?_⟩) (by assumption) ?_; rotate_left; · ((intro w hSw; (try dsimp only at hSw); go_simp) <;> with_reducible rfl)
            try simp only [Act.put, List.setIfInBounds_toArray, List.set_cons_zero, List.set_cons_succ]
            refine wpAnyH_ready (rs := [23]) (by kernel_rfl) (by simp) ?_
            refine AllReadyH.cons (o := { dst := some 129, op := Op.call { callee := Callee.value (Operand.func 30), args := #[], argTypes := #[] }, type := 4, pos := "law.go:98", after := #[{ on := 22, ground := Ground.chain }, { on := 22, ground := Ground.guard }], guard := some (22, true) }) rfl (fun K hK => ?_) AllReadyH.nil
            go_simp; (first | (go_at_call 37; refine (Hh.out _ bd).mono ?_; rintro e w5 ⟨v5, rfl, hN5, b5⟩; have hr5 := hN5.row; have bd5 := bt bd b5) | (go_at_call 70; refine (writes_any _ [] v5 (.slice K3 m3 e3) s.all hr5 (hw3'.out _ bd5) hall.out hal.out).mono ?_; rintro e w6 ⟨rfl, b6⟩; have bd6 := bt bd5 b6) | (go_at_call 38; (with_reducible refine (Hm1.out _ bd6).mono ?_); rintro e w7 ⟨v7, rfl, ⟨A7, c7, rfl, _, _, _⟩, b7⟩; have bd7 := bt bd6 b7; (try simp only [List.length_nil])) | (go_at_call 38; (with_reducible refine (Hm2.out _ bd7).mono ?_); rintro e w8 ⟨v8, rfl, ⟨A8, c8, rfl, _, _, _⟩, b8⟩; have bd8 := bt bd7 b8; (try simp only [List.length_nil])) | (go_at_call 30; refine (alive_any _).mono ?_; rintro e w9 ⟨rfl, b9⟩; have bd9 := bt bd8 b9)); (try (go_wp2_with fail)); refine hK.out _ _ (by first | (first | with_reducible exact (H7.out _ bd).2.2.2.1 | with_reducible exact (H7.out _ bd5).2.2.2.1 | with_reducible exact (H7.out _ bd6).2.2.2.1 | with_reducible exact (H7.out _ bd7).2.2.2.1 | with_reducible exact (H7.out _ bd8).2.2.2.1 | with_reducible exact (H7.out _ bd9).2.2.2.1) | ((try dsimp only); (first | with_reducible exact (H7.out _ bd).2.2.2.1 | with_reducible exact (H7.out _ bd5).2.2.2.1 | with_reducible exact (H7.out _ bd6).2.2.2.1 | with_reducible exact (H7.out _ bd7).2.2.2.1 | with_reducible exact (H7.out _ bd8).2.2.2.1 | with_reducible exact (H7.out _ bd9).2.2.2.1))) (fun hHeld => ?_)
            clear hK K
            try simp only [Act.put, List.setIfInBounds_toArray, List.set_cons_zero, List.set_cons_succ]
            refine wpAnyH_take (i := 24) (oi := { dst := some 130, op := Op.pick (Operand.tmp 128) (Operand.tmp 129) (Operand.const (Value.bool false)), type := 4, pos := "law.go:98", after := #[{ on := 22, ground := Ground.data }, { on := 23, ground := Ground.data }], guard := none }) (v := ?_) rfl (by kernel_rfl) (by kernel_rfl) (by kernel_rfl) (fun _ _ _ h => h) (Or.inl ⟨by rfl, ?_⟩) (by assumption) ?_; rotate_left; · ((intro w hSw; (try dsimp only at hSw); go_simp) <;> with_reducible rfl)
            try simp only [Act.put, List.setIfInBounds_toArray, List.set_cons_zero, List.set_cons_succ]
            refine wpAnyH_take (i := 25) (oi := { dst := some 4, op := Op.assign (Operand.tmp 130), type := 4, pos := "law.go:98", after := #[{ on := 24, ground := Ground.data }, { on := 23, ground := Ground.chain }, { on := 0, ground := Ground.phase }, { on := 1, ground := Ground.phase }, { on := 2, ground := Ground.phase }, { on := 3, ground := Ground.phase }, { on := 4, ground := Ground.phase }, { on := 5, ground := Ground.phase }, { on := 6, ground := Ground.phase }, { on := 7, ground := Ground.phase }, { on := 8, ground := Ground.phase }, { on := 9, ground := Ground.phase }, { on := 10, ground := Ground.phase }, { on := 11, ground := Ground.phase }, { on := 12, ground := Ground.phase }, { on := 13, ground := Ground.phase }, { on := 14, ground := Ground.phase }, { on := 15, ground := Ground.phase }, { on := 16, ground := Ground.phase }, { on := 17, ground := Ground.phase }, { on := 18, ground := Ground.phase }, { on := 19, ground := Ground.phase }, { on := 20, ground := Ground.phase }, { on := 21, ground := Ground.phase }, { on := 22, ground := Ground.phase }, { on := 23, ground := Ground.phase }, { on := 24, ground := Ground.phase }], guard := none }) (v := ?_) rfl (by kernel_rfl) (by kernel_rfl) (by kernel_rfl) (fun _ _ _ h => h) (Or.inl ⟨by rfl, ?_⟩) (by assumption) ?_; rotate_left; · ((intro w hSw; (try dsimp only at hSw); go_simp) <;> with_reducible rfl)
            try simp only [Act.put, List.setIfInBounds_toArray, List.set_cons_zero, List.set_cons_succ]
            refine wpAnyH_done (by kernel_rfl) ?_ _
            go_wp2_with fail
            go_ret
            exact ⟨rfl, bt bel bd9⟩
set_option maxRecDepth 100000 in
theorem lifted (os : Os) (started : os.Started) (H : Type) (enc : TypeId × Value → H) :
    ReturnsInHanded {} Try.checked os 12 .any (Rows.diskPlaysSpec.pre6 enc Try.prog Try.f12 Rows.diskPlaysRow.domain false) (Rows.diskPlaysSpec.post enc Try.prog Try.f12 false true false false) := by
  refine returnsInHanded_of_change (C := Try.checked) own started (by kernel_rfl) Try.func12
    (ChangeSpec.witness6 (enc := enc) (C := Try.checked) false ⟨#[], #[.int .i64 0, .slice none 0 0], []⟩ 8 (by kernel_rfl) (by kernel_rfl) (by kernel_rfl) (by kernel_rfl)) ?_
  intro W base args ds gs before hval0 hW hcnd _
  have hval : ∀ (j : Nat) t v, Try.f12.params[j]? = some t → args[j]? = some v → Value.okWide Try.prog W .any base t v := hval0
  have hW' := hW
  obtain ⟨p, q, hA0, hV, rfl, hfz, hnd⟩ := hW
  have hA : DataW.TrodAll enc Try.prog W 0 (fun _ => true) true Try.f12.params.toList args.toList ds p := hA0
  rw [Try.params12] at hA hval
  obtain ⟨v0, vs0, d0, ds0, p0, q0, hargs, rfl, rfl, h0, r0⟩ := trodAll_cons hA
  obtain ⟨v1, vs1, d1, ds1, p1, q1, rfl, rfl, rfl, h1, r1⟩ := trodAll_cons r0
  obtain ⟨rfl, rfl, rfl⟩ := trodAll_nil r1
  obtain rfl : args = #[v0, v1] := by cases args; simp_all
  obtain ⟨rfl, rfl⟩ := trodVars_none hV
  have k0 := h0
  have lt0 := places_lt k0
  obtain ⟨n0, rfl, _, _, w0⟩ := open_int Try.underlying3 (hval 0 3 v0 rfl rfl) h0
  have k1 := h1
  have lt1 := places_lt k1
  obtain ⟨a1, len1, cap1, rfl⟩ := okWide_slice Try.underlying105 (hval 1 105 v1 rfl rfl)
  obtain ⟨fuel1, hf1⟩ := h1
  obtain ⟨l1, rfl, rr1, rc1, rm1⟩ := acts_of hf1
  clear hA0 hval0
  refine (walk n0 a1 l1 cap1 W (wfi w0).1 (wfi w0).2 rr1 rc1 rm1).mono fun e W' ⟨he, bel⟩ => ?_
  subst he
  exact ⟨_, rfl, _, _, _, [], _, [], hW', trodAll_mk1 (shut_bool Try.underlying4 _), (trodAll_cons_mk (Below.trod laidOut (by kernel_rfl) (of_decide_eq_true (by kernel_rfl)) k0 bel lt0) (trodAll_cons_mk (Below.trod laidOut (by kernel_rfl) (of_decide_eq_true (by kernel_rfl)) k1 bel lt1) trodAll_mk0)), rfl, bel.frame _, fun h => by cases h⟩

theorem proved : Rows.DiskPlaysSaid :=
  OpenClaim.holds_of_wide 12 Try.f12 rfl rfl rfl rfl rfl rfl rfl ⟨rfl, rfl, rfl, rfl, rfl⟩ rfl rfl rfl rfl rfl (by kernel_rfl) Try.func12 (by kernel_rfl)
    (of_decide_eq_true (by kernel_rfl)) (by unfold Func.isWrapper; first | (rw [if_pos (by decide +kernel)]; kernel_rfl) | (rw [if_neg (by decide +kernel)]; exact ⟨rfl, rfl⟩))
    (fun os started H enc _ => lifted os started H enc)
#print axioms proved
end Go.Proofs.Ytdkcdojcglmlbaa.DiskPlays
