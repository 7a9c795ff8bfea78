/- The walk of the law's do: Read. -/
import Derived.Test.YtdkcdojcglmlbaaDo2
import Derived.Deep.RegionHeld3
namespace Go.Proofs.Ytdkcdojcglmlbaa.Disk
open Go.RowKit
set_option linter.unusedVariables false
set_option maxRecDepth 100000
set_option maxHeartbeats 2000000 in
theorem do2 (w : World) (g : Nat) (fp : List Nat) (s : St) (x : Value) (place size nn at' : Int) (fill : UInt8) (keep : List Int) (Ak : Option Addr) (ck : Nat) (ex : List Nat) (hex : ∀ j ∈ ex, j < w.heap.size) (hD : DAt w g fp s) (hx : RAt w (ex ++ fp) x s) (hs : s.sz ≤ 900000) (hkr : RdN w fp Ak (keep.map (Value.int .i64))) (hkl : keep.length ≤ 20) (hs0 : 0 ≤ size) (hs1 : size ≤ 600) (hp : inI place) (hn : inI nn) (ha : inI at') (hkw : ∀ n ∈ keep, inI n)  :
    Calls Try.prog 66 #[.pointer (some ⟨g, 0, none⟩), x, .agg #[.int .i64 2, .int .i64 place, .int .i64 size, .int .i64 nn, .int .i64 at', .int .u8 (fill.toNat : Int), .slice Ak keep.length ck]] w (Done w g ex fp s) := by
  obtain ⟨vk, vw, vh, rfl, hko, hwo, hho⟩ := hx.form
  have hfp := hD.lt
  have hok := hD.ok
  obtain ⟨sz, hsz⟩ : ∃ n : Nat, n = size.toNat := ⟨_, rfl⟩
  have hszI : size = (sz : Int) := by omega
  subst hszI
  clear hsz
  have hsz2 : sz ≤ 600 := by omega
  have HF := Lib.hid (fun W => full_any sz (sz : Int) rfl fill (fill.toNat : Int) rfl W (by omega))
  unfold rvL
  go_enter Try.func66, Try.ntmps66
  go_wp2_with (first
    | ((with_reducible show wpList _ _ _ (⟨some 4, _, _, _, _, _⟩ :: _) _ _); refine wpList_boxT rfl _ _ rfl (rvL s.size vk vw vh s.fuse s.calls s.down) rfl ?_; intro w1 hb1 bw1 hl1)
    | ((with_reducible show wpList _ _ _ (⟨some 5, _, _, _, _, _⟩ :: _) _ _); refine wpList_boxT rfl _ _ rfl [.int .i64 2, .int .i64 place, .int .i64 (sz : Int), .int .i64 nn, .int .i64 at', .int .u8 (fill.toNat : Int), .slice Ak keep.length ck] rfl ?_; intro w2 hb2 bw2 hl2; have hA2 := (show BlkT w2 w.heap.size _ _ from (bw2.block _ hl1).trans hb1); obtain ⟨a0, a1, a2, a3, a4, a5, a6⟩ := seven_of hb2; have bww := bt bw1 bw2)
    | ((with_reducible show wpList _ _ _ (⟨some 6, _, _, _, _, _⟩ :: _) _ _); refine wpList_allocT rfl _ rfl rv0 zeroRV ?_; intro w3 hb3 bw3; have hA3 := (show BlkT w3 w.heap.size _ _ from (bw3.block _ (lt_of_block hA2)).trans hA2); have hY3 := (show BlkT w3 w1.heap.size _ _ from (bw3.block _ hl2).trans hb2); clear a0 a1 a2 a3 a4 a5 a6; obtain ⟨a0, a1, a2, a3, a4, a5, a6⟩ := seven_of hY3; have bw03 := bt bww bw3))
  refine (HF.out _).mono ?_
  rintro e w4 ⟨A4, c4, rfl, own4, b4⟩
  rw [List.length_replicate]
  have hA4 := (show BlkT w4 w.heap.size _ _ from (b4.block _ (lt_of_block hA3)).trans hA3)
  have hY4 := (show BlkT w4 w1.heap.size _ _ from (b4.block _ (lt_of_block hY3)).trans hY3)
  have hZ4 := (show BlkT w4 w2.heap.size _ _ from (b4.block _ (lt_of_block hb3)).trans hb3)
  have bw4 := bt bw03 b4
  clear a0 a1 a2 a3 a4 a5 a6
  obtain ⟨a0, a1, a2, a3, a4, a5, a6⟩ := seven_of hY4
  have hcap4 := own_cap own4
  rw [List.length_replicate] at own4
  have hf4 : ∀ j ∈ w2.heap.size :: (ex ++ fp), j < w4.heap.size := fun j hj => by
    rcases List.mem_cons.1 hj with e | e
    · subst e; exact lt_of_block hZ4
    · rcases List.mem_append.1 e with e | e
      · exact Nat.lt_of_lt_of_le (hex j e) bw4.size
      · exact Nat.lt_of_lt_of_le (hfp j e) bw4.size
  have hf3 : ∀ j ∈ w2.heap.size :: (ex ++ fp), j < w3.heap.size := fun j hj => by
    rcases List.mem_cons.1 hj with e | e
    · subst e; exact lt_of_block hb3
    · rcases List.mem_append.1 e with e | e
      · exact Nat.lt_of_lt_of_le (hex j e) bw03.size
      · exact Nat.lt_of_lt_of_le (hfp j e) bw03.size
  have hR4 : RdN w4 (w2.heap.size :: (ex ++ fp)) A4 ((List.replicate sz fill).map e8) := RdN.own2 own4 hf3
  have hB4 : Byt w4 (w2.heap.size :: (ex ++ fp)) (.slice A4 sz c4) (List.replicate sz fill) := ⟨A4, c4, by rw [List.length_replicate], by rw [List.length_replicate]; simpa using hcap4.1, hcap4.2, hR4⟩
  obtain ⟨vk3, vw3, vh3, hee, hrk, hrw, hrh⟩ := id hx
  obtain ⟨rfl, rfl, rfl⟩ : vk3 = vk ∧ vw3 = vw ∧ vh3 = vh := by simp [rvL] at hee; exact ⟨hee.1.symm, hee.2.1.symm, hee.2.2.symm⟩
  obtain ⟨A1, q1, _, rfl, _⟩ := id hrk
  obtain ⟨A2, q2, _, rfl, _⟩ := id hrw
  obtain ⟨A3, q3, _, rfl, _⟩ := id hrh
  have h26 : w.heap.size ≤ w2.heap.size := bww.size
  have hl4 := lt_of_block hA4
  have hl6 := lt_of_block hZ4
  have hne4 : w.heap.size ≠ w2.heap.size := by omega
  have hfp4 : ∀ j ∈ ex ++ fp, j < w4.heap.size := fun j hj => by
    rcases List.mem_append.1 hj with e | e
    · exact Nat.lt_of_lt_of_le (hex j e) bw4.size
    · exact Nat.lt_of_lt_of_le (hfp j e) bw4.size
  have Hrr := rread_any w4 (ex ++ fp) s place (.slice A1 s.all.length q1) (.slice A2 s.pend.length q2) (.slice A3 s.all.length q3) hfp4 (hrk.on bw4) (hrw.on bw4) rfl hok (by omega)
  have Hdr := fun w5 (b : Below w.heap.size w w5) => read_any g fp s place w5 (hD.on b) (by omega)
  obtain ⟨L, hL⟩ : ∃ L, L = (read s place).1 := ⟨_, rfl⟩
  obtain ⟨f, hf⟩ : ∃ f, f = (read s place).2 := ⟨_, rfl⟩
  have hLl : L.length ≤ 512 := by
    rw [hL]; unfold read
    split
    · simp
    · split
      · simp
      · simp only []
        exact Nat.le_of_eq (fold_len _ _ _ zero512_len (fun x hx => by
          rcases List.mem_append.1 hx with h | h
          · exact (hok.all x h).2
          · exact (hok.pend x h).2))
  have hRD : read s place = (L, f) := by rw [hL, hf]
  rw [hRD] at Hrr
  simp only [hRD] at Hdr
  have HRR := Lib.hid Hrr
  have HDR := Lib.hid Hdr
  have HSm := Lib.hid (fun A B n o c d W hn ho h1 h2 => R1.same_any A B L L n o c d W hn ho h1 h2 (by omega) (by omega))
  have hff : (f == f) = true := by simp
  clear Hrr Hdr hL hf hRD
  go_wp2_with (first
    | ((with_reducible show wpList _ _ _ (⟨some 59, _, _, _, _, _⟩ :: _) _ _); refine wpList_load_mid rfl _ _ rfl w.heap.size 0 rfl (rvL s.size (.slice A1 s.all.length q1) (.slice A2 s.pend.length q2) (.slice A3 s.all.length q3) s.fuse s.calls s.down) _ (Blk.rangeAt0 (BlkT.blk hA4)) Try.underlying108 rfl (by kernel_rfl) ?_)
    | (go_at_call 117; refine (HRR.out).mono ?_; rintro e w5 ⟨v5, rfl, ⟨B5, d5, rfl, hB51, hB52, hB53⟩, b5⟩; have bw5 := bt bw4 b5; have hY5 := (show BlkT w5 w1.heap.size _ _ from (b5.block _ (lt_of_block hY4)).trans hY4); clear a0 a1 a2 a3 a4 a5 a6; obtain ⟨a0, a1, a2, a3, a4, a5, a6⟩ := seven_of hY5)
    | (go_at_call 75; refine (HDR.out w5 bw5).mono ?_; rintro e w6 ⟨v6, rfl, hN6, b6⟩; obtain ⟨A6, c6, rfl, hN61, hN62, hN6r⟩ := hN6.rdN (fp := []) (by simp); have bw6 := bt bw5 b6; have b46 := bt b5 b6))
  have hA6 : BlkT w6 w.heap.size _ _ := (b46.block _ hl4).trans hA4
  have hZ6 : BlkT w6 w2.heap.size _ _ := (b46.block _ hl6).trans hZ4
  have rB6 := (hB53.on b6).rd
  have rA6 := hN6r.rd
  have bd : Below w6.heap.size w6 w6.drew := (Below.refl _ _).drew
  have hS0 := (show (fun w' => w'.cell? ⟨w.heap.size, 0, none⟩ = some (.int .i64 (s.size : Int)) ∧ w'.cell? ⟨w.heap.size, 1, none⟩ = some (.slice A1 s.all.length q1) ∧ w'.cell? ⟨w.heap.size, 2, none⟩ = some (.slice A2 s.pend.length q2) ∧ w'.cell? ⟨w.heap.size, 3, none⟩ = some (.slice A3 s.all.length q3) ∧ w'.cell? ⟨w.heap.size, 4, none⟩ = some (.int .i64 s.fuse) ∧ w'.cell? ⟨w.heap.size, 5, none⟩ = some (.int .i64 (s.calls : Int)) ∧ w'.cell? ⟨w.heap.size, 6, none⟩ = some (.bool s.down)) w6.drew from seven_of hA6)
  refine wp_region_held_drew (S := (fun w' => w'.cell? ⟨w.heap.size, 0, none⟩ = some (.int .i64 (s.size : Int)) ∧ w'.cell? ⟨w.heap.size, 1, none⟩ = some (.slice A1 s.all.length q1) ∧ w'.cell? ⟨w.heap.size, 2, none⟩ = some (.slice A2 s.pend.length q2) ∧ w'.cell? ⟨w.heap.size, 3, none⟩ = some (.slice A3 s.all.length q3) ∧ w'.cell? ⟨w.heap.size, 4, none⟩ = some (.int .i64 s.fuse) ∧ w'.cell? ⟨w.heap.size, 5, none⟩ = some (.int .i64 (s.calls : Int)) ∧ w'.cell? ⟨w.heap.size, 6, none⟩ = some (.bool s.down))) (by kernel_rfl) (by exact hS0) (fun hHeld => ?_)
  refine wpAnyH_take (i := 0) (oi := { dst := some 72, op := Op.load 108 (Operand.tmp 4), type := 108, pos := "law.go:63", after := #[], guard := none }) (v := ?_) rfl (by kernel_rfl) (by kernel_rfl) (by kernel_rfl) (fun _ _ _ h => h) (Or.inl ⟨by rfl, ?_⟩) (by assumption) ?_; rotate_left; · ((intro w hSw; (try dsimp only at hSw); go_simp) <;> with_reducible rfl)
  try simp only [Act.put, List.setIfInBounds_toArray, List.set_cons_zero, List.set_cons_succ]
  refine wpAnyH_take (i := 1) (oi := { dst := some 73, op := Op.move (Operand.tmp 14), type := 43, pos := "law.go:63", after := #[], guard := none }) (v := ?_) rfl (by kernel_rfl) (by kernel_rfl) (by kernel_rfl) (fun _ _ _ h => h) (Or.inl ⟨by rfl, ?_⟩) (by assumption) ?_; rotate_left; · ((intro w hSw; (try dsimp only at hSw); go_simp) <;> with_reducible rfl)
  try simp only [Act.put, List.setIfInBounds_toArray, List.set_cons_zero, List.set_cons_succ]
  refine wpAnyH_take (i := 2) (oi := { dst := some 74, op := Op.move (Operand.tmp 16), type := 43, pos := "law.go:63", after := #[], guard := none }) (v := ?_) rfl (by kernel_rfl) (by kernel_rfl) (by kernel_rfl) (fun _ _ _ h => h) (Or.inl ⟨by rfl, ?_⟩) (by assumption) ?_; rotate_left; · ((intro w hSw; (try dsimp only at hSw); go_simp) <;> with_reducible rfl)
  try simp only [Act.put, List.setIfInBounds_toArray, List.set_cons_zero, List.set_cons_succ]
  refine wpAnyH_take (i := 3) (oi := { dst := some 75, op := Op.binOp BinOp.eql 43 (Operand.tmp 73) (Operand.tmp 74) 43, type := 4, pos := "law.go:63", after := #[{ on := 1, ground := Ground.data }, { on := 2, ground := Ground.data }], guard := none }) (v := ?_) rfl (by kernel_rfl) (by kernel_rfl) (by kernel_rfl) (fun _ _ _ h => h) (Or.inl ⟨by rfl, ?_⟩) (by assumption) ?_; rotate_left; · ((intro w hSw; (try dsimp only at hSw); go_simp) <;> with_reducible rfl)
  try simp only [Act.put, List.setIfInBounds_toArray, List.set_cons_zero, List.set_cons_succ]
  refine wpAnyH_take (i := 4) (oi := { dst := some 76, op := Op.move (Operand.tmp 75), type := 4, pos := "law.go:63", after := #[{ on := 3, ground := Ground.data }], guard := none }) (v := ?_) rfl (by kernel_rfl) (by kernel_rfl) (by kernel_rfl) (fun _ _ _ h => h) (Or.inl ⟨by rfl, ?_⟩) (by assumption) ?_; rotate_left; · ((intro w hSw; (try dsimp only at hSw); go_simp) <;> with_reducible rfl)
  try simp only [Act.put, List.setIfInBounds_toArray, List.set_cons_zero, List.set_cons_succ]
  refine wpAnyH_take (i := 5) (oi := { dst := some 77, op := Op.move (Operand.tmp 15), type := 26, pos := "law.go:63", after := #[{ on := 4, ground := Ground.guard }], guard := some (4, true) }) (v := ?_) rfl (by kernel_rfl) (by kernel_rfl) (by kernel_rfl) (fun _ _ _ h => h) (Or.inl ⟨by rfl, ?_⟩) (by assumption) ?_; rotate_left; · ((intro w hSw; (try dsimp only at hSw); go_simp) <;> with_reducible rfl)
  try simp only [Act.put, List.setIfInBounds_toArray, List.set_cons_zero, List.set_cons_succ]
  refine wpAnyH_take (i := 6) (oi := { dst := some 78, op := Op.move (Operand.tmp 13), type := 26, pos := "law.go:63", after := #[{ on := 4, ground := Ground.guard }], guard := some (4, true) }) (v := ?_) rfl (by kernel_rfl) (by kernel_rfl) (by kernel_rfl) (fun _ _ _ h => h) (Or.inl ⟨by rfl, ?_⟩) (by assumption) ?_; rotate_left; · ((intro w hSw; (try dsimp only at hSw); go_simp) <;> with_reducible rfl)
  try simp only [Act.put, List.setIfInBounds_toArray, List.set_cons_zero, List.set_cons_succ]
  refine wpAnyH_ready (rs := [7]) (by kernel_rfl) (by simp) ?_
  refine AllReadyH.cons (o := { dst := some 79, op := Op.call { callee := Callee.value (Operand.func 19), args := #[Operand.tmp 77, Operand.tmp 78], argTypes := #[26, 26] }, type := 4, pos := "law.go:63", after := #[{ on := 5, ground := Ground.data }, { on := 6, ground := Ground.data }, { on := 4, ground := Ground.chain }, { on := 4, ground := Ground.guard }], guard := some (4, true) }) rfl (fun K hK => ?_) AllReadyH.nil
  go_simp; (first | ((go_at_call 19; refine (HSm.out _ _ _ _ _ _ _ rfl rfl (rA6.on bd) (rB6.on bd)).mono ?_; rintro e w8 ⟨rfl, b8⟩; rw [R1.sameB_self]; have bd8 := bt bd b8; have hA8 := (show BlkT w8 w.heap.size _ _ from (bd8.block _ (lt_of_block hA6)).trans hA6); have hZ8 := (show BlkT w8 w2.heap.size _ _ from (bd8.block _ (lt_of_block hZ6)).trans hZ6); have hS8 := (show (fun w' => w'.cell? ⟨w.heap.size, 0, none⟩ = some (.int .i64 (s.size : Int)) ∧ w'.cell? ⟨w.heap.size, 1, none⟩ = some (.slice A1 s.all.length q1) ∧ w'.cell? ⟨w.heap.size, 2, none⟩ = some (.slice A2 s.pend.length q2) ∧ w'.cell? ⟨w.heap.size, 3, none⟩ = some (.slice A3 s.all.length q3) ∧ w'.cell? ⟨w.heap.size, 4, none⟩ = some (.int .i64 s.fuse) ∧ w'.cell? ⟨w.heap.size, 5, none⟩ = some (.int .i64 (s.calls : Int)) ∧ w'.cell? ⟨w.heap.size, 6, none⟩ = some (.bool s.down)) w8 from seven_of hA8); obtain ⟨j1, j2, j3, j4⟩ := seven_set (fq := w2.heap.size :: (ex ++ fp)) hZ8 (by simp) (.int .i64 (s.size : Int)) (.slice A1 s.all.length q1) (.slice A2 s.pend.length q2) (.slice A3 s.all.length q3) (.int .i64 s.fuse) (.int .i64 (s.calls : Int)) (.bool s.down) _ rfl; obtain ⟨i1, i2, i3, i4⟩ := seven_set (fq := [w.heap.size, w2.heap.size]) hZ8 (by simp) (.int .i64 (s.size : Int)) (.slice A1 s.all.length q1) (.slice A2 s.pend.length q2) (.slice A3 s.all.length q3) (.int .i64 s.fuse) (.int .i64 (s.calls : Int)) (.bool s.down) _ rfl; have hS9 := (show (fun w' => w'.cell? ⟨w.heap.size, 0, none⟩ = some (.int .i64 (s.size : Int)) ∧ w'.cell? ⟨w.heap.size, 1, none⟩ = some (.slice A1 s.all.length q1) ∧ w'.cell? ⟨w.heap.size, 2, none⟩ = some (.slice A2 s.pend.length q2) ∧ w'.cell? ⟨w.heap.size, 3, none⟩ = some (.slice A3 s.all.length q3) ∧ w'.cell? ⟨w.heap.size, 4, none⟩ = some (.int .i64 s.fuse) ∧ w'.cell? ⟨w.heap.size, 5, none⟩ = some (.int .i64 (s.calls : Int)) ∧ w'.cell? ⟨w.heap.size, 6, none⟩ = some (.bool s.down)) (((((((w8.setCell ⟨w2.heap.size, 0, none⟩ (.int .i64 (s.size : Int))).setCell ⟨w2.heap.size, 1, none⟩ (.slice A1 s.all.length q1)).setCell ⟨w2.heap.size, 2, none⟩ (.slice A2 s.pend.length q2)).setCell ⟨w2.heap.size, 3, none⟩ (.slice A3 s.all.length q3)).setCell ⟨w2.heap.size, 4, none⟩ (.int .i64 s.fuse)).setCell ⟨w2.heap.size, 5, none⟩ (.int .i64 (s.calls : Int))).setCell ⟨w2.heap.size, 6, none⟩ (.bool s.down)) from seven_of (j2 _ _ _ hne4 hA8)); have Fin := Lib.hid (And.intro (show BlkT (((((((w8.setCell ⟨w2.heap.size, 0, none⟩ (.int .i64 (s.size : Int))).setCell ⟨w2.heap.size, 1, none⟩ (.slice A1 s.all.length q1)).setCell ⟨w2.heap.size, 2, none⟩ (.slice A2 s.pend.length q2)).setCell ⟨w2.heap.size, 3, none⟩ (.slice A3 s.all.length q3)).setCell ⟨w2.heap.size, 4, none⟩ (.int .i64 s.fuse)).setCell ⟨w2.heap.size, 5, none⟩ (.int .i64 (s.calls : Int))).setCell ⟨w2.heap.size, 6, none⟩ (.bool s.down)) w2.heap.size 108 _ from j1) (And.intro j3 i3)); obtain ⟨d0, d1, d2, d3, d4, d5', d6, df⟩ := sevenT hZ8)) | skip); (try (go_wp2_with fail)); refine hK.out _ _ (by first | (first | with_reducible exact hS0 | with_reducible exact hS8 | with_reducible exact hS9) | ((try dsimp only); (first | with_reducible exact hS0 | with_reducible exact hS8 | with_reducible exact hS9))) (fun hHeld => ?_)
  clear hK K
  try simp only [Act.put, List.setIfInBounds_toArray, List.set_cons_zero, List.set_cons_succ]
  refine wpAnyH_take (i := 8) (oi := { dst := some 80, op := Op.pick (Operand.tmp 76) (Operand.tmp 79) (Operand.const (Value.bool false)), type := 4, pos := "law.go:63", after := #[{ on := 4, ground := Ground.data }, { on := 7, ground := Ground.data }, { on := 9, ground := Ground.gcOnly Go.Departure.lateStores }], guard := none }) (v := ?_) rfl (by kernel_rfl) (by kernel_rfl) (by kernel_rfl) (fun _ _ _ h => h) (Or.inl ⟨by rfl, ?_⟩) (by assumption) ?_; rotate_left; · ((intro w hSw; (try dsimp only at hSw); go_simp) <;> with_reducible rfl)
  try simp only [Act.put, List.setIfInBounds_toArray, List.set_cons_zero, List.set_cons_succ]
  refine wpAnyH_ready (rs := [9]) (by kernel_rfl) (by simp) ?_
  refine AllReadyH.cons (o := { dst := none, op := Op.store 108 (Operand.tmp 6) (Operand.tmp 72), type := 0, pos := "law.go:63", after := #[{ on := 0, ground := Ground.data }, { on := 7, ground := Ground.chain }, { on := 0, ground := Ground.phase }, { on := 1, ground := Ground.textOnly Go.Departure.lateStores }, { on := 2, ground := Ground.textOnly Go.Departure.lateStores }, { on := 3, ground := Ground.textOnly Go.Departure.lateStores }, { on := 4, ground := Ground.textOnly Go.Departure.lateStores }, { on := 5, ground := Ground.textOnly Go.Departure.lateStores }, { on := 6, ground := Ground.textOnly Go.Departure.lateStores }, { on := 7, ground := Ground.textOnly Go.Departure.lateStoresUnsure }, { on := 8, ground := Ground.textOnly Go.Departure.lateStores }], guard := none }) rfl (fun K hK => ?_) AllReadyH.nil
  go_simp; (first | ((go_at_call 19; refine (HSm.out _ _ _ _ _ _ _ rfl rfl (rA6.on bd) (rB6.on bd)).mono ?_; rintro e w8 ⟨rfl, b8⟩; rw [R1.sameB_self]; have bd8 := bt bd b8; have hA8 := (show BlkT w8 w.heap.size _ _ from (bd8.block _ (lt_of_block hA6)).trans hA6); have hZ8 := (show BlkT w8 w2.heap.size _ _ from (bd8.block _ (lt_of_block hZ6)).trans hZ6); have hS8 := (show (fun w' => w'.cell? ⟨w.heap.size, 0, none⟩ = some (.int .i64 (s.size : Int)) ∧ w'.cell? ⟨w.heap.size, 1, none⟩ = some (.slice A1 s.all.length q1) ∧ w'.cell? ⟨w.heap.size, 2, none⟩ = some (.slice A2 s.pend.length q2) ∧ w'.cell? ⟨w.heap.size, 3, none⟩ = some (.slice A3 s.all.length q3) ∧ w'.cell? ⟨w.heap.size, 4, none⟩ = some (.int .i64 s.fuse) ∧ w'.cell? ⟨w.heap.size, 5, none⟩ = some (.int .i64 (s.calls : Int)) ∧ w'.cell? ⟨w.heap.size, 6, none⟩ = some (.bool s.down)) w8 from seven_of hA8); obtain ⟨j1, j2, j3, j4⟩ := seven_set (fq := w2.heap.size :: (ex ++ fp)) hZ8 (by simp) (.int .i64 (s.size : Int)) (.slice A1 s.all.length q1) (.slice A2 s.pend.length q2) (.slice A3 s.all.length q3) (.int .i64 s.fuse) (.int .i64 (s.calls : Int)) (.bool s.down) _ rfl; obtain ⟨i1, i2, i3, i4⟩ := seven_set (fq := [w.heap.size, w2.heap.size]) hZ8 (by simp) (.int .i64 (s.size : Int)) (.slice A1 s.all.length q1) (.slice A2 s.pend.length q2) (.slice A3 s.all.length q3) (.int .i64 s.fuse) (.int .i64 (s.calls : Int)) (.bool s.down) _ rfl; have hS9 := (show (fun w' => w'.cell? ⟨w.heap.size, 0, none⟩ = some (.int .i64 (s.size : Int)) ∧ w'.cell? ⟨w.heap.size, 1, none⟩ = some (.slice A1 s.all.length q1) ∧ w'.cell? ⟨w.heap.size, 2, none⟩ = some (.slice A2 s.pend.length q2) ∧ w'.cell? ⟨w.heap.size, 3, none⟩ = some (.slice A3 s.all.length q3) ∧ w'.cell? ⟨w.heap.size, 4, none⟩ = some (.int .i64 s.fuse) ∧ w'.cell? ⟨w.heap.size, 5, none⟩ = some (.int .i64 (s.calls : Int)) ∧ w'.cell? ⟨w.heap.size, 6, none⟩ = some (.bool s.down)) (((((((w8.setCell ⟨w2.heap.size, 0, none⟩ (.int .i64 (s.size : Int))).setCell ⟨w2.heap.size, 1, none⟩ (.slice A1 s.all.length q1)).setCell ⟨w2.heap.size, 2, none⟩ (.slice A2 s.pend.length q2)).setCell ⟨w2.heap.size, 3, none⟩ (.slice A3 s.all.length q3)).setCell ⟨w2.heap.size, 4, none⟩ (.int .i64 s.fuse)).setCell ⟨w2.heap.size, 5, none⟩ (.int .i64 (s.calls : Int))).setCell ⟨w2.heap.size, 6, none⟩ (.bool s.down)) from seven_of (j2 _ _ _ hne4 hA8)); have Fin := Lib.hid (And.intro (show BlkT (((((((w8.setCell ⟨w2.heap.size, 0, none⟩ (.int .i64 (s.size : Int))).setCell ⟨w2.heap.size, 1, none⟩ (.slice A1 s.all.length q1)).setCell ⟨w2.heap.size, 2, none⟩ (.slice A2 s.pend.length q2)).setCell ⟨w2.heap.size, 3, none⟩ (.slice A3 s.all.length q3)).setCell ⟨w2.heap.size, 4, none⟩ (.int .i64 s.fuse)).setCell ⟨w2.heap.size, 5, none⟩ (.int .i64 (s.calls : Int))).setCell ⟨w2.heap.size, 6, none⟩ (.bool s.down)) w2.heap.size 108 _ from j1) (And.intro j3 i3)); obtain ⟨d0, d1, d2, d3, d4, d5', d6, df⟩ := sevenT hZ8)) | skip); (try (go_wp2_with fail)); refine hK.out _ _ (by first | (first | with_reducible exact hS0 | with_reducible exact hS8 | with_reducible exact hS9) | ((try dsimp only); (first | with_reducible exact hS0 | with_reducible exact hS8 | with_reducible exact hS9))) (fun hHeld => ?_)
  clear hK K
  try simp only [Act.put, List.setIfInBounds_toArray, List.set_cons_zero, List.set_cons_succ]
  refine wpAnyH_take (i := 10) (oi := { dst := some 7, op := Op.assign (Operand.tmp 80), type := 4, pos := "law.go:63", after := #[{ on := 8, ground := Ground.data }, { on := 9, ground := Ground.chain }, { on := 0, ground := Ground.phase }, { on := 1, ground := Ground.phase }, { on := 2, ground := Ground.phase }, { on := 3, ground := Ground.phase }, { on := 4, ground := Ground.phase }, { on := 5, ground := Ground.phase }, { on := 6, ground := Ground.phase }, { on := 7, ground := Ground.phase }, { on := 8, ground := Ground.phase }, { on := 9, ground := Ground.phase }], guard := none }) (v := ?_) rfl (by kernel_rfl) (by kernel_rfl) (by kernel_rfl) (fun _ _ _ h => h) (Or.inl ⟨by rfl, ?_⟩) (by assumption) ?_; rotate_left; · ((intro w hSw; (try dsimp only at hSw); go_simp) <;> with_reducible rfl)
  try simp only [Act.put, List.setIfInBounds_toArray, List.set_cons_zero, List.set_cons_succ]
  refine wpAnyH_done (by kernel_rfl) ?_ _
  all_goals
    obtain ⟨we, hwe⟩ : ∃ we, we = (((((((w8.setCell ⟨w2.heap.size, 0, none⟩ (.int .i64 (s.size : Int))).setCell ⟨w2.heap.size, 1, none⟩ (.slice A1 s.all.length q1)).setCell ⟨w2.heap.size, 2, none⟩ (.slice A2 s.pend.length q2)).setCell ⟨w2.heap.size, 3, none⟩ (.slice A3 s.all.length q3)).setCell ⟨w2.heap.size, 4, none⟩ (.int .i64 s.fuse)).setCell ⟨w2.heap.size, 5, none⟩ (.int .i64 (s.calls : Int))).setCell ⟨w2.heap.size, 6, none⟩ (.bool s.down)) := ⟨_, rfl⟩
    rw [← hwe] at Fin ⊢
    obtain ⟨F1, k9, k9'⟩ := Fin.out
    have b48 := bt b46 bd8
    obtain ⟨G1, G2, G3⟩ := done_C bw4 (Keep.of_below b48 fp) (Fresh.refl _ _) ((hD.on bw4).on b48) (Below.refl _ _) k9' (Nat.le_refl _) h26 hl4 hl6 hfp
    have rows := fun v l (h : WRow w (ex ++ fp) v l) => ((((h.cons h26).on (bt bw4 b48)).keep k9 (Fresh.refl _ _)).less (fp := ex ++ fp) (fun j hj => List.mem_cons_of_mem _ hj))
    have GX : RAt we (ex ++ fp) (.agg (rvL s.size (.slice A1 s.all.length q1) (.slice A2 s.pend.length q2) (.slice A3 s.all.length q3) s.fuse s.calls s.down).toArray) s := ⟨(.slice A1 s.all.length q1), (.slice A2 s.pend.length q2), (.slice A3 s.all.length q3), rfl, rows _ _ hrk, rows _ _ hrw, rows _ _ hrh⟩
    obtain ⟨z0, z1, z2, z3, z4, z5, z6, _⟩ := sevenT F1
    clear hwe Fin hS9 hS8 j1 j2 j3 j4 i1 i2 i3 i4 d0 d1 d2 d3 d4 d5' d6 df
    go_wp2
    refine bodyPost_ret (v := .tuple #[.agg #[.int .i64 (s.size : Int), (.slice A1 s.all.length q1), (.slice A2 s.pend.length q2), (.slice A3 s.all.length q3), .int .i64 s.fuse, .int .i64 (s.calls : Int), .bool s.down], .bool true]) (by simp [results, Try.results66, go_sem, z0, z1, z2, z3, z4, z5, z6]) rfl ?_
    exact ⟨_, rfl, fp, G1, GX, G2, G3⟩
end Go.Proofs.Ytdkcdojcglmlbaa.Disk
