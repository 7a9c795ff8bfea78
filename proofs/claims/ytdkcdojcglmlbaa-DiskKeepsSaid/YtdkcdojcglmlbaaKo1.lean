/- The walk of the law's do where the reference's disk is of another state: what it leaves of the disk. -/
import Derived.Test.YtdkcdojcglmlbaaDo4
namespace Go.Proofs.Ytdkcdojcglmlbaa.Disk
open Go.RowKit
set_option linter.unusedVariables false
set_option maxRecDepth 100000
/-- the disk has done an act; what is told is told -/
def Gone (w : World) (g : Nat) (fp : List Nat) (s' : St) (e : Ending) (w' : World) : Prop := ∃ x' b, e = .returned (.tuple #[x', .bool b]) ∧ ∃ fp', DAt w' g fp' s' ∧ Keep fp w w' ∧ Fresh w fp fp'
/-- what stands behind both calls, the result stored last -/
theorem gone_A {w w7 w8 We : World} {g t6 : Nat} {fp fp8 : List Nat} {s' : St} (bw7 : Below w.heap.size w w7) (h6 : w.heap.size ≤ t6) (h6' : t6 < w7.heap.size) (hfp : ∀ j ∈ fp, j < w.heap.size)
    (k8 : Keep fp w7 w8) (f8 : Fresh w7 fp fp8) (hD8 : DAt w8 g fp8 s') (k9 : Keep [t6] w8 We) : DAt We g fp8 s' ∧ Keep fp w We ∧ Fresh w fp fp8 := by
  have hn : t6 ∉ fp8 := f8.out h6' (fun e => by have := hfp t6 e; omega)
  have kk := (Keep.of_below bw7 fp).trans k8 (Fresh.refl _ _)
  refine ⟨hD8.keep k9 (fun j hj e => by rw [List.mem_singleton] at e; subst e; exact hn hj), ?_, ?_⟩
  · exact ⟨k9.1.trans kk.1, k9.2.1.trans kk.2.1, k9.2.2.1.trans kk.2.2.1, Nat.le_trans kk.size k9.size, fun j hj hn2 => (k9.block (Nat.lt_of_lt_of_le hj kk.size) (fun e => by rw [List.mem_singleton] at e; omega)).trans (kk.block hj hn2)⟩
  · intro j hj
    rcases f8 j hj with e | e
    · exact .inl e
    · exact .inr (Nat.le_trans bw7.size e)
set_option maxHeartbeats 2000000 in
theorem go0 (w : World) (g : Nat) (fp : List Nat) (s t : St) (x : Value) (place size nn at' : Int) (fill : UInt8) (keep : List Int) (Ak : Option Addr) (ck : Nat) (ex : List Nat) (hex : ∀ j ∈ ex, j < w.heap.size) (hD : DAt w g fp s) (hx : RAt w (ex ++ fp) x t) (hokt : ok t) (ht : t.sz ≤ 900000) (hs : s.sz ≤ 900000) (hkr : RdN w fp Ak (keep.map (Value.int .i64))) (hkl : keep.length ≤ 20) (hs0 : 0 ≤ size) (hs1 : size ≤ 600) (hp : inI place) (hn : inI nn) (ha : inI at') (hkw : ∀ n ∈ keep, inI n)  :
    Calls Try.prog 66 #[.pointer (some ⟨g, 0, none⟩), x, .agg #[.int .i64 0, .int .i64 place, .int .i64 size, .int .i64 nn, .int .i64 at', .int .u8 (fill.toNat : Int), .slice Ak keep.length ck]] w (Gone w g fp (write s place (List.replicate size.toNat fill)).1) := by
  obtain ⟨vk, vw, vh, rfl, hko, hwo, hho⟩ := hx.form
  have hfp := hD.lt
  have hok := hD.ok
  obtain ⟨sz, hsz⟩ : ∃ n : Nat, n = size.toNat := ⟨_, rfl⟩
  have hszI : size = (sz : Int) := by omega
  subst hszI
  clear hsz
  have hsz2 : sz ≤ 600 := by omega
  have HF := Lib.hid (fun W => full_any sz (sz : Int) rfl fill (fill.toNat : Int) rfl W (by omega))
  unfold rvL
  go_enter Try.func66, Try.ntmps66
  go_wp2_with (first
    | ((with_reducible show wpList _ _ _ (⟨some 4, _, _, _, _, _⟩ :: _) _ _); refine wpList_boxT rfl _ _ rfl (rvL t.size vk vw vh t.fuse t.calls t.down) rfl ?_; intro w1 hb1 bw1 hl1)
    | ((with_reducible show wpList _ _ _ (⟨some 5, _, _, _, _, _⟩ :: _) _ _); refine wpList_boxT rfl _ _ rfl [.int .i64 0, .int .i64 place, .int .i64 (sz : Int), .int .i64 nn, .int .i64 at', .int .u8 (fill.toNat : Int), .slice Ak keep.length ck] rfl ?_; intro w2 hb2 bw2 hl2; have hA2 := (show BlkT w2 w.heap.size _ _ from (bw2.block _ hl1).trans hb1); obtain ⟨a0, a1, a2, a3, a4, a5, a6⟩ := seven_of hb2; have bww := bt bw1 bw2)
    | ((with_reducible show wpList _ _ _ (⟨some 6, _, _, _, _, _⟩ :: _) _ _); refine wpList_allocT rfl _ rfl rv0 zeroRV ?_; intro w3 hb3 bw3; have hA3 := (show BlkT w3 w.heap.size _ _ from (bw3.block _ (lt_of_block hA2)).trans hA2); have hY3 := (show BlkT w3 w1.heap.size _ _ from (bw3.block _ hl2).trans hb2); clear a0 a1 a2 a3 a4 a5 a6; obtain ⟨a0, a1, a2, a3, a4, a5, a6⟩ := seven_of hY3; have bw03 := bt bww bw3))
  refine (HF.out _).mono ?_
  rintro e w4 ⟨A4, c4, rfl, own4, b4⟩
  rw [List.length_replicate]
  have hA4 := (show BlkT w4 w.heap.size _ _ from (b4.block _ (lt_of_block hA3)).trans hA3)
  have hY4 := (show BlkT w4 w1.heap.size _ _ from (b4.block _ (lt_of_block hY3)).trans hY3)
  have hZ4 := (show BlkT w4 w2.heap.size _ _ from (b4.block _ (lt_of_block hb3)).trans hb3)
  have bw4 := bt bw03 b4
  clear a0 a1 a2 a3 a4 a5 a6
  obtain ⟨a0, a1, a2, a3, a4, a5, a6⟩ := seven_of hY4
  have hcap4 := own_cap own4
  rw [List.length_replicate] at own4
  have hf4 : ∀ j ∈ w2.heap.size :: (ex ++ fp), j < w4.heap.size := fun j hj => by
    rcases List.mem_cons.1 hj with e | e
    · subst e; exact lt_of_block hZ4
    · rcases List.mem_append.1 e with e | e
      · exact Nat.lt_of_lt_of_le (hex j e) bw4.size
      · exact Nat.lt_of_lt_of_le (hfp j e) bw4.size
  have hf3 : ∀ j ∈ w2.heap.size :: (ex ++ fp), j < w3.heap.size := fun j hj => by
    rcases List.mem_cons.1 hj with e | e
    · subst e; exact lt_of_block hb3
    · rcases List.mem_append.1 e with e | e
      · exact Nat.lt_of_lt_of_le (hex j e) bw03.size
      · exact Nat.lt_of_lt_of_le (hfp j e) bw03.size
  have hR4 : RdN w4 (w2.heap.size :: (ex ++ fp)) A4 ((List.replicate sz fill).map e8) := RdN.own2 own4 hf3
  have hB4 : Byt w4 (w2.heap.size :: (ex ++ fp)) (.slice A4 sz c4) (List.replicate sz fill) := ⟨A4, c4, by rw [List.length_replicate], by rw [List.length_replicate]; simpa using hcap4.1, hcap4.2, hR4⟩
  obtain ⟨q, hq⟩ : ∃ q, q = write t place (List.replicate sz fill) := ⟨_, rfl⟩
  obtain ⟨r, hr⟩ : ∃ r, r = write s place (List.replicate sz fill) := ⟨_, rfl⟩
  have Href := rwrite_any w4 (w2.heap.size :: (ex ++ fp)) t place _ _ _ hf4 ((hx.cons bww.size).on bw4) hB4 (by simp; omega) hokt (by omega)
  have HdW := fun W (hDW : DAt W g fp s) (hRW : RdN W fp A4 ((List.replicate sz fill).map e8)) => write_any g fp s place A4 sz c4 (List.replicate sz fill) W hDW (by omega) (by simp) hRW
  rw [← hq] at Href
  simp only [← hr] at HdW
  have HRef := Lib.hid Href
  have HDW := Lib.hid HdW
  have Hr := Lib.hid hr
  clear hr hq Href HdW
  go_wp2_with (first
    | ((with_reducible show wpList _ _ _ (⟨some 29, _, _, _, _, _⟩ :: _) _ _); refine wpList_load_mid rfl _ _ rfl w.heap.size 0 rfl (rvL t.size vk vw vh t.fuse t.calls t.down) _ (Blk.rangeAt0 (BlkT.blk hA4)) Try.underlying108 rfl (by kernel_rfl) ?_)
    | (go_at_call 115; refine (HRef.out).mono ?_; rintro e w5 ⟨x5, rfl, hx5, b5⟩; obtain ⟨K1, m1, e1, K2, m2, e2, K3, m3, e3, rfl⟩ := hx5.form2; have hY5 := (show BlkT w5 w1.heap.size _ _ from (b5.block _ (lt_of_block hY4)).trans hY4); have hZ5 := (show BlkT w5 w2.heap.size _ _ from (b5.block _ (lt_of_block hZ4)).trans hZ4); have bw5 := bt bw4 b5; have own5 := own_on own4 b5)
    | ((with_reducible show wpList _ _ _ (⟨some 9, _, _, _, _, _⟩ :: _) _ _); refine wpList_allocT rfl _ rfl rv0 zeroRV ?_; intro w6 hb6 bw6; have hY6 := (show BlkT w6 w1.heap.size _ _ from (bw6.block _ (lt_of_block hY5)).trans hY5); have hZ6 := (show BlkT w6 w2.heap.size _ _ from (bw6.block _ (lt_of_block hZ5)).trans hZ5); have bw06 := bt bw5 bw6; have own6 := own_on own5 bw6; have hx6 := hx5.on bw6)
    | ((with_reducible show wpList _ _ _ (⟨none, .store 108 (.tmp 9) _, _, _, _, _⟩ :: _) _ _); refine wpList_storeT rfl _ _ _ rfl rfl (ys := (rvL q.1.size (.slice K1 m1 e1) (.slice K2 m2 e2) (.slice K3 m3 e3) q.1.fuse q.1.calls q.1.down)) rfl hb6 (by simp [rv0, rvL]) (rvL_one rfl rfl rfl) (by kernel_rfl) ?_; intro w7 hb7 hg7))
  have b57 : Below w5.heap.size w5 w7 := below_row bw6 hg7 (Nat.le_refl _) bw6.size
  have bw7 : Below w.heap.size w w7 := bt bw5 b57
  have hY7 : BlkT w7 w1.heap.size _ _ := (b57.block _ (lt_of_block hY5)).trans hY5
  have hZ7 : BlkT w7 w2.heap.size _ _ := (b57.block _ (lt_of_block hZ5)).trans hZ5
  have own7 := own_on own5 b57
  have hx7 := hx5.on b57
  have hD7 := hD.on bw7
  have h26 : w.heap.size ≤ w2.heap.size := bww.size
  have h26' : w2.heap.size < w7.heap.size := lt_of_block hZ7
  have h23 : w2.heap.size < w3.heap.size := lt_of_block hb3
  have hl9 := lt_of_block hb7
  have hl1' := lt_of_block hY7
  have hn9 : w5.heap.size ∉ fp := fun e => by have := hfp _ e; have := bw5.size; omega
  have hn1 : w1.heap.size ∉ fp := fun e => by have := hfp _ e; omega
  have hn6 : w2.heap.size ∉ fp := fun e => by have := hfp _ e; omega
  have hne9 : w5.heap.size ≠ w2.heap.size := by have := lt_of_block hZ5; omega
  have hne1 : w1.heap.size ≠ w2.heap.size := by omega
  have kA : Keep [w2.heap.size] w7 w7.drew := ⟨rfl, rfl, rfl, Nat.le_refl _, fun _ _ _ => rfl⟩
  obtain ⟨f1, f2, f3, f4⟩ := seven_set (fq := [w2.heap.size]) (show BlkT w7.drew w2.heap.size 108 _ from hZ7) (by simp) (.int .i64 (q.1.size : Int)) (.slice K1 m1 e1) (.slice K2 m2 e2) (.slice K3 m3 e3) (.int .i64 q.1.fuse) (.int .i64 (q.1.calls : Int)) (.bool q.1.down) _ rfl
  have kB := (show Keep [w2.heap.size] w7 (((((((w7.drew.setCell ⟨w2.heap.size, 0, none⟩ (.int .i64 (q.1.size : Int))).setCell ⟨w2.heap.size, 1, none⟩ (.slice K1 m1 e1)).setCell ⟨w2.heap.size, 2, none⟩ (.slice K2 m2 e2)).setCell ⟨w2.heap.size, 3, none⟩ (.slice K3 m3 e3)).setCell ⟨w2.heap.size, 4, none⟩ (.int .i64 q.1.fuse)).setCell ⟨w2.heap.size, 5, none⟩ (.int .i64 (q.1.calls : Int))).setCell ⟨w2.heap.size, 6, none⟩ (.bool q.1.down)) from f3)
  have hDk := Lib.hid (fun W (k : Keep [w2.heap.size] w7 W) => hD7.keep k (fun j hj e => by rw [List.mem_singleton] at e; subst e; exact hn6 hj))
  have hRk := Lib.hid (fun W (k : Keep [w2.heap.size] w7 W) => RdN.own2 (own_keep own7 k (fun q hq e => by have := own_block own7 hq; rw [List.mem_singleton] at e; omega)) (fun j hj => Nat.lt_of_lt_of_le (hfp j hj) bw03.size))
  have hcall := Lib.hid (fun W (k : Keep [w2.heap.size] w7 W) => HDW.out W (hDk.out W k) (hRk.out W k))
  have hS0 := (show (fun w' => (w'.cell? ⟨w5.heap.size, 0, none⟩ = some (.int .i64 (q.1.size : Int)) ∧ w'.cell? ⟨w5.heap.size, 1, none⟩ = some (.slice K1 m1 e1) ∧ w'.cell? ⟨w5.heap.size, 2, none⟩ = some (.slice K2 m2 e2) ∧ w'.cell? ⟨w5.heap.size, 3, none⟩ = some (.slice K3 m3 e3) ∧ w'.cell? ⟨w5.heap.size, 4, none⟩ = some (.int .i64 q.1.fuse) ∧ w'.cell? ⟨w5.heap.size, 5, none⟩ = some (.int .i64 (q.1.calls : Int)) ∧ w'.cell? ⟨w5.heap.size, 6, none⟩ = some (.bool q.1.down)) ∧ w'.cell? ⟨w1.heap.size, 1, none⟩ = some (.int .i64 place)) w7.drew from ⟨seven_of hb7, (seven_of hY7).2.1⟩)
  clear a0 a1 a2 a3 a4 a5 a6
  refine wp_region_held_drew (S := (fun w' => (w'.cell? ⟨w5.heap.size, 0, none⟩ = some (.int .i64 (q.1.size : Int)) ∧ w'.cell? ⟨w5.heap.size, 1, none⟩ = some (.slice K1 m1 e1) ∧ w'.cell? ⟨w5.heap.size, 2, none⟩ = some (.slice K2 m2 e2) ∧ w'.cell? ⟨w5.heap.size, 3, none⟩ = some (.slice K3 m3 e3) ∧ w'.cell? ⟨w5.heap.size, 4, none⟩ = some (.int .i64 q.1.fuse) ∧ w'.cell? ⟨w5.heap.size, 5, none⟩ = some (.int .i64 (q.1.calls : Int)) ∧ w'.cell? ⟨w5.heap.size, 6, none⟩ = some (.bool q.1.down)) ∧ w'.cell? ⟨w1.heap.size, 1, none⟩ = some (.int .i64 place))) (by kernel_rfl) (by exact hS0) (fun hHeld => ?_)
  refine wpAnyH_take (i := 0) (oi := { dst := some 36, op := Op.load 108 (Operand.tmp 9), type := 108, pos := "law.go:56", after := #[], guard := none }) (v := ?_) rfl (by kernel_rfl) (by kernel_rfl) (by kernel_rfl) (fun _ _ _ h => h) (Or.inl ⟨by rfl, ?_⟩) (by assumption) ?_; rotate_left; · ((intro w hSw; (try dsimp only at hSw); go_simp) <;> with_reducible rfl)
  try simp only [Act.put, List.setIfInBounds_toArray, List.set_cons_zero, List.set_cons_succ]
  refine wpAnyH_take (i := 1) (oi := { dst := some 37, op := Op.move (Operand.tmp 0), type := 59, pos := "law.go:56", after := #[], guard := none }) (v := ?_) rfl (by kernel_rfl) (by kernel_rfl) (by kernel_rfl) (fun _ _ _ h => h) (Or.inl ⟨by rfl, ?_⟩) (by assumption) ?_; rotate_left; · ((intro w hSw; (try dsimp only at hSw); go_simp) <;> with_reducible rfl)
  try simp only [Act.put, List.setIfInBounds_toArray, List.set_cons_zero, List.set_cons_succ]
  refine wpAnyH_take (i := 2) (oi := { dst := some 38, op := Op.fieldAddr 113 (Operand.tmp 5) 1, type := 0, pos := "law.go:56", after := #[], guard := none }) (v := ?_) rfl (by kernel_rfl) (by kernel_rfl) (by kernel_rfl) (fun _ _ _ h => h) (Or.inl ⟨by rfl, ?_⟩) (by assumption) ?_; rotate_left; · ((intro w hSw; (try dsimp only at hSw); go_simp) <;> with_reducible rfl)
  try simp only [Act.put, List.setIfInBounds_toArray, List.set_cons_zero, List.set_cons_succ]
  refine wpAnyH_take (i := 3) (oi := { dst := some 39, op := Op.load 3 (Operand.tmp 38), type := 3, pos := "law.go:56", after := #[{ on := 2, ground := Ground.data }], guard := none }) (v := ?_) rfl (by kernel_rfl) (by kernel_rfl) (by kernel_rfl) (fun _ _ _ h => h) (Or.inl ⟨by rfl, ?_⟩) (by assumption) ?_; rotate_left; · ((intro w hSw; (try dsimp only at hSw); go_simp) <;> with_reducible rfl)
  try simp only [Act.put, List.setIfInBounds_toArray, List.set_cons_zero, List.set_cons_succ]
  refine wpAnyH_take (i := 4) (oi := { dst := some 40, op := Op.move (Operand.tmp 8), type := 26, pos := "law.go:56", after := #[], guard := none }) (v := ?_) rfl (by kernel_rfl) (by kernel_rfl) (by kernel_rfl) (fun _ _ _ h => h) (Or.inl ⟨by rfl, ?_⟩) (by assumption) ?_; rotate_left; · ((intro w hSw; (try dsimp only at hSw); go_simp) <;> with_reducible rfl)
  try simp only [Act.put, List.setIfInBounds_toArray, List.set_cons_zero, List.set_cons_succ]
  refine wpAnyH_take (i := 6) (oi := { dst := some 42, op := Op.move (Operand.tmp 10), type := 43, pos := "law.go:56", after := #[{ on := 8, ground := Ground.gcOnly Go.Departure.lateStores }], guard := none }) (v := ?_) rfl (by kernel_rfl) (by kernel_rfl) (by kernel_rfl) (fun _ _ _ h => h) (Or.inl ⟨by rfl, ?_⟩) (by assumption) ?_; rotate_left; · ((intro w hSw; (try dsimp only at hSw); go_simp) <;> with_reducible rfl)
  try simp only [Act.put, List.setIfInBounds_toArray, List.set_cons_zero, List.set_cons_succ]
  refine wpAnyH_ready (rs := [5]) (by kernel_rfl) (by simp) ?_
  refine AllReadyH.cons (o := { dst := some 41, op := Op.call { callee := Callee.value (Operand.func 34), args := #[Operand.tmp 37, Operand.tmp 39, Operand.tmp 40], argTypes := #[59, 3, 26] }, type := 43, pos := "law.go:56", after := #[{ on := 1, ground := Ground.data }, { on := 3, ground := Ground.data }, { on := 4, ground := Ground.data }], guard := none }) rfl (fun K hK => ?_) AllReadyH.nil
  go_simp; (first | ((go_at_call 34; refine (hcall.out _ kA).mono ?_; rintro e w8 ⟨rfl, fp8, hD8, k8, f8⟩; have hT8 := (show BlkT w8 w2.heap.size _ _ from (k8.block (show w2.heap.size < w7.drew.heap.size from h26') hn6).trans hZ7); have hb8 := (show BlkT w8 w5.heap.size _ _ from (k8.block (show w5.heap.size < w7.drew.heap.size from hl9) hn9).trans hb7); have hY8 := (show BlkT w8 w1.heap.size _ _ from (k8.block (show w1.heap.size < w7.drew.heap.size from hl1') hn1).trans hY7); have hS8 := (show (fun w' => (w'.cell? ⟨w5.heap.size, 0, none⟩ = some (.int .i64 (q.1.size : Int)) ∧ w'.cell? ⟨w5.heap.size, 1, none⟩ = some (.slice K1 m1 e1) ∧ w'.cell? ⟨w5.heap.size, 2, none⟩ = some (.slice K2 m2 e2) ∧ w'.cell? ⟨w5.heap.size, 3, none⟩ = some (.slice K3 m3 e3) ∧ w'.cell? ⟨w5.heap.size, 4, none⟩ = some (.int .i64 q.1.fuse) ∧ w'.cell? ⟨w5.heap.size, 5, none⟩ = some (.int .i64 (q.1.calls : Int)) ∧ w'.cell? ⟨w5.heap.size, 6, none⟩ = some (.bool q.1.down)) ∧ w'.cell? ⟨w1.heap.size, 1, none⟩ = some (.int .i64 place)) w8 from ⟨seven_of hb8, (seven_of hY8).2.1⟩); obtain ⟨j1, j2, j3, j4⟩ := seven_set (fq := [w2.heap.size]) hT8 (by simp) (.int .i64 (q.1.size : Int)) (.slice K1 m1 e1) (.slice K2 m2 e2) (.slice K3 m3 e3) (.int .i64 q.1.fuse) (.int .i64 (q.1.calls : Int)) (.bool q.1.down) _ rfl; have hS9 := (show (fun w' => (w'.cell? ⟨w5.heap.size, 0, none⟩ = some (.int .i64 (q.1.size : Int)) ∧ w'.cell? ⟨w5.heap.size, 1, none⟩ = some (.slice K1 m1 e1) ∧ w'.cell? ⟨w5.heap.size, 2, none⟩ = some (.slice K2 m2 e2) ∧ w'.cell? ⟨w5.heap.size, 3, none⟩ = some (.slice K3 m3 e3) ∧ w'.cell? ⟨w5.heap.size, 4, none⟩ = some (.int .i64 q.1.fuse) ∧ w'.cell? ⟨w5.heap.size, 5, none⟩ = some (.int .i64 (q.1.calls : Int)) ∧ w'.cell? ⟨w5.heap.size, 6, none⟩ = some (.bool q.1.down)) ∧ w'.cell? ⟨w1.heap.size, 1, none⟩ = some (.int .i64 place)) (((((((w8.setCell ⟨w2.heap.size, 0, none⟩ (.int .i64 (q.1.size : Int))).setCell ⟨w2.heap.size, 1, none⟩ (.slice K1 m1 e1)).setCell ⟨w2.heap.size, 2, none⟩ (.slice K2 m2 e2)).setCell ⟨w2.heap.size, 3, none⟩ (.slice K3 m3 e3)).setCell ⟨w2.heap.size, 4, none⟩ (.int .i64 q.1.fuse)).setCell ⟨w2.heap.size, 5, none⟩ (.int .i64 (q.1.calls : Int))).setCell ⟨w2.heap.size, 6, none⟩ (.bool q.1.down)) from ⟨seven_of (j2 _ _ _ hne9 hb8), (seven_of (j2 _ _ _ hne1 hY8)).2.1⟩); have Fin := Lib.hid (And.intro (show BlkT (((((((w8.setCell ⟨w2.heap.size, 0, none⟩ (.int .i64 (q.1.size : Int))).setCell ⟨w2.heap.size, 1, none⟩ (.slice K1 m1 e1)).setCell ⟨w2.heap.size, 2, none⟩ (.slice K2 m2 e2)).setCell ⟨w2.heap.size, 3, none⟩ (.slice K3 m3 e3)).setCell ⟨w2.heap.size, 4, none⟩ (.int .i64 q.1.fuse)).setCell ⟨w2.heap.size, 5, none⟩ (.int .i64 (q.1.calls : Int))).setCell ⟨w2.heap.size, 6, none⟩ (.bool q.1.down)) _ _ _ from j1) (gone_A bw7 h26 h26' hfp k8 f8 hD8 j3)); obtain ⟨d0, d1, d2, d3, d4, d5, d6, df⟩ := sevenT hT8)) | skip); (try (go_wp2_with fail)); refine hK.out _ _ (by first | (first | with_reducible exact hS0 | with_reducible exact hS8 | with_reducible exact hS9) | ((try dsimp only); (first | with_reducible exact hS0 | with_reducible exact hS8 | with_reducible exact hS9))) (fun hHeld => ?_)
  clear hK K
  try simp only [Act.put, List.setIfInBounds_toArray, List.set_cons_zero, List.set_cons_succ]
  refine wpAnyH_take (i := 7) (oi := { dst := some 43, op := Op.binOp BinOp.eql 43 (Operand.tmp 41) (Operand.tmp 42) 43, type := 4, pos := "law.go:56", after := #[{ on := 5, ground := Ground.data }, { on := 6, ground := Ground.data }, { on := 8, ground := Ground.gcOnly Go.Departure.lateStores }], guard := none }) (v := ?_) rfl (by kernel_rfl) (by kernel_rfl) (by kernel_rfl) (fun _ _ _ h => h) (Or.inl ⟨by rfl, ?_⟩) (by assumption) ?_; rotate_left; · ((intro w hSw; (try dsimp only at hSw); go_simp) <;> with_reducible rfl)
  try simp only [Act.put, List.setIfInBounds_toArray, List.set_cons_zero, List.set_cons_succ]
  refine wpAnyH_ready (rs := [8]) (by kernel_rfl) (by simp) ?_
  refine AllReadyH.cons (o := { dst := none, op := Op.store 108 (Operand.tmp 6) (Operand.tmp 36), type := 0, pos := "law.go:56", after := #[{ on := 0, ground := Ground.data }, { on := 5, ground := Ground.chain }, { on := 0, ground := Ground.phase }, { on := 1, ground := Ground.textOnly Go.Departure.lateStores }, { on := 2, ground := Ground.textOnly Go.Departure.lateStores }, { on := 3, ground := Ground.textOnly Go.Departure.lateStores }, { on := 4, ground := Ground.textOnly Go.Departure.lateStores }, { on := 5, ground := Ground.textOnly Go.Departure.lateStoresUnsure }, { on := 6, ground := Ground.textOnly Go.Departure.lateStores }, { on := 7, ground := Ground.textOnly Go.Departure.lateStores }], guard := none }) rfl (fun K hK => ?_) AllReadyH.nil
  go_simp; (first | ((go_at_call 34; refine (hcall.out _ kA).mono ?_; rintro e w8 ⟨rfl, fp8, hD8, k8, f8⟩; have hT8 := (show BlkT w8 w2.heap.size _ _ from (k8.block (show w2.heap.size < w7.drew.heap.size from h26') hn6).trans hZ7); have hb8 := (show BlkT w8 w5.heap.size _ _ from (k8.block (show w5.heap.size < w7.drew.heap.size from hl9) hn9).trans hb7); have hY8 := (show BlkT w8 w1.heap.size _ _ from (k8.block (show w1.heap.size < w7.drew.heap.size from hl1') hn1).trans hY7); have hS8 := (show (fun w' => (w'.cell? ⟨w5.heap.size, 0, none⟩ = some (.int .i64 (q.1.size : Int)) ∧ w'.cell? ⟨w5.heap.size, 1, none⟩ = some (.slice K1 m1 e1) ∧ w'.cell? ⟨w5.heap.size, 2, none⟩ = some (.slice K2 m2 e2) ∧ w'.cell? ⟨w5.heap.size, 3, none⟩ = some (.slice K3 m3 e3) ∧ w'.cell? ⟨w5.heap.size, 4, none⟩ = some (.int .i64 q.1.fuse) ∧ w'.cell? ⟨w5.heap.size, 5, none⟩ = some (.int .i64 (q.1.calls : Int)) ∧ w'.cell? ⟨w5.heap.size, 6, none⟩ = some (.bool q.1.down)) ∧ w'.cell? ⟨w1.heap.size, 1, none⟩ = some (.int .i64 place)) w8 from ⟨seven_of hb8, (seven_of hY8).2.1⟩); obtain ⟨j1, j2, j3, j4⟩ := seven_set (fq := [w2.heap.size]) hT8 (by simp) (.int .i64 (q.1.size : Int)) (.slice K1 m1 e1) (.slice K2 m2 e2) (.slice K3 m3 e3) (.int .i64 q.1.fuse) (.int .i64 (q.1.calls : Int)) (.bool q.1.down) _ rfl; have hS9 := (show (fun w' => (w'.cell? ⟨w5.heap.size, 0, none⟩ = some (.int .i64 (q.1.size : Int)) ∧ w'.cell? ⟨w5.heap.size, 1, none⟩ = some (.slice K1 m1 e1) ∧ w'.cell? ⟨w5.heap.size, 2, none⟩ = some (.slice K2 m2 e2) ∧ w'.cell? ⟨w5.heap.size, 3, none⟩ = some (.slice K3 m3 e3) ∧ w'.cell? ⟨w5.heap.size, 4, none⟩ = some (.int .i64 q.1.fuse) ∧ w'.cell? ⟨w5.heap.size, 5, none⟩ = some (.int .i64 (q.1.calls : Int)) ∧ w'.cell? ⟨w5.heap.size, 6, none⟩ = some (.bool q.1.down)) ∧ w'.cell? ⟨w1.heap.size, 1, none⟩ = some (.int .i64 place)) (((((((w8.setCell ⟨w2.heap.size, 0, none⟩ (.int .i64 (q.1.size : Int))).setCell ⟨w2.heap.size, 1, none⟩ (.slice K1 m1 e1)).setCell ⟨w2.heap.size, 2, none⟩ (.slice K2 m2 e2)).setCell ⟨w2.heap.size, 3, none⟩ (.slice K3 m3 e3)).setCell ⟨w2.heap.size, 4, none⟩ (.int .i64 q.1.fuse)).setCell ⟨w2.heap.size, 5, none⟩ (.int .i64 (q.1.calls : Int))).setCell ⟨w2.heap.size, 6, none⟩ (.bool q.1.down)) from ⟨seven_of (j2 _ _ _ hne9 hb8), (seven_of (j2 _ _ _ hne1 hY8)).2.1⟩); have Fin := Lib.hid (And.intro (show BlkT (((((((w8.setCell ⟨w2.heap.size, 0, none⟩ (.int .i64 (q.1.size : Int))).setCell ⟨w2.heap.size, 1, none⟩ (.slice K1 m1 e1)).setCell ⟨w2.heap.size, 2, none⟩ (.slice K2 m2 e2)).setCell ⟨w2.heap.size, 3, none⟩ (.slice K3 m3 e3)).setCell ⟨w2.heap.size, 4, none⟩ (.int .i64 q.1.fuse)).setCell ⟨w2.heap.size, 5, none⟩ (.int .i64 (q.1.calls : Int))).setCell ⟨w2.heap.size, 6, none⟩ (.bool q.1.down)) _ _ _ from j1) (gone_A bw7 h26 h26' hfp k8 f8 hD8 j3)); obtain ⟨d0, d1, d2, d3, d4, d5, d6, df⟩ := sevenT hT8)) | skip); (try (go_wp2_with fail)); refine hK.out _ _ (by first | (first | with_reducible exact hS0 | with_reducible exact hS8 | with_reducible exact hS9) | ((try dsimp only); (first | with_reducible exact hS0 | with_reducible exact hS8 | with_reducible exact hS9))) (fun hHeld => ?_)
  clear hK K
  try simp only [Act.put, List.setIfInBounds_toArray, List.set_cons_zero, List.set_cons_succ]
  refine wpAnyH_take (i := 9) (oi := { dst := some 7, op := Op.assign (Operand.tmp 43), type := 4, pos := "law.go:56", after := #[{ on := 7, ground := Ground.data }, { on := 8, ground := Ground.chain }, { on := 0, ground := Ground.phase }, { on := 1, ground := Ground.phase }, { on := 2, ground := Ground.phase }, { on := 3, ground := Ground.phase }, { on := 4, ground := Ground.phase }, { on := 5, ground := Ground.phase }, { on := 6, ground := Ground.phase }, { on := 7, ground := Ground.phase }, { on := 8, ground := Ground.phase }], guard := none }) (v := ?_) rfl (by kernel_rfl) (by kernel_rfl) (by kernel_rfl) (fun _ _ _ h => h) (Or.inl ⟨by rfl, ?_⟩) (by assumption) ?_; rotate_left; · ((intro w hSw; (try dsimp only at hSw); go_simp) <;> with_reducible rfl)
  try simp only [Act.put, List.setIfInBounds_toArray, List.set_cons_zero, List.set_cons_succ]
  refine wpAnyH_done (by kernel_rfl) ?_ _
  all_goals
    obtain ⟨we, hwe⟩ : ∃ we, we = (((((((w8.setCell ⟨w2.heap.size, 0, none⟩ (.int .i64 (q.1.size : Int))).setCell ⟨w2.heap.size, 1, none⟩ (.slice K1 m1 e1)).setCell ⟨w2.heap.size, 2, none⟩ (.slice K2 m2 e2)).setCell ⟨w2.heap.size, 3, none⟩ (.slice K3 m3 e3)).setCell ⟨w2.heap.size, 4, none⟩ (.int .i64 q.1.fuse)).setCell ⟨w2.heap.size, 5, none⟩ (.int .i64 (q.1.calls : Int))).setCell ⟨w2.heap.size, 6, none⟩ (.bool q.1.down)) := ⟨_, rfl⟩
    rw [← hwe] at Fin ⊢
    obtain ⟨F1, F2, F3, F4⟩ := Fin.out
    obtain ⟨z0, z1, z2, z3, z4, z5, z6, _⟩ := sevenT F1
    have HF := Lib.hid (And.intro F2 (And.intro F3 F4))
    clear hwe F2 F3 F4 Fin hS9 hS8 j1 j2 j3 j4 d0 d1 d2 d3 d4 d5 d6 df f1 f2 f3 f4
    go_wp2
    refine bodyPost_ret (v := .tuple #[.agg #[.int .i64 (q.1.size : Int), .slice K1 m1 e1, .slice K2 m2 e2, .slice K3 m3 e3, .int .i64 q.1.fuse, .int .i64 (q.1.calls : Int), .bool q.1.down], .bool (r.2 == q.2)]) (by simp [results, Try.results66, go_sem, z0, z1, z2, z3, z4, z5, z6]) rfl ?_
    obtain ⟨F2, F3, F4⟩ := HF.out
    first | rw [Int.toNat_natCast, ← Hr.out] | rw [← Hr.out]
    exact ⟨_, _, rfl, fp8, F2, F3, F4⟩
set_option maxHeartbeats 2000000 in
theorem go1 (w : World) (g : Nat) (fp : List Nat) (s t : St) (x : Value) (place size nn at' : Int) (fill : UInt8) (keep : List Int) (Ak : Option Addr) (ck : Nat) (ex : List Nat) (hex : ∀ j ∈ ex, j < w.heap.size) (hD : DAt w g fp s) (hx : RAt w (ex ++ fp) x t) (hokt : ok t) (ht : t.sz ≤ 900000) (hs : s.sz ≤ 900000) (hkr : RdN w fp Ak (keep.map (Value.int .i64))) (hkl : keep.length ≤ 20) (hs0 : 0 ≤ size) (hs1 : size ≤ 600) (hp : inI place) (hn : inI nn) (ha : inI at') (hkw : ∀ n ∈ keep, inI n)  :
    Calls Try.prog 66 #[.pointer (some ⟨g, 0, none⟩), x, .agg #[.int .i64 1, .int .i64 place, .int .i64 size, .int .i64 nn, .int .i64 at', .int .u8 (fill.toNat : Int), .slice Ak keep.length ck]] w (Gone w g fp (flush s).1) := by
  obtain ⟨vk, vw, vh, rfl, hko, hwo, hho⟩ := hx.form
  have hfp := hD.lt
  have hok := hD.ok
  obtain ⟨sz, hsz⟩ : ∃ n : Nat, n = size.toNat := ⟨_, rfl⟩
  have hszI : size = (sz : Int) := by omega
  subst hszI
  clear hsz
  have hsz2 : sz ≤ 600 := by omega
  have HF := Lib.hid (fun W => full_any sz (sz : Int) rfl fill (fill.toNat : Int) rfl W (by omega))
  unfold rvL
  go_enter Try.func66, Try.ntmps66
  go_wp2_with (first
    | ((with_reducible show wpList _ _ _ (⟨some 4, _, _, _, _, _⟩ :: _) _ _); refine wpList_boxT rfl _ _ rfl (rvL t.size vk vw vh t.fuse t.calls t.down) rfl ?_; intro w1 hb1 bw1 hl1)
    | ((with_reducible show wpList _ _ _ (⟨some 5, _, _, _, _, _⟩ :: _) _ _); refine wpList_boxT rfl _ _ rfl [.int .i64 1, .int .i64 place, .int .i64 (sz : Int), .int .i64 nn, .int .i64 at', .int .u8 (fill.toNat : Int), .slice Ak keep.length ck] rfl ?_; intro w2 hb2 bw2 hl2; have hA2 := (show BlkT w2 w.heap.size _ _ from (bw2.block _ hl1).trans hb1); obtain ⟨a0, a1, a2, a3, a4, a5, a6⟩ := seven_of hb2; have bww := bt bw1 bw2)
    | ((with_reducible show wpList _ _ _ (⟨some 6, _, _, _, _, _⟩ :: _) _ _); refine wpList_allocT rfl _ rfl rv0 zeroRV ?_; intro w3 hb3 bw3; have hA3 := (show BlkT w3 w.heap.size _ _ from (bw3.block _ (lt_of_block hA2)).trans hA2); have hY3 := (show BlkT w3 w1.heap.size _ _ from (bw3.block _ hl2).trans hb2); clear a0 a1 a2 a3 a4 a5 a6; obtain ⟨a0, a1, a2, a3, a4, a5, a6⟩ := seven_of hY3; have bw03 := bt bww bw3))
  refine (HF.out _).mono ?_
  rintro e w4 ⟨A4, c4, rfl, own4, b4⟩
  rw [List.length_replicate]
  have hA4 := (show BlkT w4 w.heap.size _ _ from (b4.block _ (lt_of_block hA3)).trans hA3)
  have hY4 := (show BlkT w4 w1.heap.size _ _ from (b4.block _ (lt_of_block hY3)).trans hY3)
  have hZ4 := (show BlkT w4 w2.heap.size _ _ from (b4.block _ (lt_of_block hb3)).trans hb3)
  have bw4 := bt bw03 b4
  clear a0 a1 a2 a3 a4 a5 a6
  obtain ⟨a0, a1, a2, a3, a4, a5, a6⟩ := seven_of hY4
  have hcap4 := own_cap own4
  rw [List.length_replicate] at own4
  have hf4 : ∀ j ∈ w2.heap.size :: (ex ++ fp), j < w4.heap.size := fun j hj => by
    rcases List.mem_cons.1 hj with e | e
    · subst e; exact lt_of_block hZ4
    · rcases List.mem_append.1 e with e | e
      · exact Nat.lt_of_lt_of_le (hex j e) bw4.size
      · exact Nat.lt_of_lt_of_le (hfp j e) bw4.size
  have hf3 : ∀ j ∈ w2.heap.size :: (ex ++ fp), j < w3.heap.size := fun j hj => by
    rcases List.mem_cons.1 hj with e | e
    · subst e; exact lt_of_block hb3
    · rcases List.mem_append.1 e with e | e
      · exact Nat.lt_of_lt_of_le (hex j e) bw03.size
      · exact Nat.lt_of_lt_of_le (hfp j e) bw03.size
  have hR4 : RdN w4 (w2.heap.size :: (ex ++ fp)) A4 ((List.replicate sz fill).map e8) := RdN.own2 own4 hf3
  have hB4 : Byt w4 (w2.heap.size :: (ex ++ fp)) (.slice A4 sz c4) (List.replicate sz fill) := ⟨A4, c4, by rw [List.length_replicate], by rw [List.length_replicate]; simpa using hcap4.1, hcap4.2, hR4⟩
  obtain ⟨q, hq⟩ : ∃ q, q = flush t := ⟨_, rfl⟩
  obtain ⟨r, hr⟩ : ∃ r, r = flush s := ⟨_, rfl⟩
  have Href := rflush_any w4 (w2.heap.size :: (ex ++ fp)) t _ hf4 ((hx.cons bww.size).on bw4) hokt (by omega)
  have HdW := fun W (hDW : DAt W g fp s) (hRW : RdN W fp A4 ((List.replicate sz fill).map e8)) => flush_any g fp s W hDW (by omega)
  rw [← hq] at Href
  simp only [← hr] at HdW
  have HRef := Lib.hid Href
  have HDW := Lib.hid HdW
  have Hr := Lib.hid hr
  clear hr hq Href HdW
  go_wp2_with (first
    | ((with_reducible show wpList _ _ _ (⟨some 47, _, _, _, _, _⟩ :: _) _ _); refine wpList_load_mid rfl _ _ rfl w.heap.size 0 rfl (rvL t.size vk vw vh t.fuse t.calls t.down) _ (Blk.rangeAt0 (BlkT.blk hA4)) Try.underlying108 rfl (by kernel_rfl) ?_)
    | (go_at_call 116; refine (HRef.out).mono ?_; rintro e w5 ⟨x5, rfl, hx5, b5⟩; obtain ⟨K1, m1, e1, K2, m2, e2, K3, m3, e3, rfl⟩ := hx5.form2; have hY5 := (show BlkT w5 w1.heap.size _ _ from (b5.block _ (lt_of_block hY4)).trans hY4); have hZ5 := (show BlkT w5 w2.heap.size _ _ from (b5.block _ (lt_of_block hZ4)).trans hZ4); have bw5 := bt bw4 b5; have own5 := own_on own4 b5)
    | ((with_reducible show wpList _ _ _ (⟨some 11, _, _, _, _, _⟩ :: _) _ _); refine wpList_allocT rfl _ rfl rv0 zeroRV ?_; intro w6 hb6 bw6; have hY6 := (show BlkT w6 w1.heap.size _ _ from (bw6.block _ (lt_of_block hY5)).trans hY5); have hZ6 := (show BlkT w6 w2.heap.size _ _ from (bw6.block _ (lt_of_block hZ5)).trans hZ5); have bw06 := bt bw5 bw6; have own6 := own_on own5 bw6; have hx6 := hx5.on bw6)
    | ((with_reducible show wpList _ _ _ (⟨none, .store 108 (.tmp 11) _, _, _, _, _⟩ :: _) _ _); refine wpList_storeT rfl _ _ _ rfl rfl (ys := (rvL q.1.size (.slice K1 m1 e1) (.slice K2 m2 e2) (.slice K3 m3 e3) q.1.fuse q.1.calls q.1.down)) rfl hb6 (by simp [rv0, rvL]) (rvL_one rfl rfl rfl) (by kernel_rfl) ?_; intro w7 hb7 hg7))
  have b57 : Below w5.heap.size w5 w7 := below_row bw6 hg7 (Nat.le_refl _) bw6.size
  have bw7 : Below w.heap.size w w7 := bt bw5 b57
  have hY7 : BlkT w7 w1.heap.size _ _ := (b57.block _ (lt_of_block hY5)).trans hY5
  have hZ7 : BlkT w7 w2.heap.size _ _ := (b57.block _ (lt_of_block hZ5)).trans hZ5
  have own7 := own_on own5 b57
  have hx7 := hx5.on b57
  have hD7 := hD.on bw7
  have h26 : w.heap.size ≤ w2.heap.size := bww.size
  have h26' : w2.heap.size < w7.heap.size := lt_of_block hZ7
  have h23 : w2.heap.size < w3.heap.size := lt_of_block hb3
  have hl9 := lt_of_block hb7
  have hl1' := lt_of_block hY7
  have hn9 : w5.heap.size ∉ fp := fun e => by have := hfp _ e; have := bw5.size; omega
  have hn1 : w1.heap.size ∉ fp := fun e => by have := hfp _ e; omega
  have hn6 : w2.heap.size ∉ fp := fun e => by have := hfp _ e; omega
  have hne9 : w5.heap.size ≠ w2.heap.size := by have := lt_of_block hZ5; omega
  have hne1 : w1.heap.size ≠ w2.heap.size := by omega
  have kA : Keep [w2.heap.size] w7 w7.drew := ⟨rfl, rfl, rfl, Nat.le_refl _, fun _ _ _ => rfl⟩
  obtain ⟨f1, f2, f3, f4⟩ := seven_set (fq := [w2.heap.size]) (show BlkT w7.drew w2.heap.size 108 _ from hZ7) (by simp) (.int .i64 (q.1.size : Int)) (.slice K1 m1 e1) (.slice K2 m2 e2) (.slice K3 m3 e3) (.int .i64 q.1.fuse) (.int .i64 (q.1.calls : Int)) (.bool q.1.down) _ rfl
  have kB := (show Keep [w2.heap.size] w7 (((((((w7.drew.setCell ⟨w2.heap.size, 0, none⟩ (.int .i64 (q.1.size : Int))).setCell ⟨w2.heap.size, 1, none⟩ (.slice K1 m1 e1)).setCell ⟨w2.heap.size, 2, none⟩ (.slice K2 m2 e2)).setCell ⟨w2.heap.size, 3, none⟩ (.slice K3 m3 e3)).setCell ⟨w2.heap.size, 4, none⟩ (.int .i64 q.1.fuse)).setCell ⟨w2.heap.size, 5, none⟩ (.int .i64 (q.1.calls : Int))).setCell ⟨w2.heap.size, 6, none⟩ (.bool q.1.down)) from f3)
  have hDk := Lib.hid (fun W (k : Keep [w2.heap.size] w7 W) => hD7.keep k (fun j hj e => by rw [List.mem_singleton] at e; subst e; exact hn6 hj))
  have hRk := Lib.hid (fun W (k : Keep [w2.heap.size] w7 W) => RdN.own2 (own_keep own7 k (fun q hq e => by have := own_block own7 hq; rw [List.mem_singleton] at e; omega)) (fun j hj => Nat.lt_of_lt_of_le (hfp j hj) bw03.size))
  have hcall := Lib.hid (fun W (k : Keep [w2.heap.size] w7 W) => HDW.out W (hDk.out W k) (hRk.out W k))
  have hS0 := (show (fun w' => (w'.cell? ⟨w5.heap.size, 0, none⟩ = some (.int .i64 (q.1.size : Int)) ∧ w'.cell? ⟨w5.heap.size, 1, none⟩ = some (.slice K1 m1 e1) ∧ w'.cell? ⟨w5.heap.size, 2, none⟩ = some (.slice K2 m2 e2) ∧ w'.cell? ⟨w5.heap.size, 3, none⟩ = some (.slice K3 m3 e3) ∧ w'.cell? ⟨w5.heap.size, 4, none⟩ = some (.int .i64 q.1.fuse) ∧ w'.cell? ⟨w5.heap.size, 5, none⟩ = some (.int .i64 (q.1.calls : Int)) ∧ w'.cell? ⟨w5.heap.size, 6, none⟩ = some (.bool q.1.down)) ∧ w'.cell? ⟨w1.heap.size, 1, none⟩ = some (.int .i64 place)) w7.drew from ⟨seven_of hb7, (seven_of hY7).2.1⟩)
  clear a0 a1 a2 a3 a4 a5 a6
  refine wp_region_held_drew (S := (fun w' => (w'.cell? ⟨w5.heap.size, 0, none⟩ = some (.int .i64 (q.1.size : Int)) ∧ w'.cell? ⟨w5.heap.size, 1, none⟩ = some (.slice K1 m1 e1) ∧ w'.cell? ⟨w5.heap.size, 2, none⟩ = some (.slice K2 m2 e2) ∧ w'.cell? ⟨w5.heap.size, 3, none⟩ = some (.slice K3 m3 e3) ∧ w'.cell? ⟨w5.heap.size, 4, none⟩ = some (.int .i64 q.1.fuse) ∧ w'.cell? ⟨w5.heap.size, 5, none⟩ = some (.int .i64 (q.1.calls : Int)) ∧ w'.cell? ⟨w5.heap.size, 6, none⟩ = some (.bool q.1.down)) ∧ w'.cell? ⟨w1.heap.size, 1, none⟩ = some (.int .i64 place))) (by kernel_rfl) (by exact hS0) (fun hHeld => ?_)
  refine wpAnyH_take (i := 0) (oi := { dst := some 51, op := Op.load 108 (Operand.tmp 11), type := 108, pos := "law.go:59", after := #[], guard := none }) (v := ?_) rfl (by kernel_rfl) (by kernel_rfl) (by kernel_rfl) (fun _ _ _ h => h) (Or.inl ⟨by rfl, ?_⟩) (by assumption) ?_; rotate_left; · ((intro w hSw; (try dsimp only at hSw); go_simp) <;> with_reducible rfl)
  try simp only [Act.put, List.setIfInBounds_toArray, List.set_cons_zero, List.set_cons_succ]
  refine wpAnyH_take (i := 1) (oi := { dst := some 52, op := Op.move (Operand.tmp 0), type := 59, pos := "law.go:59", after := #[], guard := none }) (v := ?_) rfl (by kernel_rfl) (by kernel_rfl) (by kernel_rfl) (fun _ _ _ h => h) (Or.inl ⟨by rfl, ?_⟩) (by assumption) ?_; rotate_left; · ((intro w hSw; (try dsimp only at hSw); go_simp) <;> with_reducible rfl)
  try simp only [Act.put, List.setIfInBounds_toArray, List.set_cons_zero, List.set_cons_succ]
  refine wpAnyH_take (i := 3) (oi := { dst := some 54, op := Op.move (Operand.tmp 12), type := 43, pos := "law.go:59", after := #[{ on := 5, ground := Ground.gcOnly Go.Departure.lateStores }], guard := none }) (v := ?_) rfl (by kernel_rfl) (by kernel_rfl) (by kernel_rfl) (fun _ _ _ h => h) (Or.inl ⟨by rfl, ?_⟩) (by assumption) ?_; rotate_left; · ((intro w hSw; (try dsimp only at hSw); go_simp) <;> with_reducible rfl)
  try simp only [Act.put, List.setIfInBounds_toArray, List.set_cons_zero, List.set_cons_succ]
  refine wpAnyH_ready (rs := [2]) (by kernel_rfl) (by simp) ?_
  refine AllReadyH.cons (o := { dst := some 53, op := Op.call { callee := Callee.value (Operand.func 73), args := #[Operand.tmp 52], argTypes := #[59] }, type := 43, pos := "law.go:59", after := #[{ on := 1, ground := Ground.data }], guard := none }) rfl (fun K hK => ?_) AllReadyH.nil
  go_simp; (first | ((go_at_call 73; refine (hcall.out _ kA).mono ?_; rintro e w8 ⟨rfl, fp8, hD8, k8, f8⟩; have hT8 := (show BlkT w8 w2.heap.size _ _ from (k8.block (show w2.heap.size < w7.drew.heap.size from h26') hn6).trans hZ7); have hb8 := (show BlkT w8 w5.heap.size _ _ from (k8.block (show w5.heap.size < w7.drew.heap.size from hl9) hn9).trans hb7); have hY8 := (show BlkT w8 w1.heap.size _ _ from (k8.block (show w1.heap.size < w7.drew.heap.size from hl1') hn1).trans hY7); have hS8 := (show (fun w' => (w'.cell? ⟨w5.heap.size, 0, none⟩ = some (.int .i64 (q.1.size : Int)) ∧ w'.cell? ⟨w5.heap.size, 1, none⟩ = some (.slice K1 m1 e1) ∧ w'.cell? ⟨w5.heap.size, 2, none⟩ = some (.slice K2 m2 e2) ∧ w'.cell? ⟨w5.heap.size, 3, none⟩ = some (.slice K3 m3 e3) ∧ w'.cell? ⟨w5.heap.size, 4, none⟩ = some (.int .i64 q.1.fuse) ∧ w'.cell? ⟨w5.heap.size, 5, none⟩ = some (.int .i64 (q.1.calls : Int)) ∧ w'.cell? ⟨w5.heap.size, 6, none⟩ = some (.bool q.1.down)) ∧ w'.cell? ⟨w1.heap.size, 1, none⟩ = some (.int .i64 place)) w8 from ⟨seven_of hb8, (seven_of hY8).2.1⟩); obtain ⟨j1, j2, j3, j4⟩ := seven_set (fq := [w2.heap.size]) hT8 (by simp) (.int .i64 (q.1.size : Int)) (.slice K1 m1 e1) (.slice K2 m2 e2) (.slice K3 m3 e3) (.int .i64 q.1.fuse) (.int .i64 (q.1.calls : Int)) (.bool q.1.down) _ rfl; have hS9 := (show (fun w' => (w'.cell? ⟨w5.heap.size, 0, none⟩ = some (.int .i64 (q.1.size : Int)) ∧ w'.cell? ⟨w5.heap.size, 1, none⟩ = some (.slice K1 m1 e1) ∧ w'.cell? ⟨w5.heap.size, 2, none⟩ = some (.slice K2 m2 e2) ∧ w'.cell? ⟨w5.heap.size, 3, none⟩ = some (.slice K3 m3 e3) ∧ w'.cell? ⟨w5.heap.size, 4, none⟩ = some (.int .i64 q.1.fuse) ∧ w'.cell? ⟨w5.heap.size, 5, none⟩ = some (.int .i64 (q.1.calls : Int)) ∧ w'.cell? ⟨w5.heap.size, 6, none⟩ = some (.bool q.1.down)) ∧ w'.cell? ⟨w1.heap.size, 1, none⟩ = some (.int .i64 place)) (((((((w8.setCell ⟨w2.heap.size, 0, none⟩ (.int .i64 (q.1.size : Int))).setCell ⟨w2.heap.size, 1, none⟩ (.slice K1 m1 e1)).setCell ⟨w2.heap.size, 2, none⟩ (.slice K2 m2 e2)).setCell ⟨w2.heap.size, 3, none⟩ (.slice K3 m3 e3)).setCell ⟨w2.heap.size, 4, none⟩ (.int .i64 q.1.fuse)).setCell ⟨w2.heap.size, 5, none⟩ (.int .i64 (q.1.calls : Int))).setCell ⟨w2.heap.size, 6, none⟩ (.bool q.1.down)) from ⟨seven_of (j2 _ _ _ hne9 hb8), (seven_of (j2 _ _ _ hne1 hY8)).2.1⟩); have Fin := Lib.hid (And.intro (show BlkT (((((((w8.setCell ⟨w2.heap.size, 0, none⟩ (.int .i64 (q.1.size : Int))).setCell ⟨w2.heap.size, 1, none⟩ (.slice K1 m1 e1)).setCell ⟨w2.heap.size, 2, none⟩ (.slice K2 m2 e2)).setCell ⟨w2.heap.size, 3, none⟩ (.slice K3 m3 e3)).setCell ⟨w2.heap.size, 4, none⟩ (.int .i64 q.1.fuse)).setCell ⟨w2.heap.size, 5, none⟩ (.int .i64 (q.1.calls : Int))).setCell ⟨w2.heap.size, 6, none⟩ (.bool q.1.down)) _ _ _ from j1) (gone_A bw7 h26 h26' hfp k8 f8 hD8 j3)); obtain ⟨d0, d1, d2, d3, d4, d5, d6, df⟩ := sevenT hT8)) | skip); (try (go_wp2_with fail)); refine hK.out _ _ (by first | (first | with_reducible exact hS0 | with_reducible exact hS8 | with_reducible exact hS9) | ((try dsimp only); (first | with_reducible exact hS0 | with_reducible exact hS8 | with_reducible exact hS9))) (fun hHeld => ?_)
  clear hK K
  try simp only [Act.put, List.setIfInBounds_toArray, List.set_cons_zero, List.set_cons_succ]
  refine wpAnyH_take (i := 4) (oi := { dst := some 55, op := Op.binOp BinOp.eql 43 (Operand.tmp 53) (Operand.tmp 54) 43, type := 4, pos := "law.go:59", after := #[{ on := 2, ground := Ground.data }, { on := 3, ground := Ground.data }, { on := 5, ground := Ground.gcOnly Go.Departure.lateStores }], guard := none }) (v := ?_) rfl (by kernel_rfl) (by kernel_rfl) (by kernel_rfl) (fun _ _ _ h => h) (Or.inl ⟨by rfl, ?_⟩) (by assumption) ?_; rotate_left; · ((intro w hSw; (try dsimp only at hSw); go_simp) <;> with_reducible rfl)
  try simp only [Act.put, List.setIfInBounds_toArray, List.set_cons_zero, List.set_cons_succ]
  refine wpAnyH_ready (rs := [5]) (by kernel_rfl) (by simp) ?_
  refine AllReadyH.cons (o := { dst := none, op := Op.store 108 (Operand.tmp 6) (Operand.tmp 51), type := 0, pos := "law.go:59", after := #[{ on := 0, ground := Ground.data }, { on := 2, ground := Ground.chain }, { on := 0, ground := Ground.phase }, { on := 1, ground := Ground.textOnly Go.Departure.lateStores }, { on := 2, ground := Ground.textOnly Go.Departure.lateStoresUnsure }, { on := 3, ground := Ground.textOnly Go.Departure.lateStores }, { on := 4, ground := Ground.textOnly Go.Departure.lateStores }], guard := none }) rfl (fun K hK => ?_) AllReadyH.nil
  go_simp; (first | ((go_at_call 73; refine (hcall.out _ kA).mono ?_; rintro e w8 ⟨rfl, fp8, hD8, k8, f8⟩; have hT8 := (show BlkT w8 w2.heap.size _ _ from (k8.block (show w2.heap.size < w7.drew.heap.size from h26') hn6).trans hZ7); have hb8 := (show BlkT w8 w5.heap.size _ _ from (k8.block (show w5.heap.size < w7.drew.heap.size from hl9) hn9).trans hb7); have hY8 := (show BlkT w8 w1.heap.size _ _ from (k8.block (show w1.heap.size < w7.drew.heap.size from hl1') hn1).trans hY7); have hS8 := (show (fun w' => (w'.cell? ⟨w5.heap.size, 0, none⟩ = some (.int .i64 (q.1.size : Int)) ∧ w'.cell? ⟨w5.heap.size, 1, none⟩ = some (.slice K1 m1 e1) ∧ w'.cell? ⟨w5.heap.size, 2, none⟩ = some (.slice K2 m2 e2) ∧ w'.cell? ⟨w5.heap.size, 3, none⟩ = some (.slice K3 m3 e3) ∧ w'.cell? ⟨w5.heap.size, 4, none⟩ = some (.int .i64 q.1.fuse) ∧ w'.cell? ⟨w5.heap.size, 5, none⟩ = some (.int .i64 (q.1.calls : Int)) ∧ w'.cell? ⟨w5.heap.size, 6, none⟩ = some (.bool q.1.down)) ∧ w'.cell? ⟨w1.heap.size, 1, none⟩ = some (.int .i64 place)) w8 from ⟨seven_of hb8, (seven_of hY8).2.1⟩); obtain ⟨j1, j2, j3, j4⟩ := seven_set (fq := [w2.heap.size]) hT8 (by simp) (.int .i64 (q.1.size : Int)) (.slice K1 m1 e1) (.slice K2 m2 e2) (.slice K3 m3 e3) (.int .i64 q.1.fuse) (.int .i64 (q.1.calls : Int)) (.bool q.1.down) _ rfl; have hS9 := (show (fun w' => (w'.cell? ⟨w5.heap.size, 0, none⟩ = some (.int .i64 (q.1.size : Int)) ∧ w'.cell? ⟨w5.heap.size, 1, none⟩ = some (.slice K1 m1 e1) ∧ w'.cell? ⟨w5.heap.size, 2, none⟩ = some (.slice K2 m2 e2) ∧ w'.cell? ⟨w5.heap.size, 3, none⟩ = some (.slice K3 m3 e3) ∧ w'.cell? ⟨w5.heap.size, 4, none⟩ = some (.int .i64 q.1.fuse) ∧ w'.cell? ⟨w5.heap.size, 5, none⟩ = some (.int .i64 (q.1.calls : Int)) ∧ w'.cell? ⟨w5.heap.size, 6, none⟩ = some (.bool q.1.down)) ∧ w'.cell? ⟨w1.heap.size, 1, none⟩ = some (.int .i64 place)) (((((((w8.setCell ⟨w2.heap.size, 0, none⟩ (.int .i64 (q.1.size : Int))).setCell ⟨w2.heap.size, 1, none⟩ (.slice K1 m1 e1)).setCell ⟨w2.heap.size, 2, none⟩ (.slice K2 m2 e2)).setCell ⟨w2.heap.size, 3, none⟩ (.slice K3 m3 e3)).setCell ⟨w2.heap.size, 4, none⟩ (.int .i64 q.1.fuse)).setCell ⟨w2.heap.size, 5, none⟩ (.int .i64 (q.1.calls : Int))).setCell ⟨w2.heap.size, 6, none⟩ (.bool q.1.down)) from ⟨seven_of (j2 _ _ _ hne9 hb8), (seven_of (j2 _ _ _ hne1 hY8)).2.1⟩); have Fin := Lib.hid (And.intro (show BlkT (((((((w8.setCell ⟨w2.heap.size, 0, none⟩ (.int .i64 (q.1.size : Int))).setCell ⟨w2.heap.size, 1, none⟩ (.slice K1 m1 e1)).setCell ⟨w2.heap.size, 2, none⟩ (.slice K2 m2 e2)).setCell ⟨w2.heap.size, 3, none⟩ (.slice K3 m3 e3)).setCell ⟨w2.heap.size, 4, none⟩ (.int .i64 q.1.fuse)).setCell ⟨w2.heap.size, 5, none⟩ (.int .i64 (q.1.calls : Int))).setCell ⟨w2.heap.size, 6, none⟩ (.bool q.1.down)) _ _ _ from j1) (gone_A bw7 h26 h26' hfp k8 f8 hD8 j3)); obtain ⟨d0, d1, d2, d3, d4, d5, d6, df⟩ := sevenT hT8)) | skip); (try (go_wp2_with fail)); refine hK.out _ _ (by first | (first | with_reducible exact hS0 | with_reducible exact hS8 | with_reducible exact hS9) | ((try dsimp only); (first | with_reducible exact hS0 | with_reducible exact hS8 | with_reducible exact hS9))) (fun hHeld => ?_)
  clear hK K
  try simp only [Act.put, List.setIfInBounds_toArray, List.set_cons_zero, List.set_cons_succ]
  refine wpAnyH_take (i := 6) (oi := { dst := some 7, op := Op.assign (Operand.tmp 55), type := 4, pos := "law.go:59", after := #[{ on := 4, ground := Ground.data }, { on := 5, ground := Ground.chain }, { on := 0, ground := Ground.phase }, { on := 1, ground := Ground.phase }, { on := 2, ground := Ground.phase }, { on := 3, ground := Ground.phase }, { on := 4, ground := Ground.phase }, { on := 5, ground := Ground.phase }], guard := none }) (v := ?_) rfl (by kernel_rfl) (by kernel_rfl) (by kernel_rfl) (fun _ _ _ h => h) (Or.inl ⟨by rfl, ?_⟩) (by assumption) ?_; rotate_left; · ((intro w hSw; (try dsimp only at hSw); go_simp) <;> with_reducible rfl)
  try simp only [Act.put, List.setIfInBounds_toArray, List.set_cons_zero, List.set_cons_succ]
  refine wpAnyH_done (by kernel_rfl) ?_ _
  all_goals
    obtain ⟨we, hwe⟩ : ∃ we, we = (((((((w8.setCell ⟨w2.heap.size, 0, none⟩ (.int .i64 (q.1.size : Int))).setCell ⟨w2.heap.size, 1, none⟩ (.slice K1 m1 e1)).setCell ⟨w2.heap.size, 2, none⟩ (.slice K2 m2 e2)).setCell ⟨w2.heap.size, 3, none⟩ (.slice K3 m3 e3)).setCell ⟨w2.heap.size, 4, none⟩ (.int .i64 q.1.fuse)).setCell ⟨w2.heap.size, 5, none⟩ (.int .i64 (q.1.calls : Int))).setCell ⟨w2.heap.size, 6, none⟩ (.bool q.1.down)) := ⟨_, rfl⟩
    rw [← hwe] at Fin ⊢
    obtain ⟨F1, F2, F3, F4⟩ := Fin.out
    obtain ⟨z0, z1, z2, z3, z4, z5, z6, _⟩ := sevenT F1
    have HF := Lib.hid (And.intro F2 (And.intro F3 F4))
    clear hwe F2 F3 F4 Fin hS9 hS8 j1 j2 j3 j4 d0 d1 d2 d3 d4 d5 d6 df f1 f2 f3 f4
    go_wp2
    refine bodyPost_ret (v := .tuple #[.agg #[.int .i64 (q.1.size : Int), .slice K1 m1 e1, .slice K2 m2 e2, .slice K3 m3 e3, .int .i64 q.1.fuse, .int .i64 (q.1.calls : Int), .bool q.1.down], .bool (r.2 == q.2)]) (by simp [results, Try.results66, go_sem, z0, z1, z2, z3, z4, z5, z6]) rfl ?_
    obtain ⟨F2, F3, F4⟩ := HF.out
    first | rw [Int.toNat_natCast, ← Hr.out] | rw [← Hr.out]
    exact ⟨_, _, rfl, fp8, F2, F3, F4⟩
set_option maxHeartbeats 2000000 in
theorem go5 (w : World) (g : Nat) (fp : List Nat) (s t : St) (x : Value) (kind place size nn at' : Int) (fill : UInt8) (keep : List Int) (Ak : Option Addr) (ck : Nat) (ex : List Nat) (hex : ∀ j ∈ ex, j < w.heap.size) (hD : DAt w g fp s) (hx : RAt w (ex ++ fp) x t) (hokt : ok t) (ht : t.sz ≤ 900000) (hs : s.sz ≤ 900000) (hkr : RdN w fp Ak (keep.map (Value.int .i64))) (hkl : keep.length ≤ 20) (hs0 : 0 ≤ size) (hs1 : size ≤ 600) (hp : inI place) (hn : inI nn) (ha : inI at') (hkw : ∀ n ∈ keep, inI n) (h0 : kind ≠ 0) (h1 : kind ≠ 1) (h2 : kind ≠ 2) (h3 : kind ≠ 3) (h4 : kind ≠ 4) :
    Calls Try.prog 66 #[.pointer (some ⟨g, 0, none⟩), x, .agg #[.int .i64 kind, .int .i64 place, .int .i64 size, .int .i64 nn, .int .i64 at', .int .u8 (fill.toNat : Int), .slice Ak keep.length ck]] w (Gone w g fp (put s place (List.replicate size.toNat fill)).1) := by
  obtain ⟨vk, vw, vh, rfl, hko, hwo, hho⟩ := hx.form
  have hfp := hD.lt
  have hok := hD.ok
  obtain ⟨sz, hsz⟩ : ∃ n : Nat, n = size.toNat := ⟨_, rfl⟩
  have hszI : size = (sz : Int) := by omega
  subst hszI
  clear hsz
  have hsz2 : sz ≤ 600 := by omega
  have HF := Lib.hid (fun W => full_any sz (sz : Int) rfl fill (fill.toNat : Int) rfl W (by omega))
  unfold rvL
  go_enter Try.func66, Try.ntmps66
  have q0 := beq_no h0
  have q1 := beq_no h1
  have q2 := beq_no h2
  have q3 := beq_no h3
  have q4 := beq_no h4
  clear h0 h1 h2 h3 h4
  go_wp2_with (first
    | ((with_reducible show wpList _ _ _ (⟨some 4, _, _, _, _, _⟩ :: _) _ _); refine wpList_boxT rfl _ _ rfl (rvL t.size vk vw vh t.fuse t.calls t.down) rfl ?_; intro w1 hb1 bw1 hl1)
    | ((with_reducible show wpList _ _ _ (⟨some 5, _, _, _, _, _⟩ :: _) _ _); refine wpList_boxT rfl _ _ rfl [.int .i64 kind, .int .i64 place, .int .i64 (sz : Int), .int .i64 nn, .int .i64 at', .int .u8 (fill.toNat : Int), .slice Ak keep.length ck] rfl ?_; intro w2 hb2 bw2 hl2; have hA2 := (show BlkT w2 w.heap.size _ _ from (bw2.block _ hl1).trans hb1); obtain ⟨a0, a1, a2, a3, a4, a5, a6⟩ := seven_of hb2; have bww := bt bw1 bw2)
    | ((with_reducible show wpList _ _ _ (⟨some 6, _, _, _, _, _⟩ :: _) _ _); refine wpList_allocT rfl _ rfl rv0 zeroRV ?_; intro w3 hb3 bw3; have hA3 := (show BlkT w3 w.heap.size _ _ from (bw3.block _ (lt_of_block hA2)).trans hA2); have hY3 := (show BlkT w3 w1.heap.size _ _ from (bw3.block _ hl2).trans hb2); clear a0 a1 a2 a3 a4 a5 a6; obtain ⟨a0, a1, a2, a3, a4, a5, a6⟩ := seven_of hY3; have bw03 := bt bww bw3))
  refine (HF.out _).mono ?_
  rintro e w4 ⟨A4, c4, rfl, own4, b4⟩
  rw [List.length_replicate]
  have hA4 := (show BlkT w4 w.heap.size _ _ from (b4.block _ (lt_of_block hA3)).trans hA3)
  have hY4 := (show BlkT w4 w1.heap.size _ _ from (b4.block _ (lt_of_block hY3)).trans hY3)
  have hZ4 := (show BlkT w4 w2.heap.size _ _ from (b4.block _ (lt_of_block hb3)).trans hb3)
  have bw4 := bt bw03 b4
  clear a0 a1 a2 a3 a4 a5 a6
  obtain ⟨a0, a1, a2, a3, a4, a5, a6⟩ := seven_of hY4
  have hcap4 := own_cap own4
  rw [List.length_replicate] at own4
  have hf4 : ∀ j ∈ w2.heap.size :: (ex ++ fp), j < w4.heap.size := fun j hj => by
    rcases List.mem_cons.1 hj with e | e
    · subst e; exact lt_of_block hZ4
    · rcases List.mem_append.1 e with e | e
      · exact Nat.lt_of_lt_of_le (hex j e) bw4.size
      · exact Nat.lt_of_lt_of_le (hfp j e) bw4.size
  have hf3 : ∀ j ∈ w2.heap.size :: (ex ++ fp), j < w3.heap.size := fun j hj => by
    rcases List.mem_cons.1 hj with e | e
    · subst e; exact lt_of_block hb3
    · rcases List.mem_append.1 e with e | e
      · exact Nat.lt_of_lt_of_le (hex j e) bw03.size
      · exact Nat.lt_of_lt_of_le (hfp j e) bw03.size
  have hR4 : RdN w4 (w2.heap.size :: (ex ++ fp)) A4 ((List.replicate sz fill).map e8) := RdN.own2 own4 hf3
  have hB4 : Byt w4 (w2.heap.size :: (ex ++ fp)) (.slice A4 sz c4) (List.replicate sz fill) := ⟨A4, c4, by rw [List.length_replicate], by rw [List.length_replicate]; simpa using hcap4.1, hcap4.2, hR4⟩
  obtain ⟨q, hq⟩ : ∃ q, q = put t place (List.replicate sz fill) := ⟨_, rfl⟩
  obtain ⟨r, hr⟩ : ∃ r, r = put s place (List.replicate sz fill) := ⟨_, rfl⟩
  have Href := rput_any w4 (w2.heap.size :: (ex ++ fp)) t place _ _ _ hf4 ((hx.cons bww.size).on bw4) hB4 (by simp; omega) hokt (by omega)
  have HdW := fun W (hDW : DAt W g fp s) (hRW : RdN W fp A4 ((List.replicate sz fill).map e8)) => put_any g fp s place A4 sz c4 (List.replicate sz fill) W hDW (by omega) (by simp) hRW.rd
  rw [← hq] at Href
  simp only [← hr] at HdW
  have HRef := Lib.hid Href
  have HDW := Lib.hid HdW
  have Hr := Lib.hid hr
  clear hr hq Href HdW
  go_wp2_with (first
    | ((with_reducible show wpList _ _ _ (⟨some 111, _, _, _, _, _⟩ :: _) _ _); refine wpList_load_mid rfl _ _ rfl w.heap.size 0 rfl (rvL t.size vk vw vh t.fuse t.calls t.down) _ (Blk.rangeAt0 (BlkT.blk hA4)) Try.underlying108 rfl (by kernel_rfl) ?_)
    | (go_at_call 119; refine (HRef.out).mono ?_; rintro e w5 ⟨x5, rfl, hx5, b5⟩; obtain ⟨K1, m1, e1, K2, m2, e2, K3, m3, e3, rfl⟩ := hx5.form2; have hY5 := (show BlkT w5 w1.heap.size _ _ from (b5.block _ (lt_of_block hY4)).trans hY4); have hZ5 := (show BlkT w5 w2.heap.size _ _ from (b5.block _ (lt_of_block hZ4)).trans hZ4); have bw5 := bt bw4 b5; have own5 := own_on own4 b5)
    | ((with_reducible show wpList _ _ _ (⟨some 17, _, _, _, _, _⟩ :: _) _ _); refine wpList_allocT rfl _ rfl rv0 zeroRV ?_; intro w6 hb6 bw6; have hY6 := (show BlkT w6 w1.heap.size _ _ from (bw6.block _ (lt_of_block hY5)).trans hY5); have hZ6 := (show BlkT w6 w2.heap.size _ _ from (bw6.block _ (lt_of_block hZ5)).trans hZ5); have bw06 := bt bw5 bw6; have own6 := own_on own5 bw6; have hx6 := hx5.on bw6)
    | ((with_reducible show wpList _ _ _ (⟨none, .store 108 (.tmp 17) _, _, _, _, _⟩ :: _) _ _); refine wpList_storeT rfl _ _ _ rfl rfl (ys := (rvL q.1.size (.slice K1 m1 e1) (.slice K2 m2 e2) (.slice K3 m3 e3) q.1.fuse q.1.calls q.1.down)) rfl hb6 (by simp [rv0, rvL]) (rvL_one rfl rfl rfl) (by kernel_rfl) ?_; intro w7 hb7 hg7))
  have b57 : Below w5.heap.size w5 w7 := below_row bw6 hg7 (Nat.le_refl _) bw6.size
  have bw7 : Below w.heap.size w w7 := bt bw5 b57
  have hY7 : BlkT w7 w1.heap.size _ _ := (b57.block _ (lt_of_block hY5)).trans hY5
  have hZ7 : BlkT w7 w2.heap.size _ _ := (b57.block _ (lt_of_block hZ5)).trans hZ5
  have own7 := own_on own5 b57
  have hx7 := hx5.on b57
  have hD7 := hD.on bw7
  have h26 : w.heap.size ≤ w2.heap.size := bww.size
  have h26' : w2.heap.size < w7.heap.size := lt_of_block hZ7
  have h23 : w2.heap.size < w3.heap.size := lt_of_block hb3
  have hl9 := lt_of_block hb7
  have hl1' := lt_of_block hY7
  have hn9 : w5.heap.size ∉ fp := fun e => by have := hfp _ e; have := bw5.size; omega
  have hn1 : w1.heap.size ∉ fp := fun e => by have := hfp _ e; omega
  have hn6 : w2.heap.size ∉ fp := fun e => by have := hfp _ e; omega
  have hne9 : w5.heap.size ≠ w2.heap.size := by have := lt_of_block hZ5; omega
  have hne1 : w1.heap.size ≠ w2.heap.size := by omega
  have kA : Keep [w2.heap.size] w7 w7.drew := ⟨rfl, rfl, rfl, Nat.le_refl _, fun _ _ _ => rfl⟩
  obtain ⟨f1, f2, f3, f4⟩ := seven_set (fq := [w2.heap.size]) (show BlkT w7.drew w2.heap.size 108 _ from hZ7) (by simp) (.int .i64 (q.1.size : Int)) (.slice K1 m1 e1) (.slice K2 m2 e2) (.slice K3 m3 e3) (.int .i64 q.1.fuse) (.int .i64 (q.1.calls : Int)) (.bool q.1.down) _ rfl
  have kB := (show Keep [w2.heap.size] w7 (((((((w7.drew.setCell ⟨w2.heap.size, 0, none⟩ (.int .i64 (q.1.size : Int))).setCell ⟨w2.heap.size, 1, none⟩ (.slice K1 m1 e1)).setCell ⟨w2.heap.size, 2, none⟩ (.slice K2 m2 e2)).setCell ⟨w2.heap.size, 3, none⟩ (.slice K3 m3 e3)).setCell ⟨w2.heap.size, 4, none⟩ (.int .i64 q.1.fuse)).setCell ⟨w2.heap.size, 5, none⟩ (.int .i64 (q.1.calls : Int))).setCell ⟨w2.heap.size, 6, none⟩ (.bool q.1.down)) from f3)
  have hDk := Lib.hid (fun W (k : Keep [w2.heap.size] w7 W) => hD7.keep k (fun j hj e => by rw [List.mem_singleton] at e; subst e; exact hn6 hj))
  have hRk := Lib.hid (fun W (k : Keep [w2.heap.size] w7 W) => RdN.own2 (own_keep own7 k (fun q hq e => by have := own_block own7 hq; rw [List.mem_singleton] at e; omega)) (fun j hj => Nat.lt_of_lt_of_le (hfp j hj) bw03.size))
  have hcall := Lib.hid (fun W (k : Keep [w2.heap.size] w7 W) => HDW.out W (hDk.out W k) (hRk.out W k))
  have hS0 := (show (fun w' => (w'.cell? ⟨w5.heap.size, 0, none⟩ = some (.int .i64 (q.1.size : Int)) ∧ w'.cell? ⟨w5.heap.size, 1, none⟩ = some (.slice K1 m1 e1) ∧ w'.cell? ⟨w5.heap.size, 2, none⟩ = some (.slice K2 m2 e2) ∧ w'.cell? ⟨w5.heap.size, 3, none⟩ = some (.slice K3 m3 e3) ∧ w'.cell? ⟨w5.heap.size, 4, none⟩ = some (.int .i64 q.1.fuse) ∧ w'.cell? ⟨w5.heap.size, 5, none⟩ = some (.int .i64 (q.1.calls : Int)) ∧ w'.cell? ⟨w5.heap.size, 6, none⟩ = some (.bool q.1.down)) ∧ w'.cell? ⟨w1.heap.size, 1, none⟩ = some (.int .i64 place)) w7.drew from ⟨seven_of hb7, (seven_of hY7).2.1⟩)
  clear a0 a1 a2 a3 a4 a5 a6
  refine wp_region_held_drew (S := (fun w' => (w'.cell? ⟨w5.heap.size, 0, none⟩ = some (.int .i64 (q.1.size : Int)) ∧ w'.cell? ⟨w5.heap.size, 1, none⟩ = some (.slice K1 m1 e1) ∧ w'.cell? ⟨w5.heap.size, 2, none⟩ = some (.slice K2 m2 e2) ∧ w'.cell? ⟨w5.heap.size, 3, none⟩ = some (.slice K3 m3 e3) ∧ w'.cell? ⟨w5.heap.size, 4, none⟩ = some (.int .i64 q.1.fuse) ∧ w'.cell? ⟨w5.heap.size, 5, none⟩ = some (.int .i64 (q.1.calls : Int)) ∧ w'.cell? ⟨w5.heap.size, 6, none⟩ = some (.bool q.1.down)) ∧ w'.cell? ⟨w1.heap.size, 1, none⟩ = some (.int .i64 place))) (by kernel_rfl) (by exact hS0) (fun hHeld => ?_)
  refine wpAnyH_take (i := 0) (oi := { dst := some 118, op := Op.load 108 (Operand.tmp 17), type := 108, pos := "law.go:73", after := #[], guard := none }) (v := ?_) rfl (by kernel_rfl) (by kernel_rfl) (by kernel_rfl) (fun _ _ _ h => h) (Or.inl ⟨by rfl, ?_⟩) (by assumption) ?_; rotate_left; · ((intro w hSw; (try dsimp only at hSw); go_simp) <;> with_reducible rfl)
  try simp only [Act.put, List.setIfInBounds_toArray, List.set_cons_zero, List.set_cons_succ]
  refine wpAnyH_take (i := 1) (oi := { dst := some 119, op := Op.move (Operand.tmp 0), type := 59, pos := "law.go:73", after := #[], guard := none }) (v := ?_) rfl (by kernel_rfl) (by kernel_rfl) (by kernel_rfl) (fun _ _ _ h => h) (Or.inl ⟨by rfl, ?_⟩) (by assumption) ?_; rotate_left; · ((intro w hSw; (try dsimp only at hSw); go_simp) <;> with_reducible rfl)
  try simp only [Act.put, List.setIfInBounds_toArray, List.set_cons_zero, List.set_cons_succ]
  refine wpAnyH_take (i := 2) (oi := { dst := some 120, op := Op.fieldAddr 113 (Operand.tmp 5) 1, type := 0, pos := "law.go:73", after := #[], guard := none }) (v := ?_) rfl (by kernel_rfl) (by kernel_rfl) (by kernel_rfl) (fun _ _ _ h => h) (Or.inl ⟨by rfl, ?_⟩) (by assumption) ?_; rotate_left; · ((intro w hSw; (try dsimp only at hSw); go_simp) <;> with_reducible rfl)
  try simp only [Act.put, List.setIfInBounds_toArray, List.set_cons_zero, List.set_cons_succ]
  refine wpAnyH_take (i := 3) (oi := { dst := some 121, op := Op.load 3 (Operand.tmp 120), type := 3, pos := "law.go:73", after := #[{ on := 2, ground := Ground.data }], guard := none }) (v := ?_) rfl (by kernel_rfl) (by kernel_rfl) (by kernel_rfl) (fun _ _ _ h => h) (Or.inl ⟨by rfl, ?_⟩) (by assumption) ?_; rotate_left; · ((intro w hSw; (try dsimp only at hSw); go_simp) <;> with_reducible rfl)
  try simp only [Act.put, List.setIfInBounds_toArray, List.set_cons_zero, List.set_cons_succ]
  refine wpAnyH_take (i := 4) (oi := { dst := some 122, op := Op.move (Operand.tmp 8), type := 26, pos := "law.go:73", after := #[], guard := none }) (v := ?_) rfl (by kernel_rfl) (by kernel_rfl) (by kernel_rfl) (fun _ _ _ h => h) (Or.inl ⟨by rfl, ?_⟩) (by assumption) ?_; rotate_left; · ((intro w hSw; (try dsimp only at hSw); go_simp) <;> with_reducible rfl)
  try simp only [Act.put, List.setIfInBounds_toArray, List.set_cons_zero, List.set_cons_succ]
  refine wpAnyH_take (i := 6) (oi := { dst := some 124, op := Op.move (Operand.tmp 18), type := 43, pos := "law.go:73", after := #[{ on := 8, ground := Ground.gcOnly Go.Departure.lateStores }], guard := none }) (v := ?_) rfl (by kernel_rfl) (by kernel_rfl) (by kernel_rfl) (fun _ _ _ h => h) (Or.inl ⟨by rfl, ?_⟩) (by assumption) ?_; rotate_left; · ((intro w hSw; (try dsimp only at hSw); go_simp) <;> with_reducible rfl)
  try simp only [Act.put, List.setIfInBounds_toArray, List.set_cons_zero, List.set_cons_succ]
  refine wpAnyH_ready (rs := [5]) (by kernel_rfl) (by simp) ?_
  refine AllReadyH.cons (o := { dst := some 123, op := Op.call { callee := Callee.value (Operand.func 32), args := #[Operand.tmp 119, Operand.tmp 121, Operand.tmp 122], argTypes := #[59, 3, 26] }, type := 43, pos := "law.go:73", after := #[{ on := 1, ground := Ground.data }, { on := 3, ground := Ground.data }, { on := 4, ground := Ground.data }], guard := none }) rfl (fun K hK => ?_) AllReadyH.nil
  go_simp; (first | ((go_at_call 32; refine (hcall.out _ kA).mono ?_; rintro e w8 ⟨rfl, fp8, hD8, k8, f8⟩; have hT8 := (show BlkT w8 w2.heap.size _ _ from (k8.block (show w2.heap.size < w7.drew.heap.size from h26') hn6).trans hZ7); have hb8 := (show BlkT w8 w5.heap.size _ _ from (k8.block (show w5.heap.size < w7.drew.heap.size from hl9) hn9).trans hb7); have hY8 := (show BlkT w8 w1.heap.size _ _ from (k8.block (show w1.heap.size < w7.drew.heap.size from hl1') hn1).trans hY7); have hS8 := (show (fun w' => (w'.cell? ⟨w5.heap.size, 0, none⟩ = some (.int .i64 (q.1.size : Int)) ∧ w'.cell? ⟨w5.heap.size, 1, none⟩ = some (.slice K1 m1 e1) ∧ w'.cell? ⟨w5.heap.size, 2, none⟩ = some (.slice K2 m2 e2) ∧ w'.cell? ⟨w5.heap.size, 3, none⟩ = some (.slice K3 m3 e3) ∧ w'.cell? ⟨w5.heap.size, 4, none⟩ = some (.int .i64 q.1.fuse) ∧ w'.cell? ⟨w5.heap.size, 5, none⟩ = some (.int .i64 (q.1.calls : Int)) ∧ w'.cell? ⟨w5.heap.size, 6, none⟩ = some (.bool q.1.down)) ∧ w'.cell? ⟨w1.heap.size, 1, none⟩ = some (.int .i64 place)) w8 from ⟨seven_of hb8, (seven_of hY8).2.1⟩); obtain ⟨j1, j2, j3, j4⟩ := seven_set (fq := [w2.heap.size]) hT8 (by simp) (.int .i64 (q.1.size : Int)) (.slice K1 m1 e1) (.slice K2 m2 e2) (.slice K3 m3 e3) (.int .i64 q.1.fuse) (.int .i64 (q.1.calls : Int)) (.bool q.1.down) _ rfl; have hS9 := (show (fun w' => (w'.cell? ⟨w5.heap.size, 0, none⟩ = some (.int .i64 (q.1.size : Int)) ∧ w'.cell? ⟨w5.heap.size, 1, none⟩ = some (.slice K1 m1 e1) ∧ w'.cell? ⟨w5.heap.size, 2, none⟩ = some (.slice K2 m2 e2) ∧ w'.cell? ⟨w5.heap.size, 3, none⟩ = some (.slice K3 m3 e3) ∧ w'.cell? ⟨w5.heap.size, 4, none⟩ = some (.int .i64 q.1.fuse) ∧ w'.cell? ⟨w5.heap.size, 5, none⟩ = some (.int .i64 (q.1.calls : Int)) ∧ w'.cell? ⟨w5.heap.size, 6, none⟩ = some (.bool q.1.down)) ∧ w'.cell? ⟨w1.heap.size, 1, none⟩ = some (.int .i64 place)) (((((((w8.setCell ⟨w2.heap.size, 0, none⟩ (.int .i64 (q.1.size : Int))).setCell ⟨w2.heap.size, 1, none⟩ (.slice K1 m1 e1)).setCell ⟨w2.heap.size, 2, none⟩ (.slice K2 m2 e2)).setCell ⟨w2.heap.size, 3, none⟩ (.slice K3 m3 e3)).setCell ⟨w2.heap.size, 4, none⟩ (.int .i64 q.1.fuse)).setCell ⟨w2.heap.size, 5, none⟩ (.int .i64 (q.1.calls : Int))).setCell ⟨w2.heap.size, 6, none⟩ (.bool q.1.down)) from ⟨seven_of (j2 _ _ _ hne9 hb8), (seven_of (j2 _ _ _ hne1 hY8)).2.1⟩); have Fin := Lib.hid (And.intro (show BlkT (((((((w8.setCell ⟨w2.heap.size, 0, none⟩ (.int .i64 (q.1.size : Int))).setCell ⟨w2.heap.size, 1, none⟩ (.slice K1 m1 e1)).setCell ⟨w2.heap.size, 2, none⟩ (.slice K2 m2 e2)).setCell ⟨w2.heap.size, 3, none⟩ (.slice K3 m3 e3)).setCell ⟨w2.heap.size, 4, none⟩ (.int .i64 q.1.fuse)).setCell ⟨w2.heap.size, 5, none⟩ (.int .i64 (q.1.calls : Int))).setCell ⟨w2.heap.size, 6, none⟩ (.bool q.1.down)) _ _ _ from j1) (gone_A bw7 h26 h26' hfp k8 f8 hD8 j3)); obtain ⟨d0, d1, d2, d3, d4, d5, d6, df⟩ := sevenT hT8)) | skip); (try (go_wp2_with fail)); refine hK.out _ _ (by first | (first | with_reducible exact hS0 | with_reducible exact hS8 | with_reducible exact hS9) | ((try dsimp only); (first | with_reducible exact hS0 | with_reducible exact hS8 | with_reducible exact hS9))) (fun hHeld => ?_)
  clear hK K
  try simp only [Act.put, List.setIfInBounds_toArray, List.set_cons_zero, List.set_cons_succ]
  refine wpAnyH_take (i := 7) (oi := { dst := some 125, op := Op.binOp BinOp.eql 43 (Operand.tmp 123) (Operand.tmp 124) 43, type := 4, pos := "law.go:73", after := #[{ on := 5, ground := Ground.data }, { on := 6, ground := Ground.data }, { on := 8, ground := Ground.gcOnly Go.Departure.lateStores }], guard := none }) (v := ?_) rfl (by kernel_rfl) (by kernel_rfl) (by kernel_rfl) (fun _ _ _ h => h) (Or.inl ⟨by rfl, ?_⟩) (by assumption) ?_; rotate_left; · ((intro w hSw; (try dsimp only at hSw); go_simp) <;> with_reducible rfl)
  try simp only [Act.put, List.setIfInBounds_toArray, List.set_cons_zero, List.set_cons_succ]
  refine wpAnyH_ready (rs := [8]) (by kernel_rfl) (by simp) ?_
  refine AllReadyH.cons (o := { dst := none, op := Op.store 108 (Operand.tmp 6) (Operand.tmp 118), type := 0, pos := "law.go:73", after := #[{ on := 0, ground := Ground.data }, { on := 5, ground := Ground.chain }, { on := 0, ground := Ground.phase }, { on := 1, ground := Ground.textOnly Go.Departure.lateStores }, { on := 2, ground := Ground.textOnly Go.Departure.lateStores }, { on := 3, ground := Ground.textOnly Go.Departure.lateStores }, { on := 4, ground := Ground.textOnly Go.Departure.lateStores }, { on := 5, ground := Ground.textOnly Go.Departure.lateStoresUnsure }, { on := 6, ground := Ground.textOnly Go.Departure.lateStores }, { on := 7, ground := Ground.textOnly Go.Departure.lateStores }], guard := none }) rfl (fun K hK => ?_) AllReadyH.nil
  go_simp; (first | ((go_at_call 32; refine (hcall.out _ kA).mono ?_; rintro e w8 ⟨rfl, fp8, hD8, k8, f8⟩; have hT8 := (show BlkT w8 w2.heap.size _ _ from (k8.block (show w2.heap.size < w7.drew.heap.size from h26') hn6).trans hZ7); have hb8 := (show BlkT w8 w5.heap.size _ _ from (k8.block (show w5.heap.size < w7.drew.heap.size from hl9) hn9).trans hb7); have hY8 := (show BlkT w8 w1.heap.size _ _ from (k8.block (show w1.heap.size < w7.drew.heap.size from hl1') hn1).trans hY7); have hS8 := (show (fun w' => (w'.cell? ⟨w5.heap.size, 0, none⟩ = some (.int .i64 (q.1.size : Int)) ∧ w'.cell? ⟨w5.heap.size, 1, none⟩ = some (.slice K1 m1 e1) ∧ w'.cell? ⟨w5.heap.size, 2, none⟩ = some (.slice K2 m2 e2) ∧ w'.cell? ⟨w5.heap.size, 3, none⟩ = some (.slice K3 m3 e3) ∧ w'.cell? ⟨w5.heap.size, 4, none⟩ = some (.int .i64 q.1.fuse) ∧ w'.cell? ⟨w5.heap.size, 5, none⟩ = some (.int .i64 (q.1.calls : Int)) ∧ w'.cell? ⟨w5.heap.size, 6, none⟩ = some (.bool q.1.down)) ∧ w'.cell? ⟨w1.heap.size, 1, none⟩ = some (.int .i64 place)) w8 from ⟨seven_of hb8, (seven_of hY8).2.1⟩); obtain ⟨j1, j2, j3, j4⟩ := seven_set (fq := [w2.heap.size]) hT8 (by simp) (.int .i64 (q.1.size : Int)) (.slice K1 m1 e1) (.slice K2 m2 e2) (.slice K3 m3 e3) (.int .i64 q.1.fuse) (.int .i64 (q.1.calls : Int)) (.bool q.1.down) _ rfl; have hS9 := (show (fun w' => (w'.cell? ⟨w5.heap.size, 0, none⟩ = some (.int .i64 (q.1.size : Int)) ∧ w'.cell? ⟨w5.heap.size, 1, none⟩ = some (.slice K1 m1 e1) ∧ w'.cell? ⟨w5.heap.size, 2, none⟩ = some (.slice K2 m2 e2) ∧ w'.cell? ⟨w5.heap.size, 3, none⟩ = some (.slice K3 m3 e3) ∧ w'.cell? ⟨w5.heap.size, 4, none⟩ = some (.int .i64 q.1.fuse) ∧ w'.cell? ⟨w5.heap.size, 5, none⟩ = some (.int .i64 (q.1.calls : Int)) ∧ w'.cell? ⟨w5.heap.size, 6, none⟩ = some (.bool q.1.down)) ∧ w'.cell? ⟨w1.heap.size, 1, none⟩ = some (.int .i64 place)) (((((((w8.setCell ⟨w2.heap.size, 0, none⟩ (.int .i64 (q.1.size : Int))).setCell ⟨w2.heap.size, 1, none⟩ (.slice K1 m1 e1)).setCell ⟨w2.heap.size, 2, none⟩ (.slice K2 m2 e2)).setCell ⟨w2.heap.size, 3, none⟩ (.slice K3 m3 e3)).setCell ⟨w2.heap.size, 4, none⟩ (.int .i64 q.1.fuse)).setCell ⟨w2.heap.size, 5, none⟩ (.int .i64 (q.1.calls : Int))).setCell ⟨w2.heap.size, 6, none⟩ (.bool q.1.down)) from ⟨seven_of (j2 _ _ _ hne9 hb8), (seven_of (j2 _ _ _ hne1 hY8)).2.1⟩); have Fin := Lib.hid (And.intro (show BlkT (((((((w8.setCell ⟨w2.heap.size, 0, none⟩ (.int .i64 (q.1.size : Int))).setCell ⟨w2.heap.size, 1, none⟩ (.slice K1 m1 e1)).setCell ⟨w2.heap.size, 2, none⟩ (.slice K2 m2 e2)).setCell ⟨w2.heap.size, 3, none⟩ (.slice K3 m3 e3)).setCell ⟨w2.heap.size, 4, none⟩ (.int .i64 q.1.fuse)).setCell ⟨w2.heap.size, 5, none⟩ (.int .i64 (q.1.calls : Int))).setCell ⟨w2.heap.size, 6, none⟩ (.bool q.1.down)) _ _ _ from j1) (gone_A bw7 h26 h26' hfp k8 f8 hD8 j3)); obtain ⟨d0, d1, d2, d3, d4, d5, d6, df⟩ := sevenT hT8)) | skip); (try (go_wp2_with fail)); refine hK.out _ _ (by first | (first | with_reducible exact hS0 | with_reducible exact hS8 | with_reducible exact hS9) | ((try dsimp only); (first | with_reducible exact hS0 | with_reducible exact hS8 | with_reducible exact hS9))) (fun hHeld => ?_)
  clear hK K
  try simp only [Act.put, List.setIfInBounds_toArray, List.set_cons_zero, List.set_cons_succ]
  refine wpAnyH_take (i := 9) (oi := { dst := some 7, op := Op.assign (Operand.tmp 125), type := 4, pos := "law.go:73", after := #[{ on := 7, ground := Ground.data }, { on := 8, ground := Ground.chain }, { on := 0, ground := Ground.phase }, { on := 1, ground := Ground.phase }, { on := 2, ground := Ground.phase }, { on := 3, ground := Ground.phase }, { on := 4, ground := Ground.phase }, { on := 5, ground := Ground.phase }, { on := 6, ground := Ground.phase }, { on := 7, ground := Ground.phase }, { on := 8, ground := Ground.phase }], guard := none }) (v := ?_) rfl (by kernel_rfl) (by kernel_rfl) (by kernel_rfl) (fun _ _ _ h => h) (Or.inl ⟨by rfl, ?_⟩) (by assumption) ?_; rotate_left; · ((intro w hSw; (try dsimp only at hSw); go_simp) <;> with_reducible rfl)
  try simp only [Act.put, List.setIfInBounds_toArray, List.set_cons_zero, List.set_cons_succ]
  refine wpAnyH_done (by kernel_rfl) ?_ _
  all_goals
    obtain ⟨we, hwe⟩ : ∃ we, we = (((((((w8.setCell ⟨w2.heap.size, 0, none⟩ (.int .i64 (q.1.size : Int))).setCell ⟨w2.heap.size, 1, none⟩ (.slice K1 m1 e1)).setCell ⟨w2.heap.size, 2, none⟩ (.slice K2 m2 e2)).setCell ⟨w2.heap.size, 3, none⟩ (.slice K3 m3 e3)).setCell ⟨w2.heap.size, 4, none⟩ (.int .i64 q.1.fuse)).setCell ⟨w2.heap.size, 5, none⟩ (.int .i64 (q.1.calls : Int))).setCell ⟨w2.heap.size, 6, none⟩ (.bool q.1.down)) := ⟨_, rfl⟩
    rw [← hwe] at Fin ⊢
    obtain ⟨F1, F2, F3, F4⟩ := Fin.out
    obtain ⟨z0, z1, z2, z3, z4, z5, z6, _⟩ := sevenT F1
    have HF := Lib.hid (And.intro F2 (And.intro F3 F4))
    clear hwe F2 F3 F4 Fin hS9 hS8 j1 j2 j3 j4 d0 d1 d2 d3 d4 d5 d6 df f1 f2 f3 f4
    go_wp2
    refine bodyPost_ret (v := .tuple #[.agg #[.int .i64 (q.1.size : Int), .slice K1 m1 e1, .slice K2 m2 e2, .slice K3 m3 e3, .int .i64 q.1.fuse, .int .i64 (q.1.calls : Int), .bool q.1.down], .bool (r.2 == q.2)]) (by simp [results, Try.results66, go_sem, z0, z1, z2, z3, z4, z5, z6]) rfl ?_
    obtain ⟨F2, F3, F4⟩ := HF.out
    first | rw [Int.toNat_natCast, ← Hr.out] | rw [← Hr.out]
    exact ⟨_, _, rfl, fp8, F2, F3, F4⟩
end Go.Proofs.Ytdkcdojcglmlbaa.Disk
