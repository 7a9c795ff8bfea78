/- DiskPlays: behind the call of do: the law's own variables and both disks, whichever came first, the call or the variable -/
import Derived.Test.YtdkcdojcglmlbaaPlay1
namespace Go.Proofs.Ytdkcdojcglmlbaa.Disk
open Go.ChangeShapes Go.WideShapes Go.ChangeAt Go.RowKit Go.Joins
set_option linter.unusedVariables false
def Mid (wr : World) (g T7 T9 : Nat) (fq fq5 : List Nat) (s5 : St) (xs ys : List Value) (we : World) : Prop :=
  BlkT we T9 108 ys ∧ BlkT we T7 108 xs ∧ RAt we (T7 :: fq5) (.agg ys.toArray) s5 ∧ DAt we g fq5 s5 ∧ Keep fq wr we ∧ Fresh wr fq fq5 ∧ T9 ≠ T7 ∧ T7 ∉ fq5
theorem mid_A {wr w5 : World} {g T7 : Nat} {fq fq5 : List Nat} {s5 : St} {xs ys : List Value} (hB7 : BlkT wr T7 108 xs) (hT : T7 ∉ fq) (hl : ∀ j ∈ fq, j < wr.heap.size)
    (hD5 : DAt w5 g fq5 s5) (hx5 : RAt w5 ([T7] ++ fq5) (.agg ys.toArray) s5) (k5 : Keep fq wr.drew w5) (f5 : Fresh wr.drew fq fq5) :
    Mid wr g T7 w5.heap.size fq fq5 s5 xs ys (w5.alloc (.cells ys.toArray 108)) := by
  have kB : Keep fq wr w5 := k5
  have f : Fresh wr fq fq5 := f5
  have h7 := lt_of_block hB7
  have hB5 := (kB.block h7 hT).trans hB7
  have b := b1alloc w5 (.cells ys.toArray 108)
  refine ⟨heap_alloc_new w5 _, (b.block _ (lt_of_block hB5)).trans hB5, hx5.on b, hD5.on b, kB.alloc _, f, ?_, f.out h7 hT⟩
  have := lt_of_block hB5
  omega
theorem mid_B {wr w5 we : World} {g T7 : Nat} {fq fq5 : List Nat} {s5 : St} {o : Obj} {xs : List Value} {u0 u1 u2 u3 u4 u5 u6 v0 v1 v2 v3 v4 v5 v6 : Value} (hB7 : BlkT wr T7 108 xs) (hT : T7 ∉ fq) (hl : ∀ j ∈ fq, j < wr.heap.size)
    (hD5 : DAt w5 g fq5 s5) (hx5 : RAt w5 ([wr.heap.size, T7] ++ fq5) (.agg [v0, v1, v2, v3, v4, v5, v6].toArray) s5) (k5 : Keep fq (wr.alloc o).drew w5) (f5 : Fresh (wr.alloc o).drew fq fq5) (hZ : BlkT w5 wr.heap.size 108 [u0, u1, u2, u3, u4, u5, u6])
    (he : we = ((((((w5.setCell ⟨wr.heap.size, 0, none⟩ v0).setCell ⟨wr.heap.size, 1, none⟩ v1).setCell ⟨wr.heap.size, 2, none⟩ v2).setCell ⟨wr.heap.size, 3, none⟩ v3).setCell ⟨wr.heap.size, 4, none⟩ v4).setCell ⟨wr.heap.size, 5, none⟩ v5).setCell ⟨wr.heap.size, 6, none⟩ v6) :
    Mid wr g T7 wr.heap.size fq fq5 s5 xs [v0, v1, v2, v3, v4, v5, v6] we := by
  have kB : Keep fq wr w5 := ((Keep.refl fq wr).alloc o).trans k5 (Fresh.refl _ _)
  have h7 := lt_of_block hB7
  have hsz : (wr.alloc o).drew.heap.size = wr.heap.size + 1 := by simp [World.drew]
  have f : Fresh wr fq fq5 := fun j hj => (f5 j hj).elim .inl (fun h => .inr (by omega))
  have hn9 : wr.heap.size ∉ fq5 := f5.out (by omega) (fun e => Nat.lt_irrefl _ (hl _ e))
  have hB5 := (kB.block h7 hT).trans hB7
  obtain ⟨j1, j2, j3, j4⟩ := seven_set (fq := [wr.heap.size]) hZ (by simp) v0 v1 v2 v3 v4 v5 v6 we he
  have k9 : Keep (wr.heap.size :: T7 :: fq5) w5 we := j3.more (fun j hj => by rw [List.mem_singleton] at hj; simp [hj])
  refine ⟨j1, j2 _ _ _ (by omega) hB5, (RAt.keep (fp' := wr.heap.size :: T7 :: fq5) hx5 k9 (Fresh.refl _ _)).less (fun j hj => List.mem_cons_of_mem _ hj), hD5.keep j3 (fun j hj e => by rw [List.mem_singleton] at e; subst e; exact hn9 hj), ?_, f, by omega, f.out h7 hT⟩
  exact ⟨j3.1.trans kB.1, j3.2.1.trans kB.2.1, j3.2.2.1.trans kB.2.2.1, Nat.le_trans kB.size j3.size, fun j hj hn2 => (j3.block (Nat.lt_of_lt_of_le hj kB.size) (fun e => by rw [List.mem_singleton] at e; omega)).trans (kB.block hj hn2)⟩
end Go.Proofs.Ytdkcdojcglmlbaa.Disk
