/- The walk of disk.Pending. -/
import Derived.Test.YtdkcdojcglmlbaaDisk9
namespace Go.Proofs.Ytdkcdojcglmlbaa.Disk
open Go.RowKit
set_option linter.unusedVariables false
set_option maxRecDepth 100000

theorem wpList_allocT {P : Program} {w : World} {ops : Array Oper} {rest : List Oper} {o : Oper} {a : Act} {Q : Exit → Act → World → Prop} (hg : o.guard = none) (t : TypeId) (ho : o.op = .alloc t) (xs : List Value)
    (hz : ∀ w, (zeroValue t).run P w = .ok (arrV xs) w)
    (h : ∀ w1, BlkT w1 w.heap.size t xs → Below w.heap.size w w1 → wpList P ops Q rest (a.put o.dst (.pointer (some ⟨w.heap.size, 0, none⟩))) w1) : wpList P ops Q (o :: rest) a w :=
  wpList_alloc hg t ho xs hz (h _ (heap_alloc_new w _) (b1alloc _ _))
theorem wpList_storeT {P : Program} {w : World} {ops : Array Oper} {rest : List Oper} {o : Oper} {a : Act} {Q : Exit → Act → World → Prop} (hgd : o.guard = none) (t : TypeId) (x y : Operand) (ho : o.op = .store t x y)
    {g : Nat} {t' : TypeId} (hx : a.eval x = .pointer (some ⟨g, 0, none⟩)) {xs ys : List Value} (hy : a.eval y = arrV ys) (hb : BlkT w g t' xs) (hl : xs.length = ys.length) (h1 : ∀ v ∈ ys, v.oneCell' = true) (hi : (P.info? t).map (·.size) = some ys.length)
    (h : ∀ w1, BlkT w1 g t' ys → w.grownBy w1 (some g) → wpList P ops Q rest (a.put o.dst undef) w1) : wpList P ops Q (o :: rest) a w :=
  wpList_storeA hgd t x y ho hx hy ⟨t', hb⟩ hl h1 hi (h _ (setRow_heap w g _ _ t' _ hb) (setRow_grown _ _ _))
theorem BlkT.blk {w : World} {g : Nat} {t : TypeId} {xs : List Value} (h : BlkT w g t xs) : Blk w g xs := ⟨t, h⟩
set_option maxHeartbeats 2000000 in
theorem pending_any (g : Nat) (fp : List Nat) (s : St) (w : World) (h : DAt w g fp s) (hs : s.sz ≤ 100000000) :
    Calls Try.prog 71 #[.pointer (some ⟨g, 0, none⟩)] w fun e w' => ∃ v, e = .returned v ∧ NewW w w' s.pend v ∧ Below w.heap.size w w' := by
  obtain ⟨vk, vp, va, acs, hL⟩ := h
  obtain ⟨_, c1, _, _, _, _, _⟩ := six hL.blk
  obtain ⟨Ap, cp, rfl⟩ := own_form hL.pend
  have hal : s.pend.length ≤ 100000000 := by unfold St.sz at hs; omega
  obtain ⟨i0, hi0, hz0, hz1, hz2⟩ := info_parts infoWr
  go_enter Try.func71, Try.ntmps71
  go_wp2_with fail
  go_loopw [2, 12] (fun v i wr => ∃ k : Nat, k ≤ s.pend.length ∧ i = .int .i64 k ∧ ∃ bcs, wr.ownsRow w.heap.size 70 2 v k bcs ∧ Ents wr w.heap.size (s.pend.take k) bcs ∧ Below w.heap.size w wr) (fun _ i _ => s.pend.length - (intOf i).toNat)
  case atStart => exact ⟨0, by omega, rfl, [], own_nil _ _ _ _, fun i hi => absurd hi (by simp), Below.refl _ _⟩
  case round =>
    obtain ⟨k, hk, rfl, bcs, own, ents, bel⟩ := hrel
    by_cases hlt : k < s.pend.length
    · have hLk := hL.on bel
      obtain ⟨gp, cp', e0, _⟩ := own_some hLk.pend (by omega)
      obtain ⟨rfl, _, rfl⟩ : Ap = some ⟨gp, 0, none⟩ ∧ s.pend.length = s.pend.length ∧ cp = cp' := by injection e0 with e1 e2 e3; exact ⟨e1, rfl, e3⟩
      have hrg := pend_range hLk k hlt
      have hok := hLk.ok.pend _ (List.getElem_mem hlt)
      have htk : s.pend.take (k + 1) = s.pend.take k ++ [s.pend[k]] := List.take_succ_eq_append_getElem hlt
      obtain ⟨x, hx⟩ : ∃ x, x = s.pend[k] := ⟨_, rfl⟩
      rw [← hx] at hrg hok htk
      have Htk := Lib.hid htk
      have hszw := wcells_szW hok.2
      have huw := Try.underlying140
      have hxl := wcells_len hok.2
      have hok2 := Lib.hid hok.2
      clear hx htk e0 hok hL hLk
      go_wp2_with (first
        | ((with_reducible show wpList _ _ _ (⟨some 15, _, _, _, _, _⟩ :: _) _ _); refine wpList_load_mid rfl _ _ rfl gp (k * 513) rfl (wcells x) _ hrg huw rfl hszw ?_)
        | ((with_reducible show wpList _ _ _ (⟨some 4, _, _, _, _, _⟩ :: _) _ _); refine wpList_allocT rfl _ rfl (wcells (0, zero512)) zeroW ?_; intro w2 hb2 bw2)
        | ((with_reducible show wpList _ _ _ (⟨none, .store 140 (.tmp 4) _, _, _, _, _⟩ :: _) _ _); refine wpList_storeT rfl _ _ _ rfl rfl (ys := wcells x) rfl hb2 (by rw [hxl, wcells_len (by rfl)]) (wcells_one _) hszw ?_; intro w3 hb3 hg3; have i0' := hb3.blk.cell (k := 0) (by rw [hxl]; omega); have hq1 := blk_bytes hb3.blk; have b3 := below_row bw2 hg3 (Nat.le_refl _) bw2.size))
      have hne4 : u2.ownBlock ≠ some wr.heap.size := fun e => by have := (own.lt _ e).2; omega
      have hlw : wr.heap.size < w3.heap.size := lt_of_block hb3
      have hbs : w.heap.size ≤ w3.heap.size := Nat.le_trans bel.size b3.size
      have own3 := own_on own b3
      have k0 : (w3.alloc (.cells #[.int .i64 (x.1 : Int), .slice (some ⟨wr.heap.size, 1, none⟩) 512 512] 70)).cell? ⟨wr.heap.size, 0, none⟩ = some (.int .i64 (x.1 : Int)) := (World.cell?_of_block (Below.heap_alloc w3 _ _ hlw)).trans i0'
      have hlt4 : wr.heap.size < (w3.alloc (.cells #[.int .i64 (x.1 : Int), .slice (some ⟨wr.heap.size, 1, none⟩) 512 512] 70)).heap.size := Nat.lt_of_lt_of_le hlw (b1alloc w3 _).size
      have own4 : (w3.alloc (.cells #[.int .i64 (x.1 : Int), .slice (some ⟨wr.heap.size, 1, none⟩) 512 512] 70)).ownsRow w.heap.size 70 2 u2 k bcs := own3.alloc _
      have hle4 : w.heap.size ≤ (w3.alloc (.cells #[.int .i64 (x.1 : Int), .slice (some ⟨wr.heap.size, 1, none⟩) 512 512] 70)).heap.size := Nat.le_trans hbs (b1alloc w3 _).size
      go_region_held3 (fun w' => w'.cell? ⟨wr.heap.size, 0, none⟩ = some (.int .i64 (x.1 : Int))) (first | exact i0' | exact k0 | exact l0) (first
        | ((refine step_append_rd _ (by rfl) _ _ _ (by rfl) w.heap.size 70 i0 _ 2 32 Try.underlying66 hi0 hz0 hz1 hz2 rfl (by omega) u2 k bcs (by rfl) ?_ _ 1 1 [.int .i64 (x.1 : Int), .slice (some ⟨wr.heap.size, 1, none⟩) 512 512] (by rfl) (by rfl) ?_ (by simp [Value.oneCell']) (by simp only [maxLen]; omega) (by omega) ?_ ?_); (· exact own4); (· exact Rd.lit _ _ _ _ _ rfl (by simp)); (· exact hle4); intro v5 w5 own5 hg5 hat5; have l0 := (World.cell?_of_block (hg5.block wr.heap.size hlt4 (fun e => hne4 e.symm))).trans k0; have g5 := grown_trans (grown_alloc_drew w3 _ u2.ownBlock) hg5))
      have entN : Ent w3 w.heap.size x (.int .i64 (x.1 : Int)) (.slice (some ⟨wr.heap.size, 1, none⟩) x.2.length 512) := ⟨rfl, wr.heap.size, 1, 512, _, 140, rfl, bel.size, by rw [hok2.out]; exact Nat.le_refl _, by unfold maxLen; omega, hb3, by decide, hq1⟩
      rw [hok2.out] at entN
      have ents3 := ents.on b3
      have hfin := Lib.hid (show Ents w5 w.heap.size (s.pend.take (k + 1)) (bcs ++ [.int .i64 (x.1 : Int), .slice (some ⟨wr.heap.size, 1, none⟩) 512 512]) by
        rw [Htk.out]
        refine (ents3.grown own3 g5).snoc ?_ (entN.grown own3 g5)
        rw [own.1, List.length_take, Nat.min_eq_left (Nat.le_of_lt hlt)])
      have hB := Lib.hid (show Below w.heap.size w w5 from (bt bel b3).grown g5 hbs (fun q hq => own_block own hq))
      have Own5 := Lib.hid own5
      clear entN ents3 ents own5 hg5 g5 own3 own4 own hb3 hb2 hat5 b3
      go_wp2
      go_roundw
      case rel => exact ⟨k + 1, by omega, by go_num, _, Own5.out, hfin.out, hB.out⟩
      case measure => simp [intOf]; omega
    · obtain rfl : k = s.pend.length := by omega
      rw [List.take_length] at ents
      go_wp2
      go_ret
      exact ⟨_, rfl, ⟨bcs, own, ents⟩, bel⟩
end Go.Proofs.Ytdkcdojcglmlbaa.Disk
