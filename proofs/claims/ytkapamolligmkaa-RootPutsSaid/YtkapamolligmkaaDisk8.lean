/- The walk of disk.Restart. -/
import Derived.Test.YtkapamolligmkaaDisk7
import Derived.Laws.IdiomCopy
namespace Go.Proofs.Ytkapamolligmkaa.Disk
open Go.RowKit
set_option linter.unusedVariables false
set_option maxRecDepth 100000

theorem splice_zero (xs ys : List Value) (h : ys.length ≤ xs.length) : splice xs 0 ys = ys ++ xs.drop ys.length := by
  apply List.ext_getElem?
  intro k
  rw [splice_get _ _ _ _ (by omega)]
  by_cases hk : k < ys.length
  · rw [if_pos ⟨by omega, by omega⟩, List.getElem?_append_left hk, Nat.sub_zero]
  · rw [if_neg (by omega), List.getElem?_append_right (by omega), List.getElem?_drop]
    congr 1; omega
/-- a disk whose first pending writes have met their fates -/
def after (s : St) (keep : List Int) (torn a : Int) (k : Nat) : St := { s with all := fates keep torn a 0 (s.pend.take k) s.all }
theorem after_zero (s : St) (keep : List Int) (torn a : Int) : after s keep torn a 0 = s := by simp [after, fates]
theorem after_succ (s : St) (keep : List Int) (torn a : Int) (k : Nat) (h : k < s.pend.length) : after s keep torn a (k + 1) = { s with all := fate keep torn a k s.pend[k] (after s keep torn a k).all } := by
  simp only [after]
  rw [List.take_succ_eq_append_getElem h, fates_snoc, List.length_take, Nat.zero_add, Nat.min_eq_left (Nat.le_of_lt h)]
theorem after_sz (s : St) (keep : List Int) (torn a : Int) (k : Nat) : (after s keep torn a k).sz ≤ 2 * s.sz := by
  have := fates_len keep torn a (s.pend.take k) 0 s.all
  rw [List.length_take] at this
  unfold St.sz after
  simp only []
  omega
theorem cut_eq (a : Int) : ((a.tmod 513 + 513) % 513 : Int) = (cutAt a : Int) := by
  have h1 : a.tmod 513 % 513 = a % 513 := by
    have := Int.tmod_add_mul_tdiv a 513
    omega
  unfold cutAt
  omega
theorem tmod_lo (a : Int) : -513 < a.tmod 513 ∧ a.tmod 513 < 513 := by
  have h1 : a.tmod 513 < 513 := Int.tmod_lt_of_pos a (by omega)
  have h2 : (-a).tmod 513 < 513 := Int.tmod_lt_of_pos (-a) (by omega)
  have h3 := Int.neg_tmod a 513
  omega
theorem Lies.reset {w : World} {g : Nat} {fp : List Nat} {s : St} {vk vp va : Value} {acs : List Value} (h : Lies w g fp s vk vp va acs) :
    Lies (((w.setCell ⟨g, 1, none⟩ (.slice none 0 0)).setCell ⟨g, 5, none⟩ (.bool false)).setCell ⟨g, 3, none⟩ (.int .i64 (-1))) g fp { s with pend := [], down := false, fuse := -1 } vk (.slice none 0 0) va acs ∧
      Keep [g] w (((w.setCell ⟨g, 1, none⟩ (.slice none 0 0)).setCell ⟨g, 5, none⟩ (.bool false)).setCell ⟨g, 3, none⟩ (.int .i64 (-1))) := by
  obtain ⟨h1, k1⟩ := h.clear
  have k2 := (keep_set (w.setCell ⟨g, 1, none⟩ (.slice none 0 0)) g 5 (.bool false)).trans (keep_set _ g 3 (.int .i64 (-1))) (Fresh.refl _ _)
  exact ⟨h1.turn k2 (by simp [World.setCell, Array.getElem?_modify, h.blk]) rfl rfl rfl ⟨h1.ok.size, (by intro x hx; cases hx), h1.ok.all, by constructor <;> simp only [] <;> omega⟩, k1.trans k2 (Fresh.refl _ _)⟩
set_option maxHeartbeats 4000000 in
theorem restart_any (g : Nat) (fp : List Nat) (s : St) (keep : List Int) (A : Option Addr) (n c : Nat) (torn a : Int) (w : World) (h : DAt w g fp s) (hs : s.sz ≤ 100000000) (hn : n = keep.length) (hr : RdN w fp A (keep.map eI)) (hkl : keep.length ≤ 1000000)
    (ht0 : -9223372036854775808 ≤ torn) (ht1 : torn ≤ 9223372036854775807) (ha0 : -9223372036854775808 ≤ a) (ha1 : a ≤ 9223372036854775807) :
    Calls Try.prog 24 #[.pointer (some ⟨g, 0, none⟩), .slice A n c, .int .i64 torn, .int .i64 a] w fun e w' => e = .returned (.tuple #[]) ∧ ∃ fp', DAt w' g fp' (restart s keep torn a) ∧ Keep fp w w' ∧ Fresh w fp fp' := by
  subst hn
  obtain ⟨vk, vp, va, acs, hL⟩ := h
  have hcut := cut_eq a
  obtain ⟨htm0, htm1⟩ := tmod_lo a
  have hcl := cutAt_le a
  obtain ⟨m, hm⟩ : ∃ m, m = cutAt a := ⟨_, rfl⟩
  rw [← hm] at hcut hcl
  obtain ⟨z, hz⟩ : ∃ z, z = a.tmod 513 := ⟨_, rfl⟩
  have Hm := Lib.hid hm
  have Hz := Lib.hid hz
  have hend : after s keep torn a s.pend.length = { s with all := fates keep torn a 0 s.pend s.all } := by rw [after, List.take_length]
  have Hend := Lib.hid hend
  have hpl : s.pend.length ≤ 100000000 := by unfold St.sz at hs; omega
  have hL1 := hL.on (b1alloc w (.cells #[.slice A keep.length c] 53))
  obtain ⟨_, d1, _, _, _, _, _⟩ := six hL1.blk
  have hbx : (w.alloc (.cells #[.slice A keep.length c] 53)).heap[w.heap.size]? = some (.cells #[.slice A keep.length c] 53 (0, 0)) := heap_alloc_new w _
  have hr1 : RdN (w.alloc (.cells #[.slice A keep.length c] 53)) fp A (keep.map eI) := hr.on (b1alloc _ _)
  have k01 : Keep fp w (w.alloc (.cells #[.slice A keep.length c] 53)) := Keep.of_below (b1alloc _ _) fp
  obtain ⟨Ap, cp, rfl⟩ := own_form hL.pend
  clear hm hz hend
  go_enter Try.func24, Try.ntmps24
  go_wp2_with fail
  rw [hcut]
  clear d1
  obtain ⟨w1, hw1⟩ : ∃ w1, w1 = w.alloc (.cells #[.slice A keep.length c] 53) := ⟨_, rfl⟩
  rw [← hw1] at hL1 hbx hr1 k01 ⊢
  have hwl : w.heap.size < w1.heap.size := lt_of_block hbx
  have hwf : w.heap.size ∉ fp := fun e => by have := hL.lt _ e; omega
  clear hw1 hL hr
  go_loopw [25] (fun i wr => ∃ k : Nat, k ≤ s.pend.length ∧ i = .int .i64 k ∧ ∃ fpk vak acsk, Lies wr g fpk (after s keep torn a k) vk (.slice Ap s.pend.length cp) vak acsk ∧ Keep fp w1 wr ∧ Fresh w1 fp fpk) (fun i _ => s.pend.length - (intOf i).toNat)
  case atStart => exact ⟨0, by omega, rfl, fp, va, acs, by rw [after_zero]; exact hL1, Keep.refl _ _, Fresh.refl _ _⟩
  case round =>
    obtain ⟨k, hk, rfl, fpk, vak, acsk, hLk, kk, fk⟩ := hrel
    by_cases hlt : k < s.pend.length
    · obtain ⟨gp, cp', e0, _⟩ := own_some hLk.pend (by show 0 < s.pend.length; omega)
      obtain ⟨rfl, _, rfl⟩ : Ap = some ⟨gp, 0, none⟩ ∧ s.pend.length = s.pend.length ∧ cp = cp' := by injection e0 with e1 e2 e3; exact ⟨e1, rfl, e3⟩
      have hrg := pend_range hLk k hlt
      have hms := after_succ s keep torn a k hlt
      have hok := hLk.ok.pend _ (List.getElem_mem hlt)
      simp only [after] at hrg hok
      have hokA := hLk.ok.all
      obtain ⟨x, hx⟩ : ∃ x, x = s.pend[k] := ⟨_, rfl⟩
      rw [← hx] at hrg hms hok
      have hszw := wcells_szW hok.2
      have huw := Try.underlying89
      have hub := Try.underlying83
      have hszb := szBl hok.2
      have hxl := wcells_len hok.2
      have hszm : (after s keep torn a k).sz ≤ 1000000000 := by have := after_sz s keep torn a k; omega
      have hpk : x.1 < (after s keep torn a k).size := hok.1
      have hok2 := hok.2
      have hbxk : wr.heap[w.heap.size]? = some (.cells #[.slice A keep.length c] 53 (0, 0)) := (kk.block hwl hwf).trans hbx
      have hrk := hr1.keep kk fk
      clear hx e0
      by_cases hto : (k : Int) = torn
      · have hft : fate keep torn a k x (after s keep torn a k).all = (after s keep torn a k).all ++ [(x.1, x.2.take m ++ (kept (after s keep torn a k).all x.1).drop m)] := by rw [fate, if_pos hto, Hm.out]
        have hK := kept_len hokA x.1
        obtain ⟨K, hKd⟩ : ∃ K, K = kept (after s keep torn a k).all x.1 := ⟨_, rfl⟩
        rw [← hKd] at hft hK
        rw [hft] at hms
        have tb := beq_yes hto
        have Hms := Lib.hid hms
        have Hto := Lib.hid hto
        obtain ⟨gk, ck, rfl, _⟩ := own_some hLk.kept (by omega)
        obtain ⟨c0, _, _, _, _, _, _⟩ := six hLk.blk
        have hgl : g < wr.heap.size := lt_of_block hLk.blk
        have hkr : wr.rangeAt gk (x.1 * 512) (K.map e8) := own_range hLk.kept (fun j hj => by
          rw [List.length_map, hK] at hj
          have := flat_at (fun y => (kept (after s keep torn a k).all y).map e8) 512 (List.range (after s keep torn a k).size) (fun y _ => by rw [List.length_map, kept_len hokA]) x.1 j (by simpa using hpk) hj
          rw [List.getElem_range] at this
          rw [hKd]
          exact this)
        have hszK := szBl hK
        have hKl : (K.map e8).length = 512 := by rw [List.length_map, hK]
        have hpI : (x.1 : Int) < ((after s keep torn a k).size : Int) := by omega
        have hpI' : (x.1 : Int) < (s.size : Int) := hpI
        clear hms hft hto hKd
        go_wp2_with (first
            | ((with_reducible show wpList _ _ _ (⟨some 29, _, _, _, _, _⟩ :: _) _ _); refine wpList_load_mid rfl _ _ rfl gp (k * 513) rfl (wcells x) _ hrg huw rfl hszw ?_)
            | ((with_reducible show wpList _ _ _ (⟨some 11, _, _, _, _, _⟩ :: _) _ _); refine wpList_allocN rfl _ rfl (wcells (0, zero512)) zeroW ?_; intro w2 hb2 bw2 hs2)
            | ((with_reducible show wpList _ _ _ (⟨none, .store 89 (.tmp 11) _, _, _, _, _⟩ :: _) _ _); refine wpList_storeN rfl _ _ _ rfl rfl (ys := wcells x) rfl hb2 (by rw [hxl, wcells_len (by rfl)]) (wcells_one _) hszw ?_; intro w3 hb3 hg3; have hq0 := hb3.cell (k := 0) (by rw [hxl]; omega); have hq1 := blk_bytes hb3; have b3 := below_row bw2 hg3 (Nat.le_refl _) bw2.size))
        have hgk3 : gk < wr.heap.size := by obtain ⟨cs, hcs⟩ := own_blk hLk.kept; exact lt_of_block hcs
        have d0 : w3.cell? ⟨g, 0, none⟩ = some (.slice (some ⟨gk, 0, none⟩) (after s keep torn a k).size ck) := (b3.cell (p := ⟨g, 0, none⟩) hgl).trans c0
        have dk : w3.rangeAt gk (x.1 * 512) (K.map e8) := fun j v hv => (b3.cell (p := ⟨gk, x.1 * 512 + j, none⟩) hgk3).trans (hkr j v hv)
        obtain ⟨W1, hW1⟩ : ∃ W1, W1 = w3.drew.alloc (.cells (zero512.map e8).toArray 83) := ⟨_, rfl⟩
        have hBl : wr.heap.size < w3.heap.size := hb3.lt
        have hread : ∀ w', Bt [w3.drew, W1, W1.setRow w3.heap.size (K.map e8).toArray] (0, 1) w' → w'.cell? ⟨g, 0, none⟩ = some (.slice (some ⟨gk, 0, none⟩) (after s keep torn a k).size ck) ∧ w'.cell? ⟨wr.heap.size, 0, none⟩ = some (.int .i64 (x.1 : Int)) ∧ w'.rangeAt gk (x.1 * 512) (K.map e8) := by
          rintro w' ⟨q, _, hq, hw'⟩
          have hq1' : q ≤ 1 := hq
          match q, hq1' with
          | 0, _ => injection hw' with hw'; subst hw'; exact ⟨d0, hq0, dk⟩
          | 1, _ =>
            injection hw' with hw'
            subst hw'
            rw [hW1]
            have hB : ∀ p : Addr, p.block < w3.heap.size → (w3.drew.alloc (.cells (zero512.map e8).toArray 83)).cell? p = w3.cell? p := fun p hp => World.cell?_of_block (Below.heap_alloc w3.drew _ p.block hp)
            exact ⟨(hB ⟨g, 0, none⟩ (Nat.lt_trans hgl hBl)).trans d0, (hB ⟨wr.heap.size, 0, none⟩ hBl).trans hq0, fun j v hv => (hB ⟨gk, x.1 * 512 + j, none⟩ (Nat.lt_trans hgk3 hBl)).trans (dk j v hv)⟩
        have hB1 : Blk W1 w3.heap.size (zero512.map e8) := by rw [hW1]; exact ⟨_, heap_alloc_new w3.drew _⟩
        have HW1 := Lib.hid hW1
        have bW1 : Below w3.heap.size w3 W1 := by rw [hW1]; exact ((Below.refl _ w3).drew).alloc (Nat.le_refl _) _
        clear hW1 d0 dk
        have hzl : (zero512.map e8).length = (K.map e8).length := by rw [hKl, List.length_map]; rfl
        refine region_steps 0 [8, 9] [(3, (0, 1)), (5, (0, 1)), (7, (0, 1))] [w3.drew, W1, W1.setRow w3.heap.size (K.map e8).toArray] (by kernel_rfl) (by kernel_rfl) (by kernel_rfl) (by decide) rfl rfl ?_
        repeat (first
          | ((with_reducible show wpPs _ _ _ _ _ _ _ (⟨some 37, _, _, _, _, _⟩ :: _) _); refine wpPs_read rfl (by rfl) (by rfl) (.slice (some ⟨gk, 0, none⟩) (after s keep torn a k).size ck) ?_ ?_; (· intro w' hw'; have hcw := (hread w' hw').1; go_simp); go_frame)
          | ((with_reducible show wpPs _ _ _ _ _ _ _ (⟨some 39, _, _, _, _, _⟩ :: _) _); refine wpPs_read rfl (by rfl) (by rfl) (.int .i64 (x.1 : Int)) ?_ ?_; (· intro w' hw'; have hcw := (hread w' hw').2.1; go_simp); go_frame)
          | ((with_reducible show wpPs _ _ _ _ _ _ _ (⟨some 41, _, _, _, _, _⟩ :: _) _); refine wpPs_mid rfl (by rfl) (by rfl) _ _ rfl gk (x.1 * 512) rfl (K.map e8) _ (fun w' hw' => (hread w' hw').2.2) hub rfl hszK ?_; go_frame)
          | ((with_reducible show wpPs _ _ _ _ _ _ _ (⟨some 12, _, _, _, _, _⟩ :: _) _); refine wpPs_alloc rfl (by rfl) (by rfl) _ rfl w3.drew (zero512.map e8) zeroB rfl (by rw [HW1.out]; rfl) ?_; go_frame)
          | ((with_reducible show wpPs _ _ _ _ _ _ _ (⟨none, .store _ (.tmp 12) _, _, _, _, _⟩ :: _) _); refine wpPs_storeA rfl (by rfl) (by rfl) _ _ _ rfl W1 rfl (ys := K.map e8) rfl hB1 hzl (e8_one _) hszK rfl rfl rfl ?_)
          | (refine wpPs_read rfl (by rfl) (by rfl) ?_ ?_ ?_; rotate_left; (· intro w' hw'; go_simp; exact rfl); go_frame))
        refine wpPs_nil ?_
        have hB5 : Blk (W1.setRow w3.heap.size (K.map e8).toArray) w3.heap.size (K.map e8) := hB1.setRow
        have b5 : Below w3.heap.size w3 (W1.setRow w3.heap.size (K.map e8).toArray) := below_setRow bW1 (Nat.le_refl _) _
        obtain ⟨w5, hw5⟩ : ∃ w5, w5 = W1.setRow w3.heap.size (K.map e8).toArray := ⟨_, rfl⟩
        rw [← hw5] at hB5 b5 ⊢
        clear hread hw5 hB1 bW1 HW1
        have hb5 := hb3.on b5
        have hp0 := hb5.cell (k := 0) (by rw [hxl]; omega)
        have hp1 := blk_bytes hb5
        have b35 := bt b3 b5
        obtain ⟨cs, hcs⟩ : ∃ cs, cs = (x.2.take m).map e8 := ⟨_, rfl⟩
        have hcsl : cs.length = m := by rw [hcs, List.length_map, List.length_take]; omega
        have hcopy := fun ty => run_copy_cells (P := Try.prog) w5.drew 23 23 ty 5 w3.heap.size 0 m 512 ⟨wr.heap.size, 1, none⟩ 512 512 cs Try.underlying23 (by kernel_rfl) (by rw [hcsl]; show m = min 512 m; omega) (fun j v hv => by
          rw [Addr.add_lit]
          refine hp1 j v ?_
          rw [hcs, List.getElem?_map, List.getElem?_take] at hv
          rw [List.getElem?_map]
          split at hv
          · exact hv
          · simp at hv) (fun j hj => by rw [Nat.zero_add, show w5.drew.cell? ⟨w3.heap.size, j, none⟩ = _ from hB5.cell (k := j) (by rw [hKl]; omega)]; rfl) (fun j _ => hB5.free _) (by rw [hcs]; exact e8_one _)
        rw [hcsl] at hcopy
        have hcsl' : cs.length = m := hcsl
        have Hcopy := Lib.hid hcopy
        have hm0 : (0 : Int) ≤ (m : Int) := by omega
        have hm5 : (m : Int) ≤ 512 := by omega
        have Hcs := Lib.hid hcs
        clear hcopy hcs hcsl hb3 hb2 hg3 bw2 hs2 hq0 hq1
        go_wp2
        refine region_steps 0 [4] [] [w5.drew, w5.drew.setCells w3.heap.size 0 cs] (by kernel_rfl) (by kernel_rfl) (by kernel_rfl) (by decide) rfl rfl ?_
        repeat (first
          | ((with_reducible show wpPs _ _ _ _ _ _ _ (⟨some 46, _, _, _, _, _⟩ :: _) _); refine wpPs_copy rfl (by rfl) (by rfl) _ _ _ _ rfl w5.drew _ _ _ _ rfl rfl rfl rfl (Hcopy.out _) ?_; go_frame)
          | (refine wpPs_read rfl (by rfl) (by rfl) ?_ ?_ ?_; rotate_left; (· intro w' hw'; go_simp; exact rfl); go_frame))
        refine wpPs_nil ?_
        have hB6 : Blk (w5.drew.setCells w3.heap.size 0 cs) w3.heap.size ((x.2.take m ++ K.drop m).map e8) := by
          have h6 := Blk.setCells cs 0 (w := w5.drew) (hB5.drewN 1)
          rw [splice_zero _ _ (by rw [hcsl', hKl]; omega)] at h6
          rw [List.map_append, ← Hcs.out, List.map_drop]
          rw [hcsl'] at h6
          exact h6
        have g6 : w5.grownBy (w5.drew.setCells w3.heap.size 0 cs) (some w3.heap.size) := grown_trans (show w5.grownBy w5.drew (some w3.heap.size) from ⟨rfl, rfl, rfl, Nat.le_refl _, fun _ _ _ => rfl⟩) (setCells_grown w3.heap.size cs 0 w5.drew)
        have b6 : Below wr.heap.size wr (w5.drew.setCells w3.heap.size 0 cs) := below_row b35 g6 (Nat.le_of_lt hBl) b35.size
        have hp6 : (w5.drew.setCells w3.heap.size 0 cs).cell? ⟨wr.heap.size, 0, none⟩ = some (.int .i64 (x.1 : Int)) := (hb5.grown g6 (fun e => by injection e with e; omega)).cell (k := 0) (by rw [hxl]; omega)
        have hYl : (x.2.take m ++ K.drop m).length = 512 := by rw [List.length_append, List.length_take, List.length_drop]; omega
        obtain ⟨Y, hY⟩ : ∃ Y, Y = x.2.take m ++ K.drop m := ⟨_, rfl⟩
        obtain ⟨w6, hw6⟩ : ∃ w6, w6 = w5.drew.setCells w3.heap.size 0 cs := ⟨_, rfl⟩
        rw [← hY] at hB6 hYl Hms
        rw [← hw6] at hB6 b6 hp6 ⊢
        have hszY := szBl hYl
        clear hY hw6 hB5 b5 b35 g6 hb5 hp0 hp1 Hcopy
        go_wp2_with ((with_reducible show wpList _ _ _ (⟨some 50, _, _, _, _, _⟩ :: _) _ _); refine wpList_loadA rfl _ _ rfl rfl hB6 hub hszY ?_)
        refine (keep_any g fpk _ _ _ vak acsk x.1 Y w6 (hLk.on b6) hszm hpk hYl).mono ?_
        rintro e w7 ⟨rfl, fp4, va4, acs4, hL4, k4, f4⟩
        have k5 := (kk.trans (Keep.of_below b6 fp) (Fresh.refl _ _)).trans k4 fk
        have f5 := fk.trans (Nat.le_trans kk.size b6.size) f4
        clear k4 f4 hB6 b3 b6 hp6 hLk
        go_wp2
        go_roundw
        case rel => exact ⟨k + 1, by omega, by go_num, fp4, va4, acs4, by rw [Hms.out]; exact hL4, k5, f5⟩
        case measure => simp [intOf]; omega
      · have tb := beq_no hto
        cases hwh : whole keep k with
        | true =>
          have hft : fate keep torn a k x (after s keep torn a k).all = (after s keep torn a k).all ++ [x] := by rw [fate, if_neg hto, if_pos hwh]
          rw [hft] at hms
          have Hms := Lib.hid hms
          have hcall : ∀ wX, Below wr.heap.size wr wX → Calls Try.prog 42 #[.int .i64 (k : Int), .pointer (some ⟨w.heap.size, 0, none⟩)] wX fun e w' => e = .returned (.bool true) ∧ Below wX.heap.size wX w' := fun wX bX => by
            rw [← hwh]
            exact whole_any w.heap.size keep A c k wX (by rw [World.cell?_of_block (bX.block _ (lt_of_block hbxk))]; exact cell_of_one hbxk) ((hrk.on bX).rd) hkl (by omega)
          have Hcall := Lib.hid hcall
          have Hto := Lib.hid hto
          clear hms hft hwh hcall hto
          go_wp2_with (first
            | ((with_reducible show wpList _ _ _ (⟨some 29, _, _, _, _, _⟩ :: _) _ _); refine wpList_load_mid rfl _ _ rfl gp (k * 513) rfl (wcells x) _ hrg huw rfl hszw ?_)
            | ((with_reducible show wpList _ _ _ (⟨some 11, _, _, _, _, _⟩ :: _) _ _); refine wpList_allocN rfl _ rfl (wcells (0, zero512)) zeroW ?_; intro w2 hb2 bw2 hs2)
            | ((with_reducible show wpList _ _ _ (⟨none, .store 89 (.tmp 11) _, _, _, _, _⟩ :: _) _ _); refine wpList_storeN rfl _ _ _ rfl rfl (ys := wcells x) rfl hb2 (by rw [hxl, wcells_len (by rfl)]) (wcells_one _) hszw ?_; intro w3 hb3 hg3; have hq0 := hb3.cell (k := 0) (by rw [hxl]; omega); have hq1 := blk_bytes hb3; have b3 := below_row bw2 hg3 (Nat.le_refl _) bw2.size))
          refine (Hcall.out _ b3).mono ?_
          rintro e w4 ⟨rfl, b4⟩
          have hb4 := hb3.on b4
          have hp0 := hb4.cell (k := 0) (by rw [hxl]; omega)
          have hp1 := blk_bytes hb4
          have b34 := bt b3 b4
          clear hq0 hq1 hb3 hb2 hg3 bw2 hs2
          go_wp2_with ((with_reducible show wpList _ _ _ (⟨some 60, _, _, _, _, _⟩ :: _) _ _); refine wpList_load_mid rfl _ _ rfl wr.heap.size 1 rfl (x.2.map e8) _ hp1 hub rfl hszb ?_)
          refine (keep_any g fpk _ vk _ vak acsk x.1 x.2 w4 (hLk.on b34) hszm hpk hok2).mono ?_
          rintro e w5 ⟨rfl, fp4, va4, acs4, hL4, k4, f4⟩
          have k5 := (kk.trans (Keep.of_below b34 fp) (Fresh.refl _ _)).trans k4 fk
          have f5 := fk.trans (Nat.le_trans kk.size b34.size) f4
          clear k4 f4 hb4 b3 b34 hp0 hp1 hLk
          go_wp2
          go_roundw
          case rel => exact ⟨k + 1, by omega, by go_num, fp4, va4, acs4, by rw [Hms.out]; exact hL4, k5, f5⟩
          case measure => simp [intOf]; omega
        | false =>
          have hft : fate keep torn a k x (after s keep torn a k).all = (after s keep torn a k).all := by rw [fate, if_neg hto, if_neg (by simp [hwh])]
          rw [hft] at hms
          have Hms := Lib.hid hms
          have hcall : ∀ wX, Below wr.heap.size wr wX → Calls Try.prog 42 #[.int .i64 (k : Int), .pointer (some ⟨w.heap.size, 0, none⟩)] wX fun e w' => e = .returned (.bool false) ∧ Below wX.heap.size wX w' := fun wX bX => by
            rw [← hwh]
            exact whole_any w.heap.size keep A c k wX (by rw [World.cell?_of_block (bX.block _ (lt_of_block hbxk))]; exact cell_of_one hbxk) ((hrk.on bX).rd) hkl (by omega)
          have Hcall := Lib.hid hcall
          have Hto := Lib.hid hto
          clear hms hft hwh hcall hto
          go_wp2_with (first
            | ((with_reducible show wpList _ _ _ (⟨some 29, _, _, _, _, _⟩ :: _) _ _); refine wpList_load_mid rfl _ _ rfl gp (k * 513) rfl (wcells x) _ hrg huw rfl hszw ?_)
            | ((with_reducible show wpList _ _ _ (⟨some 11, _, _, _, _, _⟩ :: _) _ _); refine wpList_allocN rfl _ rfl (wcells (0, zero512)) zeroW ?_; intro w2 hb2 bw2 hs2)
            | ((with_reducible show wpList _ _ _ (⟨none, .store 89 (.tmp 11) _, _, _, _, _⟩ :: _) _ _); refine wpList_storeN rfl _ _ _ rfl rfl (ys := wcells x) rfl hb2 (by rw [hxl, wcells_len (by rfl)]) (wcells_one _) hszw ?_; intro w3 hb3 hg3; have hq0 := hb3.cell (k := 0) (by rw [hxl]; omega); have hq1 := blk_bytes hb3; have b3 := below_row bw2 hg3 (Nat.le_refl _) bw2.size))
          refine (Hcall.out _ b3).mono ?_
          rintro e w4 ⟨rfl, b4⟩
          have b34 := bt b3 b4
          have hL4 := hLk.on b34
          have k5 := kk.trans (Keep.of_below b34 fp) (Fresh.refl _ _)
          clear hq0 hq1 hb3 hb2 hg3 bw2 hs2
          go_wp2
          go_roundw
          case rel => exact ⟨k + 1, by omega, by go_num, fpk, vak, acsk, by rw [Hms.out]; exact hL4, k5, fk⟩
          case measure => simp [intOf]; omega
    · obtain rfl : k = s.pend.length := by omega
      obtain ⟨_, e1, _, e3, _, e5, fr2⟩ := six hLk.blk
      have fr21 := fr2 1
      have fr25 := fr2 5
      have fr23 := fr2 3
      have hrs := hLk.reset
      rw [Hend.out] at hrs
      have fin := Lib.hid (show ∃ fp', DAt (((wr.setCell ⟨g, 1, none⟩ (.slice none 0 0)).setCell ⟨g, 5, none⟩ (.bool false)).setCell ⟨g, 3, none⟩ (.int .i64 (-1))) g fp' (restart s keep torn a) ∧ Keep fp w (((wr.setCell ⟨g, 1, none⟩ (.slice none 0 0)).setCell ⟨g, 5, none⟩ (.bool false)).setCell ⟨g, 3, none⟩ (.int .i64 (-1))) ∧ Fresh w fp fp' from
        ⟨fpk, ⟨_, _, _, _, hrs.1⟩, (k01.trans kk (Fresh.refl _ _)).trans (hrs.2.more (fun j hj => by rw [List.mem_singleton] at hj; subst hj; exact hL1.inG)) (Fresh.refl _ _), fun j hj => (fk j hj).imp id (fun h => Nat.le_trans k01.size h)⟩)
      clear hrs hLk kk fk hL1
      go_wp2
      go_end0
      exact ⟨rfl, fin.out⟩
end Go.Proofs.Ytkapamolligmkaa.Disk
