/- The reference's disk: the walks of New, At, Read. -/
import Derived.Test.YtdkcdojcglmlbaaRDisk1
import Derived.Test.YtdkcdojcglmlbaaDiskL1
namespace Go.Proofs.Ytdkcdojcglmlbaa.Disk
open Go.RowKit
set_option linter.unusedVariables false
set_option maxRecDepth 100000
/-- a slice of bytes that is only read, in none of the blocks that are named -/
def Byt (w : World) (fp : List Nat) (v : Value) (b : List UInt8) : Prop := ∃ B c, v = .slice B b.length c ∧ b.length ≤ c ∧ c ≤ maxLen ∧ RdN w fp B (b.map e8)
theorem EntN.get {w : World} {fp : List Nat} {A : Option Addr} {l : List Wr} {acs : List Value} (hr : RdN w fp A acs) (he : EntN w fp l acs) (hl : acs.length = l.length * 2) {i : Nat} (hi : i < l.length) :
    ∃ b off B c, A = some ⟨b, off, none⟩ ∧ b < w.heap.size ∧ w.cell? ⟨b, off + i * 2, none⟩ = some (.int .i64 (l[i].1 : Int)) ∧ w.cell? ⟨b, off + i * 2 + 1, none⟩ = some (.slice B l[i].2.length c) ∧ l[i].2.length ≤ c ∧ c ≤ maxLen ∧ RdN w fp B (l[i].2.map e8) := by
  obtain ⟨b, off, rfl, hb, _, hc⟩ := hr (by intro e; rw [e] at hl; simp at hl; omega)
  obtain ⟨B, c, h1, h2, h3, h4, h5⟩ := he i hi
  obtain ⟨g1, e1⟩ := List.getElem?_eq_some_iff.1 h1
  obtain ⟨g2, e2⟩ := List.getElem?_eq_some_iff.1 h2
  exact ⟨b, off, B, c, rfl, hb, (hc _ g1).trans (by rw [e1]), (hc _ g2).trans (by rw [e2]), h3, h4, h5⟩
theorem kept_take (l : List Wr) (p k : Nat) (h : k < l.length) : kept (l.take (k + 1)) p = if l[k].1 = p then l[k].2 else kept (l.take k) p := by
  rw [List.take_succ_eq_append_getElem h, kept_snoc]
set_option maxHeartbeats 2000000 in
theorem at_any (w : World) (fp : List Nat) (p : Nat) (l : List Wr) (vk vw vh : Value) (n c : Nat) (f : Int) (d : Bool) (hfp : ∀ j ∈ fp, j < w.heap.size) (hk : WRow w fp vk l) (h512 : ∀ x ∈ l, x.2.length = 512) (hl : l.length ≤ 1000000) (hw : vw.oneCell' = true) (hh : vh.oneCell' = true) :
    Calls Try.prog 72 #[.agg (rvL n vk vw vh f c d).toArray, .int .i64 (p : Int)] w fun e w' => ∃ v, e = .returned v ∧ Byt w' fp v (kept l p) ∧ Below w.heap.size w w' := by
  obtain ⟨Ak, ck, acs, rfl, hk1, hk2, hk3, hk4, hk5, hk6⟩ := hk
  obtain ⟨i0, hi0, hz0, hz1, hz2⟩ := info_parts info8
  unfold rvL
  go_enter Try.func72, Try.ntmps72
  go_wp2_with (first
    | ((with_reducible show wpList _ _ _ (⟨some 2, _, _, _, _, _⟩ :: _) _ _); refine wpList_boxT rfl _ _ rfl (rvL n (.slice Ak l.length ck) vw vh f c d) rfl ?_; intro w1 hb1 bw1 hl1)
    | ((with_reducible show wpList _ _ _ (⟨some 7, _, _, _, _, _⟩ :: _) _ _); refine wpList_make_full _ rfl _ _ _ rfl w1.heap.size 5 i0 _ 1 Try.underlying26 hi0 hz0 hz1 _ _ _ _ 512 rfl rfl rfl rfl (by rw [hz2]; omega) (by simp only [maxLen]; omega) (Nat.le_refl _) ?_; intro w2 own2 hg2))
  (try go_frame)
  have bw2 : Below w1.heap.size w1 w2 := (Below.refl _ _).grown hg2 (Nat.le_refl _) (by simp)
  rw [made_int] at own2
  have bww := bt bw1 bw2
  have hA2 : BlkT w2 w.heap.size _ _ := (bw2.block _ hl1).trans hb1
  obtain ⟨c0, c1, c2, c3, c4, c5, c6, fr⟩ := sevenT hA2
  have hk52 := hk5.on bww
  have hk62 : EntN w2 fp l acs := hk6.keep (Keep.of_below bww fp) (Fresh.refl _ _)
  have hb0 : RdN w2 fp (some ⟨w1.heap.size, 0, none⟩) ((kept (l.take 0) p).map e8) := by
    rw [List.take_zero, kept_nil, zero512, List.map_replicate]
    exact rdN_less (RdN.own2 own2 (fun j hj => Nat.lt_of_lt_of_le (hfp j hj) bw1.size)) (fun j hj => hj)
  have Hk5 := Lib.hid hk52
  have Hk6 := Lib.hid hk62
  have H512 := Lib.hid h512
  clear hk5 hk6 hk52 hk62 h512 own2 hg2 hb1 hA2
  go_loopw [5, 6] (fun v i wr => wr = w2 ∧ ∃ k : Nat, k ≤ l.length ∧ i = .int .i64 k ∧ ∃ B cB, v = .slice B 512 cB ∧ 512 ≤ cB ∧ cB ≤ maxLen ∧ RdN w2 fp B ((kept (l.take k) p).map e8)) (fun _ i _ => l.length - (intOf i).toNat)
  case atStart => exact ⟨rfl, 0, by omega, rfl, _, _, rfl, by omega, by unfold maxLen; omega, hb0⟩
  case round =>
    obtain ⟨rfl, k, hk, rfl, B, cB, rfl, hc1, hc2, hB⟩ := hrel
    by_cases hlt : k < l.length
    · obtain ⟨b, off, B', c', rfl, hb, g0, g1, g2, g3, g4⟩ := EntN.get Hk5.out Hk6.out hk3 hlt
      have hx := H512.out _ (List.getElem_mem hlt)
      have hkt := kept_take l p k hlt
      rw [hx] at g1 g2
      obtain ⟨y, hy⟩ : ∃ y, y = l[k] := ⟨_, rfl⟩
      rw [← hy] at g0 g4 hkt
      clear hy hx
      by_cases hq : y.1 = p
      · rw [if_pos hq] at hkt
        rw [← hkt] at g4
        have G4 := Lib.hid g4
        have hqq : ((y.1 : Int) == (p : Int)) = true := by simp [hq]
        clear g4 hkt
        go_wp2
        go_roundw
        case rel => exact ⟨trivial, k + 1, by omega, by go_num, _, _, rfl, g2, g3, G4.out⟩
        case measure => simp [intOf]; omega
      · rw [if_neg hq] at hkt
        rw [← hkt] at hB
        have HB := Lib.hid hB
        have hqq : ((y.1 : Int) == (p : Int)) = false := by simp; omega
        clear hB hkt g4
        go_wp2
        go_roundw
        case rel => exact ⟨trivial, k + 1, by omega, by go_num, _, _, rfl, hc1, hc2, HB.out⟩
        case measure => simp [intOf]; omega
    · obtain rfl : k = l.length := by omega
      rw [List.take_length] at hB
      have hlen : (kept l p).length = 512 := fold_len p l _ zero512_len H512.out
      have HB := Lib.hid hB
      have HL := Lib.hid hlen
      clear hB hlen
      go_wp2
      go_ret
      exact ⟨.slice B 512 cB, rfl, ⟨B, cB, by rw [HL.out], by rw [HL.out]; exact hc1, hc2, HB.out⟩, bww⟩
theorem Byt.nil (w : World) (fp : List Nat) : Byt w fp (.slice none 0 0) [] := ⟨none, 0, rfl, Nat.le_refl _, by unfold maxLen; omega, RdN.nil _ _ _⟩
theorem Byt.on {w w' : World} {fp : List Nat} {v : Value} {b : List UInt8} (h : Byt w fp v b) (bl : Below w.heap.size w w') : Byt w' fp v b := by
  obtain ⟨B, c, h1, h2, h3, h4⟩ := h
  exact ⟨B, c, h1, h2, h3, h4.on bl⟩
theorem kept_take2 (all l : List Wr) (p k : Nat) (h : k < l.length) : kept (all ++ l.take (k + 1)) p = if l[k].1 = p then l[k].2 else kept (all ++ l.take k) p := by
  rw [List.take_succ_eq_append_getElem h, ← List.append_assoc, kept_snoc]
set_option maxHeartbeats 2000000 in
theorem rread_any (w : World) (fp : List Nat) (s : St) (p : Int) (vk vw vh : Value) (hfp : ∀ j ∈ fp, j < w.heap.size) (hk : WRow w fp vk s.all) (hwt : WRow w fp vw s.pend) (hh : vh.oneCell' = true) (hok : ok s) (hs : s.sz ≤ 1000000) :
    Calls Try.prog 117 #[.agg (rvL s.size vk vw vh s.fuse s.calls s.down).toArray, .int .i64 p] w fun e w' => ∃ v, e = .returned (.tuple #[v, .int .i64 (read s p).2]) ∧ Byt w' fp v (read s p).1 ∧ Below w.heap.size w w' := by
  have h512 : ∀ x ∈ s.pend, x.2.length = 512 := fun x hx => (hok.pend x hx).2
  have h513 : ∀ x ∈ s.all, x.2.length = 512 := fun x hx => (hok.all x hx).2
  have hal : s.all.length ≤ 1000000 := by unfold St.sz at hs; omega
  have hpl : s.pend.length ≤ 1000000 := by unfold St.sz at hs; omega
  obtain ⟨Ak, ck, acs, rfl, hk'⟩ := id hk
  obtain ⟨Aw, cw, bcs, rfl, hw1, hw2, hw3, hw4, hw5, hw6⟩ := hwt
  obtain ⟨hsz1, hsz2⟩ := hok.size
  clear hk'
  have hr : read s p = if s.down = true then ([], 12) else if p < 0 ∨ (s.size : Int) ≤ p then ([], 2) else (kept (s.all ++ s.pend) p.toNat, 0) := rfl
  obtain ⟨all, hall⟩ : ∃ l, l = s.all := ⟨_, rfl⟩
  obtain ⟨pend, hpend⟩ : ∃ l, l = s.pend := ⟨_, rfl⟩
  obtain ⟨size, hsize⟩ : ∃ l, l = s.size := ⟨_, rfl⟩
  obtain ⟨down, hdown⟩ : ∃ l, l = s.down := ⟨_, rfl⟩
  obtain ⟨fuse, hfuse⟩ : ∃ l, l = s.fuse := ⟨_, rfl⟩
  obtain ⟨calls, hcalls⟩ : ∃ l, l = s.calls := ⟨_, rfl⟩
  rw [hr]
  simp only [← hall, ← hpend, ← hsize, ← hdown, ← hfuse, ← hcalls] at *
  clear hall hpend hsize hdown hfuse hcalls hr hok hs s
  unfold rvL
  cases down with
  | true =>
    rw [if_pos rfl]
    go_enter Try.func117, Try.ntmps117
    go_wp2
    refine bodyPost_ret (v := .tuple #[.slice none 0 0, .int .i64 12]) (by simp [results, Try.results117, go_sem]) rfl ?_
    exact ⟨_, rfl, Byt.nil _ _, b1alloc _ _⟩
  | false =>
    rw [if_neg (by simp)]
    by_cases h1 : p < 0
    · rw [if_pos (Or.inl h1)]
      go_enter Try.func117, Try.ntmps117
      go_wp2
      refine bodyPost_ret (v := .tuple #[.slice none 0 0, .int .i64 2]) (by simp [results, Try.results117, go_sem]) rfl ?_
      exact ⟨_, rfl, Byt.nil _ _, b1alloc _ _⟩
    · by_cases h2 : (size : Int) ≤ p
      · rw [if_pos (Or.inr h2)]
        go_enter Try.func117, Try.ntmps117
        go_wp2
        refine bodyPost_ret (v := .tuple #[.slice none 0 0, .int .i64 2]) (by simp [results, Try.results117, go_sem]) rfl ?_
        exact ⟨_, rfl, Byt.nil _ _, b1alloc _ _⟩
      · rw [if_neg (by omega)]
        obtain ⟨q, rfl⟩ : ∃ q : Nat, p = (q : Int) := ⟨p.toNat, by omega⟩
        rw [Int.toNat_natCast]
        have hlen : ∀ m : List Wr, (∀ x ∈ m, x.2.length = 512) → (kept (all ++ m) q).length = 512 := fun m hm => fold_len q _ _ zero512_len (fun x hx => by
          rcases List.mem_append.1 hx with hx | hx
          · exact h513 x hx
          · exact hm x hx)
        have HL := Lib.hid hlen
        have Hat := Lib.hid (fun (W : World) (bW : Below w.heap.size w W) => at_any W fp q all (.slice Ak all.length ck) (.slice Aw pend.length cw) vh size calls fuse false (fun j hj => Nat.lt_of_lt_of_le (hfp j hj) bW.size) (hk.on bW) h513 hal rfl hh)
        have H512 := Lib.hid h512
        clear hlen h512 h513
        go_enter Try.func117, Try.ntmps117
        go_wp2_with (first
          | ((with_reducible show wpList _ _ _ (⟨some 2, _, _, _, _, _⟩ :: _) _ _); refine wpList_boxT rfl _ _ rfl (rvL size (.slice Ak all.length ck) (.slice Aw pend.length cw) vh fuse calls false) rfl ?_; intro w1 hb1 bw1 hl1; obtain ⟨c0, c1, c2, c3, c4, c5, c6, fr⟩ := sevenT hb1)
          | ((refine (Hat.out _ bw1).mono ?_); rintro e w2 ⟨v0, rfl, hv, bv⟩))
        have bww := bt bw1 bv
        obtain ⟨B0, cB0, rfl, hq1, hq2, hq3⟩ := hv
        have hl0 : (kept all q).length = 512 := by have := HL.out [] (by intro x hx; cases hx); rwa [List.append_nil] at this
        rw [hl0] at hq1 ⊢
        obtain ⟨c0, c1, c2, c3, c4, c5, c6, fr⟩ := sevenT (show BlkT w2 w.heap.size _ _ from (bv.block _ hl1).trans hb1)
        have Hk5 := Lib.hid (hw5.on bww)
        have Hk6 := Lib.hid (show EntN w2 fp pend bcs from hw6.keep (Keep.of_below bww fp) (Fresh.refl _ _))
        have hb0 : RdN w2 fp B0 ((kept (all ++ pend.take 0) q).map e8) := by rw [List.take_zero, List.append_nil]; exact hq3
        clear hw5 hw6 hq3 hb1 bw1 bv Hat hk
        go_loopw [6, 7] (fun v i wr => wr = w2 ∧ ∃ k : Nat, k ≤ pend.length ∧ i = .int .i64 k ∧ ∃ B cB, v = .slice B 512 cB ∧ 512 ≤ cB ∧ cB ≤ maxLen ∧ RdN w2 fp B ((kept (all ++ pend.take k) q).map e8)) (fun _ i _ => pend.length - (intOf i).toNat)
        case atStart => exact ⟨rfl, 0, by omega, rfl, _, _, rfl, hq1, hq2, hb0⟩
        case round =>
          clear hq1 hq2 hb0
          obtain ⟨rfl, k, hk, rfl, B, cB, rfl, hc1, hc2, hB⟩ := hrel
          by_cases hlt : k < pend.length
          · obtain ⟨b, off, B', c', rfl, hb, g0, g1, g2, g3, g4⟩ := EntN.get Hk5.out Hk6.out hw3 hlt
            have hx := H512.out _ (List.getElem_mem hlt)
            have hkt := kept_take2 all pend q k hlt
            rw [hx] at g1 g2
            obtain ⟨y, hy⟩ : ∃ y, y = pend[k] := ⟨_, rfl⟩
            rw [← hy] at g0 g4 hkt
            clear hy hx
            by_cases hq : y.1 = q
            · rw [if_pos hq] at hkt
              rw [← hkt] at g4
              have G4 := Lib.hid g4
              have hqq : ((y.1 : Int) == (q : Int)) = true := by simp [hq]
              clear g4 hkt
              go_wp2
              go_roundw
              case rel => exact ⟨trivial, k + 1, by omega, by go_num, _, _, rfl, g2, g3, G4.out⟩
              case measure => simp [intOf]; omega
            · rw [if_neg hq] at hkt
              rw [← hkt] at hB
              have HB := Lib.hid hB
              have hqq : ((y.1 : Int) == (q : Int)) = false := by simp; omega
              clear hB hkt g4
              go_wp2
              go_roundw
              case rel => exact ⟨trivial, k + 1, by omega, by go_num, _, _, rfl, hc1, hc2, HB.out⟩
              case measure => simp [intOf]; omega
          · obtain rfl : k = pend.length := by omega
            rw [List.take_length] at hB
            have hlen := HL.out pend H512.out
            have HB := Lib.hid hB
            have HL2 := Lib.hid hlen
            clear hB hlen
            go_wp2
            refine bodyPost_ret (v := .tuple #[.slice B 512 cB, .int .i64 0]) (by simp [results, Try.results117, go_sem]) rfl ?_
            exact ⟨.slice B 512 cB, rfl, ⟨B, cB, by rw [HL2.out], by rw [HL2.out]; exact hc1, hc2, HB.out⟩, bww⟩
end Go.Proofs.Ytdkcdojcglmlbaa.Disk
