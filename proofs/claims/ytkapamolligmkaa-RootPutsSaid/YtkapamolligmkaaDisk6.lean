/- The walk of disk.Flush. -/
import Derived.Test.YtkapamolligmkaaDisk5
namespace Go.Proofs.Ytkapamolligmkaa.Disk
open Go.RowKit
set_option linter.unusedVariables false
set_option maxRecDepth 100000

theorem Lies.clear {w : World} {g : Nat} {fp : List Nat} {s : St} {vk vp va : Value} {acs : List Value} (h : Lies w g fp s vk vp va acs) : Lies (w.setCell ⟨g, 1, none⟩ (.slice none 0 0)) g fp { s with pend := [] } vk (.slice none 0 0) va acs ∧ Keep [g] w (w.setCell ⟨g, 1, none⟩ (.slice none 0 0)) := by
  have k := keep_set w g 1 (.slice none 0 0)
  have hK := own_type h.kept h.blk (by decide)
  have hA := own_type h.all h.blk (by decide)
  refine ⟨⟨by simp [World.setCell, Array.getElem?_modify, h.blk], ?_, own_nil _ _ _ _, ?_, ?_, h.inG, h.inK, fun j hj => by simp [Value.ownBlock] at hj, h.inA, fun j hj => Nat.lt_of_lt_of_le (h.lt j hj) k.size, ⟨h.ok.size, (by intro x hx; cases hx), h.ok.all, h.ok.fuse⟩⟩, k⟩
  · exact own_keep h.kept k (fun j hj e => by rw [List.mem_singleton] at e; subst e; exact hK hj)
  · exact own_keep h.all k (fun j hj e => by rw [List.mem_singleton] at e; subst e; exact hA hj)
  · intro i hi
    obtain ⟨b, c, h1, h2, h3, h4, h5⟩ := h.told i hi
    refine ⟨b, c, h1, h2, (k.block (h.lt b h4) ?_).trans h3, h4, h5⟩
    intro e
    rw [List.mem_singleton] at e
    subst e
    have := h.blk
    unfold BlkT at h3
    rw [h3] at this
    injection this with this
    injection this with e1 e2 e3
    exact absurd e2 (by decide)
theorem pend_range {w : World} {g : Nat} {fp : List Nat} {s : St} {vk va : Value} {acs : List Value} {gp cp : Nat} (h : Lies w g fp s vk (.slice (some ⟨gp, 0, none⟩) s.pend.length cp) va acs) (k : Nat) (hk : k < s.pend.length) :
    w.rangeAt gp (k * 513) (wcells s.pend[k]) := own_range h.pend (fun j hj => by
  have hl := (h.ok.pend _ (List.getElem_mem hk)).2
  rw [wcells_len hl] at hj
  exact flat_at wcells 513 s.pend (fun x hx => wcells_len (h.ok.pend x hx).2) k j hk hj)
theorem zeroW (w : World) : (zeroValue 89).run Try.prog w = .ok (arrV (wcells (0, zero512))) w := by kernel_rfl
theorem wcells_szW {x : Wr} (h : x.2.length = 512) : (Try.prog.info? 89).map (·.size) = some (wcells x).length := by rw [wcells_len h]; exact szW
theorem blk_bytes {w : World} {b : Nat} {x : Wr} (h : Blk w b (wcells x)) : w.rangeAt b 1 (x.2.map e8) := fun j v hv => by
  obtain ⟨hj, rfl⟩ := List.getElem?_eq_some_iff.1 hv
  have := h.cell (k := 1 + j) (by simp [wcells]; simp at hj; omega)
  rw [this]
  simp only [wcells, Nat.add_comm 1 j, List.getElem_cons_succ]
/-- a disk that keeps more of what is pending -/
def more (s : St) (k : Nat) : St := { s with all := s.all ++ s.pend.take k }
theorem more_zero (s : St) : more s 0 = s := by simp [more]
theorem more_succ (s : St) (k : Nat) (h : k < s.pend.length) : { more s k with all := (more s k).all ++ [(s.pend[k].1, s.pend[k].2)] } = more s (k + 1) := by
  simp only [more, List.append_assoc, List.take_succ_eq_append_getElem h]
theorem more_sz (s : St) (k : Nat) : (more s k).sz ≤ 2 * s.sz := by
  unfold St.sz more
  simp only [List.length_append, List.length_take]
  omega
set_option maxHeartbeats 2000000 in
theorem flush_any (g : Nat) (fp : List Nat) (s : St) (w : World) (h : DAt w g fp s) (hs : s.sz ≤ 100000000) : Calls Try.prog 45 #[.pointer (some ⟨g, 0, none⟩)] w (Did w g fp (flush s)) := by
  obtain ⟨vk, vp, va, acs, hL⟩ := h
  obtain ⟨_, _, _, _, _, c5, fr⟩ := six hL.blk
  cases hd : s.down with
  | true =>
    have hw : flush s = (s, 12) := by unfold flush; rw [if_pos hd]
    rw [hw]
    have fin := Lib.hid (show Did w g fp (s, 12) (.returned (.int .i64 12)) w from Did.same ⟨_, _, _, _, hL⟩ rfl)
    rw [hd] at c5
    clear hw hd hL
    go_enter Try.func45, Try.ntmps45
    go_wp2
    go_ret
    exact fin.out
  | false =>
    have hbu := burn_any g fp s vk vp va acs w hL (by omega)
    rw [hd] at c5
    by_cases hb : (burn s).2 = 0
    · have hw : flush s = ({ (burn s).1 with all := s.all ++ s.pend, pend := [] }, 0) := by unfold flush; rw [if_neg (by simp [hd]), if_pos hb]
      rw [hw]
      rw [hb] at hbu
      have Hbu := Lib.hid hbu
      obtain ⟨s1, hs1⟩ : ∃ s1, s1 = (burn s).1 := ⟨_, rfl⟩
      have hbl := burn_lists s
      have hsz1 : s1.sz ≤ 100000001 := by rw [hs1, sz_burn]; omega
      have hpb : s1.pend.length ≤ 100000001 := by unfold St.sz at hsz1; omega
      rw [← hs1] at Hbu ⊢
      have hst : ({ s1 with all := s.all ++ s.pend, pend := [] } : St) = { more s1 s1.pend.length with pend := [] } := by
        rw [more, List.take_length, hs1, hbl.1, hbl.2.1]
      rw [hst]
      clear hw hd hb hbu hs1 hbl hst hs hL
      go_enter Try.func45, Try.ntmps45
      go_wp2_with fail
      refine Hbu.out.mono ?_
      rintro e w1 ⟨rfl, hL1, k1⟩
      obtain ⟨_, d1, _, _, _, _, fr1⟩ := six hL1.blk
      obtain ⟨Ap, cp, rfl⟩ := own_form hL1.pend
      go_wp2_with fail
      go_loopw [24] (fun i wr => ∃ k : Nat, k ≤ s1.pend.length ∧ i = .int .i64 k ∧ ∃ fpk vak acsk, Lies wr g fpk (more s1 k) vk (.slice Ap s1.pend.length cp) vak acsk ∧ Keep fp w1 wr ∧ Fresh w1 fp fpk) (fun i _ => s1.pend.length - (intOf i).toNat)
      case atStart => exact ⟨0, by omega, rfl, fp, va, acs, by rw [more_zero]; exact hL1, Keep.refl _ _, Fresh.refl _ _⟩
      case round =>
        obtain ⟨k, hk, rfl, fpk, vak, acsk, hLk, kk, fk⟩ := hrel
        by_cases hlt : k < s1.pend.length
        · obtain ⟨gp, cp', e0, _⟩ := own_some hLk.pend (by show 0 < s1.pend.length; omega)
          obtain ⟨rfl, _, rfl⟩ : Ap = some ⟨gp, 0, none⟩ ∧ s1.pend.length = s1.pend.length ∧ cp = cp' := by injection e0 with e1 e2 e3; exact ⟨e1, rfl, e3⟩
          have hrg := pend_range hLk k hlt
          have hms := Lib.hid (more_succ s1 k hlt)
          have hok := hLk.ok.pend _ (List.getElem_mem hlt)
          simp only [more] at hrg hok
          obtain ⟨x, hx⟩ : ∃ x, x = s1.pend[k] := ⟨_, rfl⟩
          rw [← hx] at hrg hms hok
          have hszw := wcells_szW hok.2
          have huw := Try.underlying89
          have hub := Try.underlying83
          have hszb := szBl hok.2
          have hxl := wcells_len hok.2
          have hszm : (more s1 k).sz ≤ 1000000000 := by have := more_sz s1 k; omega
          have hpk : x.1 < (more s1 k).size := hok.1
          have hok2 := hok.2
          clear hx e0
          go_wp2_with (first
            | ((with_reducible show wpList _ _ _ (⟨some 27, _, _, _, _, _⟩ :: _) _ _); refine wpList_load_mid rfl _ _ rfl gp (k * 513) rfl (wcells x) _ hrg huw rfl hszw ?_)
            | ((with_reducible show wpList _ _ _ (⟨some 5, _, _, _, _, _⟩ :: _) _ _); refine wpList_allocN rfl _ rfl (wcells (0, zero512)) zeroW ?_; intro w2 hb2 bw2 hs2)
            | ((with_reducible show wpList _ _ _ (⟨none, .store 89 (.tmp 5) _, _, _, _, _⟩ :: _) _ _); refine wpList_storeN rfl _ _ _ rfl rfl (ys := wcells x) rfl hb2 (by rw [hxl, wcells_len (by rfl)]) (wcells_one _) hszw ?_; intro w3 hb3 hg3; have hq0 := hb3.cell (k := 0) (by rw [hxl]; omega); have hq1 := blk_bytes hb3)
            | ((with_reducible show wpList _ _ _ (⟨some 32, _, _, _, _, _⟩ :: _) _ _); refine wpList_load_mid rfl _ _ rfl wr.heap.size 1 rfl (x.2.map e8) _ hq1 hub rfl hszb ?_))
          have b3 := below_row bw2 hg3 (Nat.le_refl _) bw2.size
          refine (keep_any g fpk (more s1 k) vk _ vak acsk x.1 x.2 w3 (hLk.on b3) hszm hpk hok2).mono ?_
          rintro e w4 ⟨rfl, fp4, va4, acs4, hL4, k4, f4⟩
          rw [hms.out] at hL4
          have k5 := (kk.trans (Keep.of_below b3 fp) (Fresh.refl _ _)).trans k4 fk
          have f5 := fk.trans (Nat.le_trans kk.size b3.size) f4
          clear k4 f4 hb2 hb3 hg3 bw2 b3 hq0 hq1 hLk
          go_wp2
          go_roundw
          case rel => exact ⟨k + 1, by omega, by go_num, fp4, va4, acs4, hL4, k5, f5⟩
          case measure => simp [intOf]; omega
        · obtain rfl : k = s1.pend.length := by omega
          obtain ⟨_, e1, _, _, _, _, fr2⟩ := six hLk.blk
          have fr21 := fr2 1
          have hcl := hLk.clear
          have fin := Lib.hid (show Did w g fp ({ more s1 s1.pend.length with pend := [] }, 0) (.returned (.int .i64 0)) (wr.setCell ⟨g, 1, none⟩ (.slice none 0 0)) from
            ⟨rfl, fpk, ⟨_, _, _, _, hcl.1⟩, ((k1.more (fun j hj => by rw [List.mem_singleton] at hj; subst hj; exact hL1.inG)).trans kk (Fresh.refl _ _)).trans (hcl.2.more (fun j hj => by rw [List.mem_singleton] at hj; subst hj; exact hL1.inG)) (Fresh.refl _ _), fun j hj => (fk j hj).imp id (fun h => Nat.le_trans k1.size h)⟩)
          clear hcl hLk kk fk k1 hL1
          go_wp2
          go_ret
          exact fin.out
    · have hw : flush s = burn s := by unfold flush; rw [if_neg (by simp [hd]), if_neg hb]
      rw [hw]
      have hne := bne_yes hb
      have Hbu := Lib.hid hbu
      clear hw hd hb hbu hL
      go_enter Try.func45, Try.ntmps45
      go_wp2_with fail
      refine Hbu.out.mono ?_
      rintro e w1 ⟨rfl, hL1, k1⟩
      have fin := Lib.hid (show Did w g fp (burn s) _ w1 from ⟨rfl, fp, ⟨_, _, _, _, hL1⟩, k1.more (fun j hj => by rw [List.mem_singleton] at hj; subst hj; exact hL1.inG), Fresh.refl _ _⟩)
      clear hL1 k1
      go_wp2
      go_ret
      exact fin.out
end Go.Proofs.Ytkapamolligmkaa.Disk
