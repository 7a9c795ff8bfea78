/- The walks of disk.History and disk.Pending. -/
import Derived.Test.YtdkcdojcglmlbaaDisk8
import Derived.Test.YtdkcdojcglmlbaaSlices
namespace Go.Proofs.Ytdkcdojcglmlbaa.Disk
open Go.RowKit
set_option linter.unusedVariables false
set_option maxRecDepth 100000

theorem undrew {B : Nat} {w w' : World} (h : Below B w.drew w') : Below B w w' := ⟨h.os, h.tape, h.output, h.size, h.block⟩
/-- an element of a new slice of writes: a place, and a slice of bytes that lie in a block of their own -/
def Ent (w : World) (n0 : Nat) (x : Wr) (u0 u1 : Value) : Prop := u0 = .int .i64 (x.1 : Int) ∧ ∃ b off c cs t, u1 = .slice (some ⟨b, off, none⟩) x.2.length c ∧ n0 ≤ b ∧ x.2.length ≤ c ∧ c ≤ maxLen ∧ w.heap[b]? = some (.cells cs t (0, 0)) ∧ 70 ≠ t ∧ w.rangeAt b off (x.2.map e8)
def Ents (w : World) (n0 : Nat) (l : List Wr) (acs : List Value) : Prop := ∀ i (h : i < l.length), ∃ u0 u1, acs[i * 2]? = some u0 ∧ acs[i * 2 + 1]? = some u1 ∧ Ent w n0 l[i] u0 u1
/-- a new slice of writes comes back -/
def NewW (w w' : World) (l : List Wr) (v : Value) : Prop := ∃ acs, w'.ownsRow w.heap.size 70 2 v l.length acs ∧ Ents w' w.heap.size l acs
theorem Ent.turn {w w' : World} {n0 : Nat} {x : Wr} {u0 u1 : Value} (h : Ent w n0 x u0 u1) (hb : ∀ (j : Nat) (cs : Array Value) (t : TypeId), w.heap[j]? = some (Obj.cells cs t (0, 0)) → 70 ≠ t → w'.heap[j]? = w.heap[j]?) : Ent w' n0 x u0 u1 := by
  obtain ⟨rfl, b, off, c, cs, t, h1, h2, h3, h4, h5, h6, h7⟩ := h
  exact ⟨rfl, b, off, c, cs, t, h1, h2, h3, h4, (hb b cs t h5 h6).trans h5, h6, fun j v hv => (World.cell?_of_block (hb b cs t h5 h6)).trans (h7 j v hv)⟩
theorem Ents.turn {w w' : World} {n0 : Nat} {l : List Wr} {acs : List Value} (h : Ents w n0 l acs) (hb : ∀ (j : Nat) (cs : Array Value) (t : TypeId), w.heap[j]? = some (Obj.cells cs t (0, 0)) → 70 ≠ t → w'.heap[j]? = w.heap[j]?) : Ents w' n0 l acs := fun i hi => by
  obtain ⟨u0, u1, h1, h2, h3⟩ := h i hi
  exact ⟨u0, u1, h1, h2, h3.turn hb⟩
theorem Ents.on {w w' : World} {n0 : Nat} {l : List Wr} {acs : List Value} (h : Ents w n0 l acs) (b : Below w.heap.size w w') : Ents w' n0 l acs := h.turn fun j cs t hj _ => b.block j (lt_of_block hj)
theorem Ents.grown {w w' : World} {n0 n base : Nat} {l : List Wr} {acs : List Value} {v : Value} {xs : List Value} (h : Ents w n0 l acs) (ho : w.ownsRow base 70 2 v n xs) (hg : w.grownBy w' v.ownBlock) : Ents w' n0 l acs :=
  h.turn fun j cs t hj ht => hg.block j (lt_of_block hj) (fun e => own_type ho hj ht e.symm)
theorem Ent.on {w w' : World} {n0 : Nat} {x : Wr} {u0 u1 : Value} (h : Ent w n0 x u0 u1) (b : Below w.heap.size w w') : Ent w' n0 x u0 u1 := h.turn fun j cs t hj _ => b.block j (lt_of_block hj)
theorem Ent.grown {w w' : World} {n0 n base : Nat} {x : Wr} {u0 u1 : Value} {v : Value} {xs : List Value} (h : Ent w n0 x u0 u1) (ho : w.ownsRow base 70 2 v n xs) (hg : w.grownBy w' v.ownBlock) : Ent w' n0 x u0 u1 :=
  h.turn fun j cs t hj ht => hg.block j (lt_of_block hj) (fun e => own_type ho hj ht e.symm)
theorem Ents.snoc {w : World} {n0 : Nat} {l : List Wr} {acs : List Value} {x : Wr} {u0 u1 : Value} (h : Ents w n0 l acs) (hl : acs.length = l.length * 2) (hx : Ent w n0 x u0 u1) : Ents w n0 (l ++ [x]) (acs ++ [u0, u1]) := fun i hi => by
  simp only [List.length_append, List.length_singleton] at hi
  by_cases e : i < l.length
  · obtain ⟨v0, v1, h1, h2, h3⟩ := h i e
    exact ⟨v0, v1, by rw [List.getElem?_append_left (by omega)]; exact h1, by rw [List.getElem?_append_left (by omega)]; exact h2, by simp only [List.getElem_append_left e]; exact h3⟩
  · obtain rfl : i = l.length := by omega
    exact ⟨u0, u1, by rw [List.getElem?_append_right (by omega)]; simp [hl], by rw [List.getElem?_append_right (by omega)]; simp [hl, Nat.add_sub_cancel_left], by simpa using hx⟩
theorem told_range {w : World} {g : Nat} {fp : List Nat} {s : St} {vk vp : Value} {acs : List Value} {ga ca : Nat} (h : Lies w g fp s vk vp (.slice (some ⟨ga, 0, none⟩) s.all.length ca) acs) (k : Nat) (hk : k < s.all.length) :
    ∃ b c, w.rangeAt ga (k * 2) [.int .i64 (s.all[k].1 : Int), .slice (some ⟨b, 0, none⟩) 512 c] ∧ BlkT w b 138 (s.all[k].2.map e8) := by
  obtain ⟨b, c, h1, h2, h3, _⟩ := h.told k hk
  refine ⟨b, c, own_range h.all (fun j hj => ?_), h3⟩
  match j, hj with
  | 0, _ => exact h1
  | 1, _ => exact h2
theorem Ent.own {w3 : World} {n0 base : Nat} {x : Wr} {A : Option Addr} {c : Nat} (h : w3.ownsRow base 5 1 (.slice A x.2.length c) x.2.length (x.2.map e8)) (hl : x.2.length = 512) (hb : n0 ≤ base) (hc : x.2.length ≤ c) (hcm : c ≤ maxLen) : Ent w3 n0 x (.int .i64 (x.1 : Int)) (.slice A x.2.length c) := by
  obtain ⟨g3, c3, e, hg⟩ := own_some h (by omega)
  injection e with e1 e2 e3
  subst e1 e3
  obtain ⟨cs, hcs⟩ := own_blk h
  exact ⟨rfl, g3, 0, c, cs, 5, rfl, by omega, hc, hcm, hcs, by decide, own_range h (fun j hj => by rw [Nat.zero_add])⟩
theorem own_caps {w : World} {base : Nat} {e : TypeId} {size n c : Nat} {A : Option Addr} {xs : List Value} (h : w.ownsRow base e size (.slice A n c) n xs) : n ≤ c ∧ c ≤ maxLen := by
  rcases h.2 with ⟨hv, _⟩ | ⟨g, cap, cur, hv, _, _, hnc, hcm, _⟩
  · injection hv with h1 h2 h3; subst h2 h3; exact ⟨Nat.le_refl _, by unfold maxLen; omega⟩
  · injection hv with h1 h2 h3; subst h3; exact ⟨hnc, hcm⟩
set_option maxHeartbeats 2000000 in
theorem history_any (g : Nat) (fp : List Nat) (s : St) (w : World) (h : DAt w g fp s) (hs : s.sz ≤ 100000000) :
    Calls Try.prog 37 #[.pointer (some ⟨g, 0, none⟩)] w fun e w' => ∃ v, e = .returned v ∧ NewW w w' s.all v ∧ Below w.heap.size w w' := by
  obtain ⟨vk, vp, va, acs, hL⟩ := h
  obtain ⟨_, _, c2, _, _, _, _⟩ := six hL.blk
  obtain ⟨Aa, ca, rfl⟩ := own_form hL.all
  have hal : s.all.length ≤ 100000000 := by unfold St.sz at hs; omega
  obtain ⟨i0, hi0, hz0, hz1, hz2⟩ := info_parts infoWr
  go_enter Try.func37, Try.ntmps37
  go_wp2_with fail
  go_loopw [2, 12] (fun v i wr => ∃ k : Nat, k ≤ s.all.length ∧ i = .int .i64 k ∧ ∃ bcs, wr.ownsRow w.heap.size 70 2 v k bcs ∧ Ents wr w.heap.size (s.all.take k) bcs ∧ Below w.heap.size w wr) (fun _ i _ => s.all.length - (intOf i).toNat)
  case atStart => exact ⟨0, by omega, rfl, [], own_nil _ _ _ _, fun i hi => absurd hi (by simp), Below.refl _ _⟩
  case round =>
    obtain ⟨k, hk, rfl, bcs, own, ents, bel⟩ := hrel
    by_cases hlt : k < s.all.length
    · have hLk := hL.on bel
      obtain ⟨ga, ca', e0, _⟩ := own_some hLk.all (by omega)
      obtain ⟨rfl, _, rfl⟩ : Aa = some ⟨ga, 0, none⟩ ∧ s.all.length = s.all.length ∧ ca = ca' := by injection e0 with e1 e2 e3; exact ⟨e1, rfl, e3⟩
      obtain ⟨bb, cc, hrg, hbb⟩ := told_range hLk k hlt
      have hok := hLk.ok.all _ (List.getElem_mem hlt)
      have htk : s.all.take (k + 1) = s.all.take k ++ [s.all[k]] := List.take_succ_eq_append_getElem hlt
      obtain ⟨x, hx⟩ : ∃ x, x = s.all[k] := ⟨_, rfl⟩
      rw [← hx] at hrg hbb hok htk
      have Htk := Lib.hid htk
      have hxl := Lib.hid hok.2
      have hc0 := hrg 0 _ rfl
      have hc1 := hrg 1 _ rfl
      rw [Nat.add_zero] at hc0
      have hsz2 : (Try.prog.info? 70).map (·.size) = some [Value.int .i64 (x.1 : Int), .slice (some ⟨bb, 0, none⟩) 512 cc].length := by kernel_rfl
      have huw := Try.underlying70
      have hbr : Rd wr wr.heap.size (some ⟨bb, 0, none⟩) (x.2.map e8) := fun _ => ⟨bb, 0, rfl, lt_of_block hbb, fun i hi => by rw [Nat.zero_add, cell_of_row _ _ _ _ _ _ hbb, List.getElem?_toArray]; exact List.getElem?_eq_getElem hi⟩
      clear hx htk e0 hok hL hLk
      go_wp2
      have b2 : Below wr.heap.size wr (wr.alloc (.cells #[.int .i64 (x.1 : Int), .slice (some ⟨bb, 0, none⟩) 512 cc] 70)) := b1alloc _ _
      have i0' : (wr.alloc (.cells #[.int .i64 (x.1 : Int), .slice (some ⟨bb, 0, none⟩) 512 cc] 70)).cell? ⟨wr.heap.size, 0, none⟩ = some (.int .i64 (x.1 : Int)) := by simp
      have i1' : (wr.alloc (.cells #[.int .i64 (x.1 : Int), .slice (some ⟨bb, 0, none⟩) 512 cc] 70)).cell? ⟨wr.heap.size, 1, none⟩ = some (.slice (some ⟨bb, 0, none⟩) 512 cc) := by simp
      have hlw : wr.heap.size < (wr.alloc (.cells #[.int .i64 (x.1 : Int), .slice (some ⟨bb, 0, none⟩) 512 cc] 70)).heap.size := by simp
      obtain ⟨w2, hw2⟩ : ∃ w2, w2 = wr.alloc (.cells #[.int .i64 (x.1 : Int), .slice (some ⟨bb, 0, none⟩) 512 cc] 70) := ⟨_, rfl⟩
      rw [← hw2] at b2 i0' i1' hlw ⊢
      have hbr2 := hbr.on b2
      have own2 := own_on own b2
      have hne4 : u2.ownBlock ≠ some wr.heap.size := fun e => by have := (own.lt _ e).2; omega
      have hbs : w.heap.size ≤ w2.heap.size := Nat.le_trans bel.size b2.size
      have hcl := Sl.clone_any (some ⟨bb, 0, none⟩) x.2 512 cc w2.drew hxl.out.symm hbr2 (by rw [hxl.out]; omega)
      have Hcl := Lib.hid hcl
      clear hw2 hcl hbr hrg hc0 hc1
      go_region_held3 (fun w' => w'.cell? ⟨wr.heap.size, 0, none⟩ = some (.int .i64 (x.1 : Int)) ∧ w'.cell? ⟨wr.heap.size, 1, none⟩ = some (.slice (some ⟨bb, 0, none⟩) 512 cc)) (first | exact ⟨i0', i1'⟩ | exact ⟨j0, j1⟩ | exact ⟨k0, k1⟩ | exact ⟨l0, l1⟩) (first
        | (go_at_call 79; refine Hcl.out.mono ?_; rintro e w3 ⟨A3, c3, rfl, own3, b3⟩; have j0 := (b3.cell (p := ⟨wr.heap.size, 0, none⟩) hlw).trans i0'; have j1 := (b3.cell (p := ⟨wr.heap.size, 1, none⟩) hlw).trans i1'; have b23 := undrew b3; have own2' := own_on own2 b23; have k0 := ((b1alloc w3 (.cells #[.int .i64 (x.1 : Int), .slice A3 x.2.length c3] 70)).cell (p := ⟨wr.heap.size, 0, none⟩) (Nat.lt_of_lt_of_le hlw b23.size)).trans j0; have k1 := ((b1alloc w3 (.cells #[.int .i64 (x.1 : Int), .slice A3 x.2.length c3] 70)).cell (p := ⟨wr.heap.size, 1, none⟩) (Nat.lt_of_lt_of_le hlw b23.size)).trans j1)
        | ((refine step_append_rd _ (by rfl) _ _ _ (by rfl) w.heap.size 70 i0 _ 2 32 Try.underlying66 hi0 hz0 hz1 hz2 rfl (by omega) u2 k bcs (by rfl) ?_ _ 1 1 [.int .i64 (x.1 : Int), .slice A3 x.2.length c3] (by rfl) (by rfl) ?_ (by simp [Value.oneCell']) (by simp only [maxLen]; omega) (by omega) ?_ ?_); (· exact own2'.alloc _); (· exact Rd.lit _ _ _ _ _ rfl (by simp)); (· exact Nat.le_trans (Nat.le_trans hbs b23.size) (b1alloc w3 (.cells #[.int .i64 (x.1 : Int), .slice A3 x.2.length c3] 70)).size); intro v4 w4 own4 hg4 hat4; have hlt4 := Nat.lt_of_lt_of_le (Nat.lt_of_lt_of_le hlw b23.size) (b1alloc w3 (.cells #[.int .i64 (x.1 : Int), .slice A3 x.2.length c3] 70)).size; have l0 := (World.cell?_of_block (hg4.block wr.heap.size hlt4 (fun e => hne4 e.symm))).trans k0; have l1 := (World.cell?_of_block (hg4.block wr.heap.size hlt4 (fun e => hne4 e.symm))).trans k1))
      all_goals
        have hcap := own_caps own3
        have entN := Ent.own (n0 := w.heap.size) own3 hxl.out (by show w.heap.size ≤ w2.heap.size; exact Nat.le_trans bel.size b2.size) hcap.1 hcap.2
        have entsW := (((ents.on b2).on b23).on (b1alloc w3 (.cells #[.int .i64 (x.1 : Int), .slice A3 x.2.length c3] 70))).grown (own2'.alloc _) hg4
        have entW := (entN.on (b1alloc w3 (.cells #[.int .i64 (x.1 : Int), .slice A3 x.2.length c3] 70))).grown (own2'.alloc _) hg4
        have hfin := Lib.hid (show Ents w4 w.heap.size (s.all.take (k + 1)) (bcs ++ [.int .i64 (x.1 : Int), .slice A3 x.2.length c3]) by
          rw [Htk.out]
          refine entsW.snoc ?_ entW
          rw [own.1, List.length_take, Nat.min_eq_left (Nat.le_of_lt hlt)])
        have hB := Lib.hid (show Below w.heap.size w w4 from (bt (bt (bt bel b2) b23) (b1alloc w3 (.cells #[.int .i64 (x.1 : Int), .slice A3 x.2.length c3] 70))).grown hg4 (by have := b23.size; have := b2.size; have := bel.size; simp; omega) (fun q hq => own_block own hq))
        have Own4 := Lib.hid own4
        clear hcap entN entsW entW own4 hg4 own3 b3 b23 own2' own2 own ents hat4
        go_wp2
        go_roundw
        case rel => exact ⟨k + 1, by omega, by go_num, _, Own4.out, hfin.out, hB.out⟩
        case measure => simp [intOf]; omega
    · obtain rfl : k = s.all.length := by omega
      rw [List.take_length] at ents
      go_wp2
      go_ret
      exact ⟨_, rfl, ⟨bcs, own, ents⟩, bel⟩
end Go.Proofs.Ytdkcdojcglmlbaa.Disk
