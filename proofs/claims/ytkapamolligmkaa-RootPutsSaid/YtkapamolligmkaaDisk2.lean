/- The walk of disk.keep: bytes come to be kept. -/
import Derived.Test.YtkapamolligmkaaDisk1
import Derived.Deep.RegionHeld3
import Derived.Deep.MidRow
import Derived.Deep.RegionLaw
import Derived.Maps.RangeWalk
namespace Go.Proofs.Ytkapamolligmkaa.Disk
open Go.RowKit
set_option linter.unusedVariables false
set_option maxRecDepth 100000

theorem wpList_boxT {P : Program} {w : World} {ops : Array Oper} {rest : List Oper} {o : Oper} {a : Act} {Q : Exit → Act → World → Prop} (hg : o.guard = none) (t : TypeId) (x : Operand) (ho : o.op = .box t x) (xs : List Value)
    (hx : a.eval x = arrV xs)
    (h : ∀ w1, BlkT w1 w.heap.size t xs → Below w.heap.size w w1 → w.heap.size < w1.heap.size → wpList P ops Q rest (a.put o.dst (.pointer (some ⟨w.heap.size, 0, none⟩))) w1) : wpList P ops Q (o :: rest) a w :=
  wpList_box hg t x ho xs hx (h _ (heap_alloc_new w _) (b1alloc _ _) (by simp))
theorem step_append_rd {P : Program} (w : World) {ops : Array Oper} {o : Oper} {a : Act} {K : Act → World → Prop} {Q : Exit → Act → World → Prop} {E : Prop} (hgd : o.guard = none) (s x : Operand) (t : TypeId)
    (ho : o.op = .call { callee := .builtin .append, args := #[s, x], argTypes := #[t, t] })
    (base : Nat) (e : TypeId) (i : TypeInfo) (z : Value) (size bytes : Nat) (ht : P.underlying t = some (.slice e)) (hi : P.info? e = some i) (hz : i.zero = some z)
    (hsize : i.size = size) (hby : i.bytes = bytes) (hzs : z.cells.size = size) (hsz : 0 < size)
    (v : Value) (n : Nat) (xs : List Value) (hs : a.eval s = v) (hown : w.ownsRow base e size v n xs)
    (A : Option Addr) (m c : Nat) (news : List Value) (hx : a.eval x = .slice A m c) (hl : news.length = m * size) (hr : Rd w w.heap.size A news) (h1 : ∀ u ∈ news, u.oneCell' = true)
    (h63 : n + m ≤ maxLen) (hbytes : (n + m) * bytes ≤ 140737488355328) (hbase : base ≤ w.heap.size)
    (h : ∀ v' w', w'.ownsRow base e size v' (n + m) (xs ++ news) → w.grownBy w' v.ownBlock → (v'.ownBlock = v.ownBlock ∨ v'.ownBlock = some w.heap.size) → K (a.put o.dst v') w') :
    if Region.wanted o (yielded ops a.tmps) = true then Oper.wp P o a w K Q else E := by
  have hw : Region.wanted o (yielded ops a.tmps) = true := by simp [Region.wanted, hgd]
  rw [if_pos hw]
  exact wp_append_rd w s x t ho base e i z size bytes ht hi hz hsize hby hzs hsz v n xs hs hown w.heap.size A m c news hx hl hr h1 h63 hbytes hbase h
theorem szB : (Try.prog.info? 83).map (·.size) = some 512 := by kernel_rfl
theorem szW : (Try.prog.info? 89).map (·.size) = some 513 := by kernel_rfl
theorem infoWr : (Try.prog.info? 110).map (fun i => (i.zero, i.size, i.bytes)) = some (some (.agg #[.int .i64 0, .slice none 0 0]), 2, 32) := by kernel_rfl
theorem szBl {b : List UInt8} (h : b.length = 512) : (Try.prog.info? 83).map (·.size) = some (b.map e8).length := by rw [List.length_map, h]; exact szB

theorem own_there {w : World} {base : Nat} {e : TypeId} {size n g c : Nat} {xs : List Value} {o m : Nat} (h : w.ownsRow base e size (.slice (some ⟨g, 0, none⟩) n c) n xs) (hle : o + m ≤ n * size) : w.there g o m := fun j hj =>
  ⟨by rw [World.ownsRow.cellAt h (o + j) (by omega)]; have := h.1; rw [List.getElem?_eq_getElem (by omega)]; rfl, World.ownsRow.frozenAt h _⟩

theorem own_setCells {base : Nat} {e : TypeId} {size n g c : Nat} : ∀ (ys : List Value) (o : Nat) {w : World} {xs : List Value}, w.ownsRow base e size (.slice (some ⟨g, 0, none⟩) n c) n xs → o + ys.length ≤ n * size → (w.setCells g o ys).ownsRow base e size (.slice (some ⟨g, 0, none⟩) n c) n (splice xs o ys)
  | [], _, _, _, h, _ => h
  | y :: ys, o, _, _, h, hle => own_setCells ys (o + 1) (h.stored o y).1 (by rw [List.length_cons] at hle; omega)

theorem own_grown {w w' : World} {base : Nat} {e : TypeId} {size n : Nat} {v : Value} {xs : List Value} {row : Option Nat} (h : w.ownsRow base e size v n xs) (hg : w.grownBy w' row) (hne : ∀ k, v.ownBlock = some k → row ≠ some k) : w'.ownsRow base e size v n xs := by
  refine ⟨h.1, ?_⟩
  rcases h.2 with h | ⟨k, cap, cur, rfl, hb, hh, r⟩
  · exact .inl h
  · exact .inr ⟨k, cap, cur, rfl, hb, (hg.block k (lt_of_block hh) (fun e => hne k rfl e.symm)).trans hh, r⟩
theorem own_blk {w : World} {base : Nat} {e : TypeId} {size n g c : Nat} {xs : List Value} (h : w.ownsRow base e size (.slice (some ⟨g, 0, none⟩) n c) n xs) : ∃ cs, w.heap[g]? = some (.cells cs e (0, 0)) := by
  rcases h.2 with ⟨h, _⟩ | ⟨k, cap, cur, hv, hb, hh, r⟩
  · simp at h
  · injection hv with h1 h2 h3
    injection h1 with h1
    injection h1 with h1
    subst h1
    exact ⟨cur, hh⟩
theorem grown_alloc_drew (w : World) (o : Obj) (r : Option Nat) : w.grownBy (w.alloc o).drew r := ⟨rfl, rfl, rfl, by show w.heap.size ≤ (w.alloc o).heap.size; simp, fun k hk _ => Below.heap_alloc w o k hk⟩
theorem at_alloc_drew {w : World} {o : Obj} {v' v : Value} (h : v'.ownBlock = v.ownBlock ∨ v'.ownBlock = some (w.alloc o).drew.heap.size) : v'.ownBlock = v.ownBlock ∨ v'.ownBlock = some (w.heap.size + 1) := h.imp id fun e => e.trans (by show some (w.alloc o).heap.size = _; simp)
theorem keep_fin {g gk g3 ck c3 p : Nat} {fp : List Nat} {s : St} {vp va : Value} {acs : List Value} {b : List UInt8} {w w1 w2 w3 : World} (h : Lies w g fp s (.slice (some ⟨gk, 0, none⟩) s.size ck) vp va acs)
    (bw1 : Below w.heap.size w w1) (hg2 : w1.grownBy w2 (some gk)) (hB2 : BlkT w2 w.heap.size 83 (b.map e8)) (hk2 : w2.ownsRow 0 83 512 (.slice (some ⟨gk, 0, none⟩) s.size ck) s.size (kcells s.size (s.all ++ [(p, b)])))
    (own3 : w3.ownsRow 0 110 2 (.slice (some ⟨g3, 0, none⟩) (s.all.length + 1) c3) (s.all.length + 1) (acs ++ [.int .i64 (p : Int), .slice (some ⟨w.heap.size, 0, none⟩) 512 512])) (hg3 : w2.grownBy w3 va.ownBlock)
    (hat : (Value.slice (some ⟨g3, 0, none⟩) (s.all.length + 1) c3).ownBlock = va.ownBlock ∨ (Value.slice (some ⟨g3, 0, none⟩) (s.all.length + 1) c3).ownBlock = some (w2.heap.size + 1))
    (e3 : w3.heap[g]? = some (.cells #[.slice (some ⟨gk, 0, none⟩) s.size ck, vp, va, .int .i64 s.fuse, .int .i64 (s.calls : Int), .bool s.down] 63 (0, 0))) (hp : p < s.size) (hb : b.length = 512) :
    ∃ fp' va' acs', Lies (w3.setCell ⟨g, 2, none⟩ (.slice (some ⟨g3, 0, none⟩) (s.all.length + 1) c3)) g fp' { s with all := s.all ++ [(p, b)] } (.slice (some ⟨gk, 0, none⟩) s.size ck) vp va' acs' ∧ Keep fp w (w3.setCell ⟨g, 2, none⟩ (.slice (some ⟨g3, 0, none⟩) (s.all.length + 1) c3)) ∧ Fresh w fp fp' := by
  obtain ⟨v3, hv3⟩ : ∃ v3, v3 = Value.slice (some ⟨g3, 0, none⟩) (s.all.length + 1) c3 := ⟨_, rfl⟩
  have hv3b : v3.ownBlock = some g3 := by rw [hv3]; rfl
  rw [← hv3] at own3 hat ⊢
  have hgk : gk ∈ fp := h.inK gk rfl
  have k1 : Keep fp w w1 := Keep.of_below bw1 fp
  have k2 : Keep fp w1 w2 := Keep.of_grown hg2 (fun j e => by injection e with e; subst e; exact hgk)
  have k3 : Keep fp w2 w3 := Keep.of_grown hg3 (fun j e => h.inA j e)
  have k4 : Keep fp w3 (w3.setCell ⟨g, 2, none⟩ v3) := (Keep.refl fp w3).set (.inl h.inG) _
  have k12 := k1.trans k2 (Fresh.refl _ _)
  have k13 := k12.trans k3 (Fresh.refl _ _)
  have k14 := k13.trans k4 (Fresh.refl _ _)
  obtain ⟨csk, hcsk⟩ := own_blk h.kept
  have hAk : va.ownBlock ≠ some gk := own_type h.all hcsk (by decide)
  have hPk : vp.ownBlock ≠ some gk := own_type h.pend hcsk (by decide)
  have hPg := own_type h.pend h.blk (by decide)
  have hAg := own_type h.all h.blk (by decide)
  have hKg := own_type h.kept h.blk (by decide)
  have hgkg : gk ≠ g := fun e => by rw [e] at hKg; exact hKg rfl
  have h3g := own_type own3 e3 (by decide)
  have hPA : ∀ j, vp.ownBlock = some j → va.ownBlock ≠ some j := fun j hj => by
    rcases h.pend.2 with ⟨hv, _⟩ | ⟨q, cap, cur, hv, _, hh, _⟩
    · rw [hv] at hj; simp [Value.ownBlock] at hj
    · have : q = j := by rw [hv] at hj; simpa [Value.ownBlock] using hj
      subst this
      exact own_type h.all hh (by decide)
  have hblk : ∀ j, j < w.heap.size → j ≠ gk → va.ownBlock ≠ some j → j ≠ g → (w3.setCell ⟨g, 2, none⟩ v3).heap[j]? = w.heap[j]? := fun j hj h1 h2 h4 => by
    rw [heap_setCell_other w3 _ j v3 (by simpa using h4), hg3.block j (Nat.lt_of_lt_of_le hj k12.size) (fun e => h2 e.symm), hg2.block j (Nat.lt_of_lt_of_le hj k1.size) (fun e => h1 (by injection e)), bw1.block j hj]
  have hBsz : w.heap.size < w2.heap.size := lt_of_block hB2
  refine ⟨w.heap.size :: g3 :: fp, v3, acs ++ [.int .i64 (p : Int), .slice (some ⟨w.heap.size, 0, none⟩) 512 512], ⟨?_, ?_, ?_, ?_, ?_, by simp [h.inG], fun j hj => by simp [h.inK j hj], fun j hj => by simp [h.inP j hj], fun j hj => by rw [hv3b] at hj; injection hj with hj; simp [hj], ?_, ?_⟩, k14, ?_⟩
  · simp [World.setCell, Array.getElem?_modify, e3]
  · exact own_grown (own_grown hk2 hg3 (fun k hk e => by rw [e] at hAk; injection hk with hk; subst hk; exact hAk rfl)) (grown_set _ _ _) (fun k hk e => by injection hk with hk; injection e with e; exact hgkg (hk.trans e.symm))
  · exact own_grown (own_grown (own_grown (own_on h.pend bw1) hg2 (fun k hk e => hPk (by rw [hk, e]))) hg3 (fun k hk e => hPA k hk e)) (grown_set _ _ _) (fun k hk e => hPg (by rw [hk]; exact e.symm))
  · rw [List.length_append, List.length_singleton]
    exact own_grown own3 (grown_set _ _ _) (fun k hk e => h3g (by rw [hk]; exact e.symm))
  · intro i hi
    simp only [List.length_append, List.length_singleton] at hi
    have hal : acs.length = s.all.length * 2 := h.all.1
    by_cases hlt : i < s.all.length
    · obtain ⟨q, c, q1, q2, q3, q4, q5, q6, q7⟩ := h.told i hlt
      refine ⟨q, c, ?_, ?_, ?_, by simp [q4], q5, q6, q7⟩
      · simp only [List.getElem_append_left hlt]
        rw [List.getElem?_append_left (by omega)]; exact q1
      · rw [List.getElem?_append_left (by omega)]; exact q2
      · simp only [List.getElem_append_left hlt]
        refine (hblk q (h.lt q q4) (fun e => q5 (by rw [e]; rfl)) (own_type h.all q3 (by decide)) (fun e => ?_)).trans q3
        subst e
        have := h.blk
        unfold BlkT at q3
        rw [q3] at this
        injection this with this
        injection this with e1 e2 e3
        exact absurd e2 (by decide)
    · obtain rfl : i = s.all.length := by omega
      refine ⟨w.heap.size, 512, ?_, ?_, ?_, by simp, ?_, Nat.le_refl _, by unfold maxLen; omega⟩
      · rw [List.getElem?_append_right (by omega)]; simp [hal]
      · rw [List.getElem?_append_right (by omega)]; simp [hal, Nat.add_sub_cancel_left]
      · have he : (s.all ++ [(p, b)])[s.all.length]'(by simp) = (p, b) := by simp
        rw [he]
        refine (heap_setCell_other w3 _ w.heap.size v3 ?_).trans ((hg3.block w.heap.size hBsz (fun e => ?_)).trans hB2)
        · intro e; have := h.lt g h.inG; simp at e; omega
        · have := h.lt _ (h.inA _ e.symm); omega
      · intro e
        have := h.lt _ (h.inK _ e); omega
  · intro j hj
    simp only [List.mem_cons] at hj
    have hs4 : (w3.setCell ⟨g, 2, none⟩ v3).heap.size = w3.heap.size := by simp [World.setCell]
    rcases hj with rfl | rfl | hj
    · rw [hs4]; exact Nat.lt_of_lt_of_le hBsz k3.size
    · rw [hs4]; exact (own3.lt _ hv3b).2
    · exact Nat.lt_of_lt_of_le (h.lt j hj) k14.size
  · exact ⟨h.ok.size, h.ok.pend, fun x hx => by
      rcases List.mem_append.1 hx with hx | hx
      · exact h.ok.all x hx
      · rw [List.mem_singleton] at hx; subst hx; exact ⟨hp, hb⟩, h.ok.fuse⟩
  · intro j hj
    simp only [List.mem_cons] at hj
    rcases hj with rfl | rfl | hj
    · exact .inr (Nat.le_refl _)
    · rcases hat with e | e
      · rw [hv3b] at e; exact .inl (h.inA _ e.symm)
      · rw [hv3b] at e; injection e with e; exact .inr (by omega)
    · exact .inl hj
set_option maxHeartbeats 800000 in
theorem keep_any (g : Nat) (fp : List Nat) (s : St) (vk vp va : Value) (acs : List Value) (p : Nat) (b : List UInt8) (w : World) (h : Lies w g fp s vk vp va acs) (hs : s.sz ≤ 1000000000) (hp : p < s.size) (hb : b.length = 512) :
    Calls Try.prog 41 #[.pointer (some ⟨g, 0, none⟩), .int .i64 (p : Int), arrV (b.map e8)] w fun e w' => e = .returned (.tuple #[]) ∧ ∃ fp' va' acs', Lies w' g fp' { s with all := s.all ++ [(p, b)] } vk vp va' acs' ∧ Keep fp w w' ∧ Fresh w fp fp' := by
  obtain ⟨gk, ck, rfl, _⟩ := own_some h.kept (by omega)
  obtain ⟨i0, hi0, hz0, hz1, hz2⟩ := info_parts infoWr
  have hxl : (b.map e8).length = 512 := by rw [List.length_map, hb]
  have hx1 := e8_one b
  have hszb := szBl hb
  have hub := Try.underlying83
  have hkc : splice (kcells s.size s.all) (p * 512) (b.map e8) = kcells s.size (s.all ++ [(p, b)]) :=
    splice_flat (fun q => (kept s.all q).map e8) (fun q => (kept (s.all ++ [(p, b)]) q).map e8) 512 (List.range s.size) (fun q _ => by rw [List.length_map, kept_len h.ok.all]) (fun q _ => by
      rw [List.length_map, kept_snoc]
      split
      · exact hb
      · exact kept_len h.ok.all q) p (by simpa using hp) (b.map e8) (by rw [List.length_map, hb]) (by simp only [List.getElem_range, kept_snoc, if_true]) (fun q hq hne => by
      simp only [List.getElem_range, kept_snoc]
      rw [if_neg (fun e => hne e.symm)])
  obtain ⟨xs, hxs⟩ : ∃ xs, xs = b.map e8 := ⟨_, rfl⟩
  rw [← hxs] at hxl hx1 hszb hkc ⊢
  have Hxs := Lib.hid hxs
  have Hkc := Lib.hid hkc
  clear hxs hkc
  have hpI : (p : Int) < (s.size : Int) := by omega
  go_enter Try.func41, Try.ntmps41
  go_wp2_with ((with_reducible show wpList _ _ _ (⟨some 5, _, _, _, _, _⟩ :: _) _ _); refine wpList_boxT rfl _ _ rfl xs rfl ?_; intro w1 hB bw1 hs1)
  have h1 := h.on bw1
  obtain ⟨c0, c1, c2, c3, c4, c5, fr⟩ := six h1.blk
  go_frame
  have hgB : g ≠ w.heap.size := fun e => by have := h.lt g h.inG; omega
  have hkB : gk ≠ w.heap.size := fun e => by have := h.lt gk (h.inK gk rfl); omega
  have hgk : g ≠ gk := fun e => by
    have := own_type h.kept h.blk (by decide)
    rw [e] at this
    exact this rfl
  have hrB : w1.rangeAt w.heap.size 0 xs := fun j v hv => by
    rw [Nat.zero_add, cell_of_row _ _ _ _ _ _ hB]; simpa using hv
  have hle : p * 512 + 512 ≤ s.size * 512 := by rw [← Nat.succ_mul]; exact Nat.mul_le_mul_right _ hp
  have hth : w1.there gk (p * 512) 512 := own_there h1.kept hle
  have hS2 : (w1.drew.setCells gk (p * 512) xs).cell? ⟨g, 0, none⟩ = some (.slice (some ⟨gk, 0, none⟩) s.size ck) ∧ (w1.drew.setCells gk (p * 512) xs).rangeAt w.heap.size 0 xs ∧ (w1.drew.setCells gk (p * 512) xs).there gk (p * 512) 512 :=
    ⟨(World.cell?_setCells_out gk xs (p * 512) w1.drew ⟨g, 0, none⟩ (fun e _ => absurd e hgk)).trans c0, World.rangeAt_setCells_apart (w := w1.drew) hrB gk _ xs (.inl (Ne.symm hkB)), World.there_setCells (w := w1.drew) hth gk _ xs⟩
  go_region_held3 (fun w' => w'.cell? ⟨g, 0, none⟩ = some (.slice (some ⟨gk, 0, none⟩) s.size ck) ∧ w'.rangeAt w.heap.size 0 xs ∧ w'.there gk (p * 512) 512) (first | exact ⟨c0, hrB, hth⟩ | exact hS2) (fail)
  have hk2 := own_setCells xs (p * 512) (w := w1.drew) h1.kept (by rw [hxl]; exact hle)
  rw [Hkc.out] at hk2
  have hg2 : w1.grownBy (w1.drew.setCells gk (p * 512) xs) (some gk) := grown_trans (show w1.grownBy w1.drew (some gk) from ⟨rfl, rfl, rfl, Nat.le_refl _, fun _ _ _ => rfl⟩) (setCells_grown gk xs (p * 512) w1.drew)
  have hB2 : BlkT (w1.drew.setCells gk (p * 512) xs) w.heap.size 83 xs := (hg2.block _ hs1 (fun e => hkB (by injection e with e; exact e.symm))).trans hB
  obtain ⟨w2, hw2⟩ : ∃ w2, w2 = w1.drew.setCells gk (p * 512) xs := ⟨_, rfl⟩
  rw [← hw2] at hk2 hg2 hB2 ⊢
  clear hS2 hw2 hth hrB c0 c1 c2 c3 c4 c5 fr
  have hg2b := (hg2.block g (Nat.lt_of_lt_of_le (h.lt g h.inG) bw1.size) (fun e => hgk (by injection e))).trans h1.blk
  obtain ⟨c0, c1, c2, c3, c4, c5, fr⟩ := six hg2b
  go_wp2
  have hA2 := own_grown h1.all hg2 (fun k hk e => by
    injection e with e
    subst e
    obtain ⟨cs, hcs⟩ := own_blk h.kept
    exact own_type h.all hcs (by decide) hk)
  have hgl : g < w2.heap.size := lt_of_block hg2b
  have hgA : some g ≠ va.ownBlock := fun e => own_type h.all h.blk (by decide) e.symm
  have hBl : w.heap.size < w2.heap.size := lt_of_block hB2
  go_region_law ((refine step_append_rd _ (by rfl) _ _ _ (by rfl) 0 110 i0 _ 2 32 Try.underlying61 hi0 hz0 hz1 hz2 rfl (by omega) va s.all.length acs (by rfl) ?_ _ 1 1 [.int .i64 (p : Int), .slice (some ⟨w.heap.size, 0, none⟩) 512 512] (by rfl) (by rfl) ?_ (by simp [Value.oneCell']) (by simp only [maxLen]; unfold St.sz at hs; omega) (by unfold St.sz at hs; omega) (Nat.zero_le _) ?_); (· exact hA2.alloc _); (· exact Rd.lit _ _ _ _ _ rfl (by simp)); intro v3 w3 own3 hg3 hat3; obtain ⟨g3, c3', rfl, _⟩ := own_some own3 (by omega); have e3 := (hg3.block g (by simp; omega) hgA).trans ((Below.heap_alloc _ _ g hgl).trans hg2b); obtain ⟨_, _, d2, _, _, _, d7⟩ := six e3; have d8 := d7 2; have hg4 := grown_trans (grown_alloc_drew w2 _ va.ownBlock) hg3; have hat4 := at_alloc_drew hat3)
  all_goals
    have fin := Lib.hid (keep_fin h bw1 hg2 (Hxs.out ▸ hB2) hk2 own3 hg4 hat4 e3 hp hb)
    go_wp2
    go_end0
    exact ⟨rfl, fin.out⟩
end Go.Proofs.Ytkapamolligmkaa.Disk
