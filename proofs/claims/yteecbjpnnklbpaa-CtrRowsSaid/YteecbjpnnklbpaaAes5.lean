/- The walk of aes.Mix. -/
import Derived.Test.YteecbjpnnklbpaaAes4
import Derived.Deep.RegionHeld3
namespace Go.Proofs.Yteecbjpnnklbpaa.Aes
open Go.RowKit
open Go.Proofs.Yteecbjpnnklbpaa.Gf
set_option linter.unusedVariables false
set_option maxRecDepth 100000
theorem step_copyN {P : Program} {w : World} {ops : Array Oper} {o : Oper} {a : Act} {K : Act → World → Prop} {Q : Exit → Act → World → Prop} {E : Prop} (hgd : o.guard = none) (d s : Operand) (t t' : TypeId)
    (ho : o.op = .call { callee := .builtin .copy, args := #[d, s], argTypes := #[t, t'] }) {g off dLen dCap : Nat} {ad : Addr} {sLen sCap : Nat} (hd : a.eval d = .slice (some ⟨g, off, none⟩) dLen dCap) (hs : a.eval s = .slice (some ad) sLen sCap)
    (cs : List Value) (hn : cs.length = Nat.min sLen dLen) {e : TypeId} (hu : P.underlying t = some (.slice e)) (hi : (P.info? e).map (·.size) = some 1) {xs : List Value} (hb : Blk w g xs) (hfit : off + cs.length ≤ xs.length)
    (hsrc : ∀ j v, cs[j]? = some v → w.cell? (ad.add j) = some v) (h1 : ∀ v ∈ cs, v.oneCell' = true)
    (h : ∀ w1, Blk w1 g (splice xs off cs) → w.grownBy w1 (some g) → K (a.put o.dst (goInt cs.length)) w1) :
    if Region.wanted o (yielded ops a.tmps) = true then Oper.wp P o a w K Q else E := by
  rw [if_pos (by simp [Region.wanted, hgd])]
  have hr := run_copy_cells (P := P) w t t' o.type e g off dLen dCap ad sLen sCap cs hu hi hn hsrc (fun j hj => by rw [hb.cell (show off + j < xs.length by omega)]; rfl) (fun j _ => hb.free _) h1
  unfold Oper.wp execOp
  simp only [ho, resolve, invoke, builtin, Sem.run_bind, Sem.run_pure, Result.andThen_ok, List.map_toArray, List.map_cons, List.map_nil, hd, hs, hr]
  exact h _ (hb.setCells cs off) (setCells_grown g cs off w)
theorem mix_at4 (s : List UInt8) (c j : Nat) (hc : c < 4) (hj : j < 4) : (mixS s).getD (4 * c + j) 0 = colGet (mix (colOf s c)) j := by
  have h := of16_at (fun i => colGet (mix (colOf s (i / 4))) i) (4 * c + j) (by omega)
  rw [show (4 * c + j) / 4 = c by omega] at h
  rw [show (mixS s).getD (4 * c + j) 0 = _ from h]
  unfold colGet
  rw [show (4 * c + j) % 4 = j % 4 by omega]
theorem splice_mix (s : List UInt8) (hs : s.length = 16) (c : Nat) (hc : c < 4) : splice (vb (part (mixS s) s (4 * c))) (4 * c) (vb (colL (mix (colOf s c)))) = vb (part (mixS s) s (4 * (c + 1))) := by
  have hm := mix_len s
  have h0 := mix_at4 s c 0 hc (by omega)
  have h1 := mix_at4 s c 1 hc (by omega)
  have h2 := mix_at4 s c 2 hc (by omega)
  have h3 := mix_at4 s c 3 hc (by omega)
  have p0 := part_set (mixS s) s (4 * c) 16 hm hs (by omega)
  have p1 := part_set (mixS s) s (4 * c + 1) 16 hm hs (by omega)
  have p2 := part_set (mixS s) s (4 * c + 2) 16 hm hs (by omega)
  have p3 := part_set (mixS s) s (4 * c + 3) 16 hm hs (by omega)
  rw [Nat.add_zero] at h0
  rw [h0] at p0
  rw [h1] at p1
  rw [h2] at p2
  rw [h3] at p3
  show (((((vb (part (mixS s) s (4 * c))).set (4 * c) (e8 (mix (colOf s c)).a)).set (4 * c + 1) (e8 (mix (colOf s c)).b)).set (4 * c + 1 + 1) (e8 (mix (colOf s c)).c)).set (4 * c + 1 + 1 + 1) (e8 (mix (colOf s c)).d)) = _
  rw [vb_set, show (part (mixS s) s (4 * c)).set (4 * c) (mix (colOf s c)).a = _ from p0, vb_set, show (part (mixS s) s (4 * c + 1)).set (4 * c + 1) (mix (colOf s c)).b = _ from p1, vb_set,
    show (part (mixS s) s (4 * c + 1 + 1)).set (4 * c + 1 + 1) (mix (colOf s c)).c = _ from p2, vb_set, show (part (mixS s) s (4 * c + 1 + 1 + 1)).set (4 * c + 1 + 1 + 1) (mix (colOf s c)).d = _ from p3]
  rfl
theorem range_col {w : World} {g : Nat} {s m : List UInt8} {c : Nat} (hs : s.length = 16) (hm : m.length = 16) (hc : c < 4) (h : Blk w g (vb (part m s (4 * c)))) : w.rangeAt g (4 * c) (vb (colL (colOf s c))) := by
  have hb : ∀ j, j < 4 → w.cell? ⟨g, 4 * c + j, none⟩ = some (e8 (s.getD (4 * c + j) 0)) := fun j hj => by
    rw [Blk.byte h (k := 4 * c + j) (by rw [part_len _ _ (4 * c) 16 hm hs (by omega)]; omega), part_old _ _ (4 * c) (4 * c + j) 16 hm hs (by omega) (by omega)]
  intro j v hv
  match j, hv with
  | 0, hv => cases hv; exact hb 0 (by omega)
  | 1, hv => cases hv; exact hb 1 (by omega)
  | 2, hv => cases hv; exact hb 2 (by omega)
  | 3, hv => cases hv; exact hb 3 (by omega)
  | j + 4, hv => simp [vb, colL] at hv
theorem run_slice16 (B n p : Nat) (hp : p = n + 4) (h : n + 4 ≤ 16) (w : World) :
    (Instr.sliceAt 22 (.pointer (some ⟨B, 0, none⟩)) (some (.int .i64 (n : Int))) (some (.int .i64 (p : Int))) none).run Try.prog w = .ok (.slice (some ⟨B, n, none⟩) 4 (16 - n)) w := by
  have h2 : (p : Int) ≤ 16 := by omega
  have h3 : p - n = 4 := by omega
  have h4 : n ≤ p := by omega
  simp [Instr.sliceAt, run_underlying Try.underlying22, go_sem, h2, h3, h4]
  omega
set_option maxHeartbeats 800000 in
theorem mix_any (s : List UInt8) (hs : s.length = 16) (w : World) : Calls Try.prog 13 #[stV s] w fun e w' => e = .returned (stV (mixS s)) ∧ Below w.heap.size w w' := by
  have Hs := Lib.hid hs
  have hl2 := mix_len s
  have hsz2 := sizeL hl2
  have Hl2 := Lib.hid hl2
  clear hs hl2
  unfold stV
  go_enter Try.func13, Try.ntmps13
  go_wp2_with (first
    | (refine wpList_boxN rfl _ _ rfl (vb s) rfl ?_; intro w1 hb1 bw1 hs1)
    | (refine wpList_allocN rfl _ rfl (vb zero16) zeroV16 ?_; intro w2 hb2 bw2 hs2; have hb12 := hb1.on bw2; have bt2 := bt bw1 bw2)
    | fail)
  have l01 : w.heap.size < w1.heap.size := hs1
  obtain ⟨B1, hB1⟩ : ∃ B, B = w1.heap.size := ⟨_, rfl⟩
  rw [← hB1] at hb2 l01 ⊢
  clear hB1 hb1 bw1 bw2 hs1 hs2
  go_loopw [3] (fun i wr => ∃ c n : Nat, c ≤ 4 ∧ n = 4 * c ∧ i = .int .i64 n ∧ Blk wr w.heap.size (vb (part (mixS s) s (4 * c))) ∧ Blk wr B1 (vb zero16) ∧ Below w.heap.size w wr) (fun i _ => 16 - (intOf i).toNat)
  case atStart => exact ⟨0, 0, by omega, rfl, rfl, by rw [Nat.mul_zero, part_zero]; exact hb12, hb2, bt2⟩
  case round =>
    obtain ⟨c, n, hc, hn, rfl, d0, d1, bt0⟩ := hrel
    by_cases hlt : c < 4
    · have hrg := range_col Hs.out Hl2.out hlt d0
      have hsp := Lib.hid (splice_mix s Hs.out c hlt)
      obtain ⟨X, hX⟩ : ∃ X, X = colOf s c := ⟨_, rfl⟩
      rw [← hX] at hrg hsp
      rw [← hn] at hsp hrg d0
      have hpl := Lib.hid (part_len (mixS s) s n 16 Hl2.out Hs.out (by omega))
      have hnb : n < 16 := by omega
      have hn12 : n + 4 ≤ 16 := by omega
      obtain ⟨p, hp⟩ : ∃ p, p = n + 4 := ⟨_, rfl⟩
      have hwp : IntKind.i64.wrap ((n : Int) + 4) = (p : Int) := by rw [IntKind.wrap_i64]; omega
      have hsl := run_slice16 w.heap.size n p hp (by omega)
      have Hp := Lib.hid hp
      clear hp
      have Hn := Lib.hid hn
      clear hX hn
      have hB := d0.lt
      go_wp2
      go_region_held3 (fun w' => True) (trivial)
        (first
        | (go_at_call 35; refine (column_any w.heap.size n _ X _ (by exact hrg)).mono ?_; rintro e w3 ⟨A1, rfl, r1, b3⟩; have e0 : Blk w3 w.heap.size (vb (part (mixS s) s n)) := Blk.below (by exact d0) b3 hB)
        | (refine step_copyN (by rfl) _ _ _ _ (by rfl) (by rfl) (by rfl) (vb (colL (mix X))) (by rfl) Try.underlying27 size8 e0 (by rw [vb_len, vb_len, hpl.out]; exact hn12) (by intro j v hv; obtain ⟨b, off, hA, hl, hcell⟩ := r1 (by simp [vb, colL]); cases hA; have hj := (List.getElem?_eq_some_iff.1 hv); obtain ⟨hj, hv'⟩ := hj; rw [Addr.add_lit, hcell j hj, hv']) (vb_one _) ?_; intro w4 hb4 hg4; rw [hsp.out] at hb4)
        | fail)
      go_wp2
      go_roundw
      case rel =>
        refine ⟨c + 1, n + 4, by omega, by have := Hn.out; omega, by rw [Hp.out], hb4, ?_, ?_⟩
        · exact (Blk.grown (Blk.below (by exact d1) b3 d1.lt) hg4 (by simp; omega))
        · exact below_row (bt0.trans (Below.trans (by exact (Below.refl _ _).drew) (b3.mono bt0.size))) hg4 (Nat.le_refl _) (Nat.le_trans bt0.size b3.size)
      case measure => simp [intOf]; have := Hp.out; omega
    · obtain rfl : c = 4 := by omega
      rw [part_all _ _ 16 Hl2.out Hs.out] at d0
      subst hn
      go_wp2_with (first
        | (refine wpList_loadA rfl _ _ rfl rfl d0 Try.underlying22 hsz2 ?_)
        | (refine wpList_storeN rfl _ _ _ rfl rfl (ys := vb (mixS s)) rfl d1 (by rw [vb_len, vb_len, Hl2.out]; rfl) (vb_one _) hsz2 ?_; intro w9 hb9 hg9))
      exact bodyPost_ret (v := arrV (vb (mixS s))) (results_arr Try.results13 _ hb9 Try.underlying22 hsz2 rfl) rfl ⟨rfl, below_row bt0 hg9 (by omega) bt0.size⟩
end Go.Proofs.Yteecbjpnnklbpaa.Aes
