/- The reference's disk: how it lies, and the walk of keep. -/
import Derived.Test.YtdkcdojcglmlbaaDiskR
import Derived.Deep.DeepCutAuto
namespace Go.Proofs.Ytdkcdojcglmlbaa.Disk
open Go.RowKit
set_option linter.unusedVariables false
set_option maxRecDepth 100000

/-- a row of writes that is only read, in none of the blocks that are named -/
def EntN (w : World) (fp : List Nat) (l : List Wr) (acs : List Value) : Prop := ∀ i (h : i < l.length), ∃ B c, acs[i * 2]? = some (.int .i64 (l[i].1 : Int)) ∧ acs[i * 2 + 1]? = some (.slice B l[i].2.length c) ∧ l[i].2.length ≤ c ∧ c ≤ maxLen ∧ RdN w fp B (l[i].2.map e8)
def WRow (w : World) (fp : List Nat) (v : Value) (l : List Wr) : Prop := ∃ A c acs, v = .slice A l.length c ∧ l.length ≤ c ∧ c ≤ maxLen ∧ acs.length = l.length * 2 ∧ (∀ u ∈ acs, u.oneCell' = true) ∧ RdN w fp A acs ∧ EntN w fp l acs
theorem EntN.keep {w w' : World} {fp fp' : List Nat} {l : List Wr} {acs : List Value} (h : EntN w fp l acs) (k : Keep fp w w') (f : Fresh w fp fp') : EntN w' fp' l acs := fun i hi => by
  obtain ⟨B, c, h1, h2, h3, h4, h5⟩ := h i hi
  exact ⟨B, c, h1, h2, h3, h4, h5.keep k f⟩
theorem WRow.keep {w w' : World} {fp fp' : List Nat} {v : Value} {l : List Wr} (h : WRow w fp v l) (k : Keep fp w w') (f : Fresh w fp fp') : WRow w' fp' v l := by
  obtain ⟨A, c, acs, h1, h2, h3, h4, h5, h6, h7⟩ := h
  exact ⟨A, c, acs, h1, h2, h3, h4, h5, h6.keep k f, h7.keep k f⟩
theorem WRow.on {w w' : World} {fp : List Nat} {v : Value} {l : List Wr} (h : WRow w fp v l) (b : Below w.heap.size w w') : WRow w' fp v l := h.keep (Keep.of_below b fp) (Fresh.refl _ _)
theorem WRow.nil (w : World) (fp : List Nat) : WRow w fp (.slice none 0 0) [] := ⟨none, 0, [], rfl, Nat.le_refl _, by unfold maxLen; omega, rfl, (by intro u hu; cases hu), RdN.nil _ _ _, fun i hi => absurd hi (by simp)⟩
theorem EntN.snoc {w : World} {fp : List Nat} {l : List Wr} {acs : List Value} {x : Wr} {B : Option Addr} {c : Nat} (h : EntN w fp l acs) (hl : acs.length = l.length * 2) (h1 : x.2.length ≤ c) (h2 : c ≤ maxLen) (hB : RdN w fp B (x.2.map e8)) :
    EntN w fp (l ++ [x]) (acs ++ [.int .i64 (x.1 : Int), .slice B x.2.length c]) := fun i hi => by
  simp only [List.length_append, List.length_singleton] at hi
  by_cases e : i < l.length
  · obtain ⟨B', c', g1, g2, g3, g4, g5⟩ := h i e
    exact ⟨B', c', by rw [List.getElem?_append_left (by omega)]; simp only [List.getElem_append_left e]; exact g1, by rw [List.getElem?_append_left (by omega)]; simp only [List.getElem_append_left e]; exact g2, by simp only [List.getElem_append_left e]; exact g3, g4, by simp only [List.getElem_append_left e]; exact g5⟩
  · obtain rfl : i = l.length := by omega
    exact ⟨B, c, by rw [List.getElem?_append_right (by omega)]; simp [hl], by rw [List.getElem?_append_right (by omega)]; simp [hl, Nat.add_sub_cancel_left], by simpa using h1, h2, by simpa using hB⟩
theorem RdN.own2 {w' : World} {base s : Nat} {e : TypeId} {A : Option Addr} {n c : Nat} {xs : List Value} {fp : List Nat} (h : w'.ownsRow base e s (.slice A n c) n xs) (hf : ∀ j ∈ fp, j < base) : RdN w' fp A xs := by
  intro hne
  rcases h.2 with ⟨hv, hn⟩ | ⟨g, cap, cur, hv, hg, hh, hnc, hcm, hcs, ht⟩
  · exact absurd (List.eq_nil_of_length_eq_zero (by rw [h.1, hn]; simp)) hne
  · injection hv with hA _ _
    subst hA
    refine ⟨g, 0, rfl, lt_of_block hh, fun e => by have := hf g e; omega, fun i hi => ?_⟩
    have hl := h.1
    have := World.ownsRow.cellAt (j := i) h (by omega)
    rw [Nat.zero_add, this]; exact List.getElem?_eq_getElem hi
/-- the row that keep makes -/
theorem WRow.own {w : World} {base : Nat} {fp : List Nat} {A : Option Addr} {n c : Nat} {l : List Wr} {x : Wr} {acs : List Value} {B : Option Addr} {cB : Nat} (h : w.ownsRow base 70 2 (.slice A n c) n (acs ++ [.int .i64 (x.1 : Int), .slice B x.2.length cB])) (hn : n = (l ++ [x]).length)
    (hf : ∀ j ∈ fp, j < base) (h1 : ∀ u ∈ acs, u.oneCell' = true) (he : EntN w fp l acs) (hl : acs.length = l.length * 2) (hc : x.2.length ≤ cB) (hm : cB ≤ maxLen) (hB : RdN w fp B (x.2.map e8)) : WRow w fp (.slice A n c) (l ++ [x]) := by
  subst hn
  refine ⟨A, c, _, rfl, (own_caps h).1, (own_caps h).2, h.1, fun u hu => ?_, RdN.own2 h hf, he.snoc hl hc hm hB⟩
  rcases List.mem_append.1 hu with hu | hu
  · exact h1 u hu
  · simp only [List.mem_cons, List.not_mem_nil, or_false] at hu
    rcases hu with rfl | rfl <;> rfl
/-- the reference's disk, as a value -/
def rvL (n : Nat) (vk vw vh : Value) (f : Int) (c : Nat) (d : Bool) : List Value := [.int .i64 (n : Int), vk, vw, vh, .int .i64 f, .int .i64 (c : Int), .bool d]
theorem own_empty (w : World) (e : TypeId) (s base : Nat) (hb : base ≤ w.heap.size) : (w.alloc (.cells #[] e)).ownsRow base e s (.slice (some ⟨w.heap.size, 0, none⟩) 0 0) 0 [] :=
  ⟨by simp, .inr ⟨w.heap.size, 0, #[], rfl, hb, heap_alloc_new w _, Nat.le_refl _, by unfold maxLen; omega, by simp, by simp⟩⟩
theorem sevenT {w : World} {g : Nat} {v0 v1 v2 v3 v4 v5 v6 : Value} {t : TypeId} (h : BlkT w g t [v0, v1, v2, v3, v4, v5, v6]) :
    w.cell? ⟨g, 0, none⟩ = some v0 ∧ w.cell? ⟨g, 1, none⟩ = some v1 ∧ w.cell? ⟨g, 2, none⟩ = some v2 ∧ w.cell? ⟨g, 3, none⟩ = some v3 ∧ w.cell? ⟨g, 4, none⟩ = some v4 ∧ w.cell? ⟨g, 5, none⟩ = some v5 ∧ w.cell? ⟨g, 6, none⟩ = some v6 ∧ ∀ o, w.frozen? ⟨g, o, none⟩ = false := by
  have h' : w.heap[g]? = some (.cells #[v0, v1, v2, v3, v4, v5, v6] t (0, 0)) := h
  refine ⟨?_, ?_, ?_, ?_, ?_, ?_, ?_, ?_⟩ <;> simp [World.cell?, World.frozen?, h']
theorem run_empty (w : World) : (Instr.buildSlice 66 0 #[]).run Try.prog w = .ok (.slice (some ⟨w.heap.size, 0, none⟩) 0 0) (w.alloc (.cells #[] 70)) := by
  obtain ⟨i0, hi0, hz0, hz1, hz2⟩ := info_parts infoWr
  simp [Instr.buildSlice, run_underlying Try.underlying66, sizeOf, typeInfo, hi0, Instr.fill, newRow, go_sem]
theorem zeroRV (w : World) : (zeroValue 108).run Try.prog w = .ok (arrV (rvL 0 (.slice none 0 0) (.slice none 0 0) (.slice none 0 0) 0 0 false)) w := by kernel_rfl
theorem Rd.blkT {w : World} {b : Nat} {t : TypeId} {xs : List Value} (h : BlkT w b t xs) : Rd w w.heap.size (some ⟨b, 0, none⟩) xs := fun _ => ⟨b, 0, rfl, lt_of_block h, fun i hi => by rw [Nat.zero_add]; exact h.blk.cell hi⟩
/-- what stands in the three orders of 'append(append([]T{}, a...), x)' ahead of the first append -/
structure Prep (D W : World) (z : Nat) (Ak : Option Addr) (acs : List Value) : Prop where
  own : W.ownsRow D.heap.size 70 2 (.slice (some ⟨z, 0, none⟩) 0 0) 0 []
  rd : Rd W W.heap.size Ak acs
  bel : Below D.heap.size D W
  le : D.heap.size ≤ z
theorem Prep.step {D W w8 : World} {z : Nat} {Ak : Option Addr} {acs : List Value} (h : Prep D W z Ak acs) {v : Value} (hv : v.ownBlock = some z) (hg : W.grownBy w8 v.ownBlock) : Below D.heap.size D w8 := below_row h.bel (hv ▸ hg) h.le h.bel.size
theorem prepA (D : World) (fp : List Nat) (Ak : Option Addr) (acs : List Value) (h : RdN D fp Ak acs) : Prep D (D.alloc (.cells #[] 70)) D.heap.size Ak acs :=
  ⟨own_empty D _ _ _ (Nat.le_refl _), (h.on (b1alloc _ _)).rd, b1alloc _ _, Nat.le_refl _⟩
theorem prepB (D : World) (fp : List Nat) (Ak : Option Addr) (acs : List Value) (L : Obj) (h : RdN D fp Ak acs) : Prep D ((D.alloc (.cells #[] 70)).alloc L) D.heap.size Ak acs :=
  ⟨(own_empty D _ _ _ (Nat.le_refl _)).alloc _, ((h.on (b1alloc _ _)).on (b1alloc _ _)).rd, bt (b1alloc _ _) (b1alloc _ _), Nat.le_refl _⟩
theorem prepC (D : World) (fp : List Nat) (Ak : Option Addr) (acs : List Value) (L : Obj) (h : RdN D fp Ak acs) : Prep D ((D.alloc L).alloc (.cells #[] 70)) (D.heap.size + 1) Ak acs :=
  ⟨by have := own_empty (D.alloc L) 70 2 D.heap.size (by simp); simpa using this, ((h.on (b1alloc _ _)).on (b1alloc _ _)).rd, bt (b1alloc _ _) (b1alloc _ _), Nat.le_succ _⟩
theorem litB (D w8 : World) (xs : List Value) {v : Value} (hv : v.ownBlock = some D.heap.size) (hg : ((D.alloc (.cells #[] 70)).alloc (.cells xs.toArray 70)).grownBy w8 v.ownBlock) : Rd w8 w8.heap.size (some ⟨D.heap.size + 1, 0, none⟩) xs :=
  Rd.blkT (t := 70) ((hg.block (D.heap.size + 1) (by simp) (by rw [hv]; simp)).trans (by have := heap_alloc_new (D.alloc (.cells #[] 70)) (.cells xs.toArray 70); simpa using this))
theorem litC (D w8 : World) (xs : List Value) {v : Value} (hv : v.ownBlock = some (D.heap.size + 1)) (hg : ((D.alloc (.cells xs.toArray 70)).alloc (.cells #[] 70)).grownBy w8 v.ownBlock) : Rd w8 w8.heap.size (some ⟨D.heap.size, 0, none⟩) xs :=
  Rd.blkT (t := 70) ((hg.block D.heap.size (by simp; omega) (by rw [hv]; simp)).trans ((Below.heap_alloc _ _ _ (by simp)).trans (heap_alloc_new D _)))
theorem BlkT.cell0 {w : World} {g : Nat} {t : TypeId} {u v : Value} (h : BlkT w g t [u, v]) : w.cell? ⟨g, 0, none⟩ = some u := by simp [World.cell?, show w.heap[g]? = some (.cells #[u, v] t (0, 0)) from h]
theorem BlkT.cell1 {w : World} {g : Nat} {t : TypeId} {u v : Value} (h : BlkT w g t [u, v]) : w.cell? ⟨g, 1, none⟩ = some v := by simp [World.cell?, show w.heap[g]? = some (.cells #[u, v] t (0, 0)) from h]
theorem BlkT.set {w : World} {g : Nat} {t : TypeId} {xs : List Value} (h : BlkT w g t xs) (k : Nat) (v : Value) : BlkT (w.setCell ⟨g, k, none⟩ v) g t (xs.set k v) := by
  unfold BlkT
  rw [heap_setCell_same w g k _ t v h]
  simp
theorem BlkT.other {w : World} {g b : Nat} {t : TypeId} {xs : List Value} (h : BlkT w g t xs) (k : Nat) (v : Value) (hn : g ≠ b) : BlkT (w.setCell ⟨b, k, none⟩ v) g t xs := (heap_setCell_other w _ g v (by simpa using hn)).trans h
theorem rdN_cons {w : World} {fp : List Nat} {A : Option Addr} {xs : List Value} (h : RdN w fp A xs) {a : Nat} (ha : w.heap.size ≤ a) : RdN w (a :: fp) A xs := fun hne => by
  obtain ⟨b, off, h1, h2, h3, h4⟩ := h hne
  exact ⟨b, off, h1, h2, fun e => by
    rcases List.mem_cons.1 e with e | e
    · omega
    · exact h3 e, h4⟩
theorem rdN_less {w : World} {fp fq : List Nat} {A : Option Addr} {xs : List Value} (h : RdN w fq A xs) (hl : ∀ j ∈ fp, j ∈ fq) : RdN w fp A xs := fun hne => by
  obtain ⟨b, off, h1, h2, h3, h4⟩ := h hne
  exact ⟨b, off, h1, h2, fun e => h3 (hl b e), h4⟩
theorem EntN.cons {w : World} {fp : List Nat} {l : List Wr} {acs : List Value} (h : EntN w fp l acs) {a : Nat} (ha : w.heap.size ≤ a) : EntN w (a :: fp) l acs := fun i hi => by
  obtain ⟨B, c, h1, h2, h3, h4, h5⟩ := h i hi
  exact ⟨B, c, h1, h2, h3, h4, rdN_cons h5 ha⟩
theorem WRow.less {w : World} {fp fq : List Nat} {v : Value} {l : List Wr} (h : WRow w fq v l) (hl : ∀ j ∈ fp, j ∈ fq) : WRow w fp v l := by
  obtain ⟨A, c, acs, h1, h2, h3, h4, h5, h6, h7⟩ := h
  exact ⟨A, c, acs, h1, h2, h3, h4, h5, rdN_less h6 hl, fun i hi => by
    obtain ⟨B, c, g1, g2, g3, g4, g5⟩ := h7 i hi
    exact ⟨B, c, g1, g2, g3, g4, rdN_less g5 hl⟩⟩
theorem mid_row {w w3 w11 : World} {fp : List Nat} {A11 B : Option Addr} {c11 n11 cB : Nat} {l : List Wr} {x : Wr} {acs : List Value} (hfp : ∀ j ∈ fp, j < w3.heap.size) (bww : Below w.heap.size w w3) (b11 : Below w3.drew.heap.size w3.drew w11)
    (own : w11.ownsRow w3.drew.heap.size 70 2 (.slice A11 n11 c11) n11 ([] ++ acs ++ [.int .i64 (x.1 : Int), .slice B 512 cB])) (hn : n11 = (l ++ [x]).length) (h4 : ∀ u ∈ acs, u.oneCell' = true) (h6 : EntN w3 fp l acs) (h3 : acs.length = l.length * 2)
    (hc : x.2.length ≤ cB) (hm : cB ≤ maxLen) (hx : x.2.length = 512) (hB : RdN w3 fp B (x.2.map e8)) (a k : Nat) (ha : a ∈ fp) (hwa : w.heap.size ≤ a) (v : Value) :
    WRow (w11.setCell ⟨a, k, none⟩ v) fp (.slice A11 n11 c11) (l ++ [x]) ∧ Below w.heap.size w (w11.setCell ⟨a, k, none⟩ v) ∧ (∀ j t ys, j ≠ a → BlkT w3 j t ys → BlkT (w11.setCell ⟨a, k, none⟩ v) j t ys) ∧ (∀ t ys, BlkT w3 a t ys → BlkT (w11.setCell ⟨a, k, none⟩ v) a t (ys.set k v)) ∧ Keep fp w3 (w11.setCell ⟨a, k, none⟩ v) := by
  have b11' : Below w3.heap.size w3 w11 := undrew b11
  have hbl : Below w.heap.size w (w11.setCell ⟨a, k, none⟩ v) := (bt bww b11').setCell (p := ⟨a, k, none⟩) hwa v
  have hkp : Keep fp w3 (w11.setCell ⟨a, k, none⟩ v) := (Keep.of_below b11' fp).set (.inl ha) v
  have haw := hfp a ha
  rw [List.nil_append, ← hx] at own
  have own2 := own_grown own (grown_set w11 ⟨a, k, none⟩ v) (fun q hq e => by
    injection e with e
    have h1 := own_block own hq
    have h2 : w3.heap.size ≤ q := h1
    have e' : a = q := e
    omega)
  refine ⟨WRow.own own2 hn hfp h4 (h6.keep hkp (Fresh.refl _ _)) h3 hc hm (hB.keep hkp (Fresh.refl _ _)), hbl, fun j t ys hj h => BlkT.other ((b11'.block j (lt_of_block h)).trans h) _ _ hj, fun t ys h => BlkT.set ((b11'.block a haw).trans h) _ _, hkp⟩
/-- between the two rows of keep -/
def KMid (w : World) (fp : List Nat) (a b c : Nat) (ys zs : List Value) (n cc : Nat) (vw vh : Value) (f : Int) (d : Bool) (lk : List Wr) (wx : World) : Prop :=
  ∃ vk, BlkT wx a 108 (rvL n vk vw vh f cc d) ∧ BlkT wx b 70 ys ∧ BlkT wx c 108 zs ∧ WRow wx fp vk lk ∧ Below w.heap.size w wx
theorem Blk.rangeAt0 {w : World} {b : Nat} {xs : List Value} (h : Blk w b xs) : w.rangeAt b 0 xs := fun j v hv => by
  obtain ⟨hj, rfl⟩ := List.getElem?_eq_some_iff.1 hv
  rw [Nat.zero_add]; exact h.cell hj
theorem rvL_one {n c : Nat} {vk vw vh : Value} {f : Int} {d : Bool} (h1 : vk.oneCell' = true) (h2 : vw.oneCell' = true) (h3 : vh.oneCell' = true) : ∀ u ∈ rvL n vk vw vh f c d, u.oneCell' = true := by
  intro u hu
  simp only [rvL, List.mem_cons, List.not_mem_nil, or_false] at hu
  rcases hu with rfl | rfl | rfl | rfl | rfl | rfl | rfl <;> first | rfl | assumption
theorem relTwo {w wx : World} {fq : List Nat} {a b c n cc : Nat} {ys zs : List Value} {vk vw vh : Value} {f : Int} {d : Bool} {l : List Wr} (m1 : WRow wx fq vh l) (m5 : BlkT wx a 108 (rvL n vk vw vh f cc d)) (m6 : BlkT wx b 70 ys) (m7 : BlkT wx c 108 zs) (m8 : WRow wx fq vk l) (m2 : Below w.heap.size w wx) :
    ∃ vh, WRow wx fq vh l ∧ KMid w fq a b c ys zs n cc vw vh f d l wx := ⟨vh, m1, vk, m5, m6, m7, m8, m2⟩
def rv0 : List Value := rvL 0 (.slice none 0 0) (.slice none 0 0) (.slice none 0 0) 0 0 false
set_option maxHeartbeats 4000000 in
theorem rkeep_any (w : World) (fp : List Nat) (x : Wr) (l : List Wr) (vk vw vh : Value) (n c : Nat) (f : Int) (d : Bool) (B : Option Addr) (cB : Nat) (hfp : ∀ j ∈ fp, j < w.heap.size) (hk : WRow w fp vk l) (hh : WRow w fp vh l) (hw : vw.oneCell' = true)
    (hB : RdN w fp B (x.2.map e8)) (hx : x.2.length = 512) (hc : x.2.length ≤ cB) (hm : cB ≤ maxLen) (hl : l.length ≤ 1000000) :
    Calls Try.prog 136 #[.agg (rvL n vk vw vh f c d).toArray, .agg #[.int .i64 (x.1 : Int), .slice B 512 cB]] w fun e w' => ∃ vk' vh', e = .returned (.agg (rvL n vk' vw vh' f c d).toArray) ∧ WRow w' fp vk' (l ++ [x]) ∧ WRow w' fp vh' (l ++ [x]) ∧ Below w.heap.size w w' := by
  obtain ⟨Ak, ck, acs, rfl, hk1, hk2, hk3, hk4, hk5, hk6⟩ := hk
  obtain ⟨Ah, ch, bcs, rfl, hh1, hh2, hh3, hh4, hh5, hh6⟩ := hh
  obtain ⟨i0, hi0, hz0, hz1, hz2⟩ := info_parts infoWr
  unfold rvL
  go_enter Try.func136, Try.ntmps136
  go_upto_region 1 with (first
    | ((with_reducible show wpList _ _ _ (⟨some 2, _, _, _, _, _⟩ :: _) _ _); refine wpList_boxT rfl _ _ rfl (rvL n (.slice Ak l.length ck) vw (.slice Ah l.length ch) f c d) rfl ?_; intro w1 hb1 bw1 hl1)
    | ((with_reducible show wpList _ _ _ (⟨some 3, _, _, _, _, _⟩ :: _) _ _); refine wpList_boxT rfl _ _ rfl [.int .i64 (x.1 : Int), .slice B 512 cB] rfl ?_; intro w2 hb2 bw2 hl2)
    | ((with_reducible show wpList _ _ _ (⟨some 4, _, _, _, _, _⟩ :: _) _ _); refine wpList_allocT rfl _ rfl (rvL 0 (.slice none 0 0) (.slice none 0 0) (.slice none 0 0) 0 0 false) zeroRV ?_; intro w3 hb3 bw3))
  go_frame
  have hl3 : w2.heap.size < w3.heap.size := lt_of_block hb3
  have hA3 : BlkT w3 w.heap.size _ _ := (bw3.block _ (by omega)).trans ((bw2.block _ hl1).trans hb1)
  have hB3 : BlkT w3 w1.heap.size _ _ := (bw3.block _ hl2).trans hb2
  have bww : Below w.heap.size w w3 := bt (bt bw1 bw2) bw3
  have hw2 : w.heap.size ≤ w2.heap.size := by omega
  have hfq : ∀ j ∈ w2.heap.size :: w.heap.size :: fp, j < w3.heap.size := fun j hj => by
    rcases List.mem_cons.1 hj with e | e
    · omega
    · rcases List.mem_cons.1 e with e | e
      · omega
      · have := hfp j e; omega
  have hE3 := ((hk6.cons (a := w.heap.size) (Nat.le_refl _)).cons (a := w2.heap.size) hw2).keep (Keep.of_below bww _) (Fresh.refl _ _)
  have hR3 := (rdN_cons (rdN_cons hB (a := w.heap.size) (Nat.le_refl _)) (a := w2.heap.size) hw2).keep (Keep.of_below bww _) (Fresh.refl _ _)
  have HE3 := Lib.hid hE3
  have HR3 := Lib.hid hR3
  have HFQ := Lib.hid hfq
  have hbw := bww.drew
  have hPA := Lib.hid (prepA w3.drew fp Ak acs (hk5.on hbw))
  have hPB := Lib.hid (prepB w3.drew fp Ak acs (.cells #[.int .i64 (x.1 : Int), .slice B 512 cB] 70) (hk5.on hbw))
  have hPC := Lib.hid (prepC w3.drew fp Ak acs (.cells #[.int .i64 (x.1 : Int), .slice B 512 cB] 70) (hk5.on hbw))
  obtain ⟨c0, c1, c2, c3, c4, c5, c6, fr⟩ := sevenT hA3
  have d0 := BlkT.cell0 hB3
  have d1 := BlkT.cell1 hB3
  have hwa : w.heap.size < w3.heap.size := by omega
  have hwb : w1.heap.size < w3.heap.size := by omega
  clear hE3 hR3 hfq
  have hre := run_empty
  go_cut [] (fun wx => KMid w (w2.heap.size :: w.heap.size :: fp) w.heap.size w1.heap.size w2.heap.size [.int .i64 (x.1 : Int), .slice B 512 cB] rv0 n c vw (.slice Ah l.length ch) f d (l ++ [x]) wx)
  case first =>
   go_region_law (first
    | ((refine step_append_rd _ (by rfl) _ _ _ (by rfl) w3.drew.heap.size 70 i0 _ 2 32 Try.underlying66 hi0 hz0 hz1 hz2 rfl (by omega) _ 0 [] (by rfl) ?_ Ak l.length ck acs (by rfl) hk3 ?_ hk4 (by simp only [maxLen]; omega) (by omega) ?_ ?_); (· first | exact hPA.out.own | exact hPB.out.own | exact hPC.out.own); (· first | exact hPA.out.rd | exact hPB.out.rd | exact hPC.out.rd); (· first | exact hPA.out.bel.size | exact hPB.out.bel.size | exact hPC.out.bel.size); intro v8 w8 own8 hg8 hat8; have b8 := (by first | exact hPA.out.step rfl hg8 | exact hPB.out.step rfl hg8 | exact hPC.out.step rfl hg8 : Below w3.drew.heap.size w3.drew w8); have hA8 := (b8.block w.heap.size hwa).trans hA3; have hB8 := (b8.block w1.heap.size hwb).trans hB3; obtain ⟨_, a1, _, _, _, _, _, af⟩ := sevenT hA8; have e0 := BlkT.cell0 hB8; have e1 := BlkT.cell1 hB8; have l8 := Nat.lt_of_lt_of_le hwb b8.size)
    | ((refine step_append_rd _ (by rfl) _ _ _ (by rfl) w3.drew.heap.size 70 i0 _ 2 32 Try.underlying66 hi0 hz0 hz1 hz2 rfl (by omega) v8 (0 + l.length) ([] ++ acs) (by rfl) ?_ _ 1 1 [.int .i64 (x.1 : Int), .slice B 512 cB] (by rfl) (by rfl) ?_ (by simp [Value.oneCell']) (by simp only [maxLen]; omega) (by omega) ?_ ?_); (· first | exact own8 | exact own8.alloc _); (· first | exact Rd.lit _ _ _ _ _ rfl (by simp) | exact litB w3.drew w8 [.int .i64 (x.1 : Int), .slice B 512 cB] (v := .slice (some ⟨w3.heap.size, 0, none⟩) 0 0) rfl hg8 | exact litC w3.drew w8 [.int .i64 (x.1 : Int), .slice B 512 cB] (v := .slice (some ⟨w3.heap.size + 1, 0, none⟩) 0 0) rfl hg8); (· first | exact b8.size | exact Nat.le_trans b8.size (b1alloc _ _).size); intro v11 w11 own11 hg11 hat11; have b11 := (by first | exact b8.grown hg11 b8.size (fun q hq => own_block own8 hq) | exact (bt b8 (b1alloc _ _)).grown hg11 (bt b8 (b1alloc _ _)).size (fun q hq => own_block own8 hq) : Below w3.drew.heap.size w3.drew w11); have hA11 := (b11.block w.heap.size hwa).trans hA3; obtain ⟨_, s1, _, _, _, _, _, sf⟩ := sevenT hA11; have sf1 := sf 1; have own12 := own11; obtain ⟨A11, c11, rfl⟩ := own_form own12))
   all_goals
    have hn11 : 0 + l.length + 1 = (l ++ [x]).length := by simp
    obtain ⟨m1, m2, m3, m4, _⟩ := mid_row HFQ.out bww b11 own11 hn11 hk4 HE3.out hk3 hc hm hx HR3.out w.heap.size 1 (by simp) (Nat.le_refl _) (.slice A11 (0 + l.length + 1) c11)
    have m5 := m4 _ _ hA3
    have m6 := m3 _ _ _ (by omega) hB3
    have m7 := m3 _ _ _ (by omega) hb3
    simp only [Nat.zero_add] at m1 m2 m5 m6 m7
    have fin := Lib.hid (show KMid w (w2.heap.size :: w.heap.size :: fp) w.heap.size w1.heap.size w2.heap.size [.int .i64 (x.1 : Int), .slice B 512 cB] rv0 n c vw (.slice Ah l.length ch) f d (l ++ [x]) (w11.setCell ⟨w.heap.size, 1, none⟩ (.slice A11 (l.length + 1) c11)) from ⟨_, m5, m6, m7, m1, m2⟩)
    clear m1 m2 m3 m4 m5 m6 m7
    go_wp2_with fail
    go_meet
    case rel => exact fin.out
  case rest =>
  clear hPA hPB hPC HE3 HR3 HFQ hbw c0 c1 c2 c3 c4 c5 c6 fr d0 d1 hA3 hB3 hb3 bww
  obtain ⟨vk, hA3, hB3, hb3, hkw, bww⟩ := hcut
  obtain ⟨A1, c1, _, rfl, _⟩ := id hkw
  have hwcl : w2.heap.size < wc.heap.size := lt_of_block hb3
  go_upto_region 2 with (fail)
  have hfq : ∀ j ∈ w2.heap.size :: w.heap.size :: fp, j < wc.heap.size := fun j hj => by
    rcases List.mem_cons.1 hj with e | e
    · omega
    · rcases List.mem_cons.1 e with e | e
      · omega
      · have := hfp j e; omega
  have hE3 := ((hh6.cons (a := w.heap.size) (Nat.le_refl _)).cons (a := w2.heap.size) hw2).keep (Keep.of_below bww _) (Fresh.refl _ _)
  have hR3 := (rdN_cons (rdN_cons hB (a := w.heap.size) (Nat.le_refl _)) (a := w2.heap.size) hw2).keep (Keep.of_below bww _) (Fresh.refl _ _)
  have HE3 := Lib.hid hE3
  have HR3 := Lib.hid hR3
  have HFQ := Lib.hid hfq
  have hbw := bww.drew
  have hPA := Lib.hid (prepA wc.drew fp Ah bcs (hh5.on hbw))
  have hPB := Lib.hid (prepB wc.drew fp Ah bcs (.cells #[.int .i64 (x.1 : Int), .slice B 512 cB] 70) (hh5.on hbw))
  have hPC := Lib.hid (prepC wc.drew fp Ah bcs (.cells #[.int .i64 (x.1 : Int), .slice B 512 cB] 70) (hh5.on hbw))
  obtain ⟨c0, c1, c2, c3, c4, c5, c6, fr⟩ := sevenT hA3
  have d0 := BlkT.cell0 hB3
  have d1 := BlkT.cell1 hB3
  have hwa : w.heap.size < wc.heap.size := by omega
  have hwb : w1.heap.size < wc.heap.size := by omega
  clear hE3 hR3 hfq
  go_cut [] (fun wx => ∃ vh, WRow wx (w2.heap.size :: w.heap.size :: fp) vh (l ++ [x]) ∧ KMid w (w2.heap.size :: w.heap.size :: fp) w.heap.size w1.heap.size w2.heap.size [.int .i64 (x.1 : Int), .slice B 512 cB] rv0 n c vw vh f d (l ++ [x]) wx)
  case first =>
   go_region_law (first
    | ((refine step_append_rd _ (by rfl) _ _ _ (by rfl) wc.drew.heap.size 70 i0 _ 2 32 Try.underlying66 hi0 hz0 hz1 hz2 rfl (by omega) _ 0 [] (by rfl) ?_ Ah l.length ch bcs (by rfl) hh3 ?_ hh4 (by simp only [maxLen]; omega) (by omega) ?_ ?_); (· first | exact hPA.out.own | exact hPB.out.own | exact hPC.out.own); (· first | exact hPA.out.rd | exact hPB.out.rd | exact hPC.out.rd); (· first | exact hPA.out.bel.size | exact hPB.out.bel.size | exact hPC.out.bel.size); intro v8 w8 own8 hg8 hat8; have b8 := (by first | exact hPA.out.step rfl hg8 | exact hPB.out.step rfl hg8 | exact hPC.out.step rfl hg8 : Below wc.drew.heap.size wc.drew w8); have hA8 := (b8.block w.heap.size hwa).trans hA3; have hB8 := (b8.block w1.heap.size hwb).trans hB3; obtain ⟨_, _, _, a1, _, _, _, af⟩ := sevenT hA8; have e0 := BlkT.cell0 hB8; have e1 := BlkT.cell1 hB8; have l8 := Nat.lt_of_lt_of_le hwb b8.size)
    | ((refine step_append_rd _ (by rfl) _ _ _ (by rfl) wc.drew.heap.size 70 i0 _ 2 32 Try.underlying66 hi0 hz0 hz1 hz2 rfl (by omega) v8 (0 + l.length) ([] ++ bcs) (by rfl) ?_ _ 1 1 [.int .i64 (x.1 : Int), .slice B 512 cB] (by rfl) (by rfl) ?_ (by simp [Value.oneCell']) (by simp only [maxLen]; omega) (by omega) ?_ ?_); (· first | exact own8 | exact own8.alloc _); (· first | exact Rd.lit _ _ _ _ _ rfl (by simp) | exact litB wc.drew w8 [.int .i64 (x.1 : Int), .slice B 512 cB] (v := .slice (some ⟨wc.heap.size, 0, none⟩) 0 0) rfl hg8 | exact litC wc.drew w8 [.int .i64 (x.1 : Int), .slice B 512 cB] (v := .slice (some ⟨wc.heap.size + 1, 0, none⟩) 0 0) rfl hg8); (· first | exact b8.size | exact Nat.le_trans b8.size (b1alloc _ _).size); intro v11 w11 own11 hg11 hat11; have b11 := (by first | exact b8.grown hg11 b8.size (fun q hq => own_block own8 hq) | exact (bt b8 (b1alloc _ _)).grown hg11 (bt b8 (b1alloc _ _)).size (fun q hq => own_block own8 hq) : Below wc.drew.heap.size wc.drew w11); have hA11 := (b11.block w.heap.size hwa).trans hA3; obtain ⟨_, _, _, s1, _, _, _, sf⟩ := sevenT hA11; have sf1 := sf 3; have own12 := own11; obtain ⟨A11, c11, rfl⟩ := own_form own12))
   all_goals
    have hn11 : 0 + l.length + 1 = (l ++ [x]).length := by simp
    obtain ⟨m1, m2, m3, m4, mk⟩ := mid_row HFQ.out bww b11 own11 hn11 hh4 HE3.out hh3 hc hm hx HR3.out w.heap.size 3 (by simp) (Nat.le_refl _) (.slice A11 (0 + l.length + 1) c11)
    have m5 := m4 _ _ hA3
    have m6 := m3 _ _ _ (by omega) hB3
    have m7 := m3 _ _ _ (by omega) hb3
    have m8 := hkw.keep mk (Fresh.refl _ _)
    simp only [Nat.zero_add] at m1 m2 m5 m6 m7 m8
    have fin := Lib.hid (relTwo m1 m5 m6 m7 m8 m2)
    clear m1 m2 m3 m4 m5 m6 m7 m8 mk
    go_wp2_with fail
    go_meet
    case rel => exact fin.out
  case rest =>
  clear hPA hPB hPC HE3 HR3 HFQ hbw c0 c1 c2 c3 c4 c5 c6 fr d0 d1 hA3 hB3 hb3 bww hkw
  obtain ⟨vh, hhw, vk, hA3, hB3, hb3, hkw, bww⟩ := hcut
  obtain ⟨A1, c1, _, rfl, _⟩ := id hkw
  obtain ⟨A2, c2, _, rfl, _⟩ := id hhw
  have hne : w2.heap.size ≠ w.heap.size := by omega
  go_wp2_with (first
    | ((with_reducible show wpList _ _ _ (⟨some 21, _, _, _, _, _⟩ :: _) _ _); refine wpList_load_mid rfl _ _ rfl w.heap.size 0 rfl (rvL n (.slice A1 (l ++ [x]).length c1) vw (.slice A2 (l ++ [x]).length c2) f c d) _ (Blk.rangeAt0 hA3.blk) Try.underlying108 rfl (by kernel_rfl) ?_)
    | ((with_reducible show wpList _ _ _ (⟨none, .store 108 (.tmp 4) _, _, _, _, _⟩ :: _) _ _); refine wpList_storeT rfl _ _ _ rfl rfl (ys := rvL n (.slice A1 (l ++ [x]).length c1) vw (.slice A2 (l ++ [x]).length c2) f c d) rfl hb3 (by simp [rv0, rvL]) (rvL_one rfl hw rfl) (by kernel_rfl) ?_; intro w9 hb9 hg9))
  have b9 : Below w.heap.size w w9 := below_row bww hg9 (by omega) bww.size
  have k9 : Keep (w2.heap.size :: w.heap.size :: fp) wc w9 := Keep.of_grown hg9 (fun g e => by cases e; simp)
  have h1 := (hkw.keep k9 (Fresh.refl _ _)).less (fp := fp) (by intro j hj; simp [hj])
  have h2 := (hhw.keep k9 (Fresh.refl _ _)).less (fp := fp) (by intro j hj; simp [hj])
  obtain ⟨z0, z1, z2, z3, z4, z5, z6, _⟩ := sevenT hb9
  refine bodyPost_ret (v := .agg (rvL n (.slice A1 (l ++ [x]).length c1) vw (.slice A2 (l ++ [x]).length c2) f c d).toArray) (by simp [results, Try.results136, go_sem, z0, z1, z2, z3, z4, z5, z6, rvL]) rfl ?_
  exact ⟨_, _, rfl, h1, h2, b9⟩
end Go.Proofs.Ytdkcdojcglmlbaa.Disk
