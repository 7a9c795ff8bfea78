/- Texts of this claim, joined: SnapL1, WalL1, Wal11, SnapRd, SnapL2. -/
import Derived.Test.YtmpmibcdpkolkaaWalScansG
import Derived.Deep.RegionLaw
/- What the laws on pages share: which are light, which may be, the reference's sector, the example. -/
namespace Go.Proofs.Ytmpmibcdpkolkaa.Snap
open Go.RowKit
open Go.Proofs.Ytmpmibcdpkolkaa.Geom
open Go.Proofs.Ytmpmibcdpkolkaa.Disk (St DAt Did New8 Told8 new)
open Go.Proofs.Ytmpmibcdpkolkaa.Sup (Gb gv gcell srightF gthree newN_any gb213 size213 right213 UpN up_new srightF_new)
open Go.Proofs.Ytmpmibcdpkolkaa.Sec (X SymAt text sumOf sumAfter ckS blankB rightF xv RetX X0 five5x symbolic_any bset5)
set_option linter.unusedVariables false
set_option maxRecDepth 100000
theorem OwnRows.rws {w : World} {base : Nat} {A : Option Addr} {n c : Nat} {l : List (List UInt8)} (h : OwnRows w base (.slice A n c) l) (hn : n = l.length) : Rws w w.heap.size A l := by
  obtain ⟨its, hown, rfl, hall⟩ := h
  rw [List.length_map] at hn
  subst hn
  have hrd := RdQ.own hown
  intro hne
  have hne' : its.map It.sl ≠ [] := by intro e; apply hne; simp at e; simp [e]
  obtain ⟨b, off, rfl, hb, _, hc⟩ := hrd hne'
  refine ⟨b, off, rfl, hb, fun i hi => ?_⟩
  have hi' : i < its.length := by simpa using hi
  have h1 := hc i (by simpa using hi')
  rw [List.getElem_map] at h1
  have h2 := hall _ (List.getElem_mem hi')
  refine ⟨its[i].A, its[i].c, ?_, ?_, ?_, ?_⟩
  · rw [h1]; simp [It.sl]
  · rw [List.getElem_map]; exact Rd.own h2.1
  · rw [List.getElem_map]; exact (own_cap h2.1).1
  · exact (own_cap h2.1).2
theorem OwnRows.on {w w' : World} {base : Nat} {v : Value} {l : List (List UInt8)} (h : OwnRows w base v l) (b : Below w.heap.size w w') : OwnRows w' base v l := by
  obtain ⟨its, hown, hl, hall⟩ := h
  exact ⟨its, own_on hown b, hl, fun x hx => (hall x hx).on b⟩
theorem OwnRows.short {w : World} {base : Nat} {v : Value} {l : List (List UInt8)} (h : OwnRows w base v l) : ∀ x ∈ l, x.length ≤ 1000000 := by
  obtain ⟨its, _, rfl, hall⟩ := h
  intro x hx
  obtain ⟨y, hy, rfl⟩ := List.mem_map.1 hx
  have := (hall y hy).2
  omega
def lightB (ga gd gl : Int) (l : List (List UInt8)) : Bool := decide (pagesOf ga gd gl ≤ 30) && decide (l.length ≤ 40) && l.all fun b => decide (b.length ≤ 600)
theorem light_of {ga gd gl : Int} {l : List (List UInt8)} (h : lightB ga gd gl l = true) : pagesOf ga gd gl ≤ 30 ∧ l.length ≤ 40 ∧ ∀ b ∈ l, b.length ≤ 600 := by
  simp [lightB] at h
  exact ⟨h.1.1, h.1.2, h.2⟩
set_option maxHeartbeats 1000000 in
theorem light_any (ga gd gl : Int) (A : Option Addr) (l : List (List UInt8)) (n c : Nat) (w : World) (hG : Gb ga gd gl) (hr : Rws w w.heap.size A l) (hn : n = l.length) (hc : n ≤ maxLen) :
    Calls Try.prog 29 #[gv ga gd gl, .slice A n c] w fun e w' => e = .returned (.bool (lightB ga gd gl l)) ∧ Below w.heap.size w w' := by
  obtain ⟨z0, z1, z2⟩ := gthree (Blk.new w (gcell ga gd gl) 23)
  have b0 := b1alloc w (.cells (gcell ga gd gl).toArray 23)
  have HP := Lib.hid (fun W => Geom.rpages_any ga gd gl W hG.a0 hG.a1 hG.d0 hG.d1 hG.g0 hG.g1)
  have hL : lightB ga gd gl l = (decide (pagesOf ga gd gl ≤ 30) && decide (l.length ≤ 40) && l.all fun b => decide (b.length ≤ 600)) := rfl
  obtain ⟨q, hq⟩ : ∃ q, q = pagesOf ga gd gl := ⟨_, rfl⟩
  obtain ⟨R, hR⟩ : ∃ R, R = lightB ga gd gl l := ⟨_, rfl⟩
  rw [← hq] at HP hL
  rw [← hR] at hL ⊢
  clear hq hR
  by_cases h1 : q ≤ 30
  rotate_left
  · rw [decide_eq_false h1, Bool.false_and, Bool.false_and] at hL
    have h1' : 30 < q := by omega
    have HL := Lib.hid hL
    clear hL h1 hr hn
    go_enter Try.func29, Try.ntmps29
    go_wp2_with (go_at_call 33; refine (HP.out _).mono ?_; rintro e w' ⟨rfl, b1⟩)
    go_ret
    rw [HL.out]
    exact ⟨rfl, bt b0 b1⟩
  rw [decide_eq_true h1, Bool.true_and] at hL
  have h1' : ¬ 30 < q := by omega
  by_cases h2 : n ≤ 40
  rotate_left
  · rw [← hn, decide_eq_false h2, Bool.false_and] at hL
    have h2' : (40 : Int) < (n : Int) := by omega
    have HL := Lib.hid hL
    clear hL h1 h2 hr hn
    go_enter Try.func29, Try.ntmps29
    go_wp2_with (go_at_call 33; refine (HP.out _).mono ?_; rintro e w' ⟨rfl, b1⟩)
    go_ret
    rw [HL.out]
    exact ⟨rfl, bt b0 b1⟩
  have h2' : ¬ (40 : Int) < (n : Int) := by omega
  rw [← hn, decide_eq_true h2, Bool.true_and] at hL
  have HL := Lib.hid hL
  have Hn := Lib.hid hn
  clear hL h1 hn
  go_enter Try.func29, Try.ntmps29
  go_wp2_with (go_at_call 33; refine (HP.out _).mono ?_; rintro e w' ⟨rfl, b1⟩)
  have bw := bt b0 b1
  clear z0 z1 z2
  go_loopw [5] (fun i wr => ∃ k : Nat, k ≤ n ∧ i = .int .i64 (k : Int) ∧ Below w.heap.size w wr ∧ Hid (∀ j (hj : j < l.length), j < k → l[j].length ≤ 600)) (fun i _ => n - (intOf i).toNat)
  case atStart => exact ⟨0, by omega, rfl, bw, Lib.hid (fun j hj h => by omega)⟩
  case round =>
    obtain ⟨k, hk, rfl, bel, hall⟩ := hrel
    have hwk : wrap64 ((k : Int) + 1) = (k : Int) + 1 := by unfold wrap64; omega
    by_cases hlt : k < n
    · have hkl : k < l.length := by have := Hn.out; omega
      have hkm : (k : Int) < (n : Int) := by omega
      obtain ⟨b1', o1, A1, c1, rfl, hb1, hc1, hr1, _, _⟩ := (hr.below bel).get hkl
      obtain ⟨x, hx⟩ : ∃ x, x = l[k].length := ⟨_, rfl⟩
      rw [← hx] at hc1
      have Hx := Lib.hid hx
      clear hx hr1
      by_cases h3 : x ≤ 600
      · have h3' : ¬ (600 : Int) < (x : Int) := by omega
        go_wp2
        case roundEnd => exact ⟨⟨k + 1, by omega, rfl, bel, Lib.hid (fun j hj h => by
          rcases (show j < k ∨ j = k by omega) with h4 | h4
          · exact hall.out j hj h4
          · subst h4; rw [← Hx.out]; exact h3)⟩, by simp only [intOf]; omega⟩
      · have h3' : (600 : Int) < (x : Int) := by omega
        go_wp2
        go_ret
        refine ⟨ret_bool ?_, bel⟩
        rw [HL.out]
        symm
        rw [List.all_eq_false]
        exact ⟨l[k], List.getElem_mem _, by rw [← Hx.out]; simpa using h3⟩
    · have hkn : ¬ (k : Int) < (n : Int) := by omega
      go_wp2
      go_ret
      refine ⟨ret_bool ?_, bel⟩
      rw [HL.out]
      symm
      rw [List.all_eq_true]
      intro b hb
      obtain ⟨j, hj, rfl⟩ := List.mem_iff_getElem.1 hb
      exact decide_eq_true (hall.out j hj (by have := Hn.out; omega))
def okB (ga gd gl : Int) (l : List (List UInt8)) : Bool := (l.all fun b => decide (b.length ≤ 479)) && (Geom.right ga gd gl && decide ((l.length : Int) = pagesOf ga gd gl))
theorem ok_of {ga gd gl : Int} {n : Nat} {l : List (List UInt8)} (hn : (n : Int) = Geom.sizeOf ga gd gl) (h : okB ga gd gl l = true) : PagesOk ga gd gl n l ∧ Geom.right ga gd gl = true ∧ longB l = false := by
  simp [okB] at h
  exact ⟨⟨hn, h.2.2, fun j hj => h.1 _ (List.getElem_mem hj)⟩, h.2.1, longB_no fun j hj => h.1 _ (List.getElem_mem hj)⟩
set_option maxHeartbeats 1000000 in
theorem rright_any (ga gd gl : Int) (A : Option Addr) (l : List (List UInt8)) (n c : Nat) (w : World) (hG : Gb ga gd gl) (hr : Rws w w.heap.size A l) (hn : n = l.length) (hc : n ≤ 1000) :
    Calls Try.prog 34 #[gv ga gd gl, .slice A n c] w fun e w' => e = .returned (.bool (okB ga gd gl l)) ∧ Below w.heap.size w w' := by
  have FG := Blk.new w (gcell ga gd gl) 23
  have b0 := b1alloc w (.cells (gcell ga gd gl).toArray 23)
  have HP := Lib.hid (fun W => Geom.rpages_any ga gd gl W hG.a0 hG.a1 hG.d0 hG.d1 hG.g0 hG.g1)
  have HR := Lib.hid (fun W => Geom.rright_any ga gd gl W hG.a0 hG.a1 hG.d0 hG.d1 hG.g0 hG.g1)
  have hL : okB ga gd gl l = ((l.all fun b => decide (b.length ≤ 479)) && (Geom.right ga gd gl && decide ((l.length : Int) = pagesOf ga gd gl))) := rfl
  obtain ⟨q, hq⟩ : ∃ q, q = pagesOf ga gd gl := ⟨_, rfl⟩
  obtain ⟨r, hrr⟩ : ∃ r, r = Geom.right ga gd gl := ⟨_, rfl⟩
  obtain ⟨R, hR⟩ : ∃ R, R = okB ga gd gl l := ⟨_, rfl⟩
  rw [← hq] at HP hL
  rw [← hrr] at HR hL
  rw [← hR] at hL ⊢
  rw [← hn] at hL
  have HL := Lib.hid hL
  have Hn := Lib.hid hn
  have HG := Lib.hid FG
  clear hq hR hrr hL hn FG
  go_enter Try.func34, Try.ntmps34
  go_wp2_with fail
  go_loopw [5] (fun i wr => ∃ k : Nat, k ≤ n ∧ i = .int .i64 (k : Int) ∧ Below (w.alloc (.cells (gcell ga gd gl).toArray 23)).heap.size (w.alloc (.cells (gcell ga gd gl).toArray 23)) wr ∧ Hid (∀ j (hj : j < l.length), j < k → l[j].length ≤ 479)) (fun i _ => n - (intOf i).toNat)
  case atStart => exact ⟨0, by omega, rfl, Below.refl _ _, Lib.hid (fun j hj h => by omega)⟩
  case round =>
    obtain ⟨k, hk, rfl, bel0, hall⟩ := hrel
    have bel := bt b0 bel0
    have hwk : wrap64 ((k : Int) + 1) = (k : Int) + 1 := by unfold wrap64; omega
    by_cases hlt : k < n
    · have hkl : k < l.length := by have := Hn.out; omega
      have hkm : (k : Int) < (n : Int) := by omega
      obtain ⟨b1', o1, A1, c1, rfl, hb1, hc1, hr1, _, _⟩ := (hr.below bel).get hkl
      obtain ⟨x, hx⟩ : ∃ x, x = l[k].length := ⟨_, rfl⟩
      rw [← hx] at hc1
      have Hx := Lib.hid hx
      clear hx hr1
      by_cases h3 : x ≤ 479
      · have h3' : ¬ (479 : Int) < (x : Int) := by omega
        go_wp2
        case roundEnd => exact ⟨⟨k + 1, by omega, rfl, bel0, Lib.hid (fun j hj h => by
          rcases (show j < k ∨ j = k by omega) with h4 | h4
          · exact hall.out j hj h4
          · subst h4; rw [← Hx.out]; exact h3)⟩, by simp only [intOf]; omega⟩
      · have h3' : (479 : Int) < (x : Int) := by omega
        go_wp2
        go_ret
        refine ⟨ret_bool ?_, bel⟩
        rw [HL.out]
        symm
        rw [Bool.and_eq_false_iff]
        left
        rw [List.all_eq_false]
        exact ⟨l[k], List.getElem_mem _, by rw [← Hx.out]; simpa using h3⟩
    · have hkn : ¬ (k : Int) < (n : Int) := by omega
      have ht := Lib.hid (show R = (r && decide ((n : Int) = q)) by
        rw [HL.out, show (l.all fun b => decide (b.length ≤ 479)) = true from ?_, Bool.true_and]
        rw [List.all_eq_true]
        intro b hb
        obtain ⟨j, hj, rfl⟩ := List.mem_iff_getElem.1 hb
        exact decide_eq_true (hall.out j hj (by have := Hn.out; omega)))
      obtain ⟨z0, z1, z2⟩ := gthree (HG.out.on bel0)
      have H1 := fun W (bW : Below wr.heap.size wr W) => gthree ((HG.out.on bel0).on bW)
      cases r with
      | true =>
        rw [Bool.true_and] at ht
        go_wp2_with (first
          | (go_at_call 19; refine (HR.out _).mono ?_; rintro e w1 ⟨rfl, b1⟩; clear z0 z1 z2; obtain ⟨z0, z1, z2⟩ := H1 _ b1)
          | (go_at_call 33; refine (HP.out _).mono ?_; rintro e w2 ⟨rfl, b2⟩))
        go_ret
        exact ⟨ret_bool (by rw [ht.out]; first | rfl | simp | exact Bool.beq_eq_decide_eq _ _), bt bel (bt b1 b2)⟩
      | false =>
        rw [Bool.false_and] at ht
        go_wp2_with (go_at_call 19; refine (HR.out _).mono ?_; rintro e w1 ⟨rfl, b1⟩)
        go_ret
        exact ⟨ret_bool (by rw [ht.out]), bt bel b1⟩
theorem rsector_any (life : UInt64) (k : Int) (A : Option Addr) (n c : Nat) (w : World) : Calls Try.prog 36 #[.int .u64 (life.toNat : Int), .int .i64 k, .slice A n c] w fun e w' => e = .returned (.agg #[.int .i64 3, .int .u64 (life.toNat : Int), .int .i64 k, .int .u64 0, .slice A n c]) ∧ Below w.heap.size w w' := by
  have F := Blk.new w [.int .i64 0, .int .u64 0, .int .i64 0, .int .u64 0, .slice none 0 0] 49
  go_enter Try.func36, Try.ntmps36
  go_wp2
  refine bodyPost_ret (v := .agg #[.int .i64 3, .int .u64 (life.toNat : Int), .int .i64 k, .int .u64 0, .slice A n c]) (by simp [results, Try.results36, go_sem]) rfl ⟨rfl, ?_⟩
  exact b1alloc _ _
theorem box_rdQ {W : World} {g : Nat} {v : Value} {Q : Nat → Prop} (h : Box W g v) (hq : Q g) : RdQ W Q (some ⟨g, 0, none⟩) [v] := fun _ => ⟨g, 0, rfl, h.lt, hq, fun i hi => by
  obtain rfl : i = 0 := by simp at hi; exact hi
  exact h.cell⟩
theorem lit3 (w : World) (t1 t2 t3 : TypeId) : Rw (((w.alloc (.cells #[.int .u8 1] t1)).alloc (.cells #[.int .u8 2] t2)).alloc (.cells #[.slice (some ⟨w.heap.size, 0, none⟩) 1 1, .slice none 0 0, .slice (some ⟨w.heap.size + 1, 0, none⟩) 1 1] t3)) (fun j => w.heap.size ≤ j) (some ⟨w.heap.size + 1 + 1, 0, none⟩) [[1], [], [2]] := by
  have x1 := ((Box.new w t1 (.int .u8 1)).alloc (.cells #[.int .u8 2] t2)).alloc (.cells #[.slice (some ⟨w.heap.size, 0, none⟩) 1 1, .slice none 0 0, .slice (some ⟨w.heap.size + 1, 0, none⟩) 1 1] t3)
  have x2 := (Box.new (w.alloc (.cells #[.int .u8 1] t1)) t2 (.int .u8 2)).alloc (.cells #[.slice (some ⟨w.heap.size, 0, none⟩) 1 1, .slice none 0 0, .slice (some ⟨w.heap.size + 1, 0, none⟩) 1 1] t3)
  have x3 := Blk.new ((w.alloc (.cells #[.int .u8 1] t1)).alloc (.cells #[.int .u8 2] t2)) [.slice (some ⟨w.heap.size, 0, none⟩) 1 1, .slice none 0 0, .slice (some ⟨w.heap.size + 1, 0, none⟩) 1 1] t3
  simp at x2 x3
  obtain ⟨c0, c1, c2⟩ := gthree x3
  refine fun _ => ⟨w.heap.size + 1 + 1, 0, rfl, x3.lt, by omega, fun i hi => ?_⟩
  rcases (show i = 0 ∨ i = 1 ∨ i = 2 by simp at hi; omega) with rfl | rfl | rfl
  · exact ⟨_, _, c0, box_rdQ x1 (Nat.le_refl _), Nat.le_refl _, by unfold maxLen; omega⟩
  · exact ⟨_, _, c1, RdQ.nil _ _ _, Nat.le_refl _, by unfold maxLen; omega⟩
  · exact ⟨_, _, c2, box_rdQ x2 (by omega), Nat.le_refl _, by unfold maxLen; omega⟩
set_option maxHeartbeats 4000000 in
theorem alive_any (w : World) : Calls Try.prog 30 #[] w fun e w' => e = .returned (.bool true) ∧ Below w.heap.size w w' := by
  have hp3 : pagesOf 2 1 3 = 3 := by decide
  have r0 : srightF (new 13) 2 1 3 = 0 := srightF_new (n := 13) right213 rfl (by rw [size213]; rfl)
  have hz0 : (new 13).sz = 0 := rfl
  have hok : PagesOk 2 1 3 13 [[1], [], [2]] := ⟨by rw [size213]; rfl, by rw [hp3]; rfl, fun j hj => by
    rcases (show j = 0 ∨ j = 1 ∨ j = 2 by simp at hj; omega) with rfl | rfl | rfl <;> simp⟩
  have hno : snapR [] (new 13) 2 1 3 1 3 = none := by
    unfold snapR
    rw [if_neg]
    unfold allPg
    rw [List.all_eq_true]
    intro h
    have h0 := h 0 (by simp)
    unfold isPg rdAt at h0
    have hpl := area_ok (ga := 2) (gd := 1) (gl := 3) (life := 1) (k := 0) (by rw [hp3]; decide)
    rw [size213] at hpl
    rw [Enc.rd_zero (up_new 13) hpl.1 (by exact hpl.2.1) rfl] at h0
    simp at h0
  obtain ⟨u1, u2, u3, u4, u5, u6⟩ := hok.up 1 [] (up_new 13)
  obtain ⟨lm1, lm2⟩ := Enc.enf_lim (pItems 2 1 3 1 0 [[1], [], [2]]) [] (new 13)
  have hR1 := fun g fp gS bS W h => read_any g fp (new 13) gS bS [] 2 1 3 1 W gb213 h (by simp) (by omega) r0 rfl 3 hp3.symm
  rw [hno] at hR1
  have hW := fun g fp gS bS Q A c W h hr hQ => write_any g fp (new 13) gS bS [] 2 1 3 1 Q A [[1], [], [2]] c W gb213 h (by simp) (by omega) r0 hr hQ (by rw [hp3]; rfl) rfl
  have hq : snapF 2 1 3 1 [[1], [], [2]] [] (new 13) = Enc.enf (pItems 2 1 3 1 0 [[1], [], [2]]) [] (new 13) := rfl
  rw [← hq] at lm1 lm2
  obtain ⟨V, hV⟩ : ∃ V, V = snapF 2 1 3 1 [[1], [], [2]] [] (new 13) := ⟨_, rfl⟩
  rw [← hV] at u1 u2 u3 u4 u5 u6 hW lm1 lm2
  rw [u1] at hW
  rw [pItems_len] at lm1 lm2
  simp only [List.length_nil, List.length_cons] at lm1 lm2
  have rV : srightF V.2.1 2 1 3 = 0 := srightF_new (n := 13) right213 u2.size (by rw [size213]; rfl)
  have hyes := (snapR_some (fun k hk => rdAt_good u2 hok hk (u4 k hk))).1
  have hR2 := fun g fp gS bS W h => read_any g fp V.2.1 gS bS V.1 2 1 3 1 W gb213 h (by omega) (by omega) rV u2.down 3 hp3.symm
  rw [show ([[1], [], [2]] : List (List UInt8)).length = 3 from rfl] at hyes
  rw [hyes] at hR2
  have hE := fun W => empty_any 2 1 3 W gb213
  rw [hp3] at hE
  have HR1 := Lib.hid hR1
  have HR2 := Lib.hid hR2
  have HW := Lib.hid hW
  have HE := Lib.hid hE
  clear hR1 hR2 hW hE hq hV u1 u2 u3 u4 u5 u6 lm1 lm2 rV hyes hno hok r0 hz0 hp3
  have tR : True := trivial
  have F := Lib.hid (Blk.new w (gcell 2 1 3) 23)
  have hltF := F.out.lt
  have b0 := b1alloc w (.cells (gcell 2 1 3).toArray 23)
  go_enter Try.func30, Try.ntmps30
  go_wp2_with (first
    | (go_at_call 12; refine (newN_any 13 13 rfl (by omega) (by omega) _).mono ?_; rintro e w1 ⟨g, fp, rfl, hD, hfp, b1⟩)
    | (go_at_call 14; refine (symbolic_any _).mono ?_; rintro e w2 ⟨gS, bS, rfl, hS, hgS, hbS, b2⟩; have H2 := Here.start hD hfp b1 hS hgS hbS b2; obtain ⟨m0, m1, m2⟩ := gthree (F.out.below H2.bel hltF))
    | (go_at_call 37; have _t := tR; refine (HR1.out _ _ _ _ _ H2.both).mono ?_; rintro e w3 ⟨rfl, b3⟩; have H3 := H2.on b3; clear m0 m1 m2; obtain ⟨m0, m1, m2⟩ := gthree (F.out.below H3.bel hltF); clear tR)
    | (go_at_call 31; have H4 := H3.on (b3alloc w3 (.cells #[.int .u8 1] 5) (.cells #[.int .u8 2] 5) (.cells #[.slice (some ⟨w3.heap.size, 0, none⟩) 1 1, .slice none 0 0, .slice (some ⟨w3.heap.size + 1, 0, none⟩) 1 1] 37)); refine (HW.out _ _ _ _ _ _ _ _ H4.both (lit3 w3 _ _ _) (fun j hj _ e => by rcases List.mem_cons.1 e with e | e; (have := H3.both.sym.lt.2; omega); (have := H3.both.disk.lt _ e; omega))).mono ?_; rintro e w5 ⟨rfl, T5⟩; obtain ⟨fp5, H5, _, _⟩ := H4.turn T5; clear m0 m1 m2; obtain ⟨m0, m1, m2⟩ := gthree (F.out.below H5.bel hltF))
    | (go_at_call 37; refine (HR2.out _ _ _ _ _ H5.both).mono ?_; rintro e w6 ⟨⟨A6, c6, rfl, _⟩, b6⟩; have H6 := H5.on b6; clear m0 m1 m2; obtain ⟨m0, m1, m2⟩ := gthree (F.out.below H6.bel hltF))
    | (go_at_call 32; refine (HE.out _).mono ?_; rintro e w7 ⟨A7, c7, rfl, _, b7⟩))
  go_ret
  exact ⟨rfl, bt b0 (bt H6.bel b7)⟩
end Go.Proofs.Ytmpmibcdpkolkaa.Snap

/- The laws of the log: a log beside a disk, and the chapter's example. No statement is proved here. -/
namespace Go.Proofs.Ytmpmibcdpkolkaa.Wal
open Go.RowKit
open Go.Proofs.Ytmpmibcdpkolkaa.Geom
open Go.Proofs.Ytmpmibcdpkolkaa.Sup (Gb gv gcell gthree newN_any UpN up_new gb213 size213 right213)
open Go.Proofs.Ytmpmibcdpkolkaa.Disk (St DAt new)
open Go.Proofs.Ytmpmibcdpkolkaa.Sec (X symbolic_any)
set_option linter.unusedVariables false
set_option maxRecDepth 100000
/-- in a law: a log in a block of the law's own, beside the disk -/
structure HereL (w0 w : World) (g : Nat) (fp : List Nat) (s : St) (gS bS : Nat) (l : List (List UInt8)) (L : Nat) (ga gd gl : Int) (life : UInt64) (base : Int) (seq : Nat) : Prop where
  both : Both w g fp s gS bS l
  bel : Below w0.heap.size w0 w
  own : ∀ j ∈ L :: bS :: fp, w0.heap.size ≤ j
  lat : LAt w L g gS ga gd gl life base seq
  nL : L ∉ bS :: gS :: fp
theorem HereL.on {w0 w w' : World} {g : Nat} {fp : List Nat} {s : St} {gS bS : Nat} {l : List (List UInt8)} {L : Nat} {ga gd gl : Int} {life : UInt64} {base : Int} {seq : Nat} (h : HereL w0 w g fp s gS bS l L ga gd gl life base seq) (b : Below w.heap.size w w') : HereL w0 w' g fp s gS bS l L ga gd gl life base seq := ⟨h.both.on b, bt h.bel b, h.own, h.lat.on b, h.nL⟩
theorem HereL.turn {w0 w w' : World} {g : Nat} {fp : List Nat} {s s' : St} {gS bS : Nat} {l l' : List (List UInt8)} {L : Nat} {ga gd gl : Int} {life : UInt64} {base : Int} {seq seq' : Nat} (h : HereL w0 w g fp s gS bS l L ga gd gl life base seq) (t : WTurn w g fp gS bS L ga gd gl life base s' l' seq' w') : ∃ fp', HereL w0 w' g fp' s' gS bS l' L ga gd gl life base seq' := by
  obtain ⟨fp', b, k, f, la⟩ := t
  refine ⟨fp', b, h.bel.trans (k.below h.own h.bel.size), fun j hj => ?_, la, fun hj => ?_⟩
  · rcases List.mem_cons.1 hj with e | hj
    · exact h.own j (by rw [e]; simp)
    rcases List.mem_cons.1 hj with e | hj
    · exact h.own j (by rw [e]; simp)
    · exact f.ge (fun i hi => h.own i (by simp [hi])) h.bel.size j hj
  · rcases List.mem_cons.1 hj with e | hj
    · exact h.nL (by rw [e]; simp)
    rcases List.mem_cons.1 hj with e | hj
    · exact h.nL (by rw [e]; simp)
    · exact f.out h.lat.lt (fun e => h.nL (by simp [e])) hj
theorem HereL.start {w0 w w' : World} {g : Nat} {fp : List Nat} {s : St} {gS bS : Nat} {l : List (List UInt8)} {ga gd gl : Int} {life : UInt64} {base : Int} {L : Nat} (h : Here w0 w g fp s gS bS l) (hL : L = w.heap.size + 1) (ha : LAt w' L g gS ga gd gl life base 0) (b : Below w.heap.size w w') : HereL w0 w' g fp s gS bS l L ga gd gl life base 0 := by
  subst hL
  refine ⟨h.both.on b, bt h.bel b, fun j hj => ?_, ha, fun hj => ?_⟩
  · have := h.bel.size
    rcases List.mem_cons.1 hj with e | hj
    · omega
    · exact h.own j hj
  · have h1 := h.both.sym.lt
    rcases List.mem_cons.1 hj with e | hj
    · omega
    rcases List.mem_cons.1 hj with e | hj
    · omega
    · have := h.both.disk.lt _ hj; omega
theorem HereL.notQ {w0 w : World} {g : Nat} {fp : List Nat} {s : St} {gS bS : Nat} {l : List (List UInt8)} {L : Nat} {ga gd gl : Int} {life : UInt64} {base : Int} {seq : Nat} (h : HereL w0 w g fp s gS bS l L ga gd gl life base seq) {n : Nat} (hn : n ≤ w0.heap.size) : ∀ j, j < n → j < w.heap.size → j ∉ L :: bS :: fp := fun j hj _ e => by have := h.own j e; omega
theorem HereL.here {w0 w : World} {g : Nat} {fp : List Nat} {s : St} {gS bS : Nat} {l : List (List UInt8)} {L : Nat} {ga gd gl : Int} {life : UInt64} {base : Int} {seq : Nat} (h : HereL w0 w g fp s gS bS l L ga gd gl life base seq) : Here w0 w g fp s gS bS l := ⟨h.both, h.bel, fun j hj => h.own j (by simp only [List.mem_cons] at hj ⊢; exact .inr hj)⟩
theorem wright_new {ga gd gl base : Int} {n : Nat} (hr : right ga gd gl = true) (hn : (n : Int) = Geom.sizeOf ga gd gl) (h0 : 0 ≤ base) (h1 : base ≤ 1073741824) {s : St} (hs : s.size = n) : wrightF s ga gd gl base = 0 := by
  unfold wrightF
  rw [if_pos ⟨hr, by rw [hs]; exact hn, h0, h1⟩]
/-- one page, written out -/
theorem lit_page (w : World) : Pgs ((w.alloc (.cells #[.int .u8 7] 5)).alloc (.cells #[.int .i64 1, .slice (some ⟨w.heap.size, 0, none⟩) 1 1] 157)) (fun j => w.heap.size ≤ j) (some ⟨w.heap.size + 1, 0, none⟩) [⟨1, [7]⟩] := fun _ => by
  refine ⟨w.heap.size + 1, 0, rfl, by simp, by omega, fun i hi => ?_⟩
  obtain rfl : i = 0 := by simp at hi; exact hi
  refine ⟨some ⟨w.heap.size, 0, none⟩, 1, ?_⟩
  have hB := Blk.new (w.alloc (.cells #[.int .u8 7] 5)) [.int .i64 1, .slice (some ⟨w.heap.size, 0, none⟩) 1 1] 157
  have hA := (Blk.new w [.int .u8 7] 5).alloc (.cells #[.int .i64 1, .slice (some ⟨w.heap.size, 0, none⟩) 1 1] 157)
  have c0 := hB.cell (k := 0) (by simp)
  have c1 := hB.cell (k := 1) (by simp)
  have a0 := hA.cell (k := 0) (by simp)
  simp only [World.size_alloc] at c0 c1
  refine ⟨c0, c1, fun _ => ⟨w.heap.size, 0, rfl, by simp; omega, Nat.le_refl _, fun j hj => ?_⟩, by simp, by unfold maxLen; omega, by simp, by simp⟩
  obtain rfl : j = 0 := by simp at hj; exact hj
  exact a0
set_option maxHeartbeats 2000000 in
theorem alive_any (w : World) : Calls Try.prog 49 #[] w fun e w' => e = .returned (.bool true) ∧ Below w.heap.size w w' := by
  have hp3 : pagesOf 2 1 3 = 3 := by decide
  have hn : ((13 : Nat) : Int) = Geom.sizeOf 2 1 3 := by rw [size213]; rfl
  have r0 : wrightF (new 13) 2 1 3 0 = 0 := wright_new (n := 13) right213 hn (by decide) (by decide) rfl
  have hbd : badB 2 1 3 [⟨1, [7]⟩] = false := by decide
  have hft : fitsB 2 1 3 (([⟨1, [7]⟩] : List Pg).length : Int) = true := by decide
  obtain ⟨v0, hI⟩ := (LogIs.new 2 1 3 0 13).append (t := ⟨[⟨1, [7]⟩], 4⟩) (life := 1) right213 (by decide) hn (by decide) hbd
  have hsc := LogIs.scan (life := 1) (ts := [⟨[⟨1, [7]⟩], 4⟩]) (by simpa [allSecs] using hI) right213 (by decide) hn (by decide) (fun t ht x hx => by
    rw [List.mem_singleton] at ht
    subst ht
    rw [List.mem_singleton] at hx
    subst hx
    rw [hp3]
    decide)
  have hlm : (putF 2 1 3 0 1 0 4 [⟨1, [7]⟩] [] (new 13)).1.length ≤ 1000000 ∧ (putF 2 1 3 0 1 0 4 [⟨1, [7]⟩] [] (new 13)).2.1.sz ≤ 90000000 := by
    obtain ⟨l1, l2⟩ := Enc.enf_lim (dItems 2 1 3 0 1 0 4 0 [⟨1, [7]⟩]) [] (new 13)
    have hz0 : (new 13).sz = 0 := rfl
    simp only [dItems, List.length_cons, List.length_nil] at l1 l2
    unfold putF
    split
    · obtain ⟨l3, l4⟩ := Enc.enf_lim [(logAt 2 1 3 (0 + ((0 + ([⟨1, [7]⟩] : List Pg).length : Nat) : Int)), dX 5 1 0 ([⟨1, [7]⟩] : List Pg).length 4 ([⟨1, [7]⟩] : List Pg).length [])] (Enc.enf (dItems 2 1 3 0 1 0 4 0 [⟨1, [7]⟩]) [] (new 13)).1 (Enc.enf (dItems 2 1 3 0 1 0 4 0 [⟨1, [7]⟩]) [] (new 13)).2.1
      simp only [dItems, List.length_cons, List.length_nil] at l3 l4 ⊢
      omega
    · simp only [dItems]
      omega
  have hAp := fun g fp gS bS L A c W h hL hLn Q hr hQ => append_any g fp (new 13) gS bS [] L 2 1 3 1 0 0 Q A [⟨1, [7]⟩] c 4 W gb213 h hL hLn (by simp) (by decide) (by decide) (by decide) hr hQ hbd hft (by decide)
  obtain ⟨V, hV⟩ : ∃ V, V = putF 2 1 3 0 1 0 4 [⟨1, [7]⟩] [] (new 13) := ⟨_, rfl⟩
  simp only [List.length_nil] at v0 hI hsc
  rw [← hV] at v0 hI hsc hlm hAp
  rw [v0] at hAp
  have rV : wrightF V.2.1 2 1 3 0 = 0 := wright_new (n := 13) right213 hn (by decide) (by decide) hI.up.size
  have hSc := fun g fp gS bS W h => scan_any g fp V.2.1 gS bS V.1 2 1 3 1 0 W gb213 h hlm.1 hlm.2 rV hI.up.down
  rw [hsc] at hSc
  have HN := Lib.hid (fun g fp gS W h => new_any g fp (new 13) gS 2 1 3 1 0 W gb213 h r0)
  have HAp := Lib.hid hAp
  have HSc := Lib.hid hSc
  have HRm := Lib.hid (fun L g gS W h => room_any L g gS 2 1 3 1 0 2 W h (by decide) (by decide) (by decide))
  clear hAp hSc hV v0 hI hsc hlm rV hbd hft r0 hn hp3
  have F := Lib.hid (Blk.new w (gcell 2 1 3) 23)
  have hltF := F.out.lt
  have b0 := b1alloc w (.cells (gcell 2 1 3).toArray 23)
  go_enter Try.func49, Try.ntmps49
  go_wp2_with (first
    | (go_at_call 12; refine (newN_any 13 13 rfl (by omega) (by omega) _).mono ?_; rintro e w1 ⟨g, fp, rfl, hD, hfp, b1⟩)
    | (go_at_call 14; refine (symbolic_any _).mono ?_; rintro e w2 ⟨gS, bS, rfl, hS, hgS, hbS, b2⟩; have H2 := Here.start hD hfp b1 hS hgS hbS b2; obtain ⟨m0, m1, m2⟩ := gthree (F.out.below H2.bel hltF))
    | (go_at_call 55; refine (HN.out _ _ _ _ H2.both.disk).mono ?_; rintro e w3 ⟨rfl, hLA, b3⟩; have H3 := HereL.start H2 rfl hLA b3)
    | (go_at_call 59; have H4 := H3.on (b2alloc w3 (.cells #[.int .u8 7] 5) (.cells #[.int .i64 1, .slice (some ⟨w3.heap.size, 0, none⟩) 1 1] 157)); refine (HAp.out _ _ _ _ _ _ _ _ H4.both H4.lat H4.nL _ (lit_page w3) (fun j hj _ e => (by rcases List.mem_cons.1 e with e | e; (have := H3.lat.lt; omega); rcases List.mem_cons.1 e with e | e; (have := H3.both.sym.lt.2; omega); (have := H3.both.disk.lt _ e; omega)))).mono ?_; rintro e w5 ⟨rfl, T5⟩; obtain ⟨fp5, H5⟩ := H4.turn T5; clear m0 m1 m2; obtain ⟨m0, m1, m2⟩ := gthree (F.out.below H5.bel hltF))
    | (go_at_call 50; refine (HSc.out _ _ _ _ _ H5.both).mono ?_; rintro e w6 ⟨⟨v6, rfl, hO⟩, b6⟩; have H6 := H5.on b6; obtain ⟨A6, c6, rfl, hT6, _, _⟩ := hO.txs; obtain ⟨b, off, Ai, ci, rfl, hbl, hx⟩ := hT6.get (i := 0) (by simp); have x0 : w6.cell? ⟨b, off, none⟩ = some (.slice Ai 1 ci) := (by simpa using hx.c0); have x1 : w6.cell? ⟨b, off + 1, none⟩ = some (.int .u64 4) := (by simpa using hx.c1); obtain ⟨bp, op, Ap, cp, rfl, hbp, hy⟩ := hx.pgs.get (i := 0) (by simp); have y0 : w6.cell? ⟨bp, op, none⟩ = some (.int .i64 1) := (by simpa using hy.c0))
    | (go_at_call 63; refine (HRm.out _ _ _ _ H6.lat).mono ?_; rintro e w7 ⟨rfl, b7⟩))
  go_ret
  exact ⟨rfl, bt b0 (bt H6.bel b7)⟩
end Go.Proofs.Ytmpmibcdpkolkaa.Wal

/- The log: what can not be scanned; the laws' turning of transactions. No statement is proved here. -/
namespace Go.Proofs.Ytmpmibcdpkolkaa.Wal
open Go.RowKit
open Go.Proofs.Ytmpmibcdpkolkaa.Geom
open Go.Proofs.Ytmpmibcdpkolkaa.Sup (Gb gv gcell gthree)
open Go.Proofs.Ytmpmibcdpkolkaa.Disk (St DAt)
set_option linter.unusedVariables false
set_option maxRecDepth 100000
attribute [local irreducible] wpQuiet
theorem scan_wrong (g : Nat) (fp : List Nat) (s : St) (gS : Nat) (ga gd gl : Int) (life : UInt64) (base : Int) (w : World) (hG : Gb ga gd gl) (h : DAt w g fp s) (hf : wrightF s ga gd gl base ≠ 0) :
    Calls Try.prog 50 #[.pointer (some ⟨g, 0, none⟩), .pointer (some ⟨gS, 0, none⟩), gv ga gd gl, .int .u64 (life.toNat : Int), .int .i64 base] w fun e w' => e = .returned (.tuple #[.slice none 0 0, .int .i64 (wrightF s ga gd gl base)]) ∧ Below w.heap.size w w' := by
  have b0 := b2alloc w (.cells (gcell ga gd gl).toArray 23) (.cells (rcell (.pointer (some ⟨g, 0, none⟩)) (.pointer (some ⟨gS, 0, none⟩)) ga gd gl life base).toArray 160)
  obtain ⟨z0, z1, z2⟩ := gthree (Blk.new w (gcell ga gd gl) 23)
  have HB := Lib.hid (fun W (bW : Below w.heap.size w W) => right_any g fp s gS ga gd gl life base W hG (h.on bW))
  obtain ⟨f, hf0⟩ : ∃ f, f = wrightF s ga gd gl base := ⟨_, rfl⟩
  rw [← hf0] at HB hf ⊢
  have t0 := bne_yes hf
  clear hf0
  go_enter Try.func50, Try.ntmps50
  go_wp2_with fail
  refine wp_scope_straight ?_
  go_wp2_with (go_at_call 100; refine (HB.out _ b0).mono ?_; rintro e w1 ⟨rfl, b1⟩)
  rw [Exit.noGoto_ret]
  go_ret2
  exact ⟨rfl, bt b0 b1⟩
theorem scanS_nil (g : Nat) (ga gd gl : Int) (life : UInt64) (base : Int) (w : World) :
    Calls Try.prog 50 #[.pointer (some ⟨g, 0, none⟩), .pointer none, gv ga gd gl, .int .u64 (life.toNat : Int), .int .i64 base] w fun e w' => e = .returned (.tuple #[.slice none 0 0, .int .i64 1]) ∧ Below w.heap.size w w' := by
  have b0 := b2alloc w (.cells (gcell ga gd gl).toArray 23) (.cells (rcell (.pointer (some ⟨g, 0, none⟩)) (.pointer none) ga gd gl life base).toArray 160)
  obtain ⟨z0, z1, z2⟩ := gthree (Blk.new w (gcell ga gd gl) 23)
  go_enter Try.func50, Try.ntmps50
  go_wp2_with fail
  refine wp_scope_straight ?_
  go_wp2_with (go_at_call 100; refine (rightS_nil g ga gd gl life base _).mono ?_; rintro e w1 ⟨rfl, b1⟩)
  rw [Exit.noGoto_ret]
  go_ret2
  exact ⟨rfl, bt b0 b1⟩
theorem infoRT1 : (Try.prog.info? 104).map (fun i => (i.zero, i.size, i.bytes)) = some (some (.agg #[.slice none 0 0, .int .u64 0]), 2, 32) := by kernel_rfl
theorem alloc_drew3 (w : World) (o : Obj) : Below w.heap.size w (w.alloc o).drew := ⟨(b1alloc w o).os, (b1alloc w o).tape, (b1alloc w o).output, (b1alloc w o).size, (b1alloc w o).block⟩
/-- one that is turned: where its pages lie -/
structure Er where
  A : Option Addr
  c : Nat
  x : Tx
def Er.cells (e : Er) : List Value := [.slice e.A e.x.pages.length e.c, .int .u64 (e.x.gen.toNat : Int)]
structure ErOk (w : World) (Q : Nat → Prop) (e : Er) : Prop where
  pgs : Pgs w Q e.A e.x.pages
  cap : e.x.pages.length ≤ e.c
  max : e.c ≤ maxLen
theorem ErOk.on {w w' : World} {Q : Nat → Prop} {e : Er} (h : ErOk w Q e) (b : Below w.heap.size w w') : ErOk w' Q e := ⟨h.pgs.on b, h.cap, h.max⟩
theorem er_txs {w w' : World} {Q : Nat → Prop} {A : Option Addr} {l : List Tx} {c : Nat} {es : List Er} (hr : w'.ownsRow w.heap.size 104 2 (.slice A l.length c) l.length (es.flatMap Er.cells)) (he : es.map Er.x = l) (hok : ∀ e ∈ es, ErOk w Q e) (b : Below w.heap.size w w') :
    Txs w' (fun _ => True) A l := by
  have hll : es.length = l.length := by rw [← he]; simp
  intro hne
  have hp : 0 < l.length := by cases l; exact absurd rfl hne; simp
  obtain ⟨g, c', e, hg⟩ := own_some hr (by omega)
  injection e with e1 e2 e3
  subst e1
  obtain ⟨cs, hcs⟩ := Disk.own_blk hr
  refine ⟨g, 0, rfl, lt_of_block hcs, trivial, fun i hi => ?_⟩
  have hi' : i < es.length := by omega
  have hk := (hok _ (List.getElem_mem hi')).on b
  have c0 := own_cell2 (f := Er.cells) (fun _ => rfl) hr i hi' 0 (by omega)
  have c1 := own_cell2 (f := Er.cells) (fun _ => rfl) hr i hi' 1 (by omega)
  have hx : l[i] = es[i].x := by
    have : l[i]? = (es.map Er.x)[i]? := by rw [he]
    rw [List.getElem?_map, List.getElem?_eq_getElem hi, List.getElem?_eq_getElem hi'] at this
    simpa using this
  refine ⟨es[i].A, es[i].c, ?_⟩
  rw [Nat.zero_add, hx]
  exact ⟨by simpa [Er.cells] using c0, by simpa [Er.cells] using c1, hk.pgs.imp (fun _ _ _ => trivial), hk.cap, hk.max⟩
set_option maxHeartbeats 2000000 in
theorem of_any (Q : Nat → Prop) (A : Option Addr) (l : List Tx) (c : Nat) (w : World) (hr : Txs w Q A l) (hl : l.length ≤ 100000) :
    Calls Try.prog 52 #[.slice A l.length c] w fun e w' => (∃ A' c', e = .returned (.slice A' l.length c') ∧ Txs w' (fun _ => True) A' l ∧ l.length ≤ c' ∧ c' ≤ maxLen) ∧ Below w.heap.size w w' := by
  obtain ⟨i0, hi0, hz0, hz1, hz2⟩ := info_parts infoRT1
  obtain ⟨N, hN⟩ : ∃ N, N = l.length := ⟨_, rfl⟩
  rw [← hN]
  have HN := Lib.hid hN
  have HR := Lib.hid hr
  have hl' : N ≤ 100000 := by omega
  clear hN hr hl
  go_enter Try.func52, Try.ntmps52
  go_wp2_with fail
  go_loopw [3, 4] (fun o i wr => ∃ k : Nat, k ≤ N ∧ i = .int .i64 (k : Int) ∧ Below w.heap.size w wr ∧ ∃ es : List Er, wr.ownsRow w.heap.size 104 2 o k (es.flatMap Er.cells) ∧ Hid (es.map Er.x = l.take k ∧ ∀ e ∈ es, ErOk w Q e)) (fun _ i _ => N - (intOf i).toNat)
  case atStart => exact ⟨0, by omega, rfl, Below.refl _ _, [], own_nil _ _ _ _, Lib.hid ⟨by simp, fun e h => by cases h⟩⟩
  case round =>
    obtain ⟨k, hk, rfl, bel, es, hown, hes⟩ := hrel
    obtain ⟨Ao, co, rfl⟩ := own_form hown
    by_cases hlt : k < N
    · have hll : k < l.length := by have := HN.out; omega
      have hkm : (k : Int) < (N : Int) := by omega
      have hge : ¬ (N : Int) ≤ (k : Int) := by omega
      have htk : l.take (k + 1) = l.take k ++ [l[k]] := List.take_succ_eq_append_getElem hll
      obtain ⟨b, off, Ai, ci, rfl, hb, hT⟩ := HR.out.get hll
      obtain ⟨x, hx⟩ : ∃ x, x = l[k] := ⟨_, rfl⟩
      rw [← hx] at hT htk
      have c0 := (bel.cell (p := ⟨b, off + k * 2, none⟩) hb).trans hT.c0
      have c1 := (bel.cell (p := ⟨b, off + k * 2 + 1, none⟩) hb).trans hT.c1
      have hb1 : b < wr.heap.size := by have := bel.size; omega
      have Hok := Lib.hid (show ErOk w Q ⟨Ai, ci, x⟩ from ⟨hT.pgs, hT.cap, hT.max⟩)
      have Htk := Lib.hid htk
      have Hb1 := Lib.hid (show k + 1 ≤ maxLen ∧ (k + 1) * 32 ≤ 140737488355328 from ⟨by simp only [maxLen]; omega, by omega⟩)
      clear hT htk hx hb
      go_upto_region 5 with (fail)
      go_region_law ((refine Disk.step_append_rd _ (by rfl) _ _ _ (by rfl) w.heap.size 104 i0 _ 2 32 Try.underlying92 hi0 hz0 hz1 hz2 rfl (by omega) (.slice Ao k co) k (es.flatMap Er.cells) (by rfl) ?_ _ 1 1 [.slice Ai x.pages.length ci, .int .u64 (x.gen.toNat : Int)] (by rfl) (by rfl) ?_ (by simp [Value.oneCell']) Hb1.out.1 Hb1.out.2 (Nat.le_trans bel.size (b1alloc wr _).size) ?_); (· exact hown.alloc _); (· exact Rd.lit _ _ _ _ _ rfl (by simp)); intro v3 w3 own3 hg3 hat3)
      all_goals
        have hbl := Lib.hid (show Below w.heap.size w w3 from (bel.trans ((alloc_drew3 wr _).mono bel.size)).grown hg3 (Nat.le_trans bel.size (b1alloc wr _).size) (fun g hg => own_block hown hg))
        have hfin := Lib.hid (show w3.ownsRow w.heap.size 104 2 v3 (k + 1) ((es ++ [(⟨Ai, ci, x⟩ : Er)]).flatMap Er.cells) by simpa [Er.cells] using own3)
        have hes2 := Lib.hid (show (es ++ [(⟨Ai, ci, x⟩ : Er)]).map Er.x = l.take (k + 1) ∧ ∀ e ∈ es ++ [(⟨Ai, ci, x⟩ : Er)], ErOk w Q e from ⟨by rw [List.map_append, hes.out.1, Htk.out]; rfl, fun e he => (List.mem_append.1 he).elim (hes.out.2 e) (fun he => by rw [List.mem_singleton] at he; rw [he]; exact Hok.out)⟩)
        clear own3 hat3 hg3 hown
        go_wp2
        refine ⟨⟨k + 1, by omega, by go_num, hbl.out, es ++ [⟨Ai, ci, x⟩], hfin.out, Lib.hid hes2.out⟩, by simp only [intOf]; omega⟩
    · have hkN : k = N := by omega
      have hkn : ¬ (k : Int) < (N : Int) := by omega
      have Hk := Lib.hid hkN
      clear hkN
      go_wp2
      go_ret
      have hkl : k = l.length := Hk.out.trans HN.out
      have he := hes.out.1
      rw [hkl, List.take_length] at he
      have hown' := hown
      rw [hkl] at hown'
      have hcp := Disk.own_caps hown'
      refine ⟨⟨Ao, co, by rw [Hk.out]; rfl, er_txs hown' he hes.out.2 bel, by rw [HN.out]; exact hcp.1, hcp.2⟩, bel⟩
end Go.Proofs.Ytmpmibcdpkolkaa.Wal

/- The pages of a life, in plain Lean: what is read of any sectors in their places. -/
namespace Go.Proofs.Ytmpmibcdpkolkaa.Snap
open Go.RowKit
open Go.Proofs.Ytmpmibcdpkolkaa.Geom
open Go.Proofs.Ytmpmibcdpkolkaa.Disk (St Wr read kept new zero512)
open Go.Proofs.Ytmpmibcdpkolkaa.Sec (X text text_len sumAfter rightF X0)
open Go.Proofs.Ytmpmibcdpkolkaa.Sup (UpN stp stp_yes stp_no bytesAt bytesAt_len)
open Go.Proofs.Ytmpmibcdpkolkaa.Enc (rd rd_good rd_zero)
set_option linter.unusedVariables false
/-- the sectors put, up to the k-th place -/
def qs (ga gd gl : Int) (life : UInt64) (l : List X) (n : Nat) : Nat → List (List UInt8) × St
  | 0 => ([], new n)
  | k + 1 => if h : k < l.length then stp (qs ga gd gl life l n k) (areaAt ga gd gl life.toNat k) l[k] else qs ga gd gl life l n k
theorem qs_at {ga gd gl : Int} {life : UInt64} {l : List X} {n k : Nat} (h : k < l.length) : qs ga gd gl life l n (k + 1) = stp (qs ga gd gl life l n k) (areaAt ga gd gl life.toNat k) l[k] := dif_pos h
theorem qs_past {ga gd gl : Int} {life : UInt64} {l : List X} {n k : Nat} (h : ¬ k < l.length) : qs ga gd gl life l n (k + 1) = qs ga gd gl life l n k := dif_neg h
/-- was a sector put there? -/
def putB (ga gd gl : Int) (life : UInt64) (l : List X) (j : Nat) : Bool := if h : j < l.length then decide (rightF (areaAt ga gd gl life.toNat j) l[j] = 0) else false
/-- is it the page? -/
def isL (ga gd gl : Int) (life : UInt64) (l : List X) (j : Nat) : Bool := if h : j < l.length then decide (rightF (areaAt ga gd gl life.toNat j) l[j] = 0) && isX life j l[j] else false
structure QInv (ga gd gl : Int) (life : UInt64) (l : List X) (n N k : Nat) (q : List (List UInt8) × St) : Prop where
  up : UpN q.2 n
  len : q.1.length ≤ k
  sz : q.2.sz ≤ k
  good : ∀ j (h : j < l.length), j < k → rightF (areaAt ga gd gl life.toNat j) l[j] = 0 → Sup.Good q.1 (areaAt ga gd gl life.toNat j) l[j] (kept q.2.all (areaAt ga gd gl life.toNat j).toNat)
  zero : ∀ j, j < N → ¬ (j < k ∧ putB ga gd gl life l j = true) → kept q.2.all (areaAt ga gd gl life.toNat j).toNat = zero512
theorem area_bd {ga gd gl : Int} {n N : Nat} (hn : (n : Int) = Geom.sizeOf ga gd gl) (hN : (N : Int) = pagesOf ga gd gl) (life : UInt64) {k : Nat} (hk : k < N) : 0 ≤ areaAt ga gd gl life.toNat k ∧ areaAt ga gd gl life.toNat k < n := by
  have := area_ok (ga := ga) (gd := gd) (gl := gl) (life := life) (k := k) (by omega)
  omega
theorem qs_inv {ga gd gl : Int} {n N : Nat} (hn : (n : Int) = Geom.sizeOf ga gd gl) (hN : (N : Int) = pagesOf ga gd gl) (life : UInt64) (l : List X) : ∀ k, k ≤ N → QInv ga gd gl life l n N k (qs ga gd gl life l n k)
  | 0, _ => ⟨Sup.up_new n, by simp [qs], Nat.zero_le _, fun j h hj => by omega, fun j _ _ => rfl⟩
  | k + 1, hk => by
    have ih := qs_inv hn hN life l k (by omega)
    by_cases h : k < l.length
    · rw [qs_at h]
      obtain ⟨q, hq⟩ : ∃ q, q = qs ga gd gl life l n k := ⟨_, rfl⟩
      rw [← hq] at ih ⊢
      have hp := area_bd hn hN life (k := k) (by omega)
      by_cases hr : rightF (areaAt ga gd gl life.toNat k) l[k] = 0
      · rw [stp_yes hr]
        obtain ⟨u, e, z⟩ := Sup.UpN.put ih.up hp.1 hp.2 (bytesAt_len q (areaAt ga gd gl life.toNat k) l[k])
        have hl := Sup.sumAfter_len q.1 (text (areaAt ga gd gl life.toNat k) l[k])
        have hne : ∀ j, j < N → j ≠ k → (areaAt ga gd gl life.toNat k).toNat ≠ (areaAt ga gd gl life.toNat j).toNat := fun j hj hjk he => by
          have hpj := area_bd hn hN life hj
          exact hjk (area_inj (m := life.toNat) (by omega) (by omega) (show areaAt ga gd gl life.toNat j = areaAt ga gd gl life.toNat k by omega))
        refine ⟨u, by have := ih.len; simp only []; omega, by have := ih.sz; simp only []; omega, fun j hj hjk hrj => ?_, fun j hj hnj => ?_⟩
        · by_cases hjk' : j = k
          · subst hjk'
            rw [e, Sup.kept_after]
            exact Sup.Good.made q.1 hr
          · rw [e, Sup.kept_beside _ _ (hne j (by omega) hjk')]
            exact (ih.good j hj (by omega) hrj).more _
        · have hjk' : j ≠ k := fun e => hnj ⟨by omega, by subst e; unfold putB; rw [dif_pos h]; exact decide_eq_true hr⟩
          rw [e, Sup.kept_beside _ _ (hne j hj hjk')]
          exact ih.zero j hj (fun hh => hnj ⟨by omega, hh.2⟩)
      · rw [stp_no hr]
        refine ⟨ih.up, by have := ih.len; omega, by have := ih.sz; omega, fun j hj hjk hrj => ?_, fun j hj hnj => ?_⟩
        · by_cases hjk' : j = k
          · subst hjk'; exact absurd hrj hr
          · exact ih.good j hj (by omega) hrj
        · exact ih.zero j hj (fun hh => hnj ⟨by omega, hh.2⟩)
    · rw [qs_past h]
      refine ⟨ih.up, by have := ih.len; omega, by have := ih.sz; omega, fun j hj hjk hrj => ?_, fun j hj hnj => ih.zero j hj (fun hh => hnj ⟨by omega, hh.2⟩)⟩
      exact ih.good j hj (by omega) hrj
theorem QInv.isPg {ga gd gl : Int} {n N : Nat} (hn : (n : Int) = Geom.sizeOf ga gd gl) (hN : (N : Int) = pagesOf ga gd gl) {life : UInt64} {l : List X} {q : List (List UInt8) × St} (h : QInv ga gd gl life l n N N q) {j : Nat} (hj : j < N) : isPg q.1 q.2 ga gd gl life j = isL ga gd gl life l j := by
  have hp := area_bd hn hN life hj
  unfold Snap.isPg rdAt isL
  by_cases h1 : j < l.length
  · rw [dif_pos h1]
    by_cases h2 : rightF (areaAt ga gd gl life.toNat j) l[j] = 0
    · rw [rd_good h.up hp.1 hp.2 (h.good j h1 hj h2)]
      simp [h2]
    · rw [rd_zero h.up hp.1 hp.2 (h.zero j hj (fun hh => by have := hh.2; unfold putB at this; rw [dif_pos h1] at this; exact h2 (of_decide_eq_true this)))]
      simp [h2]
  · rw [dif_neg h1, rd_zero h.up hp.1 hp.2 (h.zero j hj (fun hh => by have := hh.2; unfold putB at this; rw [dif_neg h1] at this; cases this))]
    simp
/-- the numbers of the pages that are not there, up to the k-th -/
def wants (ga gd gl : Int) (life : UInt64) (l : List X) (k : Nat) : List Int := ((List.range k).filter (fun j => !isL ga gd gl life l j)).map (fun j : Nat => (j : Int))
theorem wants_no {ga gd gl : Int} {life : UInt64} {l : List X} {k : Nat} (h : isL ga gd gl life l k = false) : wants ga gd gl life l (k + 1) = wants ga gd gl life l k ++ [(k : Int)] := by
  unfold wants; rw [List.range_succ, List.filter_append, List.map_append]; simp [h]
theorem wants_yes {ga gd gl : Int} {life : UInt64} {l : List X} {k : Nat} (h : isL ga gd gl life l k = true) : wants ga gd gl life l (k + 1) = wants ga gd gl life l k := by
  unfold wants; rw [List.range_succ, List.filter_append, List.map_append]; simp [h]
theorem wants_len (ga gd gl : Int) (life : UInt64) (l : List X) (k : Nat) : (wants ga gd gl life l k).length ≤ k := by
  unfold wants; rw [List.length_map]; exact Nat.le_trans (List.length_filter_le _ _) (by simp)
theorem QInv.badL {ga gd gl : Int} {n N : Nat} (hn : (n : Int) = Geom.sizeOf ga gd gl) (hN : (N : Int) = pagesOf ga gd gl) {life : UInt64} {l : List X} {q : List (List UInt8) × St} (h : QInv ga gd gl life l n N N q) : Snap.badL q.1 q.2 ga gd gl life N = wants ga gd gl life l N := by
  unfold Snap.badL wants
  congr 1
  apply List.filter_congr
  intro j hj
  rw [h.isPg hn hN (List.mem_range.1 hj)]
theorem QInv.snapR {ga gd gl : Int} {n N : Nat} (hn : (n : Int) = Geom.sizeOf ga gd gl) (hN : (N : Int) = pagesOf ga gd gl) {life : UInt64} {l : List X} {q : List (List UInt8) × St} (h : QInv ga gd gl life l n N N q) :
    ((wants ga gd gl life l N).length = 0 ∧ ∃ r, Snap.snapR q.1 q.2 ga gd gl life N = some r ∧ r.length = N) ∨ (0 < (wants ga gd gl life l N).length ∧ Snap.snapR q.1 q.2 ga gd gl life N = none) := by
  rw [← h.badL hn hN]
  unfold Snap.snapR
  by_cases ha : allPg q.1 q.2 ga gd gl life N = true
  · left
    rw [if_pos ha]
    refine ⟨?_, _, rfl, bodies_len _ _ _ _ _ _ _⟩
    unfold Snap.badL
    unfold allPg at ha
    rw [List.all_eq_true] at ha
    rw [List.filter_eq_nil_iff.2 (fun k hk => by rw [ha k hk]; simp)]
    rfl
  · right
    rw [if_neg ha]
    refine ⟨?_, rfl⟩
    have ha' : allPg q.1 q.2 ga gd gl life N = false := by simpa using ha
    unfold allPg at ha'
    rw [List.all_eq_false] at ha'
    obtain ⟨k, hk, hp⟩ := ha'
    unfold Snap.badL
    rw [List.length_map]
    exact List.length_pos_of_mem (List.mem_filter.2 ⟨hk, by simpa using hp⟩)
end Go.Proofs.Ytmpmibcdpkolkaa.Snap

/- For the law on what is read of any sectors: the reference's test, a row that grows beside a disk. -/
namespace Go.Proofs.Ytmpmibcdpkolkaa
open Go.RowKit
set_option linter.unusedVariables false
theorem Here.row {w0 w w' : World} {g : Nat} {fp : List Nat} {s : Disk.St} {gS bS : Nat} {l : List (List UInt8)} {row : Option Nat} (h : Here w0 w g fp s gS bS l) (hg : w.grownBy w' row) (hr : ∀ r, row = some r → w0.heap.size ≤ r ∧ r ∉ gS :: bS :: fp) : Here w0 w' g fp s gS bS l := by
  have k : Keep row.toList w w' := Keep.of_grown hg (fun g e => by simp [e])
  have hn : ∀ r ∈ row.toList, w0.heap.size ≤ r ∧ r ∉ gS :: bS :: fp := fun r hr' => hr r (by simpa using hr')
  refine ⟨⟨h.both.disk.keep k (fun j hj e => (hn j e).2 (by simp [hj])), h.both.sym.keepK k (fun e => (hn _ e).2 (by simp)) (fun e => (hn _ e).2 (by simp)), h.both.nS, h.both.nB⟩, h.bel.grown hg h.bel.size (fun g e => (hr g e).1), h.own⟩
theorem Blk.row {w w' : World} {b : Nat} {xs : List Value} {row : Option Nat} (h : Blk w b xs) (hg : w.grownBy w' row) (hr : ∀ r, row = some r → r ≠ b) : Blk w' b xs := h.elim fun t hh => ⟨t, (hg.block b (lt_of_block hh) (fun e => hr b e.symm rfl)).trans hh⟩
end Go.Proofs.Ytmpmibcdpkolkaa
namespace Go.Proofs.Ytmpmibcdpkolkaa.Snap
open Go.RowKit
open Go.Proofs.Ytmpmibcdpkolkaa.Sec (X five5x)
set_option linter.unusedVariables false
set_option maxRecDepth 100000
set_option maxHeartbeats 1000000 in
theorem ris_any (x : X) (A : Option Addr) (c : Nat) (k : Nat) (life : UInt64) (w : World) :
    Calls Try.prog 47 #[.int .u64 (life.toNat : Int), .int .i64 (k : Int), .agg #[.int .i64 x.kind, .int .u64 (x.life.toNat : Int), .int .i64 x.seq, .int .u64 (x.gen.toNat : Int), .slice A x.body.length c]] w fun e w' => e = .returned (.bool (isX life k x)) ∧ Below w.heap.size w w' := by
  have b0 := b1alloc w (.cells ([.int .i64 x.kind, .int .u64 (x.life.toNat : Int), .int .i64 x.seq, .int .u64 (x.gen.toNat : Int), .slice A x.body.length c] : List Value).toArray 49)
  have hX := Blk.new w [.int .i64 x.kind, .int .u64 (x.life.toNat : Int), .int .i64 x.seq, .int .u64 (x.gen.toNat : Int), .slice A x.body.length c] 49
  obtain ⟨x0, x1, x2, x3, x4⟩ := five5x hX
  by_cases e1 : x.kind = 3
  rotate_left
  · have hn := Lib.hid (show isX life k x = false by simp [isX, e1])
    have t1 := beq_no e1
    clear e1
    go_enter Try.func47, Try.ntmps47
    go_wp2
    go_ret
    exact ⟨ret_bool hn.out.symm, b0⟩
  have t1 := beq_yes e1
  by_cases e2 : x.life = life
  rotate_left
  · have hn := Lib.hid (show isX life k x = false by simp [isX, e2])
    have t2 := beq_no (show (x.life.toNat : Int) ≠ (life.toNat : Int) from fun e => e2 (UInt64.toNat_inj.1 (by omega)))
    clear e1 e2
    go_enter Try.func47, Try.ntmps47
    go_wp2
    go_ret
    exact ⟨ret_bool hn.out.symm, b0⟩
  have t2 := beq_yes (show (x.life.toNat : Int) = (life.toNat : Int) by rw [e2])
  by_cases e3 : x.seq = (k : Int)
  rotate_left
  · have hn := Lib.hid (show isX life k x = false by simp [isX, e3])
    have t3 := beq_no e3
    clear e1 e2 e3
    go_enter Try.func47, Try.ntmps47
    go_wp2
    go_ret
    exact ⟨ret_bool hn.out.symm, b0⟩
  have t3 := beq_yes e3
  by_cases e4 : x.gen = 0
  · have hn := Lib.hid (show isX life k x = true by simp [isX, e1, e2, e3, e4])
    have t4 := beq_yes (show (x.gen.toNat : Int) = 0 by rw [e4]; rfl)
    clear e1 e2 e3 e4
    go_enter Try.func47, Try.ntmps47
    go_wp2
    go_ret
    exact ⟨ret_bool hn.out.symm, b0⟩
  · have hn := Lib.hid (show isX life k x = false by simp [isX, e4])
    have t4 := beq_no (show (x.gen.toNat : Int) ≠ 0 from fun e => e4 (UInt64.toNat_inj.1 (by rw [show (0 : UInt64).toNat = 0 from rfl]; omega)))
    clear e1 e2 e3 e4
    go_enter Try.func47, Try.ntmps47
    go_wp2
    go_ret
    exact ⟨ret_bool hn.out.symm, b0⟩
end Go.Proofs.Ytmpmibcdpkolkaa.Snap
