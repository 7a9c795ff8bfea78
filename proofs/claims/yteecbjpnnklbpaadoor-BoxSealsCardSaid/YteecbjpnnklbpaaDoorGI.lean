/- Texts of this claim, joined: Ctr1, Ctr2, Ctr3, Ctr4, Ctr5, Ctr6, Ctr7. -/
import Derived.Test.YteecbjpnnklbpaaDoorGD
import Derived.Test.YteecbjpnnklbpaaDoorGC
import Derived.Test.YteecbjpnnklbpaaDoorGA
import Derived.Deep.RegionHeld3
import Derived.Test.YteecbjpnnklbpaaDoorGG
/- The walks of ctr.Next and of the reference's Next. -/
namespace Go.Proofs.YteecbjpnnklbpaaDoor.Ctr
open Go.RowKit
open Go.Proofs.YteecbjpnnklbpaaDoor.Aes
set_option linter.unusedVariables false
set_option maxRecDepth 100000
theorem wrap8 (x : UInt8) : IntKind.u8.wrap ((x.toNat : Int) + 1) = ((x + 1).toNat : Int) := by
  rw [IntKind.wrap_u8', UInt8.toNat_add]; simp
def zs (n : Nat) : List UInt8 := List.replicate n 0
theorem zs_cons (n : Nat) (h : 0 < n) : (0 : UInt8) :: zs (n - 1) = zs n := by
  obtain ⟨m, rfl⟩ : ∃ m, n = m + 1 := ⟨n - 1, by omega⟩
  rfl
theorem mid_len (c : List UInt8) (hc : c.length = 16) (j : Nat) (hj : j ≤ 16) : (c.take j ++ zs (16 - j)).length = 16 := by simp [zs, hc]; omega
set_option maxHeartbeats 800000 in
theorem next_any (c : List UInt8) (hc : c.length = 16) (w : World) : Calls Tryd.prog 73 #[arrV (vb c)] w fun e w' => e = .returned (arrV (vb (next c))) ∧ Below w.heap.size w w' := by
  have Hc := Lib.hid hc
  have hnl : (next c).length = 16 := by rw [next_len, hc]
  have Hnl := Lib.hid hnl
  have hszN := sizeL hnl
  clear hc hnl
  go_enter Tryd.func73, Tryd.ntmps73
  go_wp2_with (first
    | ((with_reducible show wpList _ _ _ (⟨some 1, _, _, _, _, _⟩ :: _) _ _); refine wpList_boxN rfl _ _ rfl (vb c) rfl ?_; intro w1 hb1 bw1 hs1)
    | ((with_reducible show wpList _ _ _ (⟨some 2, _, _, _, _, _⟩ :: _) _ _); refine wpList_allocN rfl _ rfl (vb zero16) zeroV16 ?_; intro w2 hb2 bw2 hs2; have hb12 := hb1.on bw2; have bt2 := bt bw1 bw2)
    | fail)
  go_step3
  go_wp2_with fail
  go_step3
  go_wp2_with fail
  have l01 : w.heap.size < w1.heap.size := hs1
  obtain ⟨B1, hB1⟩ : ∃ B, B = w1.heap.size := ⟨_, rfl⟩
  rw [← hB1] at hb2 l01 ⊢
  clear hB1 hb1 bw1 bw2 hs1 hs2
  go_loopw [3] (fun i wr => ∃ (j : Nat) (i1 : Int), j ≤ 16 ∧ i1 = (j : Int) - 1 ∧ i = .int .i64 i1 ∧ Hid (next c = next (c.take j) ++ zs (16 - j)) ∧ Blk wr w.heap.size (vb (c.take j ++ zs (16 - j))) ∧ Blk wr B1 (vb zero16) ∧ Below w.heap.size w wr) (fun i _ => (intOf i + 1).toNat)
  case atStart => exact ⟨16, 15, by omega, by omega, rfl, Lib.hid (by rw [List.take_of_length_le (by rw [Hc.out]; omega)]; simp [zs]), by rw [List.take_of_length_le (by rw [Hc.out]; omega)]; simpa [zs] using hb12, hb2, bt2⟩
  case round =>
    obtain ⟨j, i1, hj, hi1, rfl, hnx, d0, d1, bt0⟩ := hrel
    clear hb12 hb2 bt2
    rcases Nat.eq_zero_or_pos j with h0 | h0
    · subst h0
      have hneg : ¬ (0 : Int) ≤ i1 := by omega
      have hneg' : i1 < 0 := by omega
      clear hi1
      have hres := hnx.out
      rw [show (c.take 0) = [] from rfl, next_nil, List.nil_append] at hres
      rw [show (c.take 0) = [] from rfl, List.nil_append, ← hres] at d0
      clear hres
      go_wp2_with (first
        | ((with_reducible show wpList _ _ _ (⟨some 17, _, _, _, _, _⟩ :: _) _ _); refine wpList_loadA rfl _ _ rfl rfl d0 Tryd.underlying83 hszN ?_)
        | ((with_reducible show wpList _ _ _ (⟨none, .store 83 _ _, _, _, _, _⟩ :: _) _ _); refine wpList_storeN rfl _ _ _ rfl rfl (ys := vb (next c)) rfl d1 (by rw [vb_len, vb_len, Hnl.out]; rfl) (vb_one _) hszN ?_; intro w9 hb9 hg9)
        | fail)
      try rw [Exit.noGoto_ret]
      exact bodyPost_ret (v := arrV (vb (next c))) (results_arr Tryd.results73 _ hb9 Tryd.underlying83 hszN rfl) rfl ⟨rfl, below_row bt0 hg9 (by omega) bt0.size⟩
    · obtain ⟨k, rfl⟩ : ∃ k, j = k + 1 := ⟨j - 1, by omega⟩
      obtain rfl : i1 = (k : Int) := by omega
      have hk16 : k < c.length := by rw [Hc.out]; omega
      have hcell := Blk.byte d0 (k := k) (by rw [mid_len c Hc.out _ hj]; omega)
      rw [get_mid c _ k hk16] at hcell
      have hset := Lib.hid (set_mid c (zs (16 - (k + 1))) k (c.getD k 0 + 1) hk16)
      have hhere := Lib.hid (next_here c _ k hk16 hnx.out)
      have hon := Lib.hid (next_on c _ k hk16 hnx.out)
      have hf := d0.free k
      have hlt0 := d0.lt
      have hkI : (k : Int) < 16 := by omega
      obtain ⟨x, hx⟩ : ∃ x, x = c.getD k 0 := ⟨_, rfl⟩
      rw [← hx] at hcell hset hhere hon
      have hw8 := wrap8 x
      obtain ⟨y, hy⟩ : ∃ y, y = x + 1 := ⟨_, rfl⟩
      rw [← hy] at hset hhere hon hw8
      clear hx hy hi1
      have hbs := d0.set (k := k) (e8 y)
      rw [vb_set, hset.out] at hbs
      have e1 := d1.other (k := k) (b := w.heap.size) (e8 y) (by omega)
      have btr := bset_new bt0 k (e8 y)
      by_cases hy0 : y = 0
      · have hyb : ((y.toNat : Int) != 0) = false := by rw [hy0]; rfl
        have hres := Lib.hid (hon.out hy0)
        have Hy0 := Lib.hid hy0
        clear hy0
        go_wp2
        go_roundw
        case rel => exact ⟨k, (k : Int) - 1, by omega, rfl, by go_num, Lib.hid (by rw [hres.out, show 16 - (k + 1) = 16 - k - 1 by omega, zs_cons _ (by omega)]), (by rw [Hy0.out, show 16 - (k + 1) = 16 - k - 1 by omega, zs_cons _ (by omega), ← Hy0.out] at hbs; exact hbs), e1, btr⟩
        case measure => simp [intOf] <;> omega
      · have hyb : ((y.toNat : Int) != 0) = true := bne_yes (fun e => hy0 (UInt8.toNat_inj.1 (by simpa using e)))
        have hres := hhere.out (.inl hy0)
        rw [← hres] at hbs
        clear hres
        go_wp2_with (first
          | ((with_reducible show wpList _ _ _ (⟨some 17, _, _, _, _, _⟩ :: _) _ _); refine wpList_loadA rfl _ _ rfl rfl hbs Tryd.underlying83 hszN ?_)
          | ((with_reducible show wpList _ _ _ (⟨none, .store 83 _ _, _, _, _, _⟩ :: _) _ _); refine wpList_storeN rfl _ _ _ rfl rfl (ys := vb (next c)) rfl e1 (by rw [vb_len, vb_len, Hnl.out]; rfl) (vb_one _) hszN ?_; intro w9 hb9 hg9)
          | fail)
        try rw [Exit.noGoto_ret]
        exact bodyPost_ret (v := arrV (vb (next c))) (results_arr Tryd.results73 _ hb9 Tryd.underlying83 hszN rfl) rfl ⟨rfl, below_row btr hg9 (by omega) btr.size⟩
theorem is255 (x : UInt8) : ((x.toNat : Int) == 255) = decide (x + 1 = 0) := by
  have hx := x.toNat_lt
  by_cases h : x.toNat = 255
  · have : x + 1 = 0 := by apply UInt8.toNat_inj.1; rw [UInt8.toNat_add, h]; rfl
    simp [h, this]
  · have h1 : ¬ x + 1 = 0 := fun e => h (by have h1 := congrArg UInt8.toNat e; rw [UInt8.toNat_add] at h1; simp at h1; omega)
    have h2 : ((x.toNat : Int) == 255) = false := beq_no (by omega)
    rw [h2]; simp [h1]
end Go.Proofs.YteecbjpnnklbpaaDoor.Ctr

/- The walks of ctr.begun, and of the reference's Right and counter. -/
namespace Go.Proofs.YteecbjpnnklbpaaDoor.Ctr
open Go.RowKit
open Go.Proofs.YteecbjpnnklbpaaDoor.Aes
set_option linter.unusedVariables false
set_option maxRecDepth 100000
theorem setRow_same {w : World} {g : Nat} {xs : List Value} (h : Blk w g xs) : w.setRow g xs.toArray = w := by
  obtain ⟨t, h⟩ := h
  unfold World.setRow
  congr 1
  apply Array.ext_getElem?
  intro i
  rw [Array.getElem?_modify]
  by_cases e : g = i
  · subst e
    rw [if_pos rfl, h]; rfl
  · rw [if_neg e]
section
variable {P : Program}
/-- what is written is there already -/
theorem wpQuiet_storeSame {ops : Array Oper} {C : World → Prop} {Q : Act → Prop} {a : Act} {o : Oper} {rest : List Oper} (hgd : o.guard = none) (t : TypeId) (x y : Operand) (ho : o.op = .store t x y)
    {g : Nat} (hx : a.eval x = .pointer (some ⟨g, 0, none⟩)) {xs : List Value} (hy : a.eval y = arrV xs) (hb : ∀ w, C w → Blk w g xs) (h1 : ∀ v ∈ xs, v.oneCell' = true) (hi : (P.info? t).map (·.size) = some xs.length)
    (h : wpQuiet P ops C Q rest (a.put o.dst undef)) : wpQuiet P ops C Q (o :: rest) a := by
  refine wpQuiet_step fun K hK => ?_
  rw [if_pos (by simp [Region.wanted, hgd])]
  refine ⟨undef, fun w hw => ?_, hK _ h⟩
  have hbw := hb w hw
  have hsame := setRow_same hbw
  obtain ⟨t', hb'⟩ := hbw
  have := run_storeVar_row (P := P) w g t' t _ xs.toArray hb' (by simpa using hi) rfl (by simpa using h1)
  rw [hsame] at this
  have hr : (execOp a.eval o).run P w = .ok .skip w := by
    unfold execOp
    simp only [ho, hx, hy]
    simp [Instr.storeAt, Instr.sureAddr, this, arrV]
  unfold Oper.quietAt
  rw [hr]
  exact ⟨rfl, rfl⟩
end
theorem results_arr3 {fn : Func} {p p2 q : Tmp} {t t2 : TypeId} {v : Value} (h : fn.results = #[.cell p t, .cell p2 t2, .tmp q]) (tmps : Array Value) {w : World} {g g2 : Nat} {xs ys : List Value} (hb : Blk w g xs) (hb2 : Blk w g2 ys) {n n2 : Nat} {e e2 : TypeId} (hu : Tryd.prog.underlying t = some (.array n e)) (hu2 : Tryd.prog.underlying t2 = some (.array n2 e2))
    (hi : (Tryd.prog.info? t).map (·.size) = some xs.length) (hi2 : (Tryd.prog.info? t2).map (·.size) = some ys.length) (hp : tmps[p]? = some (.pointer (some ⟨g, 0, none⟩))) (hp2 : tmps[p2]? = some (.pointer (some ⟨g2, 0, none⟩))) (hq : tmps[q]? = some v) : (results fn tmps).run Tryd.prog w = .ok (.tuple #[arrV xs, arrV ys, v]) w := by
  obtain ⟨t', hb⟩ := hb
  obtain ⟨t2', hb2⟩ := hb2
  have hp' : tmps[p]?.getD undef = .pointer (some ⟨g, 0, none⟩) := by rw [hp]; rfl
  have hp2' : tmps[p2]?.getD undef = .pointer (some ⟨g2, 0, none⟩) := by rw [hp2]; rfl
  have hq' : tmps[q]?.getD undef = v := by rw [hq]; rfl
  have h1 := run_loadVar_row (P := Tryd.prog) w g t' t _ _ _ hb hu rfl (by simpa using hi)
  have h2 := run_loadVar_row (P := Tryd.prog) w g2 t2' t2 _ _ _ hb2 hu2 rfl (by simpa using hi2)
  simp [results, h, hp', hp2', hq', asAddr, h1, h2, arrV]
theorem splice_all {l z : List UInt8} (h : l.length = z.length) : splice (vb z) 0 (vb l) = vb l := by
  have := splice_part (F := l) (Z := z) (N := l.length) rfl h.symm l 0 (by omega) (fun j hj => by rw [Nat.zero_add])
  rw [part_zero] at this
  rw [this, Nat.zero_add, part_all l z l.length rfl h.symm]
theorem rd_grown {w w' : World} {b off g : Nat} {xs : List Value} (h : Rd w w.heap.size (some ⟨b, off, none⟩) xs) (hg : w.grownBy w' (some g)) (hb : b ≠ g) : Rd w' w'.heap.size (some ⟨b, off, none⟩) xs := fun hne => by
  obtain ⟨b', off', e, hlt, hc⟩ := h hne
  cases e
  exact ⟨b, off, rfl, Nat.lt_of_lt_of_le hlt hg.size, fun i hi => (World.cell?_of_block (hg.block b hlt (fun e => hb (by cases e; rfl)))).trans (hc i hi)⟩
def fOf (key : List UInt8) : Int := if key.length = 32 then 0 else 4
set_option maxHeartbeats 800000 in
theorem begun_any (A B : Option Addr) (key nonce : List UInt8) (n c m d : Nat) (w : World) (hn : n = key.length) (hm : m = nonce.length) (hc : n ≤ c) (hcm : c ≤ maxLen) (hd : m ≤ d) (hdm : d ≤ maxLen)
    (hr : Rd w w.heap.size A (key.map e8)) (hq : Rd w w.heap.size B (nonce.map e8)) :
    Calls Tryd.prog 70 #[.slice A n c, .slice B m d] w fun e w' => (∃ K C, e = .returned (.tuple #[arrV (vb K), arrV (vb C), .int .i64 (if nonce.length = 16 then fOf key else 4)]) ∧ K.length = 240 ∧ C.length = 16 ∧ (nonce.length = 16 → K = keysOf key ∧ C = nonce)) ∧ Below w.heap.size w w' := by
  subst hn hm
  have hZ := zero240_len
  have zK := zeroVK
  obtain ⟨Z, hZe⟩ : ∃ Z, Z = zero240 := ⟨_, rfl⟩
  rw [← hZe] at zK hZ
  have HZ := Lib.hid hZ
  have hszZ := size240 sizeK hZ
  have hz16 : zero16.length = 16 := rfl
  have hszz := sizeL hz16
  clear hZe hZ hz16
  by_cases h16 : nonce.length = 16
  · have hsc : ∀ W, Below w.heap.size w W → Calls Tryd.prog 88 #[.slice A key.length c] W fun e w' => e = .returned (.tuple #[arrV (vb (keysOf key)), .int .i64 (fOf key)]) ∧ Below W.heap.size W w' := fun W hW =>
      schedule_any A key _ c W rfl hc hcm (hr.on hW)
    have hL := keysOf_len key
    obtain ⟨L, hLe⟩ : ∃ L, L = keysOf key := ⟨_, rfl⟩
    obtain ⟨F, hFe⟩ : ∃ F, F = fOf key := ⟨_, rfl⟩
    rw [← hLe, ← hFe] at hsc
    rw [← hLe] at hL
    rw [if_pos h16]
    rw [← hFe]
    have hszL := size240 sizeK hL
    have hszn := sizeL h16
    have hZL : (vb Z).length = (vb L).length := by rw [vb_len, vb_len, hL, HZ.out]
    have hspl := splice_all (l := nonce) (z := zero16) h16
    have HLe := Lib.hid hLe
    have HZL := Lib.hid hZL
    have HL := Lib.hid hL
    have Hsc := Lib.hid hsc
    have Hspl := Lib.hid hspl
    have H16 := Lib.hid h16
    obtain ⟨b, off, rfl⟩ : ∃ b off, B = some ⟨b, off, none⟩ := by
      obtain ⟨b, off, e, _, _⟩ := hq (by intro e; have := congrArg List.length e; rw [List.length_map, List.length_nil] at this; omega)
      exact ⟨b, off, e⟩
    rw [h16] at hd ⊢
    clear hL hsc hLe hFe hZL h16 hspl
    unfold maxLen at hcm hdm
    go_enter Tryd.func70, Tryd.ntmps70
    go_wp2_with (first
      | ((with_reducible show wpList _ _ _ (⟨some 4, _, _, _, _, _⟩ :: _) _ _); refine wpList_allocN rfl _ rfl (vb Z) zK ?_; intro w1 hb1 bw1 hs1)
      | ((with_reducible show wpList _ _ _ (⟨some 5, _, _, _, _, _⟩ :: _) _ _); refine wpList_allocN rfl _ rfl (vb zero16) zeroV16 ?_; intro w2 hb2 bw2 hs2; have hb12 := hb1.on bw2; have bt2 := bt bw1 bw2)
      | fail)
    refine (Hsc.out _ bt2).mono ?_
    rintro e w3 ⟨rfl, b3⟩
    have bt3 := bt bt2 b3
    have hb13 := hb12.on b3
    have hb23 := hb2.on b3
    have l01 : w.heap.size < w1.heap.size := hs1
    have hrn := hq.on bt3
    have hn1 : w1.heap.size ≤ w3.heap.size := by have := hb2.lt; have := b3.size; omega
    have hbl := rd_lt hq (by rw [H16.out]; omega)
    clear b3 hb1 hb2 hb12 bw1 bw2 hs1 hs2 bt2
    go_wp2_with (first
      | ((with_reducible show wpList _ _ _ (⟨none, .store 85 (.tmp 4) _, _, _, _, _⟩ :: _) _ _); refine wpList_storeN rfl _ _ _ rfl rfl (ys := vb L) rfl hb13 HZL.out (vb_one _) hszL ?_; intro w4 hb4 hg4; have bt4 := below_row bt3 hg4 (Nat.le_refl _) bt3.size; have hb24 := hb23.grown hg4 (by simp; omega))
      | ((with_reducible show wpList _ _ _ (⟨some 19, _, _, _, _, _⟩ :: _) _ _); refine wpList_copyN rfl _ _ _ _ rfl (g := w1.heap.size) (off := 0) rfl (ad := ⟨b, off, none⟩) rfl (vb nonce) (by rw [vb_len, H16.out]; rfl) Tryd.underlying37 size8 hb24 (by rw [vb_len, vb_len, H16.out]; decide) (fun jj v hv => by obtain ⟨hj, hv'⟩ := (List.getElem?_eq_some_iff.1 hv); obtain ⟨b', off', e, _, hc'⟩ := (rd_grown hrn hg4 (by omega)) (by intro e; rw [show vb nonce = nonce.map e8 from rfl, e] at hj; simp at hj); cases e; rw [Addr.add_lit, hc' jj hj]; exact congrArg some hv') (vb_one _) ?_; intro w5 hb5 hg5)
      | fail)
    rw [Hspl.out] at hb5
    have hb45 := hb4.grown hg5 (by simp; omega)
    have bt5 := below_row bt4 hg5 (by omega) bt4.size
    clear hb4 hg4 hb13 hb23 hb24 hg5 bt4 bt3 hrn
    refine region_inb (by kernel_rfl) (by kernel_rfl) ?_
    have inbNe := InB.some
    have inbW := @wrap_small
    have inbU := IntKind.wrap_u8'
    repeat (first | (with_reducible refine wpQuiet_nil ?_; fail) | (refine wpQuiet_loadA rfl 85 (.tmp 4) rfl rfl (fun w' hw' => hb45.on hw'.below) Tryd.underlying85 hszL ?_) | (refine wpQuiet_loadA rfl 83 (.tmp 5) rfl rfl (fun w' hw' => hb5.on hw'.below) Tryd.underlying83 hszn ?_) | (refine wpQuiet_storeSame rfl 85 _ _ rfl rfl (xs := vb L) rfl (fun w' hw' => hb45.on hw'.below) (vb_one _) hszL ?_) | (refine wpQuiet_storeSame rfl 83 _ _ rfl rfl (xs := vb nonce) rfl (fun w' hw' => hb5.on hw'.below) (vb_one _) hszn ?_) | (refine wpQuiet_step (fun K hK => ?_); go_simp; first | (refine hK _ ?_; clear hK K) | (apply Exists.intro; refine ⟨?_, hK _ ?_⟩; (· (intro w' hw'; first | fail | (have hcw := hw'.cell; go_simp; exact rfl))); clear hK K)))
    refine wpQuiet_nil ?_
    intro wq hq
    clear inbNe inbW inbU
    have m4 := hb45.on hq.below
    have m5 := hb5.on hq.below
    have bq := bt bt5 hq.below
    go_wp2
    refine bodyPost_ret (v := .tuple #[arrV (vb L), arrV (vb nonce), .int .i64 F]) (results_arr3 Tryd.results70 _ m4 m5 Tryd.underlying85 Tryd.underlying83 hszL hszn rfl rfl rfl) rfl ⟨⟨L, nonce, rfl, HL.out, H16.out, fun _ => ⟨HLe.out, rfl⟩⟩, bq⟩
  · rw [if_neg h16]
    have hne : ((nonce.length : Int) != 16) = true := bne_yes (by omega)
    have H16 := Lib.hid h16
    unfold maxLen at hcm hdm
    clear h16
    go_enter Tryd.func70, Tryd.ntmps70
    go_wp2_with (first
      | ((with_reducible show wpList _ _ _ (⟨some 4, _, _, _, _, _⟩ :: _) _ _); refine wpList_allocN rfl _ rfl (vb Z) zK ?_; intro w1 hb1 bw1 hs1)
      | ((with_reducible show wpList _ _ _ (⟨some 5, _, _, _, _, _⟩ :: _) _ _); refine wpList_allocN rfl _ rfl (vb zero16) zeroV16 ?_; intro w2 hb2 bw2 hs2; have hb12 := hb1.on bw2; have bt2 := bt bw1 bw2)
      | fail)
    refine region_inb (by kernel_rfl) (by kernel_rfl) ?_
    have inbNe := InB.some
    have inbW := @wrap_small
    have inbU := IntKind.wrap_u8'
    repeat (first | (with_reducible refine wpQuiet_nil ?_; fail) | (refine wpQuiet_loadA rfl 85 (.tmp 4) rfl rfl (fun w' hw' => hb12.on hw'.below) Tryd.underlying85 hszZ ?_) | (refine wpQuiet_loadA rfl 83 (.tmp 5) rfl rfl (fun w' hw' => hb2.on hw'.below) Tryd.underlying83 hszz ?_) | (refine wpQuiet_storeSame rfl 85 _ _ rfl rfl (xs := vb Z) rfl (fun w' hw' => hb12.on hw'.below) (vb_one _) hszZ ?_) | (refine wpQuiet_storeSame rfl 83 _ _ rfl rfl (xs := vb zero16) rfl (fun w' hw' => hb2.on hw'.below) (vb_one _) hszz ?_) | (refine wpQuiet_step (fun K hK => ?_); go_simp; first | (refine hK _ ?_; clear hK K) | (apply Exists.intro; refine ⟨?_, hK _ ?_⟩; (· (intro w' hw'; first | fail | (have hcw := hw'.cell; go_simp; exact rfl))); clear hK K)))
    refine wpQuiet_nil ?_
    intro wq hq
    clear inbNe inbW inbU
    have m4 := hb12.on hq.below
    have m5 := hb2.on hq.below
    have bq := bt bt2 hq.below
    go_wp2
    refine bodyPost_ret (v := .tuple #[arrV (vb Z), arrV (vb zero16), .int .i64 4]) (results_arr3 Tryd.results70 _ m4 m5 Tryd.underlying85 Tryd.underlying83 hszZ hszz rfl rfl rfl) rfl ⟨⟨Z, zero16, rfl, HZ.out, rfl, fun h => absurd h H16.out⟩, bq⟩
set_option maxHeartbeats 400000 in
theorem right_any (A B : Option Addr) (n c m d : Nat) (w : World) (hn : n ≤ 1000000000) (hm : m ≤ 1000000000) :
    Calls Tryd.prog 78 #[.slice A n c, .slice B m d] w fun e w' => e = .returned (.bool (decide (n = 32 ∧ m = 16))) ∧ w = w' := by
  obtain ⟨r, hr⟩ : ∃ r, r = decide (n = 32 ∧ m = 16) := ⟨_, rfl⟩
  rw [← hr]
  by_cases h1 : n = 32
  · by_cases h2 : m = 16
    · obtain rfl : r = true := by rw [hr]; simp [h1, h2]
      clear hr
      subst h1 h2
      go_enter Tryd.func78, Tryd.ntmps78
      go_wp2
      go_ret
      exact ⟨rfl, rfl⟩
    · obtain rfl : r = false := by rw [hr]; simp [h2]
      have e2 : ((m : Int) == 16) = false := beq_no (by omega)
      subst h1
      clear h2 hr
      go_enter Tryd.func78, Tryd.ntmps78
      go_wp2
      go_ret
      exact ⟨rfl, rfl⟩
  · obtain rfl : r = false := by rw [hr]; simp [h1]
    have e1 : ((n : Int) == 32) = false := beq_no (by omega)
    clear h1 hr
    go_enter Tryd.func78, Tryd.ntmps78
    go_wp2
    go_ret
    exact ⟨rfl, rfl⟩
set_option maxHeartbeats 1000000 in
theorem counter_any (b off : Nat) (nonce : List UInt8) (d : Nat) (n : Nat) (i : Int) (hi : i = (n : Int)) (w : World) (h16 : nonce.length = 16) (hn : n ≤ 1000000000) (hd : 16 ≤ d) (hdm : d ≤ maxLen)
    (hq : Rd w w.heap.size (some ⟨b, off, none⟩) (nonce.map e8)) :
    Calls Tryd.prog 81 #[.slice (some ⟨b, off, none⟩) 16 d, .int .i64 i] w fun e w' => e = .returned (arrV (vb (later nonce n))) ∧ Below w.heap.size w w' := by
  subst hi
  unfold maxLen at hdm
  have hz16 : zero16.length = 16 := rfl
  have Hz := Lib.hid hz16
  have H16 := Lib.hid h16
  have hll : (later nonce n).length = 16 := by rw [later_len, h16]
  have Hll := Lib.hid hll
  have hszl := sizeL hll
  clear hz16 hll h16
  go_enter Tryd.func81, Tryd.ntmps81
  go_wp2_with (first
    | ((with_reducible show wpList _ _ _ (⟨some 4, _, _, _, _, _⟩ :: _) _ _); refine wpList_allocN rfl _ rfl (vb zero16) zeroV16 ?_; intro w1 hb1 bw1 hs1)
    | ((with_reducible show wpList _ _ _ (⟨some 5, _, _, _, _, _⟩ :: _) _ _); refine wpList_allocN rfl _ rfl (vb zero16) zeroV16 ?_; intro w2 hb2 bw2 hs2; have hb12 := hb1.on bw2; have bt2 := bt bw1 bw2)
    | fail)
  have l01 : w.heap.size < w1.heap.size := hs1
  obtain ⟨B1, hB1⟩ : ∃ B, B = w1.heap.size := ⟨_, rfl⟩
  rw [← hB1] at hb2 l01 ⊢
  clear hB1 hb1 bw1 bw2 hs1 hs2
  go_loopw [6] (fun i wr => ∃ k : Nat, k ≤ 16 ∧ i = .int .i64 k ∧ Blk wr w.heap.size (vb zero16) ∧ Blk wr B1 (vb (Aes.part nonce zero16 k)) ∧ Below w.heap.size w wr) (fun i _ => 16 - (intOf i).toNat)
  case atStart => exact ⟨0, by omega, rfl, hb12, by rw [part_zero]; exact hb2, bt2⟩
  case round =>
    obtain ⟨k, hk, rfl, d0, d1, bt0⟩ := hrel
    clear hb12 hb2 bt2
    by_cases hlt : k < 16
    · have hset := Lib.hid (part_set nonce zero16 k 16 H16.out Hz.out hlt)
      have hcell := col_rd (hq.on bt0) k (by rw [H16.out]; exact hlt)
      have hbl := rd_lt (hq.on bt0) (by rw [H16.out]; omega)
      have hct := Blk.byte d1 (k := k) (by rw [part_len _ _ k 16 H16.out Hz.out (by omega)]; exact hlt)
      have hf := d1.free k
      have hB := d1.lt
      have hkI : (k : Int) < 16 := by omega
      obtain ⟨x, hx⟩ : ∃ x, x = nonce.getD k 0 := ⟨_, rfl⟩
      rw [← hx] at hcell hset
      clear hx
      go_wp2
      go_roundw
      case rel =>
        have hbs := d1.set (k := k) (e8 x)
        rw [vb_set, hset.out] at hbs
        exact ⟨k + 1, by omega, by go_num, d0.other _ (by omega), hbs, bset bt0 (by omega) _⟩
      case measure => simp [intOf]; omega
    · obtain rfl : k = 16 := by omega
      rw [part_all _ _ 16 H16.out Hz.out] at d1
      have hl0 := Lib.hid (show later nonce n = later (nonce.take 16) n ++ [] by rw [List.take_of_length_le (by rw [H16.out]; omega), List.append_nil])
      go_wp2
      go_loopw [7, 8] (fun v i wx => ∃ (j m : Nat) (i1 : Int) (suf : List UInt8), j ≤ 16 ∧ i1 = (j : Int) - 1 ∧ m ≤ 1000000000 ∧ suf.length = 16 - j ∧ v = .int .i64 m ∧ i = .int .i64 i1 ∧ Hid (later nonce n = later (nonce.take j) m ++ suf) ∧ Blk wx w.heap.size (vb zero16) ∧ Blk wx B1 (vb (nonce.take j ++ suf)) ∧ Below w.heap.size w wx) (fun _ i _ => (intOf i + 1).toNat)
      case atStart => exact ⟨16, n, 15, [], by omega, by omega, hn, rfl, rfl, rfl, hl0, d0, by rw [List.take_of_length_le (by rw [H16.out]; omega), List.append_nil]; exact d1, bt0⟩
      case round =>
        obtain ⟨j, m, i1, suf, hj, hi1, hm, hsl, rfl, rfl, hla, e0, e1, bx⟩ := hrel
        clear d0 d1 bt0
        rcases Nat.eq_zero_or_pos j with h0 | h0
        · subst h0
          have hneg : ¬ (0 : Int) ≤ i1 := by omega
          have hneg' : i1 < 0 := by omega
          clear hi1
          have hres := hla.out
          rw [show (nonce.take 0) = [] from rfl, later_nil, List.nil_append] at hres
          rw [show (nonce.take 0) = [] from rfl, List.nil_append, ← hres] at e1
          clear hres hsl
          go_wp2_with (first
            | ((with_reducible show wpList _ _ _ (⟨some 37, _, _, _, _, _⟩ :: _) _ _); refine wpList_loadA rfl _ _ rfl rfl e1 Tryd.underlying83 hszl ?_)
            | ((with_reducible show wpList _ _ _ (⟨none, .store 83 _ _, _, _, _, _⟩ :: _) _ _); refine wpList_storeN rfl _ _ _ rfl rfl (ys := vb (later nonce n)) rfl e0 (by rw [vb_len, vb_len, Hll.out]; rfl) (vb_one _) hszl ?_; intro w9 hb9 hg9)
            | fail)
          exact bodyPost_ret (v := arrV (vb (later nonce n))) (results_arr Tryd.results81 _ hb9 Tryd.underlying83 hszl rfl) rfl ⟨rfl, below_row bx hg9 (by omega) bx.size⟩
        · obtain ⟨k, rfl⟩ : ∃ k, j = k + 1 := ⟨j - 1, by omega⟩
          obtain rfl : i1 = (k : Int) := by omega
          have hk16 : k < nonce.length := by rw [H16.out]; omega
          have hlen1 : (nonce.take (k + 1) ++ suf).length = 16 := by rw [List.length_append, List.length_take, hsl, H16.out]; omega
          have hcell := Blk.byte e1 (k := k) (by rw [hlen1]; omega)
          rw [get_mid nonce _ k hk16] at hcell
          have hset := set_mid nonce suf k
          have hon := later_on nonce suf k n m hk16 hla.out
          have hf := e1.free k
          have hlt0 := e1.lt
          have hkI : (k : Int) < 16 := by omega
          obtain ⟨x, hx⟩ : ∃ x, x = nonce.getD k 0 := ⟨_, rfl⟩
          rw [← hx] at hcell hon
          have hx8 := x.toNat_lt
          obtain ⟨s, hs⟩ : ∃ s, s = m + x.toNat := ⟨_, rfl⟩
          rw [← hs] at hon
          have hss : IntKind.i64.wrap ((m : Int) + (x.toNat : Int)) = (s : Int) := by rw [IntKind.wrap_i64]; omega
          have hsx : IntKind.i64.wrap (x.toNat : Int) = (x.toNat : Int) := by rw [IntKind.wrap_i64]; omega
          obtain ⟨y, hy⟩ : ∃ y, y = UInt8.ofNat s := ⟨_, rfl⟩
          obtain ⟨r, hr⟩ : ∃ r, r = s % 256 := ⟨_, rfl⟩
          obtain ⟨q, hq2⟩ : ∃ q, q = s / 256 := ⟨_, rfl⟩
          have tr : ((s : Int)).tmod 256 = (r : Int) := by rw [Int.tmod_eq_emod_of_nonneg (by omega)]; omega
          have tq : ((s : Int)).tdiv 256 = (q : Int) := by rw [Int.tdiv_eq_ediv_of_nonneg (by omega)]; omega
          have wq : IntKind.i64.wrap (q : Int) = (q : Int) := by rw [IntKind.wrap_i64]; omega
          have wr8 : IntKind.u8.wrap (r : Int) = (y.toNat : Int) := by
            rw [IntKind.wrap_u8', hy]; simp; omega
          rw [← hy, ← hq2] at hon
          have hset' := Lib.hid (set_mid nonce suf k y hk16)
          have Hon := Lib.hid hon
          have hqm : q ≤ 1000000000 := by omega
          have Hsl := Lib.hid hsl
          clear hx hs hy hr hq2 hon hlen1 hset hi1 hsl
          go_wp2
          go_roundw
          case rel =>
            have hbs := e1.set (k := k) (e8 y)
            rw [vb_set, hset'.out] at hbs
            exact ⟨k, q, (k : Int) - 1, y :: suf, by omega, rfl, hqm, by rw [List.length_cons, Hsl.out]; omega, rfl, by go_num, Hon, e0.other _ (by omega), hbs, bset bx (by omega) _⟩
          case measure => simp [intOf] <;> omega
end Go.Proofs.YteecbjpnnklbpaaDoor.Ctr

/- The walks of ctr.At and of the reference's At. -/
namespace Go.Proofs.YteecbjpnnklbpaaDoor.Ctr
open Go.RowKit
open Go.Proofs.YteecbjpnnklbpaaDoor.Aes
set_option linter.unusedVariables false
set_option maxRecDepth 100000
def okK (key nonce : List UInt8) : Prop := key.length = 32 ∧ nonce.length = 16
instance (key nonce : List UInt8) : Decidable (okK key nonce) := by unfold okK; infer_instance
def atF (key nonce : List UInt8) (n : Int) : Int := if okK key nonce then (if n < 0 ∨ 65536 ≤ n then 2 else 0) else 4
def atB (key nonce : List UInt8) (n : Int) : List UInt8 := if okK key nonce then (if n < 0 ∨ 65536 ≤ n then zero16 else block (sched key) nonce n.toNat) else zero16
theorem atB_len (key nonce : List UInt8) (n : Int) : (atB key nonce n).length = 16 := by
  unfold atB; split
  · split
    · rfl
    · exact block_len _ _ _
  · rfl
/-- what begun's fault says -/
theorem fault_ok (key nonce : List UInt8) : (if nonce.length = 16 then fOf key else 4) = if okK key nonce then 0 else 4 := by
  unfold okK fOf
  by_cases h : nonce.length = 16 <;> by_cases h' : key.length = 32 <;> simp [h, h']
end Go.Proofs.YteecbjpnnklbpaaDoor.Ctr

/- The walks of ctr.Stream and its closure. -/
namespace Go.Proofs.YteecbjpnnklbpaaDoor.Ctr
open Go.RowKit
open Go.Proofs.YteecbjpnnklbpaaDoor.Aes
set_option linter.unusedVariables false
set_option maxRecDepth 100000
/-- how long a slice is -/
def lenS : Value → Nat
  | .slice _ n _ => n
  | _ => 0
def strF (key nonce : List UInt8) (n : Int) : Int := if okK key nonce then (if n < 0 ∨ 65536 < n then 2 else 0) else 4
def strB (key nonce : List UInt8) (n : Int) : List UInt8 := if okK key nonce then (if n < 0 ∨ 65536 < n then [] else stream (sched key) nonce n.toNat) else []
theorem strB_len (key nonce : List UInt8) (n : Int) : (strB key nonce n).length ≤ 65536 := by
  unfold strB; split
  · split
    · simp
    · rw [stream_len]; omega
  · simp
/-- a slice and a fault -/
def RetF (w : World) (l : List UInt8) (f : Int) (e : Ending) (w' : World) : Prop :=
  ∃ A c, e = .returned (.tuple #[.slice A l.length c, .int .i64 f]) ∧ Rd w' w'.heap.size A (l.map e8) ∧ l.length ≤ c ∧ c ≤ maxLen ∧ Below w.heap.size w w'
theorem RetF.nil {w w' : World} {f : Int} (h : Below w.heap.size w w') : RetF w [] f (.returned (.tuple #[.slice none 0 0, .int .i64 f])) w' :=
  ⟨none, 0, rfl, Rd.nil _ _ _, Nat.le_refl _, by unfold maxLen; omega, h⟩
set_option maxHeartbeats 800000 in
theorem step_any (g8 g9 : Nat) (L C : List UInt8) (hL : L.length = 240) (hC : C.length = 16) (w : World) (h8 : Blk w g8 (vb L)) (h9 : Blk w g9 (vb C)) (hne : g8 ≠ g9) :
    Calls Tryd.prog 71 #[.pointer (some ⟨g8, 0, none⟩), .pointer (some ⟨g9, 0, none⟩)] w fun e w' => (∃ g, e = .returned (.slice (some ⟨g, 0, none⟩) 16 16) ∧ Blk w' g (vb (encrypt L C)) ∧ w.heap.size ≤ g) ∧ Blk w' g8 (vb L) ∧ Blk w' g9 (vb (next C)) ∧ w.grownBy w' (some g9) := by
  have hen := encrypt_any L C hL hC
  have hnx := next_any C hC
  have hEl := encrypt_len L C
  have hNl : (next C).length = 16 := by rw [next_len, hC]
  have hszL := size240 sizeK hL
  have hszC := sizeL hC
  obtain ⟨E, hE⟩ : ∃ E, E = encrypt L C := ⟨_, rfl⟩
  obtain ⟨N, hN⟩ : ∃ N, N = next C := ⟨_, rfl⟩
  rw [← hE] at hen hEl ⊢
  rw [← hN] at hnx hNl ⊢
  have hszE := sizeL hEl
  have hszN := sizeL hNl
  have HEl := Lib.hid hEl
  have HCN := Lib.hid (show (vb C).length = (vb N).length by rw [vb_len, vb_len, hC, hNl])
  have Hen := Lib.hid hen
  have Hnx := Lib.hid hnx
  clear hE hN hen hnx hEl hNl hL hC
  have l9 := h9.lt
  go_enter Tryd.func71, Tryd.ntmps71
  go_wp2_with (first
    | ((with_reducible show wpList _ _ _ (⟨some 4, _, _, _, _, _⟩ :: _) _ _); refine wpList_loadA rfl _ _ rfl rfl h8 Tryd.underlying85 hszL ?_)
    | ((with_reducible show wpList _ _ _ (⟨some 5, _, _, _, _, _⟩ :: _) _ _); refine wpList_loadA rfl _ _ rfl rfl h9 Tryd.underlying83 hszC ?_)
    | fail)
  refine (Hen.out _).mono ?_
  rintro e w1 ⟨rfl, b1⟩
  have h81 := h8.on b1
  have h91 := h9.on b1
  go_wp2_with (first
    | ((with_reducible show wpList _ _ _ (⟨some 3, _, _, _, _, _⟩ :: _) _ _); refine wpList_allocN rfl _ rfl (vb zero16) zeroV16 ?_; intro w2 hb2 bw2 hs2)
    | ((with_reducible show wpList _ _ _ (⟨none, .store 83 (.tmp 3) _, _, _, _, _⟩ :: _) _ _); refine wpList_storeN rfl _ _ _ rfl rfl (ys := vb E) rfl hb2 (by rw [vb_len, vb_len, HEl.out]; rfl) (vb_one _) hszE ?_; intro w3 hb3 hg3; have b3 := below_row bw2 hg3 (Nat.le_refl _) bw2.size; have h93 := h91.on b3; have h83 := h81.on b3)
    | ((with_reducible show wpList _ _ _ (⟨some 7, _, _, _, _, _⟩ :: _) _ _); refine wpList_loadA rfl _ _ rfl rfl h93 Tryd.underlying83 hszC ?_)
    | fail)
  refine (Hnx.out _).mono ?_
  rintro e w4 ⟨rfl, b4⟩
  have h94 := h93.on b4
  have h84 := h83.on b4
  have hb4 := hb3.on b4
  have bt4 := bt (bt b1 b3) b4
  have hs1 := b1.size
  go_wp2_with (first
    | ((with_reducible show wpList _ _ _ (⟨none, .store 83 (.tmp 1) _, _, _, _, _⟩ :: _) _ _); refine wpList_storeN rfl _ _ _ rfl rfl (ys := vb N) rfl h94 HCN.out (vb_one _) hszN ?_; intro w5 hb5 hg5)
    | fail)
  go_ret
  exact ⟨⟨_, rfl, hb4.grown hg5 (by simp; omega), hs1⟩, h84.grown hg5 (by simpa using hne), hb5, grown_trans (below_grown bt4 _) hg5⟩
theorem info8 : (Tryd.prog.info? 5).map (fun i => (i.zero, i.size, i.bytes)) = some (some (.int .u8 0), 1, 1) := by kernel_rfl
theorem stream_of_row (L c : List UInt8) (n k : Nat) (h : n ≤ 16 * k) : (row L c k).take n = stream L c n := by
  rw [stream]; exact row_take L c n _ _ (by omega) (by omega)
set_option maxHeartbeats 1600000 in
theorem stream_any (A B : Option Addr) (key nonce : List UInt8) (n c m d : Nat) (i : Int) (w : World) (hn : n = key.length) (hm : m = nonce.length) (hc : n ≤ c) (hcm : c ≤ maxLen) (hd : m ≤ d) (hdm : d ≤ maxLen)
    (hr : Rd w w.heap.size A (key.map e8)) (hq : Rd w w.heap.size B (nonce.map e8)) (hi0 : -9223372036854775808 ≤ i) (hi1 : i ≤ 9223372036854775807) :
    Calls Tryd.prog 57 #[.slice A n c, .slice B m d, .int .i64 i] w fun e w' => RetF w (strB key nonce i) (strF key nonce i) e w' := by
  obtain ⟨i0, hi0', hz0, hz1, hz2⟩ := info_parts info8
  have hbg : ∀ W, Below w.heap.size w W → Calls Tryd.prog 70 #[.slice A n c, .slice B m d] W fun e w' => (∃ K C, e = .returned (.tuple #[arrV (vb K), arrV (vb C), .int .i64 (if okK key nonce then 0 else 4)]) ∧ K.length = 240 ∧ C.length = 16 ∧ (nonce.length = 16 → K = keysOf key ∧ C = nonce)) ∧ Below W.heap.size W w' := fun W hW => by
    have := begun_any A B key nonce n c m d W hn hm hc hcm hd hdm (hr.on hW) (hq.on hW)
    rwa [fault_ok] at this
  have Hbg := Lib.hid hbg
  have zK := zeroVK
  have hZ := zero240_len
  obtain ⟨Z, hZe⟩ : ∃ Z, Z = zero240 := ⟨_, rfl⟩
  rw [← hZe] at zK hZ
  have HZ := Lib.hid hZ
  clear hZe hZ hbg
  by_cases hok : okK key nonce
  · have hat0 := Lib.hid (show strF key nonce i = if i < 0 ∨ 65536 < i then 2 else 0 by rw [strF, if_pos hok])
    have hat1 := Lib.hid (show strB key nonce i = if i < 0 ∨ 65536 < i then [] else stream (sched key) nonce i.toNat by rw [strB, if_pos hok])
    have hkk : keysOf key = sched key := by rw [keysOf, if_pos hok.1]
    have Hok := Lib.hid hok
    rw [if_pos hok] at Hbg
    clear hok
    subst hn hm
    by_cases hrg : i < 0 ∨ 65536 < i
    · rw [if_pos hrg] at hat0 hat1
      by_cases hneg : i < 0
      · clear hrg
        go_enter Tryd.func57, Tryd.ntmps57
        go_wp2_with fail
        refine (Hbg.out _ (Below.refl _ _)).mono ?_
        rintro e w2 ⟨⟨K, C, rfl, hKl, hCl, hKC⟩, bt2⟩
        obtain ⟨rfl, rfl⟩ := hKC Hok.out.2
        have hszL := size240 sizeK hKl
        have hszC := sizeL hCl
        have hZL := Lib.hid (show (vb Z).length = (vb (keysOf key)).length by rw [vb_len, vb_len, hKl, HZ.out])
        have HKl := Lib.hid hKl
        have HCl := Lib.hid hCl
        rw [hkk] at hszL hZL HKl ⊢
        obtain ⟨L, hL⟩ : ∃ L, L = sched key := ⟨_, rfl⟩
        rw [← hL] at hszL hZL HKl ⊢; try rw [← hL] at hat1
        clear hKl hCl hKC hkk hL
        go_wp2_with (first
          | ((with_reducible show wpList _ _ _ (⟨some 8, _, _, _, _, _⟩ :: _) _ _); refine wpList_allocN rfl _ rfl (vb Z) zK ?_; intro w3 hb3 bw3 hs3)
          | ((with_reducible show wpList _ _ _ (⟨some 9, _, _, _, _, _⟩ :: _) _ _); refine wpList_allocN rfl _ rfl (vb zero16) zeroV16 ?_; intro w4 hb4 bw4 hs4; have hb34 := hb3.on bw4; have b34 := bt bw3 bw4)
          | ((with_reducible show wpList _ _ _ (⟨none, .store 85 (.tmp 8) _, _, _, _, _⟩ :: _) _ _); refine wpList_storeN rfl _ _ _ rfl rfl (ys := vb L) rfl hb34 hZL.out (vb_one _) hszL ?_; intro w5 hb5 hg5; have hb45 := hb4.grown hg5 (by simp; omega); have b5 := below_row b34 hg5 (Nat.le_refl _) b34.size)
          | ((with_reducible show wpList _ _ _ (⟨none, .store 83 (.tmp 9) _, _, _, _, _⟩ :: _) _ _); refine wpList_storeN rfl _ _ _ rfl rfl (ys := vb C) rfl hb45 (by rw [vb_len, vb_len, HCl.out]; rfl) (vb_one _) hszC ?_; intro w6 hb6 hg6; have hb56 := hb5.grown hg6 (by simp; omega); have b6 := below_row b5 hg6 (by omega) b5.size; have bt6 := bt bt2 b6)
          | fail)
        rw [hat0.out, hat1.out]
        go_ret2
        exact RetF.nil bt6
      · have hbig : 65536 < i := by omega
        have hneg' : 0 ≤ i := by omega
        clear hrg
        go_enter Tryd.func57, Tryd.ntmps57
        go_wp2_with fail
        refine (Hbg.out _ (Below.refl _ _)).mono ?_
        rintro e w2 ⟨⟨K, C, rfl, hKl, hCl, hKC⟩, bt2⟩
        obtain ⟨rfl, rfl⟩ := hKC Hok.out.2
        have hszL := size240 sizeK hKl
        have hszC := sizeL hCl
        have hZL := Lib.hid (show (vb Z).length = (vb (keysOf key)).length by rw [vb_len, vb_len, hKl, HZ.out])
        have HKl := Lib.hid hKl
        have HCl := Lib.hid hCl
        rw [hkk] at hszL hZL HKl ⊢
        obtain ⟨L, hL⟩ : ∃ L, L = sched key := ⟨_, rfl⟩
        rw [← hL] at hszL hZL HKl ⊢; try rw [← hL] at hat1
        clear hKl hCl hKC hkk hL
        go_wp2_with (first
          | ((with_reducible show wpList _ _ _ (⟨some 8, _, _, _, _, _⟩ :: _) _ _); refine wpList_allocN rfl _ rfl (vb Z) zK ?_; intro w3 hb3 bw3 hs3)
          | ((with_reducible show wpList _ _ _ (⟨some 9, _, _, _, _, _⟩ :: _) _ _); refine wpList_allocN rfl _ rfl (vb zero16) zeroV16 ?_; intro w4 hb4 bw4 hs4; have hb34 := hb3.on bw4; have b34 := bt bw3 bw4)
          | ((with_reducible show wpList _ _ _ (⟨none, .store 85 (.tmp 8) _, _, _, _, _⟩ :: _) _ _); refine wpList_storeN rfl _ _ _ rfl rfl (ys := vb L) rfl hb34 hZL.out (vb_one _) hszL ?_; intro w5 hb5 hg5; have hb45 := hb4.grown hg5 (by simp; omega); have b5 := below_row b34 hg5 (Nat.le_refl _) b34.size)
          | ((with_reducible show wpList _ _ _ (⟨none, .store 83 (.tmp 9) _, _, _, _, _⟩ :: _) _ _); refine wpList_storeN rfl _ _ _ rfl rfl (ys := vb C) rfl hb45 (by rw [vb_len, vb_len, HCl.out]; rfl) (vb_one _) hszC ?_; intro w6 hb6 hg6; have hb56 := hb5.grown hg6 (by simp; omega); have b6 := below_row b5 hg6 (by omega) b5.size; have bt6 := bt bt2 b6)
          | fail)
        rw [hat0.out, hat1.out]
        go_ret2
        exact RetF.nil bt6
    · rw [if_neg hrg] at hat0 hat1
      have hneg : ¬ i < 0 := by omega
      have hbig : ¬ 65536 < i := by omega
      obtain ⟨n, rfl⟩ : ∃ n : Nat, i = (n : Int) := ⟨i.toNat, by omega⟩
      rw [Int.toNat_natCast] at hat1
      have HnB := Lib.hid (show n ≤ 65536 by omega)
      have hge : decide ((65536 : Int) < (n : Int)) = false := by simp; omega
      clear hrg hneg hbig hi0 hi1
      go_enter Tryd.func57, Tryd.ntmps57
      go_wp2_with fail
      refine (Hbg.out _ (Below.refl _ _)).mono ?_
      rintro e w2 ⟨⟨K, C, rfl, hKl, hCl, hKC⟩, bt2⟩
      obtain ⟨rfl, rfl⟩ := hKC Hok.out.2
      have hszL := size240 sizeK hKl
      have hszC := sizeL hCl
      have hZL := Lib.hid (show (vb Z).length = (vb (keysOf key)).length by rw [vb_len, vb_len, hKl, HZ.out])
      have HKl := Lib.hid hKl
      have HCl := Lib.hid hCl
      rw [hkk] at hszL hZL HKl ⊢
      obtain ⟨L, hL⟩ : ∃ L, L = sched key := ⟨_, rfl⟩
      rw [← hL] at hszL hZL HKl ⊢; try rw [← hL] at hat1
      clear hKl hCl hKC hkk hL
      go_wp2_with (first
        | ((with_reducible show wpList _ _ _ (⟨some 8, _, _, _, _, _⟩ :: _) _ _); refine wpList_allocN rfl _ rfl (vb Z) zK ?_; intro w3 hb3 bw3 hs3)
        | ((with_reducible show wpList _ _ _ (⟨some 9, _, _, _, _, _⟩ :: _) _ _); refine wpList_allocN rfl _ rfl (vb zero16) zeroV16 ?_; intro w4 hb4 bw4 hs4; have hb34 := hb3.on bw4; have b34 := bt bw3 bw4)
        | ((with_reducible show wpList _ _ _ (⟨none, .store 85 (.tmp 8) _, _, _, _, _⟩ :: _) _ _); refine wpList_storeN rfl _ _ _ rfl rfl (ys := vb L) rfl hb34 hZL.out (vb_one _) hszL ?_; intro w5 hb5 hg5; have hb45 := hb4.grown hg5 (by simp; omega); have b5 := below_row b34 hg5 (Nat.le_refl _) b34.size)
        | ((with_reducible show wpList _ _ _ (⟨none, .store 83 (.tmp 9) _, _, _, _, _⟩ :: _) _ _); refine wpList_storeN rfl _ _ _ rfl rfl (ys := vb C) rfl hb45 (by rw [vb_len, vb_len, HCl.out]; rfl) (vb_one _) hszC ?_; intro w6 hb6 hg6; have hb56 := hb5.grown hg6 (by simp; omega); have b6 := below_row b5 hg6 (by omega) b5.size; have bt6 := bt bt2 b6)
        | fail)
      have l23 : w2.heap.size < w3.heap.size := hs3
      have l34 : w3.heap.size < w4.heap.size := hs4
      have l46 : w4.heap.size ≤ w6.heap.size := by have := hg5.size; have := hg6.size; omega
      have l02 := bt2.size
      obtain ⟨B8, hB8⟩ : ∃ B, B = w2.heap.size := ⟨_, rfl⟩
      obtain ⟨B9, hB9⟩ : ∃ B, B = w3.heap.size := ⟨_, rfl⟩
      rw [← hB8] at hb56 l23 l02 ⊢
      rw [← hB9] at hb6 l23 l34 ⊢
      obtain ⟨BB, hBB⟩ : ∃ B, B = w6.heap.size := ⟨_, rfl⟩
      have l6 : B9 < BB := by omega
      have hBs : BB ≤ w6.heap.size := by omega
      clear hB8 hB9 hBB hb3 hb4 hb34 hb45 hb5 hg5 hg6 bw3 bw4 b34 b5 b6 hs3 hs4 bt2 l34 l46
      have hval : ∀ w, Sem.run Tryd.prog (callFunc 71 #[.pointer (some ⟨B8, 0, none⟩), .pointer (some ⟨B9, 0, none⟩)]) w = .ok (.enter 71 #[.pointer (some ⟨B8, 0, none⟩), .pointer (some ⟨B9, 0, none⟩)]) w := by intro w; simp [go_sem]
      go_loopw [6] (fun v wr => ∃ k j : Nat, Hid (j = 16 * k ∧ j < n + 16) ∧ wr.ownsRow BB 5 1 v j ((row L C k).map e8) ∧ Blk wr B8 (vb L) ∧ (∃ D, Hid (D = later C k) ∧ Blk wr B9 (vb D)) ∧ Below w.heap.size w wr ∧ BB ≤ wr.heap.size) (fun v _ => n - lenS v)
      case atStart => exact ⟨0, 0, Lib.hid (by omega), own_nil _ _ _ _, hb56, ⟨C, Lib.hid (later_zero C).symm, hb6⟩, bt6, hBs⟩
      case round =>
        obtain ⟨k, j, hj, hown, d8, ⟨D, hD, d9⟩, bt0, hsz⟩ := hrel
        clear hb56 hb6 bt6 hBs
        obtain ⟨A0, c0, rfl⟩ := own_form hown
        have hcap := own_cap hown
        have hDl : D.length = 16 := by rw [hD.out, later_len, HCl.out]
        by_cases hlt : j < n
        · have hst := Lib.hid (fun W h8 h9 => step_any B8 B9 L D HKl.out hDl W h8 h9 (by omega))
          have hNe := Lib.hid (show next D = later C (k + 1) by rw [hD.out, later_succ])
          have hEe := Lib.hid (show row L C (k + 1) = row L C k ++ encrypt L D by rw [row, block, hD.out])
          have hEl := Lib.hid (encrypt_len L D)
          obtain ⟨E, hE⟩ : ∃ E, E = encrypt L D := ⟨_, rfl⟩
          obtain ⟨N, hN⟩ : ∃ N, N = next D := ⟨_, rfl⟩
          rw [← hE, ← hN] at hst
          rw [← hE] at hEe hEl
          rw [← hN] at hNe
          have hltI : (j : Int) < (n : Int) := by omega
          have hjb : j ≤ 65536 := by have := HnB.out; omega
          have Hlt := Lib.hid hlt
          clear hE hN hDl hlt hcap
          go_wp2_with fail
          refine (hst.out _ d8 d9).mono ?_
          rintro e w7 ⟨⟨g, rfl, hbE, hg⟩, h87, h97, hgr⟩
          have hown7 := own_keep hown (Keep.of_grown (fp := [B9]) hgr (fun g e => by cases e; simp)) (fun g' hg' => by have := own_block hown hg'; simp; omega)
          have bt7 := below_row bt0 hgr (by omega) bt0.size
          have hs7 : BB ≤ w7.heap.size := Nat.le_trans hsz hgr.size
          have hbs := fun g' hg' => own_block (k := g') hown7 hg'
          go_wp2_with (at_builtin; refine wpList_append_rd _ rfl _ _ _ rfl BB 5 i0 _ 1 1 Tryd.underlying37 hi0' hz0 hz1 hz2 rfl (by omega) _ j _ rfl hown7 _ (some ⟨g, 0, none⟩) 16 16 (vb E) rfl (by rw [vb_len, hEl.out]) hbE.rd (vb_one _) (by simp only [maxLen]; omega) (by omega) hs7 ?_; intro v8 w8 hown8 hg8 hat8)
          go_roundw
          case rel => exact ⟨k + 1, j + 16, Lib.hid (by have := hj.out; have := Hlt.out; omega), by rw [hEe.out, List.map_append]; exact hown8, h87.grown hg8 (fun e => by have := hbs _ e.symm; omega), ⟨N, hNe, h97.grown hg8 (fun e => by have := hbs _ e.symm; omega)⟩, bt7.grown hg8 bt7.size (fun g' hg' => by have := hbs _ hg'; omega), Nat.le_trans hs7 hg8.size⟩
          case measure =>
            obtain ⟨A9, c9, rfl⟩ := own_form hown8
            have := Hlt.out
            simp [lenS]; omega
        · have hge' : n ≤ j := by omega
          have hltI : ¬ (j : Int) < (n : Int) := by omega
          have hcI : (n : Int) ≤ (c0 : Int) := by omega
          have hcN : n ≤ c0 := by omega
          have hmx := hcap.2
          have hrd := Rd.own hown
          have hrs := stream_of_row L C n k (by have := hj.out; omega)
          have hres := Lib.hid (show strB key C (n : Int) = (row L C k).take n by rw [hat1.out, hrs])
          have hrl := row_len L C k
          have Hrl := Lib.hid (show ((row L C k).take n).length = n by rw [List.length_take, hrl]; have := hj.out; omega)
          have hrd2 := hrd.take n
          rw [← List.map_take] at hrd2
          clear hcap hlt hrs hrl hge'
          go_wp2
          rw [hat0.out, hres.out]
          go_ret2
          exact ⟨A0, n, by rw [Hrl.out]; rfl, hrd2, by rw [Hrl.out]; exact Nat.le_refl _, by omega, bt0⟩
  · have hat0 := Lib.hid (show strF key nonce i = 4 by rw [strF, if_neg hok])
    have hat1 := Lib.hid (show strB key nonce i = [] by rw [strB, if_neg hok])
    rw [if_neg hok] at Hbg
    clear hok
    subst hn hm
    go_enter Tryd.func57, Tryd.ntmps57
    go_wp2_with fail
    refine (Hbg.out _ (Below.refl _ _)).mono ?_
    rintro e w2 ⟨⟨K, C, rfl, hKl, hCl, hKC⟩, bt2⟩
    have hszL := size240 sizeK hKl
    have hszC := sizeL hCl
    have hZL := Lib.hid (show (vb Z).length = (vb K).length by rw [vb_len, vb_len, hKl, HZ.out])
    have HCl := Lib.hid hCl
    clear hKl hCl hKC
    go_wp2_with (first
      | ((with_reducible show wpList _ _ _ (⟨some 8, _, _, _, _, _⟩ :: _) _ _); refine wpList_allocN rfl _ rfl (vb Z) zK ?_; intro w3 hb3 bw3 hs3)
      | ((with_reducible show wpList _ _ _ (⟨some 9, _, _, _, _, _⟩ :: _) _ _); refine wpList_allocN rfl _ rfl (vb zero16) zeroV16 ?_; intro w4 hb4 bw4 hs4; have hb34 := hb3.on bw4; have b34 := bt bw3 bw4)
      | ((with_reducible show wpList _ _ _ (⟨none, .store 85 (.tmp 8) _, _, _, _, _⟩ :: _) _ _); refine wpList_storeN rfl _ _ _ rfl rfl (ys := vb K) rfl hb34 hZL.out (vb_one _) hszL ?_; intro w5 hb5 hg5; have hb45 := hb4.grown hg5 (by simp; omega); have b5 := below_row b34 hg5 (Nat.le_refl _) b34.size)
      | ((with_reducible show wpList _ _ _ (⟨none, .store 83 (.tmp 9) _, _, _, _, _⟩ :: _) _ _); refine wpList_storeN rfl _ _ _ rfl rfl (ys := vb C) rfl hb45 (by rw [vb_len, vb_len, HCl.out]; rfl) (vb_one _) hszC ?_; intro w6 hb6 hg6; have b6 := below_row b5 hg6 (by omega) b5.size; have bt6 := bt bt2 b6)
      | fail)
    rw [hat0.out, hat1.out]
    go_ret2
    exact RetF.nil bt6
end Go.Proofs.YteecbjpnnklbpaaDoor.Ctr

/- The walks of the reference's Stream, and of both Over. -/
namespace Go.Proofs.YteecbjpnnklbpaaDoor.Ctr
open Go.RowKit
open Go.Proofs.YteecbjpnnklbpaaDoor.Aes
set_option linter.unusedVariables false
set_option maxRecDepth 100000
theorem bcells {B : Nat} {a w : World} (h : Below B a w) {b : Nat} (hb : B ≤ b) (o : Nat) (vs : List Value) (hs : B ≤ w.heap.size) : Below B a (w.setCells b o vs) :=
  h.grown (setCells_grown b vs o w) hs (fun k e => by cases e; exact hb)
set_option maxHeartbeats 1600000 in
theorem rstream_any (A B : Option Addr) (key nonce : List UInt8) (n c m d : Nat) (i : Int) (w : World) (hn : n = key.length) (hm : m = nonce.length) (hc : n ≤ c) (hcm : c ≤ maxLen) (hd : m ≤ d) (hdm : d ≤ maxLen)
    (hr : Rd w w.heap.size A (key.map e8)) (hq : Rd w w.heap.size B (nonce.map e8)) (hi0 : -9223372036854775808 ≤ i) (hi1 : i ≤ 9223372036854775807) (hn9 : n ≤ 1000000000) (hm9 : m ≤ 1000000000) :
    Calls Tryd.prog 61 #[.slice A n c, .slice B m d, .int .i64 i] w fun e w' => RetF w (strB key nonce i) (strF key nonce i) e w' := by
  obtain ⟨i0, hi0', hz0, hz1, hz2⟩ := info_parts info8
  have hri : ∀ W, Calls Tryd.prog 78 #[.slice A n c, .slice B m d] W fun e w' => e = .returned (.bool (decide (okK key nonce))) ∧ W = w' := fun W => by
    have := right_any A B n c m d W hn9 hm9
    subst hn hm
    exact this
  have zR := zeroVR
  have hZ := zero240_len
  obtain ⟨Z, hZe⟩ : ∃ Z, Z = zero240 := ⟨_, rfl⟩
  rw [← hZe] at zR hZ
  have HZ := Lib.hid hZ
  clear hZe hZ
  by_cases hok : okK key nonce
  · have hat0 := Lib.hid (show strF key nonce i = if i < 0 ∨ 65536 < i then 2 else 0 by rw [strF, if_pos hok])
    have hat1 := Lib.hid (show strB key nonce i = if i < 0 ∨ 65536 < i then [] else stream (sched key) nonce i.toNat by rw [strB, if_pos hok])
    rw [show decide (okK key nonce) = true from decide_eq_true hok] at hri
    have Hri := Lib.hid hri
    have hk32 := hok.1
    have hn16 := hok.2
    have hkk : keysOf key = sched key := by rw [keysOf, if_pos hok.1]
    have hsc : ∀ W, Below w.heap.size w W → Calls Tryd.prog 79 #[.slice A n c] W fun e w' => e = .returned (.tuple #[arrV (vb (sched key)), .int .i64 0]) ∧ Below W.heap.size W w' := fun W hW => by
      have := rschedule_any A key n c W hn hc hcm (hr.on hW)
      rwa [hkk, if_pos hk32] at this
    have hsl := sched_len key
    obtain ⟨L, hL⟩ : ∃ L, L = sched key := ⟨_, rfl⟩
    rw [← hL] at hsc hat1 hsl
    have hszL := size240 sizeR hsl
    have hZL := Lib.hid (show (vb Z).length = (vb L).length by rw [vb_len, vb_len, hsl, HZ.out])
    have HLl := Lib.hid hsl
    have Hsc := Lib.hid hsc
    have H16 := Lib.hid hn16
    clear hok hri hkk hsc hsl hL hk32
    subst hn
    subst hm
    by_cases hrg : i < 0 ∨ 65536 < i
    · rw [if_pos hrg] at hat0 hat1
      by_cases hneg : i < 0
      · clear hrg hn16
        go_enter Tryd.func61, Tryd.ntmps61
        go_wp2_with fail
        refine (Hri.out _).mono ?_
        rintro e w2 ⟨rfl, rfl⟩
        go_wp2_with fail
        rw [hat0.out, hat1.out]
        go_ret2
        exact RetF.nil (Below.refl _ _)
      · have hbig : 65536 < i := by omega
        have hneg' : 0 ≤ i := by omega
        clear hrg hn16
        go_enter Tryd.func61, Tryd.ntmps61
        go_wp2_with fail
        refine (Hri.out _).mono ?_
        rintro e w2 ⟨rfl, rfl⟩
        go_wp2_with fail
        rw [hat0.out, hat1.out]
        go_ret2
        exact RetF.nil (Below.refl _ _)
    · rw [if_neg hrg] at hat0 hat1
      have hneg : ¬ i < 0 := by omega
      have hbig : ¬ 65536 < i := by omega
      obtain ⟨n, rfl⟩ : ∃ n : Nat, i = (n : Int) := ⟨i.toNat, by omega⟩
      rw [Int.toNat_natCast] at hat1
      have HnB := Lib.hid (show n ≤ 65536 by omega)
      have hge : decide ((65536 : Int) < (n : Int)) = false := by simp; omega
      obtain ⟨b, off, rfl⟩ : ∃ b off, B = some ⟨b, off, none⟩ := by
        obtain ⟨b, off, e, _, _⟩ := hq (by intro e; have := congrArg List.length e; rw [List.length_map, List.length_nil] at this; omega)
        exact ⟨b, off, e⟩
      have hd16 : 16 ≤ d := by omega
      have hcn : ∀ (j : Nat) W, j ≤ 1000000 → Below w.heap.size w W → Calls Tryd.prog 81 #[.slice (some ⟨b, off, none⟩) nonce.length d, .int .i64 (j : Int)] W fun e w' => e = .returned (arrV (vb (later nonce j))) ∧ Below W.heap.size W w' := fun j W hj hW => by
        have := counter_any b off nonce d j (j : Int) rfl W hn16 (by omega) hd16 hdm (hq.on hW)
        rwa [← hn16] at this
      have Hcn := Lib.hid hcn
      clear hrg hneg hbig hi0 hi1 hcn hn16 hd16
      go_enter Tryd.func61, Tryd.ntmps61
      go_wp2_with fail
      refine (Hri.out _).mono ?_
      rintro e w2 ⟨rfl, rfl⟩
      go_wp2_with fail
      refine (Hsc.out _ (Below.refl _ _)).mono ?_
      rintro e w2 ⟨rfl, bt2⟩
      go_wp2_with (first
        | ((with_reducible show wpList _ _ _ (⟨some 8, _, _, _, _, _⟩ :: _) _ _); refine wpList_allocN rfl _ rfl (vb Z) zR ?_; intro w3 hb3 bw3 hs3)
        | ((with_reducible show wpList _ _ _ (⟨none, .store 84 (.tmp 8) _, _, _, _, _⟩ :: _) _ _); refine wpList_storeN rfl _ _ _ rfl rfl (ys := vb L) rfl hb3 hZL.out (vb_one _) hszL ?_; intro w5 hb5 hg5; have b5 := below_row bw3 hg5 (Nat.le_refl _) bw3.size; have bt5 := bt bt2 b5)
        | fail)
      have l02 := bt2.size
      have l25 : w2.heap.size < w5.heap.size := hb5.lt
      obtain ⟨B8, hB8⟩ : ∃ B, B = w2.heap.size := ⟨_, rfl⟩
      rw [← hB8] at hb5 l02 l25 ⊢
      obtain ⟨BB, hBB⟩ : ∃ B, B = w5.heap.size := ⟨_, rfl⟩
      have l6 : B8 < BB := by omega
      have hBs : BB ≤ w5.heap.size := by omega
      clear hB8 hBB hb3 hg5 bw3 b5 hs3 bt2 l25
      go_loopw [10, 11] (fun v i wr => ∃ k j : Nat, Hid (j = 16 * k ∧ j < n + 16) ∧ i = .int .i64 (k : Int) ∧ wr.ownsRow BB 5 1 v j ((row L nonce k).map e8) ∧ Blk wr B8 (vb L) ∧ Below w.heap.size w wr ∧ BB ≤ wr.heap.size) (fun v _ _ => n - lenS v)
      case atStart => exact ⟨0, 0, Lib.hid (by omega), rfl, own_nil _ _ _ _, hb5, bt5, hBs⟩
      case round =>
        obtain ⟨k, j, hj, rfl, hown, d8, bt0, hsz⟩ := hrel
        clear hb5 bt5 hBs
        obtain ⟨A0, c0, rfl⟩ := own_form hown
        have hcap := own_cap hown
        by_cases hlt : j < n
        · have hltI : (j : Int) < (n : Int) := by omega
          have hjb : j ≤ 65536 := by have := HnB.out; omega
          have hkb : k ≤ 1000000 := by have := hj.out; omega
          have hDl : (later nonce k).length = 16 := by rw [later_len, H16.out]
          have hct := Lib.hid (fun W hW => Hcn.out k W hkb hW)
          have hen := Lib.hid (fun W => rencrypt_any L (later nonce k) HLl.out hDl W)
          have hEe := Lib.hid (show row L nonce (k + 1) = row L nonce k ++ encrypt L (later nonce k) by rw [row, block])
          have hEl := Lib.hid (encrypt_len L (later nonce k))
          obtain ⟨D, hD⟩ : ∃ D, D = later nonce k := ⟨_, rfl⟩
          rw [← hD] at hct hen hEe hEl
          obtain ⟨E, hE⟩ : ∃ E, E = encrypt L D := ⟨_, rfl⟩
          rw [← hE] at hen hEe hEl
          have hwk : IntKind.i64.wrap ((k : Int) + 1) = (k : Int) + 1 := wrap_small (by omega) (by omega)
          have Hlt := Lib.hid hlt
          have hszE := sizeL hEl.out
          have hrgL : wr.rangeAt B8 0 (vb L) := range_sub d8 (by simp) (fun j hj => by rw [Nat.zero_add])
          have Hrg := Lib.hid (fun W (hW : Below wr.heap.size wr W) => (range_sub (d8.on hW) (by simp) (fun j hj => by rw [Nat.zero_add]) : W.rangeAt B8 0 (vb L)))
          have bel0 : Below wr.heap.size wr wr.drew := (Below.refl _ _).drew
          have bel00 : Below wr.heap.size wr wr := (Below.refl _ _)
          clear hE hD hDl hlt hcap hkb
          have hu28 := Tryd.underlying84
          have hu16 := Tryd.underlying83
          have hi16 : (Tryd.prog.info? 83).map (·.size) = some 16 := size16
          have hone : ∀ v ∈ vb E, v.oneCell' = true := vb_one _
          have hEl16 := hEl.out
          have hvl : (vb E).length = 16 := by rw [vb_len]; exact hEl16
          have Hvl := Lib.hid hvl
          have hBn : Blk (wr.alloc (.cells #[.int .u8 0, .int .u8 0, .int .u8 0, .int .u8 0, .int .u8 0, .int .u8 0, .int .u8 0, .int .u8 0, .int .u8 0, .int .u8 0, .int .u8 0, .int .u8 0, .int .u8 0, .int .u8 0, .int .u8 0, .int .u8 0] 83)).drew wr.heap.size (vb zero16) := Blk.new wr (vb zero16) 83
          clear hEl16 hvl
          go_wp2
          go_region_held3 (fun w' => w'.rangeAt B8 0 (vb L)) (first | (refine Hrg.out _ ?_; first | exact bc4 | exact bc3 | exact bel0 | exact bel00 | exact bt bc4 (b1alloc _ _) | exact bt bc3 (b1alloc _ _) | exact bt bel0 (b1alloc _ _) | exact bcells (bt bc4 (b1alloc _ _)) bc4.size 0 _ (Nat.le_trans bc4.size (b1alloc _ _).size) | exact bcells bc4 bc3.size 0 _ bc4.size | exact bcells bc4 (Nat.le_refl _) 0 _ bc4.size) | go_keep)
            (first
            | (go_at_call 81; refine (hct.out _ (bt bt0 (by first | exact bel0 | exact bt bel0 (b1alloc _ _)))).mono ?_; rintro e w3 ⟨rfl, b3⟩; have bc3 : Below wr.heap.size wr w3 := (by first | exact bt bel0 b3 | exact bt (bt bel0 (b1alloc _ _)) b3))
            | (go_at_call 80; refine (hen.out _).mono ?_; rintro e w4 ⟨rfl, b4⟩; have bc4 : Below wr.heap.size wr w4 := (by first | exact bt bc3 b4 | exact bt (bt bc3 (b1alloc _ _)) b4); have th4 : (w4.alloc (.cells #[.int .u8 0, .int .u8 0, .int .u8 0, .int .u8 0, .int .u8 0, .int .u8 0, .int .u8 0, .int .u8 0, .int .u8 0, .int .u8 0, .int .u8 0, .int .u8 0, .int .u8 0, .int .u8 0, .int .u8 0, .int .u8 0] 83)).there w4.heap.size 0 (vb E).length := there_sub (Blk.new w4 (vb zero16) 83) (by rw [Hvl.out]; decide); (try (have hchk2 : Below (w3.alloc (.cells #[.int .u8 0, .int .u8 0, .int .u8 0, .int .u8 0, .int .u8 0, .int .u8 0, .int .u8 0, .int .u8 0, .int .u8 0, .int .u8 0, .int .u8 0, .int .u8 0, .int .u8 0, .int .u8 0, .int .u8 0, .int .u8 0] 83)).heap.size (w3.alloc (.cells #[.int .u8 0, .int .u8 0, .int .u8 0, .int .u8 0, .int .u8 0, .int .u8 0, .int .u8 0, .int .u8 0, .int .u8 0, .int .u8 0, .int .u8 0, .int .u8 0, .int .u8 0, .int .u8 0, .int .u8 0, .int .u8 0] 83)) w4 := b4; have q2 : Blk w4 w3.heap.size (vb zero16) := (Blk.new w3 (vb zero16) 83).on hchk2; have th2 : w4.there w3.heap.size 0 (vb E).length := there_sub q2 (by rw [Hvl.out]; decide))); (try (have hchk3 : Below (wr.alloc (.cells #[.int .u8 0, .int .u8 0, .int .u8 0, .int .u8 0, .int .u8 0, .int .u8 0, .int .u8 0, .int .u8 0, .int .u8 0, .int .u8 0, .int .u8 0, .int .u8 0, .int .u8 0, .int .u8 0, .int .u8 0, .int .u8 0] 83)).drew.heap.size (wr.alloc (.cells #[.int .u8 0, .int .u8 0, .int .u8 0, .int .u8 0, .int .u8 0, .int .u8 0, .int .u8 0, .int .u8 0, .int .u8 0, .int .u8 0, .int .u8 0, .int .u8 0, .int .u8 0, .int .u8 0, .int .u8 0, .int .u8 0] 83)).drew w3 := b3; have q3 : Blk w4 wr.heap.size (vb zero16) := (hBn.on hchk3).on b4; have th3 : w4.there wr.heap.size 0 (vb E).length := there_sub q3 (by rw [Hvl.out]; decide))))
            | fail)
          all_goals
            first
            | (have f3 := Blk.setCells (vb E) 0 q3
               rw [splice_all (l := E) (z := zero16) (by rw [hEl.out]; rfl)] at f3
               have bW : Below wr.heap.size wr (w4.setCells wr.heap.size 0 (vb E)) := bcells bc4 (Nat.le_refl _) 0 _ bc4.size
               have lB3' : wr.heap.size ≤ wr.heap.size := Nat.le_refl _
               obtain ⟨W1, hW1⟩ : ∃ W, W = (w4.setCells wr.heap.size 0 (vb E)) := ⟨_, rfl⟩
               rw [← hW1] at f3 bW ⊢
               obtain ⟨B3, hB3⟩ : ∃ B, B = wr.heap.size := ⟨_, rfl⟩
               have lB3 : wr.heap.size ≤ B3 := by omega
               rw [← hB3] at f3 ⊢
               clear hW1 hB3 lB3')
            | (have f3 := Blk.setCells (vb E) 0 q2
               rw [splice_all (l := E) (z := zero16) (by rw [hEl.out]; rfl)] at f3
               have bW : Below wr.heap.size wr (w4.setCells w3.heap.size 0 (vb E)) := bcells bc4 bc3.size 0 _ bc4.size
               have lB3' : wr.heap.size ≤ w3.heap.size := bc3.size
               obtain ⟨W1, hW1⟩ : ∃ W, W = (w4.setCells w3.heap.size 0 (vb E)) := ⟨_, rfl⟩
               rw [← hW1] at f3 bW ⊢
               obtain ⟨B3, hB3⟩ : ∃ B, B = w3.heap.size := ⟨_, rfl⟩
               have lB3 : wr.heap.size ≤ B3 := by omega
               rw [← hB3] at f3 ⊢
               clear hW1 hB3 lB3')
            | (have f3 := Blk.setCells (vb E) 0 (show Blk (w4.alloc (.cells #[.int .u8 0, .int .u8 0, .int .u8 0, .int .u8 0, .int .u8 0, .int .u8 0, .int .u8 0, .int .u8 0, .int .u8 0, .int .u8 0, .int .u8 0, .int .u8 0, .int .u8 0, .int .u8 0, .int .u8 0, .int .u8 0] 83)) w4.heap.size (vb zero16) from Blk.new w4 (vb zero16) 83)
               rw [splice_all (l := E) (z := zero16) (by rw [hEl.out]; rfl)] at f3
               have bW : Below wr.heap.size wr ((w4.alloc (.cells #[.int .u8 0, .int .u8 0, .int .u8 0, .int .u8 0, .int .u8 0, .int .u8 0, .int .u8 0, .int .u8 0, .int .u8 0, .int .u8 0, .int .u8 0, .int .u8 0, .int .u8 0, .int .u8 0, .int .u8 0, .int .u8 0] 83)).setCells w4.heap.size 0 (vb E)) := bcells (bt bc4 (b1alloc _ _)) bc4.size 0 _ (Nat.le_trans bc4.size (b1alloc _ _).size)
               have lB3' : wr.heap.size ≤ w4.heap.size := bc4.size
               obtain ⟨W1, hW1⟩ : ∃ W, W = ((w4.alloc (.cells #[.int .u8 0, .int .u8 0, .int .u8 0, .int .u8 0, .int .u8 0, .int .u8 0, .int .u8 0, .int .u8 0, .int .u8 0, .int .u8 0, .int .u8 0, .int .u8 0, .int .u8 0, .int .u8 0, .int .u8 0, .int .u8 0] 83)).setCells w4.heap.size 0 (vb E)) := ⟨_, rfl⟩
               rw [← hW1] at f3 bW ⊢
               obtain ⟨B3, hB3⟩ : ∃ B, B = w4.heap.size := ⟨_, rfl⟩
               have lB3 : wr.heap.size ≤ B3 := by omega
               rw [← hB3] at f3 ⊢
               clear hW1 hB3 lB3')
            have e8' := d8.on bW
            have hown1 := own_on hown bW
            have btW := bt bt0 bW
            have hszW : BB ≤ W1.heap.size := Nat.le_trans hsz bW.size
            have hnb : ∀ g, (Value.slice A0 j c0).ownBlock = some g → g ≠ B3 := fun g hg => by have := (hown.lt g hg).2; omega
            have l38 : B8 < B3 := by have := d8.lt; omega
            have lBB3 : BB ≤ B3 := by omega
            clear b3 b4 bc3 bc4 th4 bW d8 hown bt0 hsz hrgL bel0 bel00 hBn hone
            go_wp2
            go_loopw [10, 13] (fun v i wx => ∃ r : Nat, r ≤ 16 ∧ i = .int .i64 r ∧ wx.ownsRow BB 5 1 v (j + r) ((row L nonce k ++ E.take r).map e8) ∧ Blk wx B8 (vb L) ∧ Blk wx B3 (vb E) ∧ (∀ g, v.ownBlock = some g → g ≠ B3) ∧ Below w.heap.size w wx ∧ BB ≤ wx.heap.size) (fun _ i _ => 16 - (intOf i).toNat)
            case atStart => exact ⟨0, by omega, rfl, by rw [List.take_zero, List.append_nil]; exact hown1, e8', f3, hnb, btW, hszW⟩
            case round =>
              obtain ⟨r, hr, rfl, g10, g8, g3, gnb, gb, gs⟩ := hrel
              clear hown1 e8' f3 hnb btW hszW
              obtain ⟨A1, c1, rfl⟩ := own_form g10
              by_cases hlr : r < 16
              · have hcc := Blk.byte g3 (k := r) (by rw [hEl.out]; exact hlr)
                have hts := Lib.hid (take_snoc E r (by rw [hEl.out]; exact hlr))
                obtain ⟨x, hx⟩ : ∃ x, x = E.getD r 0 := ⟨_, rfl⟩
                rw [← hx] at hcc hts
                have hrI : (r : Int) < 16 := by omega
                have hB3 := g3.lt
                have hbs := fun g' hg' => own_block (k := g') g10 hg'
                clear hx
                go_wp2_with (at_builtin; refine wpList_append_rd _ rfl _ _ _ rfl BB 5 i0 _ 1 1 Tryd.underlying37 hi0' hz0 hz1 hz2 rfl (by omega) _ (j + r) _ rfl (g10.alloc _) _ _ 1 1 [e8 x] rfl rfl (Rd.lit wr _ _ _ (wr.heap.size + 1) rfl (by omega)) (one_int _ _) (by simp only [maxLen]; omega) (by omega) (le_alloc gs _) ?_; intro v8 w8 hown8 hg8 hat8)
                go_roundw
                case rel =>
                  refine ⟨r + 1, by omega, by go_num, by rw [hts.out, ← List.append_assoc, List.map_append]; exact hown8, (g8.alloc _).grown hg8 (fun e => by have := hbs _ e.symm; omega), (g3.alloc _).grown hg8 (fun e => gnb _ e.symm rfl), ?_, (gb.alloc gb.size _).grown hg8 (le_alloc gb.size _) (fun g' hg' => by have := hbs _ hg'; omega), Nat.le_trans (le_alloc gs _) hg8.size⟩
                  intro g' hg'
                  rcases hat8 with h | h
                  · rw [h] at hg'; exact gnb _ hg'
                  · rw [h] at hg'
                    have h2 := Option.some.inj hg'
                    simp at h2
                    omega
                case measure => simp [intOf]; omega
              · obtain rfl : r = 16 := by omega
                rw [List.take_of_length_le (by rw [hEl.out]; omega), ← hEe.out] at g10
                go_wp2
                go_roundw
                case rel => exact ⟨k + 1, j + 16, Lib.hid (by have := hj.out; have := Hlt.out; omega), (by first | rfl | go_num), g10, g8, gb, gs⟩
                case measure => have := Hlt.out; simp [lenS]; omega
        · have hge' : n ≤ j := by omega
          have hltI : ¬ (j : Int) < (n : Int) := by omega
          have hcI : (n : Int) ≤ (c0 : Int) := by omega
          have hcN : n ≤ c0 := by omega
          have hmx := hcap.2
          have hrd := Rd.own hown
          have hrs := stream_of_row L nonce n k (by have := hj.out; omega)
          have hres := Lib.hid (show strB key nonce (n : Int) = (row L nonce k).take n by rw [hat1.out, hrs])
          have hrl := row_len L nonce k
          have Hrl := Lib.hid (show ((row L nonce k).take n).length = n by rw [List.length_take, hrl]; have := hj.out; omega)
          have hrd2 := hrd.take n
          rw [← List.map_take] at hrd2
          clear hcap hlt hrs hrl hge'
          go_wp2
          rw [hat0.out, hres.out]
          go_ret2
          exact ⟨A0, c0, by rw [Hrl.out]; rfl, hrd2, by rw [Hrl.out]; exact hcN, hmx, bt0⟩
  · have hat0 := Lib.hid (show strF key nonce i = 4 by rw [strF, if_neg hok])
    have hat1 := Lib.hid (show strB key nonce i = [] by rw [strB, if_neg hok])
    rw [show decide (okK key nonce) = false from decide_eq_false hok] at hri
    have Hri := Lib.hid hri
    clear hok hri
    subst hn
    subst hm
    go_enter Tryd.func61, Tryd.ntmps61
    go_wp2_with fail
    refine (Hri.out _).mono ?_
    rintro e w2 ⟨rfl, rfl⟩
    go_wp2_with fail
    rw [hat0.out, hat1.out]
    go_ret2
    exact RetF.nil (Below.refl _ _)
end Go.Proofs.YteecbjpnnklbpaaDoor.Ctr

/- The walks of both Over. -/
namespace Go.Proofs.YteecbjpnnklbpaaDoor.Ctr
open Go.RowKit
open Go.Proofs.YteecbjpnnklbpaaDoor.Aes
set_option linter.unusedVariables false
set_option maxRecDepth 100000
def overB (key nonce text : List UInt8) : List UInt8 := Mac.xorL text (strB key nonce text.length)
theorem overB_len (key nonce text : List UInt8) : (overB key nonce text).length ≤ text.length := by rw [overB, Mac.xorL_len]; omega
theorem strB_nil {key nonce : List UInt8} {i : Int} (h : strF key nonce i ≠ 0) : strB key nonce i = [] := by
  unfold strF at h
  unfold strB
  by_cases hok : okK key nonce
  · rw [if_pos hok] at h ⊢
    by_cases hr : i < 0 ∨ 65536 < i
    · rw [if_pos hr]
    · rw [if_neg hr] at h; exact absurd rfl h
  · rw [if_neg hok]
theorem xorL_nil (l : List UInt8) : Mac.xorL l [] = [] := by simp [Mac.xorL]
theorem RetF.of_own {w w1 w' : World} {l : List UInt8} {f : Int} {A : Option Addr} {c : Nat} (h : Below w.heap.size w w1) (own : w'.ownsRow w1.heap.size 5 1 (.slice A l.length c) l.length (l.map e8)) (b : Below w1.heap.size w1 w') :
    RetF w l f (.returned (.tuple #[.slice A l.length c, .int .i64 f])) w' :=
  ⟨A, c, rfl, Rd.own own, (own_cap own).1, (own_cap own).2, bt h b⟩
set_option maxHeartbeats 400000 in
theorem over_any (A B T : Option Addr) (key nonce text : List UInt8) (n c m d t g : Nat) (w : World) (hn : n = key.length) (hm : m = nonce.length) (ht : t = text.length) (hc : n ≤ c) (hcm : c ≤ maxLen) (hd : m ≤ d) (hdm : d ≤ maxLen)
    (hr : Rd w w.heap.size A (key.map e8)) (hq : Rd w w.heap.size B (nonce.map e8)) (hx : Rd w w.heap.size T (text.map e8)) (ht9 : t ≤ 1000000000) :
    Calls Tryd.prog 43 #[.slice A n c, .slice B m d, .slice T t g] w fun e w' => RetF w (overB key nonce text) (strF key nonce text.length) e w' := by
  have hst := stream_any A B key nonce n c m d (t : Int) w hn hm hc hcm hd hdm hr hq (by omega) (by omega)
  have hsl := strB_len key nonce (t : Int)
  subst hn hm ht
  obtain ⟨S, hS⟩ : ∃ S, S = strB key nonce (text.length : Int) := ⟨_, rfl⟩
  obtain ⟨F, hF⟩ : ∃ F, F = strF key nonce (text.length : Int) := ⟨_, rfl⟩
  have hob := Lib.hid (show overB key nonce text = Mac.xorL text S by rw [overB, hS])
  have hnil := Lib.hid (fun (h : F ≠ 0) => (show S = [] by rw [hS]; exact strB_nil (by rw [← hF]; exact h)))
  rw [← hS, ← hF] at hst
  rw [← hS] at hsl
  rw [← hF]
  have Hst := Lib.hid hst
  have Hsl := Lib.hid hsl
  clear hst hsl hS hF
  by_cases h0 : F = 0
  · subst h0
    go_enter Tryd.func43, Tryd.ntmps43
    go_wp2_with fail
    refine Hst.out.mono ?_
    rintro e w1 ⟨A1, c1, rfl, hr1, hc1, hm1, b1⟩
    go_wp2_with fail
    refine (Mac.xor_any T A1 text S _ _ _ _ w1 rfl rfl (hx.on b1) hr1 (by omega) (by have := Hsl.out; omega)).mono ?_
    rintro e w2 ⟨A2, c2, rfl, own2, b2⟩
    go_wp2_with fail
    rw [hob.out]
    go_ret2
    exact RetF.of_own b1 own2 b2
  · have hne : (F != 0) = true := bne_yes h0
    have hS0 := hnil.out h0
    subst hS0
    clear h0
    go_enter Tryd.func43, Tryd.ntmps43
    go_wp2_with fail
    refine Hst.out.mono ?_
    rintro e w1 ⟨A1, c1, rfl, hr1, hc1, hm1, b1⟩
    go_wp2_with fail
    rw [hob.out, xorL_nil]
    go_ret2
    exact RetF.nil b1
set_option maxHeartbeats 400000 in
theorem rover_any (A B T : Option Addr) (key nonce text : List UInt8) (n c m d t g : Nat) (w : World) (hn : n = key.length) (hm : m = nonce.length) (ht : t = text.length) (hc : n ≤ c) (hcm : c ≤ maxLen) (hd : m ≤ d) (hdm : d ≤ maxLen)
    (hr : Rd w w.heap.size A (key.map e8)) (hq : Rd w w.heap.size B (nonce.map e8)) (hx : Rd w w.heap.size T (text.map e8)) (ht9 : t ≤ 1000000000) (hn9 : n ≤ 1000000000) (hm9 : m ≤ 1000000000) :
    Calls Tryd.prog 46 #[.slice A n c, .slice B m d, .slice T t g] w fun e w' => RetF w (overB key nonce text) (strF key nonce text.length) e w' := by
  have hst := rstream_any A B key nonce n c m d (t : Int) w hn hm hc hcm hd hdm hr hq (by omega) (by omega) hn9 hm9
  have hsl := strB_len key nonce (t : Int)
  subst hn hm ht
  obtain ⟨S, hS⟩ : ∃ S, S = strB key nonce (text.length : Int) := ⟨_, rfl⟩
  obtain ⟨F, hF⟩ : ∃ F, F = strF key nonce (text.length : Int) := ⟨_, rfl⟩
  have hob := Lib.hid (show overB key nonce text = Mac.xorL text S by rw [overB, hS])
  rw [← hS, ← hF] at hst
  rw [← hS] at hsl
  rw [← hF]
  have Hst := Lib.hid hst
  have Hsl := Lib.hid hsl
  clear hst hsl hS hF
  go_enter Tryd.func46, Tryd.ntmps46
  go_wp2_with fail
  refine Hst.out.mono ?_
  rintro e w1 ⟨A1, c1, rfl, hr1, hc1, hm1, b1⟩
  go_wp2_with fail
  refine (Mac.rxor_any T A1 text S _ _ _ _ w1 rfl rfl (hx.on b1) hr1 (by omega) (by have := Hsl.out; omega)).mono ?_
  rintro e w2 ⟨A2, c2, rfl, own2, b2⟩
  go_wp2_with fail
  rw [hob.out]
  go_ret2
  exact RetF.of_own b1 own2 b2
end Go.Proofs.YteecbjpnnklbpaaDoor.Ctr

/- The walk of the statements' own example. -/
namespace Go.Proofs.YteecbjpnnklbpaaDoor.Ctr
open Go.RowKit
open Go.Proofs.YteecbjpnnklbpaaDoor.Aes
set_option linter.unusedVariables false
set_option maxRecDepth 100000
def cEx : List UInt8 := zero16.set 15 255
theorem cEx_len : cEx.length = 16 := rfl
theorem cEx_next : next cEx = [0, 0, 0, 0, 0, 0, 0, 0, 0, 0, 0, 0, 0, 0, 1, 0] := by decide +kernel
theorem strF_ok {key nonce : List UInt8} (hk : key.length = 32) (hn : nonce.length = 16) {i : Int} (h0 : 0 ≤ i) (h1 : i ≤ 65536) : strF key nonce i = 0 := by
  rw [strF, if_pos ⟨hk, hn⟩, if_neg (by omega)]
theorem strB_ok_len {key nonce : List UInt8} (hk : key.length = 32) (hn : nonce.length = 16) {i : Nat} (h1 : i ≤ 65536) : (strB key nonce (i : Int)).length = i := by
  rw [strB, if_pos ⟨hk, hn⟩, if_neg (by omega), stream_len]; omega
theorem mk_run (n : Nat) (hn : n ≤ 1000) : ∃ O : Obj, (∀ W, (Instr.makeSlice 37 (.int .i64 (n : Int)) (.int .i64 (n : Int))).run Tryd.prog W = .ok (.slice (some ⟨W.heap.size, 0, none⟩) n n) (W.alloc O)) ∧ ∀ W : World, Blk (W.alloc O) W.heap.size (vb (List.replicate n 0)) := by
  obtain ⟨i0, hi0, hz0, hz1, hz2⟩ := info_parts info8
  refine ⟨.cells (madeCells (Value.int .u8 0).cells (n * i0.size)) 5, fun W => ?_, fun W => ⟨5, ?_⟩⟩
  · have hr := run_make (P := Tryd.prog) W 37 5 i0 _ Tryd.underlying37 hi0 hz0 .i64 .i64 n n (by omega) (by omega) (by rw [hz2]; omega) (by omega)
    simpa using hr
  · have h1 : (madeCells (Value.int .u8 0).cells (n * i0.size)) = (vb (List.replicate n 0)).toArray := by
      apply Array.ext'
      rw [hz1, made_int]
      simp [vb, List.map_replicate]
    rw [h1]
    exact heap_alloc_new W _
end Go.Proofs.YteecbjpnnklbpaaDoor.Ctr
