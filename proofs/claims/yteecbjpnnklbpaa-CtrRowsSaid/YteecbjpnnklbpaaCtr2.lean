/- The walks of ctr.begun, and of the reference's Right and counter. -/
import Derived.Test.YteecbjpnnklbpaaCtr1
import Derived.Test.YteecbjpnnklbpaaRegion
namespace Go.Proofs.Yteecbjpnnklbpaa.Ctr
open Go.RowKit
open Go.Proofs.Yteecbjpnnklbpaa.Aes
set_option linter.unusedVariables false
set_option maxRecDepth 100000
theorem setRow_same {w : World} {g : Nat} {xs : List Value} (h : Blk w g xs) : w.setRow g xs.toArray = w := by
  obtain ⟨t, h⟩ := h
  unfold World.setRow
  congr 1
  apply Array.ext_getElem?
  intro i
  rw [Array.getElem?_modify]
  by_cases e : g = i
  · subst e
    rw [if_pos rfl, h]; rfl
  · rw [if_neg e]
section
variable {P : Program}
/-- what is written is there already -/
theorem wpQuiet_storeSame {ops : Array Oper} {C : World → Prop} {Q : Act → Prop} {a : Act} {o : Oper} {rest : List Oper} (hgd : o.guard = none) (t : TypeId) (x y : Operand) (ho : o.op = .store t x y)
    {g : Nat} (hx : a.eval x = .pointer (some ⟨g, 0, none⟩)) {xs : List Value} (hy : a.eval y = arrV xs) (hb : ∀ w, C w → Blk w g xs) (h1 : ∀ v ∈ xs, v.oneCell' = true) (hi : (P.info? t).map (·.size) = some xs.length)
    (h : wpQuiet P ops C Q rest (a.put o.dst undef)) : wpQuiet P ops C Q (o :: rest) a := by
  refine wpQuiet_step fun K hK => ?_
  rw [if_pos (by simp [Region.wanted, hgd])]
  refine ⟨undef, fun w hw => ?_, hK _ h⟩
  have hbw := hb w hw
  have hsame := setRow_same hbw
  obtain ⟨t', hb'⟩ := hbw
  have := run_storeVar_row (P := P) w g t' t _ xs.toArray hb' (by simpa using hi) rfl (by simpa using h1)
  rw [hsame] at this
  have hr : (execOp a.eval o).run P w = .ok .skip w := by
    unfold execOp
    simp only [ho, hx, hy]
    simp [Instr.storeAt, Instr.sureAddr, this, arrV]
  unfold Oper.quietAt
  rw [hr]
  exact ⟨rfl, rfl⟩
end
theorem results_arr3 {fn : Func} {p p2 q : Tmp} {t t2 : TypeId} {v : Value} (h : fn.results = #[.cell p t, .cell p2 t2, .tmp q]) (tmps : Array Value) {w : World} {g g2 : Nat} {xs ys : List Value} (hb : Blk w g xs) (hb2 : Blk w g2 ys) {n n2 : Nat} {e e2 : TypeId} (hu : Try.prog.underlying t = some (.array n e)) (hu2 : Try.prog.underlying t2 = some (.array n2 e2))
    (hi : (Try.prog.info? t).map (·.size) = some xs.length) (hi2 : (Try.prog.info? t2).map (·.size) = some ys.length) (hp : tmps[p]? = some (.pointer (some ⟨g, 0, none⟩))) (hp2 : tmps[p2]? = some (.pointer (some ⟨g2, 0, none⟩))) (hq : tmps[q]? = some v) : (results fn tmps).run Try.prog w = .ok (.tuple #[arrV xs, arrV ys, v]) w := by
  obtain ⟨t', hb⟩ := hb
  obtain ⟨t2', hb2⟩ := hb2
  have hp' : tmps[p]?.getD undef = .pointer (some ⟨g, 0, none⟩) := by rw [hp]; rfl
  have hp2' : tmps[p2]?.getD undef = .pointer (some ⟨g2, 0, none⟩) := by rw [hp2]; rfl
  have hq' : tmps[q]?.getD undef = v := by rw [hq]; rfl
  have h1 := run_loadVar_row (P := Try.prog) w g t' t _ _ _ hb hu rfl (by simpa using hi)
  have h2 := run_loadVar_row (P := Try.prog) w g2 t2' t2 _ _ _ hb2 hu2 rfl (by simpa using hi2)
  simp [results, h, hp', hp2', hq', asAddr, h1, h2, arrV]
theorem splice_all {l z : List UInt8} (h : l.length = z.length) : splice (vb z) 0 (vb l) = vb l := by
  have := splice_part (F := l) (Z := z) (N := l.length) rfl h.symm l 0 (by omega) (fun j hj => by rw [Nat.zero_add])
  rw [part_zero] at this
  rw [this, Nat.zero_add, part_all l z l.length rfl h.symm]
theorem rd_grown {w w' : World} {b off g : Nat} {xs : List Value} (h : Rd w w.heap.size (some ⟨b, off, none⟩) xs) (hg : w.grownBy w' (some g)) (hb : b ≠ g) : Rd w' w'.heap.size (some ⟨b, off, none⟩) xs := fun hne => by
  obtain ⟨b', off', e, hlt, hc⟩ := h hne
  cases e
  exact ⟨b, off, rfl, Nat.lt_of_lt_of_le hlt hg.size, fun i hi => (World.cell?_of_block (hg.block b hlt (fun e => hb (by cases e; rfl)))).trans (hc i hi)⟩
def fOf (key : List UInt8) : Int := if key.length = 32 then 0 else 4
set_option maxHeartbeats 800000 in
theorem begun_any (A B : Option Addr) (key nonce : List UInt8) (n c m d : Nat) (w : World) (hn : n = key.length) (hm : m = nonce.length) (hc : n ≤ c) (hcm : c ≤ maxLen) (hd : m ≤ d) (hdm : d ≤ maxLen)
    (hr : Rd w w.heap.size A (key.map e8)) (hq : Rd w w.heap.size B (nonce.map e8)) :
    Calls Try.prog 39 #[.slice A n c, .slice B m d] w fun e w' => (∃ K C, e = .returned (.tuple #[arrV (vb K), arrV (vb C), .int .i64 (if nonce.length = 16 then fOf key else 4)]) ∧ K.length = 240 ∧ C.length = 16 ∧ (nonce.length = 16 → K = keysOf key ∧ C = nonce)) ∧ Below w.heap.size w w' := by
  subst hn hm
  have hZ := zero240_len
  have zK := zeroVK
  obtain ⟨Z, hZe⟩ : ∃ Z, Z = zero240 := ⟨_, rfl⟩
  rw [← hZe] at zK hZ
  have HZ := Lib.hid hZ
  have hszZ := size240 sizeK hZ
  have hz16 : zero16.length = 16 := rfl
  have hszz := sizeL hz16
  clear hZe hZ hz16
  by_cases h16 : nonce.length = 16
  · have hsc : ∀ W, Below w.heap.size w W → Calls Try.prog 18 #[.slice A key.length c] W fun e w' => e = .returned (.tuple #[arrV (vb (keysOf key)), .int .i64 (fOf key)]) ∧ Below W.heap.size W w' := fun W hW =>
      schedule_any A key _ c W rfl hc hcm (hr.on hW)
    have hL := keysOf_len key
    obtain ⟨L, hLe⟩ : ∃ L, L = keysOf key := ⟨_, rfl⟩
    obtain ⟨F, hFe⟩ : ∃ F, F = fOf key := ⟨_, rfl⟩
    rw [← hLe, ← hFe] at hsc
    rw [← hLe] at hL
    rw [if_pos h16]
    rw [← hFe]
    have hszL := size240 sizeK hL
    have hszn := sizeL h16
    have hZL : (vb Z).length = (vb L).length := by rw [vb_len, vb_len, hL, HZ.out]
    have hspl := splice_all (l := nonce) (z := zero16) h16
    have HLe := Lib.hid hLe
    have HZL := Lib.hid hZL
    have HL := Lib.hid hL
    have Hsc := Lib.hid hsc
    have Hspl := Lib.hid hspl
    have H16 := Lib.hid h16
    obtain ⟨b, off, rfl⟩ : ∃ b off, B = some ⟨b, off, none⟩ := by
      obtain ⟨b, off, e, _, _⟩ := hq (by intro e; have := congrArg List.length e; rw [List.length_map, List.length_nil] at this; omega)
      exact ⟨b, off, e⟩
    rw [h16] at hd ⊢
    clear hL hsc hLe hFe hZL h16 hspl
    unfold maxLen at hcm hdm
    go_enter Try.func39, Try.ntmps39
    go_wp2_with (first
      | ((with_reducible show wpList _ _ _ (⟨some 4, _, _, _, _, _⟩ :: _) _ _); refine wpList_allocN rfl _ rfl (vb Z) zK ?_; intro w1 hb1 bw1 hs1)
      | ((with_reducible show wpList _ _ _ (⟨some 5, _, _, _, _, _⟩ :: _) _ _); refine wpList_allocN rfl _ rfl (vb zero16) zeroV16 ?_; intro w2 hb2 bw2 hs2; have hb12 := hb1.on bw2; have bt2 := bt bw1 bw2)
      | fail)
    refine (Hsc.out _ bt2).mono ?_
    rintro e w3 ⟨rfl, b3⟩
    have bt3 := bt bt2 b3
    have hb13 := hb12.on b3
    have hb23 := hb2.on b3
    have l01 : w.heap.size < w1.heap.size := hs1
    have hrn := hq.on bt3
    have hn1 : w1.heap.size ≤ w3.heap.size := by have := hb2.lt; have := b3.size; omega
    have hbl := rd_lt hq (by rw [H16.out]; omega)
    clear b3 hb1 hb2 hb12 bw1 bw2 hs1 hs2 bt2
    go_wp2_with (first
      | ((with_reducible show wpList _ _ _ (⟨none, .store 29 (.tmp 4) _, _, _, _, _⟩ :: _) _ _); refine wpList_storeN rfl _ _ _ rfl rfl (ys := vb L) rfl hb13 HZL.out (vb_one _) hszL ?_; intro w4 hb4 hg4; have bt4 := below_row bt3 hg4 (Nat.le_refl _) bt3.size; have hb24 := hb23.grown hg4 (by simp; omega))
      | ((with_reducible show wpList _ _ _ (⟨some 19, _, _, _, _, _⟩ :: _) _ _); refine wpList_copyN rfl _ _ _ _ rfl (g := w1.heap.size) (off := 0) rfl (ad := ⟨b, off, none⟩) rfl (vb nonce) (by rw [vb_len, H16.out]; rfl) Try.underlying27 size8 hb24 (by rw [vb_len, vb_len, H16.out]; decide) (fun jj v hv => by obtain ⟨hj, hv'⟩ := (List.getElem?_eq_some_iff.1 hv); obtain ⟨b', off', e, _, hc'⟩ := (rd_grown hrn hg4 (by omega)) (by intro e; rw [show vb nonce = nonce.map e8 from rfl, e] at hj; simp at hj); cases e; rw [Addr.add_lit, hc' jj hj]; exact congrArg some hv') (vb_one _) ?_; intro w5 hb5 hg5)
      | fail)
    rw [Hspl.out] at hb5
    have hb45 := hb4.grown hg5 (by simp; omega)
    have bt5 := below_row bt4 hg5 (by omega) bt4.size
    clear hb4 hg4 hb13 hb23 hb24 hg5 bt4 bt3 hrn
    refine region_inb (by kernel_rfl) (by kernel_rfl) ?_
    have inbNe := InB.some
    have inbW := @wrap_small
    have inbU := IntKind.wrap_u8'
    repeat (first | (with_reducible refine wpQuiet_nil ?_; fail) | (refine wpQuiet_loadA rfl 29 (.tmp 4) rfl rfl (fun w' hw' => hb45.on hw'.below) Try.underlying29 hszL ?_) | (refine wpQuiet_loadA rfl 22 (.tmp 5) rfl rfl (fun w' hw' => hb5.on hw'.below) Try.underlying22 hszn ?_) | (refine wpQuiet_storeSame rfl 29 _ _ rfl rfl (xs := vb L) rfl (fun w' hw' => hb45.on hw'.below) (vb_one _) hszL ?_) | (refine wpQuiet_storeSame rfl 22 _ _ rfl rfl (xs := vb nonce) rfl (fun w' hw' => hb5.on hw'.below) (vb_one _) hszn ?_) | (refine wpQuiet_step (fun K hK => ?_); go_simp; first | (refine hK _ ?_; clear hK K) | (apply Exists.intro; refine ⟨?_, hK _ ?_⟩; (· (intro w' hw'; first | fail | (have hcw := hw'.cell; go_simp; exact rfl))); clear hK K)))
    refine wpQuiet_nil ?_
    intro wq hq
    clear inbNe inbW inbU
    have m4 := hb45.on hq.below
    have m5 := hb5.on hq.below
    have bq := bt bt5 hq.below
    go_wp2
    refine bodyPost_ret (v := .tuple #[arrV (vb L), arrV (vb nonce), .int .i64 F]) (results_arr3 Try.results39 _ m4 m5 Try.underlying29 Try.underlying22 hszL hszn rfl rfl rfl) rfl ⟨⟨L, nonce, rfl, HL.out, H16.out, fun _ => ⟨HLe.out, rfl⟩⟩, bq⟩
  · rw [if_neg h16]
    have hne : ((nonce.length : Int) != 16) = true := bne_yes (by omega)
    have H16 := Lib.hid h16
    unfold maxLen at hcm hdm
    clear h16
    go_enter Try.func39, Try.ntmps39
    go_wp2_with (first
      | ((with_reducible show wpList _ _ _ (⟨some 4, _, _, _, _, _⟩ :: _) _ _); refine wpList_allocN rfl _ rfl (vb Z) zK ?_; intro w1 hb1 bw1 hs1)
      | ((with_reducible show wpList _ _ _ (⟨some 5, _, _, _, _, _⟩ :: _) _ _); refine wpList_allocN rfl _ rfl (vb zero16) zeroV16 ?_; intro w2 hb2 bw2 hs2; have hb12 := hb1.on bw2; have bt2 := bt bw1 bw2)
      | fail)
    refine region_inb (by kernel_rfl) (by kernel_rfl) ?_
    have inbNe := InB.some
    have inbW := @wrap_small
    have inbU := IntKind.wrap_u8'
    repeat (first | (with_reducible refine wpQuiet_nil ?_; fail) | (refine wpQuiet_loadA rfl 29 (.tmp 4) rfl rfl (fun w' hw' => hb12.on hw'.below) Try.underlying29 hszZ ?_) | (refine wpQuiet_loadA rfl 22 (.tmp 5) rfl rfl (fun w' hw' => hb2.on hw'.below) Try.underlying22 hszz ?_) | (refine wpQuiet_storeSame rfl 29 _ _ rfl rfl (xs := vb Z) rfl (fun w' hw' => hb12.on hw'.below) (vb_one _) hszZ ?_) | (refine wpQuiet_storeSame rfl 22 _ _ rfl rfl (xs := vb zero16) rfl (fun w' hw' => hb2.on hw'.below) (vb_one _) hszz ?_) | (refine wpQuiet_step (fun K hK => ?_); go_simp; first | (refine hK _ ?_; clear hK K) | (apply Exists.intro; refine ⟨?_, hK _ ?_⟩; (· (intro w' hw'; first | fail | (have hcw := hw'.cell; go_simp; exact rfl))); clear hK K)))
    refine wpQuiet_nil ?_
    intro wq hq
    clear inbNe inbW inbU
    have m4 := hb12.on hq.below
    have m5 := hb2.on hq.below
    have bq := bt bt2 hq.below
    go_wp2
    refine bodyPost_ret (v := .tuple #[arrV (vb Z), arrV (vb zero16), .int .i64 4]) (results_arr3 Try.results39 _ m4 m5 Try.underlying29 Try.underlying22 hszZ hszz rfl rfl rfl) rfl ⟨⟨Z, zero16, rfl, HZ.out, rfl, fun h => absurd h H16.out⟩, bq⟩
set_option maxHeartbeats 400000 in
theorem right_any (A B : Option Addr) (n c m d : Nat) (w : World) (hn : n ≤ 1000000000) (hm : m ≤ 1000000000) :
    Calls Try.prog 40 #[.slice A n c, .slice B m d] w fun e w' => e = .returned (.bool (decide (n = 32 ∧ m = 16))) ∧ w = w' := by
  obtain ⟨r, hr⟩ : ∃ r, r = decide (n = 32 ∧ m = 16) := ⟨_, rfl⟩
  rw [← hr]
  by_cases h1 : n = 32
  · by_cases h2 : m = 16
    · obtain rfl : r = true := by rw [hr]; simp [h1, h2]
      clear hr
      subst h1 h2
      go_enter Try.func40, Try.ntmps40
      go_wp2
      go_ret
      exact ⟨rfl, rfl⟩
    · obtain rfl : r = false := by rw [hr]; simp [h2]
      have e2 : ((m : Int) == 16) = false := beq_no (by omega)
      subst h1
      clear h2 hr
      go_enter Try.func40, Try.ntmps40
      go_wp2
      go_ret
      exact ⟨rfl, rfl⟩
  · obtain rfl : r = false := by rw [hr]; simp [h1]
    have e1 : ((n : Int) == 32) = false := beq_no (by omega)
    clear h1 hr
    go_enter Try.func40, Try.ntmps40
    go_wp2
    go_ret
    exact ⟨rfl, rfl⟩
set_option maxHeartbeats 1000000 in
theorem counter_any (b off : Nat) (nonce : List UInt8) (d : Nat) (n : Nat) (i : Int) (hi : i = (n : Int)) (w : World) (h16 : nonce.length = 16) (hn : n ≤ 1000000000) (hd : 16 ≤ d) (hdm : d ≤ maxLen)
    (hq : Rd w w.heap.size (some ⟨b, off, none⟩) (nonce.map e8)) :
    Calls Try.prog 41 #[.slice (some ⟨b, off, none⟩) 16 d, .int .i64 i] w fun e w' => e = .returned (arrV (vb (later nonce n))) ∧ Below w.heap.size w w' := by
  subst hi
  unfold maxLen at hdm
  have hz16 : zero16.length = 16 := rfl
  have Hz := Lib.hid hz16
  have H16 := Lib.hid h16
  have hll : (later nonce n).length = 16 := by rw [later_len, h16]
  have Hll := Lib.hid hll
  have hszl := sizeL hll
  clear hz16 hll h16
  go_enter Try.func41, Try.ntmps41
  go_wp2_with (first
    | ((with_reducible show wpList _ _ _ (⟨some 4, _, _, _, _, _⟩ :: _) _ _); refine wpList_allocN rfl _ rfl (vb zero16) zeroV16 ?_; intro w1 hb1 bw1 hs1)
    | ((with_reducible show wpList _ _ _ (⟨some 5, _, _, _, _, _⟩ :: _) _ _); refine wpList_allocN rfl _ rfl (vb zero16) zeroV16 ?_; intro w2 hb2 bw2 hs2; have hb12 := hb1.on bw2; have bt2 := bt bw1 bw2)
    | fail)
  have l01 : w.heap.size < w1.heap.size := hs1
  obtain ⟨B1, hB1⟩ : ∃ B, B = w1.heap.size := ⟨_, rfl⟩
  rw [← hB1] at hb2 l01 ⊢
  clear hB1 hb1 bw1 bw2 hs1 hs2
  go_loopw [6] (fun i wr => ∃ k : Nat, k ≤ 16 ∧ i = .int .i64 k ∧ Blk wr w.heap.size (vb zero16) ∧ Blk wr B1 (vb (Aes.part nonce zero16 k)) ∧ Below w.heap.size w wr) (fun i _ => 16 - (intOf i).toNat)
  case atStart => exact ⟨0, by omega, rfl, hb12, by rw [part_zero]; exact hb2, bt2⟩
  case round =>
    obtain ⟨k, hk, rfl, d0, d1, bt0⟩ := hrel
    clear hb12 hb2 bt2
    by_cases hlt : k < 16
    · have hset := Lib.hid (part_set nonce zero16 k 16 H16.out Hz.out hlt)
      have hcell := col_rd (hq.on bt0) k (by rw [H16.out]; exact hlt)
      have hbl := rd_lt (hq.on bt0) (by rw [H16.out]; omega)
      have hct := Blk.byte d1 (k := k) (by rw [part_len _ _ k 16 H16.out Hz.out (by omega)]; exact hlt)
      have hf := d1.free k
      have hB := d1.lt
      have hkI : (k : Int) < 16 := by omega
      obtain ⟨x, hx⟩ : ∃ x, x = nonce.getD k 0 := ⟨_, rfl⟩
      rw [← hx] at hcell hset
      clear hx
      go_wp2
      go_roundw
      case rel =>
        have hbs := d1.set (k := k) (e8 x)
        rw [vb_set, hset.out] at hbs
        exact ⟨k + 1, by omega, by go_num, d0.other _ (by omega), hbs, bset bt0 (by omega) _⟩
      case measure => simp [intOf]; omega
    · obtain rfl : k = 16 := by omega
      rw [part_all _ _ 16 H16.out Hz.out] at d1
      have hl0 := Lib.hid (show later nonce n = later (nonce.take 16) n ++ [] by rw [List.take_of_length_le (by rw [H16.out]; omega), List.append_nil])
      go_wp2
      go_loopw [7, 8] (fun v i wx => ∃ (j m : Nat) (i1 : Int) (suf : List UInt8), j ≤ 16 ∧ i1 = (j : Int) - 1 ∧ m ≤ 1000000000 ∧ suf.length = 16 - j ∧ v = .int .i64 m ∧ i = .int .i64 i1 ∧ Hid (later nonce n = later (nonce.take j) m ++ suf) ∧ Blk wx w.heap.size (vb zero16) ∧ Blk wx B1 (vb (nonce.take j ++ suf)) ∧ Below w.heap.size w wx) (fun _ i _ => (intOf i + 1).toNat)
      case atStart => exact ⟨16, n, 15, [], by omega, by omega, hn, rfl, rfl, rfl, hl0, d0, by rw [List.take_of_length_le (by rw [H16.out]; omega), List.append_nil]; exact d1, bt0⟩
      case round =>
        obtain ⟨j, m, i1, suf, hj, hi1, hm, hsl, rfl, rfl, hla, e0, e1, bx⟩ := hrel
        clear d0 d1 bt0
        rcases Nat.eq_zero_or_pos j with h0 | h0
        · subst h0
          have hneg : ¬ (0 : Int) ≤ i1 := by omega
          have hneg' : i1 < 0 := by omega
          clear hi1
          have hres := hla.out
          rw [show (nonce.take 0) = [] from rfl, later_nil, List.nil_append] at hres
          rw [show (nonce.take 0) = [] from rfl, List.nil_append, ← hres] at e1
          clear hres hsl
          go_wp2_with (first
            | ((with_reducible show wpList _ _ _ (⟨some 37, _, _, _, _, _⟩ :: _) _ _); refine wpList_loadA rfl _ _ rfl rfl e1 Try.underlying22 hszl ?_)
            | ((with_reducible show wpList _ _ _ (⟨none, .store 22 _ _, _, _, _, _⟩ :: _) _ _); refine wpList_storeN rfl _ _ _ rfl rfl (ys := vb (later nonce n)) rfl e0 (by rw [vb_len, vb_len, Hll.out]; rfl) (vb_one _) hszl ?_; intro w9 hb9 hg9)
            | fail)
          exact bodyPost_ret (v := arrV (vb (later nonce n))) (results_arr Try.results41 _ hb9 Try.underlying22 hszl rfl) rfl ⟨rfl, below_row bx hg9 (by omega) bx.size⟩
        · obtain ⟨k, rfl⟩ : ∃ k, j = k + 1 := ⟨j - 1, by omega⟩
          obtain rfl : i1 = (k : Int) := by omega
          have hk16 : k < nonce.length := by rw [H16.out]; omega
          have hlen1 : (nonce.take (k + 1) ++ suf).length = 16 := by rw [List.length_append, List.length_take, hsl, H16.out]; omega
          have hcell := Blk.byte e1 (k := k) (by rw [hlen1]; omega)
          rw [get_mid nonce _ k hk16] at hcell
          have hset := set_mid nonce suf k
          have hon := later_on nonce suf k n m hk16 hla.out
          have hf := e1.free k
          have hlt0 := e1.lt
          have hkI : (k : Int) < 16 := by omega
          obtain ⟨x, hx⟩ : ∃ x, x = nonce.getD k 0 := ⟨_, rfl⟩
          rw [← hx] at hcell hon
          have hx8 := x.toNat_lt
          obtain ⟨s, hs⟩ : ∃ s, s = m + x.toNat := ⟨_, rfl⟩
          rw [← hs] at hon
          have hss : IntKind.i64.wrap ((m : Int) + (x.toNat : Int)) = (s : Int) := by rw [IntKind.wrap_i64]; omega
          have hsx : IntKind.i64.wrap (x.toNat : Int) = (x.toNat : Int) := by rw [IntKind.wrap_i64]; omega
          obtain ⟨y, hy⟩ : ∃ y, y = UInt8.ofNat s := ⟨_, rfl⟩
          obtain ⟨r, hr⟩ : ∃ r, r = s % 256 := ⟨_, rfl⟩
          obtain ⟨q, hq2⟩ : ∃ q, q = s / 256 := ⟨_, rfl⟩
          have tr : ((s : Int)).tmod 256 = (r : Int) := by rw [Int.tmod_eq_emod_of_nonneg (by omega)]; omega
          have tq : ((s : Int)).tdiv 256 = (q : Int) := by rw [Int.tdiv_eq_ediv_of_nonneg (by omega)]; omega
          have wq : IntKind.i64.wrap (q : Int) = (q : Int) := by rw [IntKind.wrap_i64]; omega
          have wr8 : IntKind.u8.wrap (r : Int) = (y.toNat : Int) := by
            rw [IntKind.wrap_u8', hy]; simp; omega
          rw [← hy, ← hq2] at hon
          have hset' := Lib.hid (set_mid nonce suf k y hk16)
          have Hon := Lib.hid hon
          have hqm : q ≤ 1000000000 := by omega
          have Hsl := Lib.hid hsl
          clear hx hs hy hr hq2 hon hlen1 hset hi1 hsl
          go_wp2
          go_roundw
          case rel =>
            have hbs := e1.set (k := k) (e8 y)
            rw [vb_set, hset'.out] at hbs
            exact ⟨k, q, (k : Int) - 1, y :: suf, by omega, rfl, hqm, by rw [List.length_cons, Hsl.out]; omega, rfl, by go_num, Hon, e0.other _ (by omega), hbs, bset bx (by omega) _⟩
          case measure => simp [intOf] <;> omega
end Go.Proofs.Yteecbjpnnklbpaa.Ctr
