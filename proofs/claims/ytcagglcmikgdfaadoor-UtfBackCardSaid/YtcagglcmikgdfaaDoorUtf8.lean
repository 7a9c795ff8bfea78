/- The walks of the reference's Count, Cut and Fold, and of the program's Fold. -/
import Derived.Test.YtcagglcmikgdfaaDoorUtf7
import Derived.Lib.MinMax
import Derived.Laws.Cover4
namespace Go.Proofs.YtcagglcmikgdfaaDoor.Utf
open Go.RowKit Go.Shelf
set_option linter.unusedVariables false
set_option maxRecDepth 100000
theorem rcount_any (s : List UInt8) (w : World) (hl : s.length ≤ 1000000) : Calls Tryd.prog 13 #[.string ⟨s.toArray⟩] w fun e w' => e = .returned (.int .i64 (countL s)) ∧ Below w.heap.size w w' := by
  have hru := rrunes_any s w hl
  obtain ⟨C, hC⟩ : ∃ C, C = countL s := ⟨_, rfl⟩
  rw [← hC]
  obtain ⟨S, hS⟩ : ∃ S : ByteArray, S = ⟨s.toArray⟩ := ⟨_, rfl⟩
  rw [← hS] at hru ⊢
  by_cases hw : (scan s).2 = s.length
  · rw [show runesR s = ((scan s).1, 0, 0) from if_pos hw] at hru
    have hCs := Lib.hid (show C = ((scan s).1.length : Int) from hC.trans (if_pos hw))
    obtain ⟨rs, hrs⟩ : ∃ rs, rs = (scan s).1 := ⟨_, rfl⟩
    rw [← hrs] at hru hCs
    have Hru := Lib.hid hru
    clear hS hru hC hw hrs
    go_enter Tryd.func13, Tryd.ntmps13
    go_wp2_with (go_at_call 8; refine (Hru.out).mono ?_; rintro e w2 ⟨v2, rfl, own2, b2⟩; obtain ⟨A2, c2, rfl⟩ := own_form own2)
    go_ret
    exact ⟨ret_int hCs.out.symm, b2⟩
  · rw [show runesR s = ([], (scan s).2, 4) from if_neg hw] at hru
    have hCs := Lib.hid (show C = -1 from hC.trans (if_neg hw))
    have Hru := Lib.hid hru
    clear hS hru hC hw
    go_enter Tryd.func13, Tryd.ntmps13
    go_wp2_with (go_at_call 8; refine (Hru.out).mono ?_; rintro e w2 ⟨v2, rfl, own2, b2⟩; obtain ⟨A2, c2, rfl⟩ := own_form own2)
    go_ret
    exact ⟨ret_int hCs.out.symm, b2⟩
theorem nat_cells (rs : List Nat) : rs.map e32 = (rs.map (fun r => ((r : Nat) : Int))).map (Value.int .i32) := by rw [List.map_map]; rfl
theorem textZ_nat (rs : List Nat) (h : ∀ r ∈ rs, right r = true) : textZ (rs.map (fun r => ((r : Nat) : Int))) = (encs rs, 0, 0) := by
  rw [textZ_good (fun r hr => by
    obtain ⟨x, hx, rfl⟩ := List.mem_map.1 hr
    rw [ri_right]; exact h x hx), List.map_map]
  have : (fun r => Int.toNat ((r : Nat) : Int)) = (id : Nat → Nat) := by funext r; simp
  rw [show (Int.toNat ∘ fun r => ((r : Nat) : Int)) = id from this, List.map_id]
set_option maxHeartbeats 1000000 in
theorem rcut_any (s : List UInt8) (n : Int) (w : World) (hl : s.length ≤ 1000000) (hn0 : -9223372036854775808 ≤ n) (hn1 : n ≤ 9223372036854775807) : Calls Tryd.prog 15 #[.string ⟨s.toArray⟩, .int .i64 n] w fun e w' => e = .returned (.string ⟨(cutL s n).toArray⟩) ∧ Below w.heap.size w w' := by
  have hru := rrunes_any s w hl
  obtain ⟨C, hC⟩ : ∃ C, C = cutL s n := ⟨_, rfl⟩
  rw [← hC]
  have key : ∃ rs : List Nat, (runesR s).1 = rs ∧ (∀ r ∈ rs, right r = true) ∧ rs.length ≤ s.length ∧ (¬ n < 1 → C = encs (rs.take n.toNat)) := by
    by_cases hw : (scan s).2 = s.length
    · refine ⟨(scan s).1, by rw [show runesR s = ((scan s).1, 0, 0) from if_pos hw], scan_right _ s (Nat.le_refl _), (scan_le _ s (Nat.le_refl _)).2.1, fun h => hC.trans (if_neg (fun g => g.elim h (fun g => g hw)))⟩
    · refine ⟨[], by rw [show runesR s = ([], (scan s).2, 4) from if_neg hw], by simp, by simp, fun h => (hC.trans (if_pos (.inr hw))).trans (by rw [List.take_nil]; rfl)⟩
  obtain ⟨rs, h1, h2, h3, h4⟩ := key
  obtain ⟨at', hat⟩ : ∃ a, a = (runesR s).2.1 := ⟨_, rfl⟩
  obtain ⟨f, hf⟩ : ∃ f, f = (runesR s).2.2 := ⟨_, rfl⟩
  rw [h1, ← hat, ← hf] at hru
  obtain ⟨S, hS⟩ : ∃ S : ByteArray, S = ⟨s.toArray⟩ := ⟨_, rfl⟩
  rw [← hS] at hru ⊢
  have Hru := Lib.hid hru
  clear hS hru h1 hat hf
  by_cases hn : n < 1
  · have hCs : C = [] := hC.trans (if_pos (.inl hn))
    subst hCs
    clear hC h4
    go_enter Tryd.func15, Tryd.ntmps15
    go_wp2_with (go_at_call 8; refine (Hru.out).mono ?_; rintro e w2 ⟨v2, rfl, own2, b2⟩; obtain ⟨A2, c2, rfl⟩ := own_form own2)
    go_ret
    exact ⟨rfl, b2⟩
  · obtain ⟨N, rfl⟩ : ∃ N : Nat, n = (N : Int) := ⟨n.toNat, by omega⟩
    have hCs := Lib.hid (h4 hn)
    rw [Int.toNat_natCast] at hCs
    obtain ⟨m, hm⟩ : ∃ m, m = min N rs.length := ⟨_, rfl⟩
    have hmI : min (N : Int) (rs.length : Int) = (m : Int) := by omega
    have hml : m ≤ rs.length := by omega
    have htm := Lib.hid (show textZ ((rs.take m).map (fun r => ((r : Nat) : Int))) = (C, 0, 0) by
      rw [textZ_nat _ (fun r hr => h2 r (List.mem_of_mem_take hr)), hCs.out, hm]
      congr 2
      rcases Nat.le_total N rs.length with h | h
      · rw [Nat.min_eq_left h]
      · rw [Nat.min_eq_right h, List.take_of_length_le (Nat.le_refl _), List.take_of_length_le h])
    have htx := Lib.hid (fun (A : Option Addr) c W (hr : Rd W W.heap.size A ((rs.take m).map e32)) => rtext_any A ((rs.take m).map (fun r => ((r : Nat) : Int))) m c W (by rw [List.length_map, List.length_take]; omega) (by rw [← nat_cells]; exact hr) (by rw [List.length_map, List.length_take]; omega))
    rw [htm.out] at htx
    clear hC h4 hm
    go_enter Tryd.func15, Tryd.ntmps15
    go_wp2_with (first
      | (go_at_call 8; refine (Hru.out).mono ?_; rintro e w2 ⟨v2, rfl, own2, b2⟩; obtain ⟨A2, c2, rfl⟩ := own_form own2; have hcc := (own_cap own2).1; have hR2 := (show Rd w2 w2.heap.size A2 ((rs.take m).map e32) from by rw [List.map_take]; exact (Rd.own own2).take m))
      | (go_at_call 10; refine (htx.out _ _ _ hR2).mono ?_; rintro e w3 ⟨rfl, b3⟩))
    go_ret
    exact ⟨rfl, bt b2 b3⟩
theorem low_nat (r : Nat) : ((low r : Nat) : Int) = if upB (r : Int) = true then (r : Int) + 32 else (r : Int) := by
  unfold low; split <;> simp
set_option maxHeartbeats 1000000 in
theorem rfold_any (s : List UInt8) (w : World) (hl : s.length ≤ 1000000) : Calls Tryd.prog 17 #[.string ⟨s.toArray⟩] w fun e w' => e = .returned (.string ⟨(foldL s).toArray⟩) ∧ Below w.heap.size w w' := by
  obtain ⟨i0, hi0, hz0, hz1, hz2⟩ := info_parts info32
  have hru := rrunes_any s w hl
  obtain ⟨C, hC⟩ : ∃ C, C = foldL s := ⟨_, rfl⟩
  rw [← hC]
  have key : ∃ rs : List Nat, (runesR s).1 = rs ∧ (∀ r ∈ rs, right r = true) ∧ rs.length ≤ s.length ∧ C = encs (rs.map low) := by
    by_cases hw : (scan s).2 = s.length
    · exact ⟨(scan s).1, by rw [show runesR s = ((scan s).1, 0, 0) from if_pos hw], scan_right _ s (Nat.le_refl _), (scan_le _ s (Nat.le_refl _)).2.1, hC.trans (if_pos hw)⟩
    · exact ⟨[], by rw [show runesR s = ([], (scan s).2, 4) from if_neg hw], by simp, by simp, hC.trans (if_neg hw)⟩
  obtain ⟨rs, h1, h2, h3, h4⟩ := key
  obtain ⟨at', hat⟩ : ∃ a, a = (runesR s).2.1 := ⟨_, rfl⟩
  obtain ⟨f, hf⟩ : ∃ f, f = (runesR s).2.2 := ⟨_, rfl⟩
  rw [h1, ← hat, ← hf] at hru
  obtain ⟨S, hS⟩ : ∃ S : ByteArray, S = ⟨s.toArray⟩ := ⟨_, rfl⟩
  rw [← hS] at hru ⊢
  have Hru := Lib.hid hru
  have htm := Lib.hid (show textZ ((rs.map low).map (fun r => ((r : Nat) : Int))) = (C, 0, 0) by
    rw [textZ_nat _ (fun r hr => by
      obtain ⟨x, hx, rfl⟩ := List.mem_map.1 hr
      exact low_right (h2 x hx)), h4])
  have htx := Lib.hid (fun (A : Option Addr) c W (hr : Rd W W.heap.size A ((rs.map low).map e32)) => rtext_any A ((rs.map low).map (fun r => ((r : Nat) : Int))) rs.length c W (by simp) (by rw [← nat_cells]; exact hr) (by simp; omega))
  rw [htm.out] at htx
  have hup := Lib.hid (fun r W => rupper_any r W)
  have H2 := Lib.hid h2
  clear hS hru h1 hat hf hC h4 h2
  go_enter Tryd.func17, Tryd.ntmps17
  go_wp2_with (go_at_call 8; refine (Hru.out).mono ?_; rintro e w2 ⟨v2, rfl, own2, b2⟩; obtain ⟨A2, c2, rfl⟩ := own_form own2)
  have hR2 := Rd.own own2
  clear own2
  go_wp2_with fail
  go_loopw [6, 7, 8] (fun v i _ wr => ∃ k : Nat, k ≤ rs.length ∧ i = .int .i64 (k : Int) ∧ wr.ownsRow w2.heap.size 21 1 v k (((rs.take k).map low).map e32) ∧ Below w2.heap.size w2 wr) (fun _ i _ _ => rs.length - (intOf i).toNat)
  case atStart => exact ⟨0, by omega, rfl, own_nil _ _ _ _, Below.refl _ _⟩
  case round =>
    obtain ⟨k, hk, rfl, hown, bel⟩ := hrel
    by_cases hlt : k < rs.length
    · obtain ⟨b, off, rfl, hbb, hcell⟩ := (hR2.below bel).get (k := k) (by simpa using hlt)
      rw [List.getElem_map] at hcell
      have hrr := right_le (H2.out rs[k] (List.getElem_mem hlt))
      have htk : ((rs.take (k + 1)).map low).map e32 = ((rs.take k).map low).map e32 ++ [e32 (low rs[k])] := by rw [List.take_succ_eq_append_getElem hlt, List.map_append, List.map_append]; rfl
      obtain ⟨r, hr'⟩ : ∃ r, r = rs[k] := ⟨_, rfl⟩
      rw [← hr'] at hcell htk hrr
      have Htk := Lib.hid htk
      clear hr' htk
      have hkI : (k : Int) < (rs.length : Int) := by omega
      have hv := hup.out (r : Int)
      have hll := Lib.hid (low_nat r)
      have hw1 : wrap64 ((k : Int) + 1) = (k : Int) + 1 := by unfold wrap64; omega
      cases hub : upB (r : Int) with
      | false =>
        have hle := Lib.hid (show e32 (low r) = e32 r from congrArg (Value.int .i32) (by rw [hll.out, hub]; rfl))
        rw [hub] at hv
        have Hv := Lib.hid hv
        clear hv hub
        go_wp2_with (first
          | (go_at_call 21; refine (Hv.out _).mono ?_; rintro e w3 ⟨rfl, rfl⟩)
          | (at_builtin; refine wpList_append_rd _ rfl _ _ _ rfl w2.heap.size 21 i0 _ 1 4 Tryd.underlying22 hi0 hz0 hz1 hz2 rfl (by omega) _ k _ rfl (hown.alloc _) _ _ 1 1 [e32 r] rfl rfl (Rd.lit wr _ _ _ (wr.heap.size + 1) rfl (by omega)) (by intro u hu; simp at hu; subst hu; rfl) (by simp only [maxLen]; omega) (by omega) (le_alloc bel.size _) ?_; intro v4 w4 hown4 hg4 hat4))
        go_roundw
        case rel => exact ⟨k + 1, by omega, by go_num, by rw [Htk.out, hle.out]; exact hown4, (bel.alloc bel.size _).grown hg4 (le_alloc bel.size _) (fun g hg => own_block hown hg)⟩
        case measure => simp [intOf]; omega
      | true =>
        have hle := Lib.hid (show e32 (low r) = .int .i32 ((r : Int) + 32) from congrArg (Value.int .i32) (by rw [hll.out, hub]; rfl))
        have hw32 : wrap32 ((r : Int) + 32) = (r : Int) + 32 := w32 (by omega) (by omega)
        rw [hub] at hv
        have Hv := Lib.hid hv
        clear hv hub
        go_wp2_with (first
          | (go_at_call 21; refine (Hv.out _).mono ?_; rintro e w3 ⟨rfl, rfl⟩)
          | (at_builtin; refine wpList_append_rd _ rfl _ _ _ rfl w2.heap.size 21 i0 _ 1 4 Tryd.underlying22 hi0 hz0 hz1 hz2 rfl (by omega) _ k _ rfl (hown.alloc _) _ _ 1 1 [.int .i32 ((r : Int) + 32)] rfl rfl (Rd.lit wr _ _ _ (wr.heap.size + 1) rfl (by omega)) (by intro u hu; simp at hu; subst hu; rfl) (by simp only [maxLen]; omega) (by omega) (le_alloc bel.size _) ?_; intro v4 w4 hown4 hg4 hat4))
        go_roundw
        case rel => exact ⟨k + 1, by omega, by go_num, by rw [Htk.out, hle.out]; exact hown4, (bel.alloc bel.size _).grown hg4 (le_alloc bel.size _) (fun g hg => own_block hown hg)⟩
        case measure => simp [intOf]; omega
    · obtain rfl : k = rs.length := by omega
      rw [List.take_length] at hown
      obtain ⟨Av, cv, rfl⟩ := own_form hown
      have hRv := Rd.own hown
      go_wp2_with (go_at_call 10; refine (htx.out _ _ _ hRv).mono ?_; rintro e w3 ⟨rfl, b3⟩)
      go_ret
      exact ⟨rfl, bt (bt b2 bel) b3⟩
theorem fold1_any (r : Nat) (hr : r ≤ 1114111) (w : World) : Calls Tryd.prog 30 #[.int .i32 (r : Int)] w fun e w' => e = .returned (e32 (low r)) ∧ w = w' := by
  have hv := upper_any (r : Int) w
  have hll := Lib.hid (low_nat r)
  cases hub : upB (r : Int) with
  | false =>
    have hle := Lib.hid (show e32 (low r) = .int .i32 (r : Int) from congrArg (Value.int .i32) (by rw [hll.out, hub]; rfl))
    rw [hub] at hv
    have Hv := Lib.hid hv
    obtain ⟨V, hV⟩ : ∃ V, V = e32 (low r) := ⟨_, rfl⟩
    rw [← hV] at hle ⊢
    clear hv hub hV
    go_enter Tryd.func30, Tryd.ntmps30
    go_wp2_with (go_at_call 20; refine (Hv.out).mono ?_; rintro e w3 ⟨rfl, rfl⟩)
    go_ret
    rw [hle.out]
    exact ⟨rfl, rfl⟩
  | true =>
    have hle := Lib.hid (show e32 (low r) = .int .i32 ((r : Int) + 32) from congrArg (Value.int .i32) (by rw [hll.out, hub]; rfl))
    have hw32 : wrap32 ((r : Int) + 32) = (r : Int) + 32 := w32 (by omega) (by omega)
    rw [hub] at hv
    have Hv := Lib.hid hv
    obtain ⟨V, hV⟩ : ∃ V, V = e32 (low r) := ⟨_, rfl⟩
    rw [← hV] at hle ⊢
    clear hv hub hV
    go_enter Tryd.func30, Tryd.ntmps30
    go_wp2_with (go_at_call 20; refine (Hv.out).mono ?_; rintro e w3 ⟨rfl, rfl⟩)
    go_ret
    rw [hle.out]
    exact ⟨rfl, rfl⟩
theorem utf8_enc {r : Nat} (h : right r = true) : Utf8.encode (r : Int) = ⟨(enc r).toArray⟩ := by
  unfold Utf8.encode enc
  rw [valid_eq, h]
  simp only [if_true, Int.toNat_natCast]
  split
  · rfl
  · split
    · rfl
    · split <;> rfl
theorem runesBytes_eq (rs : List Nat) (h : ∀ r ∈ rs, right r = true) : runesBytes (rs.map (fun r => ((r : Nat) : Int))) = ⟨(encs rs).toArray⟩ := by
  have key : ∀ (rs : List Nat) (acc : List UInt8), (∀ r ∈ rs, right r = true) → (rs.map (fun r => ((r : Nat) : Int))).foldl (fun r n => r ++ Utf8.encode n) (⟨acc.toArray⟩ : ByteArray) = ⟨(acc ++ encs rs).toArray⟩ := by
    intro rs
    induction rs with
    | nil => intro acc _; simp [encs]
    | cons r rs ih =>
      intro acc h
      rw [List.map_cons, List.foldl_cons, utf8_enc (h r (List.mem_cons_self ..)), ba_append, ih _ (fun x hx => h x (List.mem_cons_of_mem _ hx)), encs_cons, List.append_assoc]
  have e : ByteArray.empty = ⟨([] : List UInt8).toArray⟩ := rfl
  unfold runesBytes
  rw [e]
  simpa using key rs [] h
theorem conv_runes {w : World} {A : Option Addr} {c : Nat} {rs : List Nat} (hr : Rd w w.heap.size A (rs.map e32)) (h : ∀ r ∈ rs, right r = true) : (convert 22 9 (.slice A rs.length c)).run Tryd.prog w = .ok (.string ⟨(encs rs).toArray⟩) w := by
  rw [run_convert_runes_string (P := Tryd.prog) w 22 9 21 A rs.length c Tryd.underlying22 Tryd.underlying21 Tryd.underlying9]
  cases A with
  | none =>
    have hn : rs = [] := by
      cases rs with
      | nil => rfl
      | cons a l => obtain ⟨b, off, h, _⟩ := hr (by simp); cases h
    subst hn
    simp [Conv.runesToString, go_sem, encs]
    rfl
  | some a =>
    rw [run_runesToString w a rs.length c (rs.map (fun r => ((r : Nat) : Int))), runesBytes_eq rs h]
    have := run_loadCells_list (P := Tryd.prog) (w := w) a (rs.map e32) (fun j v hj => by
      obtain ⟨hj', rfl⟩ := List.getElem?_eq_some_iff.1 hj
      obtain ⟨b, off, h1, _, hc⟩ := hr (by intro e; rw [e] at hj'; exact absurd hj' (by simp))
      injection h1 with h1
      subst h1
      rw [Addr.add_lit]
      exact hc j hj')
    rw [List.length_map, nat_cells] at this
    exact this
set_option maxHeartbeats 1000000 in
theorem fold_any (s : List UInt8) (w : World) (hl : s.length ≤ 1000000) (hT : Tabs w) : Calls Tryd.prog 16 #[.string ⟨s.toArray⟩] w fun e w' => e = .returned (.string ⟨(foldL s).toArray⟩) ∧ Below w.heap.size w w' := by
  have hru := runes_any s w hl hT
  have hval : ∀ w, Sem.run Tryd.prog (callFunc 30 #[]) w = .ok (.enter 30 #[]) w := by intro w; simp [go_sem]
  obtain ⟨C, hC⟩ : ∃ C, C = foldL s := ⟨_, rfl⟩
  rw [← hC]
  obtain ⟨S, hS⟩ : ∃ S : ByteArray, S = ⟨s.toArray⟩ := ⟨_, rfl⟩
  by_cases hw : (scan s).2 = s.length
  · rw [show runesR s = ((scan s).1, 0, 0) from if_pos hw] at hru
    have hCs := Lib.hid (show C = encs ((scan s).1.map low) from hC.trans (if_pos hw))
    have h2 := scan_right _ s (Nat.le_refl _)
    have h3 := (scan_le _ s (Nat.le_refl _)).2.1
    obtain ⟨rs, hrs⟩ : ∃ rs, rs = (scan s).1 := ⟨_, rfl⟩
    rw [← hS] at hru ⊢
    rw [← hrs] at hru hCs h2 h3
    have Hru := Lib.hid hru
    have H2 := Lib.hid h2
    have hf1 := Lib.hid (fun r (hr : r ≤ 1114111) W => fold1_any r hr W)
    clear hS hru hC hw hrs h2
    go_enter Tryd.func16, Tryd.ntmps16
    go_wp2_with (go_at_call 7; refine (Hru.out).mono ?_; rintro e w2 ⟨v2, rfl, own2, b2⟩; obtain ⟨A2, c2, rfl⟩ := own_form own2)
    go_loopw [19] (fun i wr => ∃ k : Nat, k ≤ rs.length ∧ i = .int .i64 (k : Int) ∧ wr.ownsRow w.heap.size 21 1 (.slice A2 rs.length c2) rs.length (((rs.take k).map low ++ rs.drop k).map e32) ∧ Below w.heap.size w wr) (fun i _ => rs.length - (intOf i).toNat)
    case atStart => exact ⟨0, by omega, rfl, by simpa using own2, b2⟩
    case round =>
      clear own2
      obtain ⟨k, hk, rfl, hown, bel⟩ := hrel
      by_cases hlt : k < rs.length
      · obtain ⟨g, c, e, hg⟩ := own_some hown (by omega)
        injection e with e1 e2 e3
        subst e1 e3
        have hce := (World.ownsRow.cellAt hown (j := k) (by simp; omega))
        have hfr := World.ownsRow.frozenAt hown
        have hset := World.ownsRow.stored hown k (e32 (low rs[k]))
        have hsl : (((rs.take k).map low ++ rs.drop k).map e32).set k (e32 (low rs[k])) = ((rs.take (k + 1)).map low ++ rs.drop (k + 1)).map e32 := by
          apply List.ext_getElem?
          intro j
          rw [List.getElem?_set]
          by_cases hj : k = j
          · subst hj
            rw [if_pos rfl, if_pos (by simp; omega)]
            simp [List.getElem?_append, hlt, show k < min (k + 1) rs.length by omega]
          · rw [if_neg hj]
            simp only [List.getElem?_map, List.getElem?_append, List.length_map, List.length_take, List.getElem?_take, List.getElem?_drop]
            by_cases h1 : j < k
            · rw [if_pos (by omega), if_pos (by omega), if_pos (by omega), if_pos (by omega)]
            · rw [if_neg (by omega), if_neg (by omega), show k + (j - min k rs.length) = j by omega, show k + 1 + (j - min (k + 1) rs.length) = j by omega]
        rw [hsl] at hset
        have hc2 : wr.cell? ⟨g, k, none⟩ = some (e32 rs[k]) := by
          rw [hce]
          simp [List.getElem?_append, List.getElem?_drop, show ¬ k < min k rs.length by omega, show k + (k - min k rs.length) = k by omega, hlt]
        have hrr := (right_le (H2.out rs[k] (List.getElem_mem hlt))).1
        obtain ⟨r, hr'⟩ : ∃ r, r = rs[k] := ⟨_, rfl⟩
        rw [← hr'] at hset hc2 hrr
        have hf2 := Lib.hid (hf1.out r hrr)
        have hkI : (k : Int) < (rs.length : Int) := by omega
        have hw1 : wrap64 ((k : Int) + 1) = (k : Int) + 1 := by unfold wrap64; omega
        obtain ⟨q, hq⟩ : ∃ q, q = low r := ⟨_, rfl⟩
        rw [← hq] at hset hf2
        have Hset := Lib.hid hset
        clear hr' hq hce hsl hset
        go_wp2_with (go_at_call 30; refine (hf2.out _).mono ?_; rintro e w3 ⟨rfl, rfl⟩)
        go_roundw
        case rel => exact ⟨k + 1, by omega, by go_num, Hset.out.1, bset bel hg _⟩
        case measure => simp [intOf]; omega
      · obtain rfl : k = rs.length := by omega
        rw [List.take_length, List.drop_length, List.append_nil] at hown
        have hcv := conv_runes (c := c2) (rs := rs.map low) (Rd.own hown) (fun r hr => by
          obtain ⟨x, hx, rfl⟩ := List.mem_map.1 hr
          exact low_right (H2.out x hx))
        rw [List.length_map, ← hCs.out] at hcv
        go_wp2_with fail
        go_ret
        exact ⟨rfl, bel⟩
  · rw [show runesR s = ([], (scan s).2, 4) from if_neg hw] at hru
    have hCs : C = [] := hC.trans (if_neg hw)
    subst hCs
    rw [← hS] at hru ⊢
    have Hru := Lib.hid hru
    clear hS hru hC hw
    go_enter Tryd.func16, Tryd.ntmps16
    go_wp2_with (go_at_call 7; refine (Hru.out).mono ?_; rintro e w2 ⟨v2, rfl, own2, b2⟩; obtain ⟨A2, c2, rfl⟩ := own_form own2)
    go_ret
    exact ⟨rfl, b2⟩
end Go.Proofs.YtcagglcmikgdfaaDoor.Utf
