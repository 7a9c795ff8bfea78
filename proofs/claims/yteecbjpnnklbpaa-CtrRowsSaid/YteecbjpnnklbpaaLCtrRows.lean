/- CtrRows: for every input the law returns true: the next one of any counter, any block, and any rows. No condition. -/
import Derived.Test.YteecbjpnnklbpaaCtr7
import Derived.Test.YteecbjpnnklbpaaCtr8
import Derived.Test.YteecbjpnnklbpaaRef01
import Derived.Test.YteecbjpnnklbpaaOpen
import Derived.Test.YteecbjpnnklbpaaRegion
import Derived.Deep.RegionHeld3
namespace Go.Proofs.Yteecbjpnnklbpaa.CtrRows
open Go.ChangeShapes Go.WideShapes Go.ChangeAt Go.RowKit Go.Joins
open Go.ChangeMaps (open_string shut_string)
open Go.Proofs.Yteecbjpnnklbpaa.Aes
open Go.Proofs.Yteecbjpnnklbpaa.Ctr
set_option linter.unusedVariables false

set_option maxRecDepth 100000 in
set_option maxHeartbeats 1600000 in
theorem walk (A : Option Addr) (l : List UInt8) (c : Nat) (B : Option Addr) (m : List UInt8) (d : Nat) (x : List UInt8) (i z : Int) (w : World)
    (ha : Rd w w.heap.size A (l.map e8)) (hc : l.length ≤ c) (hcm : c ≤ maxLen) (hb : Rd w w.heap.size B (m.map e8)) (hd : m.length ≤ d) (hdm : d ≤ maxLen) (hx : x.length = 16)
    (hi0 : -9223372036854775808 ≤ i) (hi1 : i ≤ 9223372036854775807) (hz0 : -9223372036854775808 ≤ z) (hz1 : z ≤ 9223372036854775807) :
    Calls Try.prog 6 #[.slice A l.length c, .slice B m.length d, arrV (vb x), .int .i64 i, .int .i64 z] w fun e w' => e = .returned (.bool true) ∧ Below w.heap.size w w' := by
  have hszx := sizeL hx
  have hal : ∀ w1, Blk w1 w.heap.size (vb x) → Below w.heap.size w w1 → Calls Try.prog 22 #[] w1 fun e w' => e = .returned (.bool true) ∧ Below w1.heap.size w1 w' := fun w1 _ _ => Ctr.alive_any w1
  by_cases h1 : 100 < l.length
  · go_enter Try.func6, Try.ntmps6
    go_wp2_with (first
      | ((with_reducible show wpList _ _ _ (⟨some 7, _, _, _, _, _⟩ :: _) _ _); refine wpList_boxN rfl _ _ rfl (vb x) rfl ?_; intro w1 hb1 bw1 hs1)
      | fail)
    refine (Ctr.alive_any _).mono ?_
    rintro e w2 ⟨rfl, b2⟩
    go_wp2_with fail
    go_ret
    exact ⟨rfl, bt bw1 b2⟩
  · by_cases h2 : 100 < m.length
    · go_enter Try.func6, Try.ntmps6
      go_wp2_with (first
        | ((with_reducible show wpList _ _ _ (⟨some 7, _, _, _, _, _⟩ :: _) _ _); refine wpList_boxN rfl _ _ rfl (vb x) rfl ?_; intro w1 hb1 bw1 hs1)
        | fail)
      refine (Ctr.alive_any _).mono ?_
      rintro e w2 ⟨rfl, b2⟩
      go_wp2_with fail
      go_ret
      exact ⟨rfl, bt bw1 b2⟩
    · by_cases h3 : 300 < i ∧ i ≤ 65535
      · obtain ⟨h3a, h3b⟩ := h3
        go_enter Try.func6, Try.ntmps6
        go_wp2_with (first
          | ((with_reducible show wpList _ _ _ (⟨some 7, _, _, _, _, _⟩ :: _) _ _); refine wpList_boxN rfl _ _ rfl (vb x) rfl ?_; intro w1 hb1 bw1 hs1)
          | fail)
        refine (Ctr.alive_any _).mono ?_
        rintro e w2 ⟨rfl, b2⟩
        go_wp2_with fail
        go_ret
        exact ⟨rfl, bt bw1 b2⟩
      · by_cases h4 : 200 < z ∧ z ≤ 65536
        · obtain ⟨h4a, h4b⟩ := h4
          by_cases h5 : 300 < i
          · have h5b : 65535 < i := by omega
            clear h3
            go_enter Try.func6, Try.ntmps6
            go_wp2_with (first
              | ((with_reducible show wpList _ _ _ (⟨some 7, _, _, _, _, _⟩ :: _) _ _); refine wpList_boxN rfl _ _ rfl (vb x) rfl ?_; intro w1 hb1 bw1 hs1)
              | fail)
            refine (Ctr.alive_any _).mono ?_
            rintro e w2 ⟨rfl, b2⟩
            go_wp2_with fail
            go_ret
            exact ⟨rfl, bt bw1 b2⟩
          · clear h3
            go_enter Try.func6, Try.ntmps6
            go_wp2_with (first
              | ((with_reducible show wpList _ _ _ (⟨some 7, _, _, _, _, _⟩ :: _) _ _); refine wpList_boxN rfl _ _ rfl (vb x) rfl ?_; intro w1 hb1 bw1 hs1)
              | fail)
            refine (Ctr.alive_any _).mono ?_
            rintro e w2 ⟨rfl, b2⟩
            go_wp2_with fail
            go_ret
            exact ⟨rfl, bt bw1 b2⟩
        · have p1 := Lib.hid (fun W (hW : Below w.heap.size w W) => at_any A B l m l.length c m.length d i W rfl rfl hc hcm hd hdm (ha.on hW) (hb.on hW) hi0 hi1)
          have p2 := Lib.hid (fun W (hW : Below w.heap.size w W) => rat_any A B l m l.length c m.length d i W rfl rfl hc hcm hd hdm (ha.on hW) (hb.on hW) hi0 hi1 (by omega) (by omega))
          have p3 := Lib.hid (fun W (hW : Below w.heap.size w W) => stream_any A B l m l.length c m.length d z W rfl rfl hc hcm hd hdm (ha.on hW) (hb.on hW) hz0 hz1)
          have p4 := Lib.hid (fun W (hW : Below w.heap.size w W) => rstream_any A B l m l.length c m.length d z W rfl rfl hc hcm hd hdm (ha.on hW) (hb.on hW) hz0 hz1 (by omega) (by omega))
          have p5 := Lib.hid (fun W => next_any x hx W)
          have p6 := Lib.hid (fun W => rnext_any x hx W)
          have hbl := atB_len l m i
          have hsl := strB_len l m z
          have hnl : (next x).length = 16 := by rw [next_len, hx]
          have e1 := eq16 (next x) hnl
          have f1 := grd16 .eql (next x) (next x)
          have e2 := eq16 (atB l m i) hbl
          have f2 := grd16 .eql (atB l m i) (atB l m i)
          obtain ⟨U, hU⟩ : ∃ U, U = arrV (vb (next x)) := ⟨_, rfl⟩
          obtain ⟨K, hK⟩ : ∃ K, K = atB l m i := ⟨_, rfl⟩
          obtain ⟨S, hS⟩ : ∃ K, K = strB l m z := ⟨_, rfl⟩
          obtain ⟨F, hF⟩ : ∃ K, K = atF l m i := ⟨_, rfl⟩
          obtain ⟨G, hG⟩ : ∃ K, K = strF l m z := ⟨_, rfl⟩
          rw [← hU] at p5 p6 e1 f1
          rw [← hK, ← hF] at p1 p2
          rw [← hK] at hbl e2 f2
          rw [← hS, ← hG] at p3 p4
          rw [← hS] at hsl
          have hszK := sizeL hbl
          have Hbl := Lib.hid hbl
          have Hsl := Lib.hid hsl
          clear hU hK hS hF hG hnl hbl hsl hx hal
          by_cases h5 : 300 < i
          · have h5b : ¬ i ≤ 65535 := by omega
            by_cases h6 : 200 < z
            · have h6b : ¬ z ≤ 65536 := by omega
              clear h3 h4
              go_enter Try.func6, Try.ntmps6
              go_wp2_with (first
                | ((with_reducible show wpList _ _ _ (⟨some 7, _, _, _, _, _⟩ :: _) _ _); refine wpList_boxN rfl _ _ rfl (vb x) rfl ?_; intro w1 hb1 bw1 hs1)
                | fail)
              refine (p1.out _ bw1).mono ?_
              rintro e w2 ⟨rfl, b2⟩
              have bt2 := bt bw1 b2
              have hb12 := hb1.on b2
              clear hb1 b2
              go_wp2_with (first
                | ((with_reducible show wpList _ _ _ (⟨some 11, _, _, _, _, _⟩ :: _) _ _); refine wpList_allocN rfl _ rfl (vb zero16) zeroV16 ?_; intro w3 hb3 bw3 hs3)
                | ((with_reducible show wpList _ _ _ (⟨none, .store 22 (.tmp 11) _, _, _, _, _⟩ :: _) _ _); refine wpList_storeN rfl _ _ _ rfl rfl (ys := vb K) rfl hb3 (by rw [vb_len, vb_len, Hbl.out]; rfl) (vb_one _) hszK ?_; intro w4 hb4 hg4; have b4 := below_row bw3 hg4 (Nat.le_refl _) bw3.size; have bt4 := bt bt2 b4; have hb14 := hb12.on b4)
                | fail)
              refine (p2.out _ bt4).mono ?_
              rintro e w5 ⟨rfl, b5⟩
              have bt5 := bt bt4 b5
              have hb15 := hb14.on b5
              have hb45 := hb4.on b5
              clear hb12 hb3 bw3 hs3 hg4 b4 hb14 hb4 b5
              go_wp2_with (first
                | ((with_reducible show wpList _ _ _ (⟨some 13, _, _, _, _, _⟩ :: _) _ _); refine wpList_allocN rfl _ rfl (vb zero16) zeroV16 ?_; intro w6 hb6 bw6 hs6)
                | ((with_reducible show wpList _ _ _ (⟨none, .store 22 (.tmp 13) _, _, _, _, _⟩ :: _) _ _); refine wpList_storeN rfl _ _ _ rfl rfl (ys := vb K) rfl hb6 (by rw [vb_len, vb_len, Hbl.out]; rfl) (vb_one _) hszK ?_; intro w7 hb7 hg7; have b7 := below_row bw6 hg7 (Nat.le_refl _) bw6.size; have bt7 := bt bt5 b7; have hb17 := hb15.on b7; have hb47 := hb45.on b7)
                | fail)
              refine (p3.out _ bt7).mono ?_
              rintro e w8 ⟨A8, c8, rfl, r8, q8, m8, b8⟩
              have bt8 := bt bt7 b8
              go_wp2_with fail
              refine (p4.out _ bt8).mono ?_
              rintro e w9 ⟨A9, c9, rfl, r9, q9, m9, b9⟩
              have bt9 := bt bt8 b9
              have b89 := bt b8 b9
              have k1 := hb17.on b89
              have k4 := hb47.on b89
              have k7 := hb7.on b89
              have r89 := r8.on b9
              clear hb15 hb45 hb6 bw6 hs6 hg7 b7 hb17 hb47 hb7 b8 b9 r8 b89
              have hsm : ∀ W, Below w9.heap.size w9 W → Calls Try.prog 29 #[.slice A8 S.length c8, .slice A9 S.length c9] W fun e w' => e = .returned (.bool true) ∧ Below W.heap.size W w' := fun W hW => by
                have := R1.same_any A8 A9 S S _ _ c8 c9 W rfl rfl (r89.on hW) (r9.on hW) (by have := Hsl.out; omega) (by have := Hsl.out; omega)
                rwa [R1.sameB_self] at this
              have Hsm := Lib.hid hsm
              clear hsm
              go_wp2_with fail
              refine region_inb (by kernel_rfl) (by kernel_rfl) ?_
              have inbNe := InB.some
              have inbW := @wrap_small
              have inbU := IntKind.wrap_u8'
              repeat (first | (with_reducible refine wpQuiet_nil ?_; fail) | (refine wpQuiet_loadG 22 (.tmp 7) rfl rfl (fun w' hw' => k1.on hw'.below) Try.underlying22 hszx (by rfl) ?_) | (refine wpQuiet_loadG 22 (.tmp 11) rfl rfl (fun w' hw' => k4.on hw'.below) Try.underlying22 hszK (by rfl) ?_) | (refine wpQuiet_loadG 22 (.tmp 13) rfl rfl (fun w' hw' => k7.on hw'.below) Try.underlying22 hszK (by rfl) ?_) | (refine wpQuiet_step (fun K hK => ?_); go_simp; first | (refine hK _ ?_; clear hK K) | (apply Exists.intro; refine ⟨?_, hK _ ?_⟩; (· (intro w' hw'; first | (go_at_call 27; with_reducible refine (p5.out _).mono ?_; rintro e w1 ⟨rfl, b1⟩; exact ⟨rfl, hw'.on b1⟩) | (go_at_call 28; with_reducible refine (p6.out _).mono ?_; rintro e w1 ⟨rfl, b1⟩; exact ⟨rfl, hw'.on b1⟩) | (go_at_call 29; refine (Hsm.out _ hw'.below).mono ?_; rintro e w1 ⟨rfl, b1⟩; exact ⟨rfl, hw'.on b1⟩) | (go_at_call 22; refine (Ctr.alive_any _).mono ?_; rintro e w1 ⟨rfl, b1⟩; exact ⟨rfl, hw'.on b1⟩) | (have hcw := hw'.cell; go_simp; exact rfl))); clear hK K)))
              refine wpQuiet_nil ?_
              intro wq hq
              clear inbNe inbW inbU
              go_wp2
              go_ret
              exact ⟨rfl, bt bt9 hq.below⟩
            · clear h3 h4
              go_enter Try.func6, Try.ntmps6
              go_wp2_with (first
                | ((with_reducible show wpList _ _ _ (⟨some 7, _, _, _, _, _⟩ :: _) _ _); refine wpList_boxN rfl _ _ rfl (vb x) rfl ?_; intro w1 hb1 bw1 hs1)
                | fail)
              refine (p1.out _ bw1).mono ?_
              rintro e w2 ⟨rfl, b2⟩
              have bt2 := bt bw1 b2
              have hb12 := hb1.on b2
              clear hb1 b2
              go_wp2_with (first
                | ((with_reducible show wpList _ _ _ (⟨some 11, _, _, _, _, _⟩ :: _) _ _); refine wpList_allocN rfl _ rfl (vb zero16) zeroV16 ?_; intro w3 hb3 bw3 hs3)
                | ((with_reducible show wpList _ _ _ (⟨none, .store 22 (.tmp 11) _, _, _, _, _⟩ :: _) _ _); refine wpList_storeN rfl _ _ _ rfl rfl (ys := vb K) rfl hb3 (by rw [vb_len, vb_len, Hbl.out]; rfl) (vb_one _) hszK ?_; intro w4 hb4 hg4; have b4 := below_row bw3 hg4 (Nat.le_refl _) bw3.size; have bt4 := bt bt2 b4; have hb14 := hb12.on b4)
                | fail)
              refine (p2.out _ bt4).mono ?_
              rintro e w5 ⟨rfl, b5⟩
              have bt5 := bt bt4 b5
              have hb15 := hb14.on b5
              have hb45 := hb4.on b5
              clear hb12 hb3 bw3 hs3 hg4 b4 hb14 hb4 b5
              go_wp2_with (first
                | ((with_reducible show wpList _ _ _ (⟨some 13, _, _, _, _, _⟩ :: _) _ _); refine wpList_allocN rfl _ rfl (vb zero16) zeroV16 ?_; intro w6 hb6 bw6 hs6)
                | ((with_reducible show wpList _ _ _ (⟨none, .store 22 (.tmp 13) _, _, _, _, _⟩ :: _) _ _); refine wpList_storeN rfl _ _ _ rfl rfl (ys := vb K) rfl hb6 (by rw [vb_len, vb_len, Hbl.out]; rfl) (vb_one _) hszK ?_; intro w7 hb7 hg7; have b7 := below_row bw6 hg7 (Nat.le_refl _) bw6.size; have bt7 := bt bt5 b7; have hb17 := hb15.on b7; have hb47 := hb45.on b7)
                | fail)
              refine (p3.out _ bt7).mono ?_
              rintro e w8 ⟨A8, c8, rfl, r8, q8, m8, b8⟩
              have bt8 := bt bt7 b8
              go_wp2_with fail
              refine (p4.out _ bt8).mono ?_
              rintro e w9 ⟨A9, c9, rfl, r9, q9, m9, b9⟩
              have bt9 := bt bt8 b9
              have b89 := bt b8 b9
              have k1 := hb17.on b89
              have k4 := hb47.on b89
              have k7 := hb7.on b89
              have r89 := r8.on b9
              clear hb15 hb45 hb6 bw6 hs6 hg7 b7 hb17 hb47 hb7 b8 b9 r8 b89
              have hsm : ∀ W, Below w9.heap.size w9 W → Calls Try.prog 29 #[.slice A8 S.length c8, .slice A9 S.length c9] W fun e w' => e = .returned (.bool true) ∧ Below W.heap.size W w' := fun W hW => by
                have := R1.same_any A8 A9 S S _ _ c8 c9 W rfl rfl (r89.on hW) (r9.on hW) (by have := Hsl.out; omega) (by have := Hsl.out; omega)
                rwa [R1.sameB_self] at this
              have Hsm := Lib.hid hsm
              clear hsm
              go_wp2_with fail
              refine region_inb (by kernel_rfl) (by kernel_rfl) ?_
              have inbNe := InB.some
              have inbW := @wrap_small
              have inbU := IntKind.wrap_u8'
              repeat (first | (with_reducible refine wpQuiet_nil ?_; fail) | (refine wpQuiet_loadG 22 (.tmp 7) rfl rfl (fun w' hw' => k1.on hw'.below) Try.underlying22 hszx (by rfl) ?_) | (refine wpQuiet_loadG 22 (.tmp 11) rfl rfl (fun w' hw' => k4.on hw'.below) Try.underlying22 hszK (by rfl) ?_) | (refine wpQuiet_loadG 22 (.tmp 13) rfl rfl (fun w' hw' => k7.on hw'.below) Try.underlying22 hszK (by rfl) ?_) | (refine wpQuiet_step (fun K hK => ?_); go_simp; first | (refine hK _ ?_; clear hK K) | (apply Exists.intro; refine ⟨?_, hK _ ?_⟩; (· (intro w' hw'; first | (go_at_call 27; with_reducible refine (p5.out _).mono ?_; rintro e w1 ⟨rfl, b1⟩; exact ⟨rfl, hw'.on b1⟩) | (go_at_call 28; with_reducible refine (p6.out _).mono ?_; rintro e w1 ⟨rfl, b1⟩; exact ⟨rfl, hw'.on b1⟩) | (go_at_call 29; refine (Hsm.out _ hw'.below).mono ?_; rintro e w1 ⟨rfl, b1⟩; exact ⟨rfl, hw'.on b1⟩) | (go_at_call 22; refine (Ctr.alive_any _).mono ?_; rintro e w1 ⟨rfl, b1⟩; exact ⟨rfl, hw'.on b1⟩) | (have hcw := hw'.cell; go_simp; exact rfl))); clear hK K)))
              refine wpQuiet_nil ?_
              intro wq hq
              clear inbNe inbW inbU
              go_wp2
              go_ret
              exact ⟨rfl, bt bt9 hq.below⟩
          · by_cases h6 : 200 < z
            · have h6b : ¬ z ≤ 65536 := by omega
              clear h3 h4
              go_enter Try.func6, Try.ntmps6
              go_wp2_with (first
                | ((with_reducible show wpList _ _ _ (⟨some 7, _, _, _, _, _⟩ :: _) _ _); refine wpList_boxN rfl _ _ rfl (vb x) rfl ?_; intro w1 hb1 bw1 hs1)
                | fail)
              refine (p1.out _ bw1).mono ?_
              rintro e w2 ⟨rfl, b2⟩
              have bt2 := bt bw1 b2
              have hb12 := hb1.on b2
              clear hb1 b2
              go_wp2_with (first
                | ((with_reducible show wpList _ _ _ (⟨some 11, _, _, _, _, _⟩ :: _) _ _); refine wpList_allocN rfl _ rfl (vb zero16) zeroV16 ?_; intro w3 hb3 bw3 hs3)
                | ((with_reducible show wpList _ _ _ (⟨none, .store 22 (.tmp 11) _, _, _, _, _⟩ :: _) _ _); refine wpList_storeN rfl _ _ _ rfl rfl (ys := vb K) rfl hb3 (by rw [vb_len, vb_len, Hbl.out]; rfl) (vb_one _) hszK ?_; intro w4 hb4 hg4; have b4 := below_row bw3 hg4 (Nat.le_refl _) bw3.size; have bt4 := bt bt2 b4; have hb14 := hb12.on b4)
                | fail)
              refine (p2.out _ bt4).mono ?_
              rintro e w5 ⟨rfl, b5⟩
              have bt5 := bt bt4 b5
              have hb15 := hb14.on b5
              have hb45 := hb4.on b5
              clear hb12 hb3 bw3 hs3 hg4 b4 hb14 hb4 b5
              go_wp2_with (first
                | ((with_reducible show wpList _ _ _ (⟨some 13, _, _, _, _, _⟩ :: _) _ _); refine wpList_allocN rfl _ rfl (vb zero16) zeroV16 ?_; intro w6 hb6 bw6 hs6)
                | ((with_reducible show wpList _ _ _ (⟨none, .store 22 (.tmp 13) _, _, _, _, _⟩ :: _) _ _); refine wpList_storeN rfl _ _ _ rfl rfl (ys := vb K) rfl hb6 (by rw [vb_len, vb_len, Hbl.out]; rfl) (vb_one _) hszK ?_; intro w7 hb7 hg7; have b7 := below_row bw6 hg7 (Nat.le_refl _) bw6.size; have bt7 := bt bt5 b7; have hb17 := hb15.on b7; have hb47 := hb45.on b7)
                | fail)
              refine (p3.out _ bt7).mono ?_
              rintro e w8 ⟨A8, c8, rfl, r8, q8, m8, b8⟩
              have bt8 := bt bt7 b8
              go_wp2_with fail
              refine (p4.out _ bt8).mono ?_
              rintro e w9 ⟨A9, c9, rfl, r9, q9, m9, b9⟩
              have bt9 := bt bt8 b9
              have b89 := bt b8 b9
              have k1 := hb17.on b89
              have k4 := hb47.on b89
              have k7 := hb7.on b89
              have r89 := r8.on b9
              clear hb15 hb45 hb6 bw6 hs6 hg7 b7 hb17 hb47 hb7 b8 b9 r8 b89
              have hsm : ∀ W, Below w9.heap.size w9 W → Calls Try.prog 29 #[.slice A8 S.length c8, .slice A9 S.length c9] W fun e w' => e = .returned (.bool true) ∧ Below W.heap.size W w' := fun W hW => by
                have := R1.same_any A8 A9 S S _ _ c8 c9 W rfl rfl (r89.on hW) (r9.on hW) (by have := Hsl.out; omega) (by have := Hsl.out; omega)
                rwa [R1.sameB_self] at this
              have Hsm := Lib.hid hsm
              clear hsm
              go_wp2_with fail
              refine region_inb (by kernel_rfl) (by kernel_rfl) ?_
              have inbNe := InB.some
              have inbW := @wrap_small
              have inbU := IntKind.wrap_u8'
              repeat (first | (with_reducible refine wpQuiet_nil ?_; fail) | (refine wpQuiet_loadG 22 (.tmp 7) rfl rfl (fun w' hw' => k1.on hw'.below) Try.underlying22 hszx (by rfl) ?_) | (refine wpQuiet_loadG 22 (.tmp 11) rfl rfl (fun w' hw' => k4.on hw'.below) Try.underlying22 hszK (by rfl) ?_) | (refine wpQuiet_loadG 22 (.tmp 13) rfl rfl (fun w' hw' => k7.on hw'.below) Try.underlying22 hszK (by rfl) ?_) | (refine wpQuiet_step (fun K hK => ?_); go_simp; first | (refine hK _ ?_; clear hK K) | (apply Exists.intro; refine ⟨?_, hK _ ?_⟩; (· (intro w' hw'; first | (go_at_call 27; with_reducible refine (p5.out _).mono ?_; rintro e w1 ⟨rfl, b1⟩; exact ⟨rfl, hw'.on b1⟩) | (go_at_call 28; with_reducible refine (p6.out _).mono ?_; rintro e w1 ⟨rfl, b1⟩; exact ⟨rfl, hw'.on b1⟩) | (go_at_call 29; refine (Hsm.out _ hw'.below).mono ?_; rintro e w1 ⟨rfl, b1⟩; exact ⟨rfl, hw'.on b1⟩) | (go_at_call 22; refine (Ctr.alive_any _).mono ?_; rintro e w1 ⟨rfl, b1⟩; exact ⟨rfl, hw'.on b1⟩) | (have hcw := hw'.cell; go_simp; exact rfl))); clear hK K)))
              refine wpQuiet_nil ?_
              intro wq hq
              clear inbNe inbW inbU
              go_wp2
              go_ret
              exact ⟨rfl, bt bt9 hq.below⟩
            · clear h3 h4
              go_enter Try.func6, Try.ntmps6
              go_wp2_with (first
                | ((with_reducible show wpList _ _ _ (⟨some 7, _, _, _, _, _⟩ :: _) _ _); refine wpList_boxN rfl _ _ rfl (vb x) rfl ?_; intro w1 hb1 bw1 hs1)
                | fail)
              refine (p1.out _ bw1).mono ?_
              rintro e w2 ⟨rfl, b2⟩
              have bt2 := bt bw1 b2
              have hb12 := hb1.on b2
              clear hb1 b2
              go_wp2_with (first
                | ((with_reducible show wpList _ _ _ (⟨some 11, _, _, _, _, _⟩ :: _) _ _); refine wpList_allocN rfl _ rfl (vb zero16) zeroV16 ?_; intro w3 hb3 bw3 hs3)
                | ((with_reducible show wpList _ _ _ (⟨none, .store 22 (.tmp 11) _, _, _, _, _⟩ :: _) _ _); refine wpList_storeN rfl _ _ _ rfl rfl (ys := vb K) rfl hb3 (by rw [vb_len, vb_len, Hbl.out]; rfl) (vb_one _) hszK ?_; intro w4 hb4 hg4; have b4 := below_row bw3 hg4 (Nat.le_refl _) bw3.size; have bt4 := bt bt2 b4; have hb14 := hb12.on b4)
                | fail)
              refine (p2.out _ bt4).mono ?_
              rintro e w5 ⟨rfl, b5⟩
              have bt5 := bt bt4 b5
              have hb15 := hb14.on b5
              have hb45 := hb4.on b5
              clear hb12 hb3 bw3 hs3 hg4 b4 hb14 hb4 b5
              go_wp2_with (first
                | ((with_reducible show wpList _ _ _ (⟨some 13, _, _, _, _, _⟩ :: _) _ _); refine wpList_allocN rfl _ rfl (vb zero16) zeroV16 ?_; intro w6 hb6 bw6 hs6)
                | ((with_reducible show wpList _ _ _ (⟨none, .store 22 (.tmp 13) _, _, _, _, _⟩ :: _) _ _); refine wpList_storeN rfl _ _ _ rfl rfl (ys := vb K) rfl hb6 (by rw [vb_len, vb_len, Hbl.out]; rfl) (vb_one _) hszK ?_; intro w7 hb7 hg7; have b7 := below_row bw6 hg7 (Nat.le_refl _) bw6.size; have bt7 := bt bt5 b7; have hb17 := hb15.on b7; have hb47 := hb45.on b7)
                | fail)
              refine (p3.out _ bt7).mono ?_
              rintro e w8 ⟨A8, c8, rfl, r8, q8, m8, b8⟩
              have bt8 := bt bt7 b8
              go_wp2_with fail
              refine (p4.out _ bt8).mono ?_
              rintro e w9 ⟨A9, c9, rfl, r9, q9, m9, b9⟩
              have bt9 := bt bt8 b9
              have b89 := bt b8 b9
              have k1 := hb17.on b89
              have k4 := hb47.on b89
              have k7 := hb7.on b89
              have r89 := r8.on b9
              clear hb15 hb45 hb6 bw6 hs6 hg7 b7 hb17 hb47 hb7 b8 b9 r8 b89
              have hsm : ∀ W, Below w9.heap.size w9 W → Calls Try.prog 29 #[.slice A8 S.length c8, .slice A9 S.length c9] W fun e w' => e = .returned (.bool true) ∧ Below W.heap.size W w' := fun W hW => by
                have := R1.same_any A8 A9 S S _ _ c8 c9 W rfl rfl (r89.on hW) (r9.on hW) (by have := Hsl.out; omega) (by have := Hsl.out; omega)
                rwa [R1.sameB_self] at this
              have Hsm := Lib.hid hsm
              clear hsm
              go_wp2_with fail
              refine region_inb (by kernel_rfl) (by kernel_rfl) ?_
              have inbNe := InB.some
              have inbW := @wrap_small
              have inbU := IntKind.wrap_u8'
              repeat (first | (with_reducible refine wpQuiet_nil ?_; fail) | (refine wpQuiet_loadG 22 (.tmp 7) rfl rfl (fun w' hw' => k1.on hw'.below) Try.underlying22 hszx (by rfl) ?_) | (refine wpQuiet_loadG 22 (.tmp 11) rfl rfl (fun w' hw' => k4.on hw'.below) Try.underlying22 hszK (by rfl) ?_) | (refine wpQuiet_loadG 22 (.tmp 13) rfl rfl (fun w' hw' => k7.on hw'.below) Try.underlying22 hszK (by rfl) ?_) | (refine wpQuiet_step (fun K hK => ?_); go_simp; first | (refine hK _ ?_; clear hK K) | (apply Exists.intro; refine ⟨?_, hK _ ?_⟩; (· (intro w' hw'; first | (go_at_call 27; with_reducible refine (p5.out _).mono ?_; rintro e w1 ⟨rfl, b1⟩; exact ⟨rfl, hw'.on b1⟩) | (go_at_call 28; with_reducible refine (p6.out _).mono ?_; rintro e w1 ⟨rfl, b1⟩; exact ⟨rfl, hw'.on b1⟩) | (go_at_call 29; refine (Hsm.out _ hw'.below).mono ?_; rintro e w1 ⟨rfl, b1⟩; exact ⟨rfl, hw'.on b1⟩) | (go_at_call 22; refine (Ctr.alive_any _).mono ?_; rintro e w1 ⟨rfl, b1⟩; exact ⟨rfl, hw'.on b1⟩) | (have hcw := hw'.cell; go_simp; exact rfl))); clear hK K)))
              refine wpQuiet_nil ?_
              intro wq hq
              clear inbNe inbW inbU
              go_wp2
              go_ret
              exact ⟨rfl, bt bt9 hq.below⟩

set_option maxRecDepth 100000 in
theorem lifted (os : Os) (started : os.Started) (H : Type) (enc : TypeId × Value → H) :
    ReturnsInHanded {} Try.checked os 6 .any (Rows.ctrRowsSpec.pre6 enc Try.prog Try.f6 Rows.ctrRowsRow.domain false) (Rows.ctrRowsSpec.post enc Try.prog Try.f6 false true false false) := by
  refine returnsInHanded_of_change (C := Try.checked) own started (by kernel_rfl) Try.func6
    (ChangeSpec.witness6 (enc := enc) (C := Try.checked) false ⟨#[], #[.slice none 0 0, .slice none 0 0, .agg #[.int .u8 0, .int .u8 0, .int .u8 0, .int .u8 0, .int .u8 0, .int .u8 0, .int .u8 0, .int .u8 0, .int .u8 0, .int .u8 0, .int .u8 0, .int .u8 0, .int .u8 0, .int .u8 0, .int .u8 0, .int .u8 0], .int .i64 0, .int .i64 0], []⟩ 8 (by kernel_rfl) (by kernel_rfl) (by kernel_rfl) (by kernel_rfl)) ?_
  intro W base args ds gs before hval0 hW hcnd _
  have hval : ∀ (j : Nat) t v, Try.f6.params[j]? = some t → args[j]? = some v → Value.okWide Try.prog W .any base t v := hval0
  have hW' := hW
  obtain ⟨p, q, hA0, hV, rfl, hfz, hnd⟩ := hW
  have hA : DataW.TrodAll enc Try.prog W 0 (fun _ => true) true Try.f6.params.toList args.toList ds p := hA0
  rw [Try.params6] at hA hval
  obtain ⟨v0, vs0, d0, ds0, p0, q0, hargs, rfl, rfl, h0, r0⟩ := trodAll_cons hA
  obtain ⟨v1, vs1, d1, ds1, p1, q1, rfl, rfl, rfl, h1, r1⟩ := trodAll_cons r0
  obtain ⟨v2, vs2, d2, ds2, p2, q2, rfl, rfl, rfl, h2, r2⟩ := trodAll_cons r1
  obtain ⟨v3, vs3, d3, ds3, p3, q3, rfl, rfl, rfl, h3, r3⟩ := trodAll_cons r2
  obtain ⟨v4, vs4, d4, ds4, p4, q4, rfl, rfl, rfl, h4, r4⟩ := trodAll_cons r3
  obtain ⟨rfl, rfl, rfl⟩ := trodAll_nil r4
  obtain rfl : args = #[v0, v1, v2, v3, v4] := by cases args; simp_all
  obtain ⟨rfl, rfl⟩ := trodVars_none hV
  have k0 := h0
  have lt0 := places_lt k0
  obtain ⟨a0, len0, cap0, rfl⟩ := okWide_slice Try.underlying27 (hval 0 27 v0 rfl rfl)
  obtain ⟨fuel0, hf0⟩ := h0
  obtain ⟨l0, rfl, rr0, rc0, rm0⟩ := bytes_of rfl Try.underlying27 Try.underlying5 (by kernel_rfl) hf0
  have k1 := h1
  have lt1 := places_lt k1
  obtain ⟨a1, len1, cap1, rfl⟩ := okWide_slice Try.underlying27 (hval 1 27 v1 rfl rfl)
  obtain ⟨fuel1, hf1⟩ := h1
  obtain ⟨l1, rfl, rr1, rc1, rm1⟩ := bytes_of rfl Try.underlying27 Try.underlying5 (by kernel_rfl) hf1
  have k2 := h2
  have lt2 := places_lt k2
  obtain ⟨x2, hx2, rfl⟩ := arr16_of (hval 2 22 v2 rfl rfl) h2
  have k3 := h3
  have lt3 := places_lt k3
  obtain ⟨n3, rfl, _, _, w3⟩ := open_int Try.underlying3 (hval 3 3 v3 rfl rfl) h3
  have k4 := h4
  have lt4 := places_lt k4
  obtain ⟨n4, rfl, _, _, w4⟩ := open_int Try.underlying3 (hval 4 3 v4 rfl rfl) h4
  clear hA0 hval0
  refine (walk a0 l0 cap0 a1 l1 cap1 x2 n3 n4 W rr0 rc0 rm0 rr1 rc1 rm1 hx2 (wfi w3).1 (wfi w3).2 (wfi w4).1 (wfi w4).2).mono fun e W' ⟨he, bel⟩ => ?_
  subst he
  exact ⟨_, rfl, _, _, _, [], _, [], hW', trodAll_mk1 (shut_bool Try.underlying4 _), (trodAll_cons_mk (Below.trod laidOut (by kernel_rfl) (of_decide_eq_true (by kernel_rfl)) k0 bel lt0) (trodAll_cons_mk (Below.trod laidOut (by kernel_rfl) (of_decide_eq_true (by kernel_rfl)) k1 bel lt1) (trodAll_cons_mk (Below.trod laidOut (by kernel_rfl) (of_decide_eq_true (by kernel_rfl)) k2 bel lt2) (trodAll_cons_mk (Below.trod laidOut (by kernel_rfl) (of_decide_eq_true (by kernel_rfl)) k3 bel lt3) (trodAll_cons_mk (Below.trod laidOut (by kernel_rfl) (of_decide_eq_true (by kernel_rfl)) k4 bel lt4) trodAll_mk0))))), rfl, bel.frame _, fun h => by cases h⟩

theorem proved : Rows.CtrRowsSaid :=
  OpenClaim.holds_of_wide 6 Try.f6 rfl rfl rfl rfl rfl rfl rfl ⟨rfl, rfl, rfl, rfl, rfl⟩ rfl rfl rfl rfl rfl (by kernel_rfl) Try.func6 (by kernel_rfl)
    (of_decide_eq_true (by kernel_rfl)) (by unfold Func.isWrapper; first | (rw [if_pos (by decide +kernel)]; kernel_rfl) | (rw [if_neg (by decide +kernel)]; exact ⟨rfl, rfl⟩))
    (fun os started H enc _ => lifted os started H enc)
#print axioms proved
end Go.Proofs.Yteecbjpnnklbpaa.CtrRows
