/- DiskKeeps: for every input the law returns true: what was flushed is kept, whatever is written elsewhere and however the power goes, and what nil disks say. No condition. -/
import Derived.Test.YtdkcdojcglmlbaaKeepPlain
import Derived.Test.YtdkcdojcglmlbaaOpenAct
import Derived.Deep.RegionHeld3
namespace Go.Proofs.Ytdkcdojcglmlbaa.DiskKeeps
open Go.ChangeShapes Go.WideShapes Go.ChangeAt Go.RowKit Go.Joins
open Go.ChangeMaps (open_string shut_string)
open Go.Proofs.Ytdkcdojcglmlbaa.Disk
set_option linter.unusedVariables false
set_option maxRecDepth 100000
theorem fullQ (x : UInt8) (w : World) : Calls Try.prog 33 #[.int .i64 512, .int .u8 (x.toNat : Int)] w fun e w' => ∃ A c, e = .returned (.slice A 512 c) ∧ w'.ownsRow w.heap.size 5 1 (.slice A 512 c) 512 ((List.replicate 512 x).map e8) ∧ Below w.heap.size w w' :=
  (full_any 512 512 rfl x _ rfl w (by omega)).mono fun e w' ⟨A, c, he, ho, hb⟩ => ⟨A, c, by rw [he, List.length_replicate], by simpa using ho, hb⟩
set_option maxHeartbeats 8000000 in
theorem walk (n q : Int) (x : UInt8) (A : Option Addr) (l : List Act') (c : Nat) (w : World) (hn0 : -9223372036854775808 ≤ n) (hn1 : n ≤ 9223372036854775807) (hq0 : -9223372036854775808 ≤ q) (hq1 : q ≤ 9223372036854775807) (hr : Acts w w.heap.size A l) (hc : l.length ≤ c) (hcm : c ≤ maxLen) :
    Calls Try.prog 13 #[.int .i64 n, .int .i64 q, .int .u8 (x.toNat : Int), .slice A l.length c] w fun e w' => e = .returned (.bool true) ∧ Below w.heap.size w w' := by
  have hLi := Lib.hid (light_any A l l.length c w rfl hr (by unfold maxLen at hcm; omega))
  cases hlt : lightA l with
  | false =>
    rw [hlt] at hLi
    go_enter Try.func13, Try.ntmps13
    go_wp2_with (first | (go_at_call 64; refine (hLi.out).mono ?_; rintro e w1 ⟨rfl, rfl⟩) | (go_at_call 30; refine (alive_any _).mono ?_; rintro e w2 ⟨rfl, b2⟩))
    go_ret
    exact ⟨rfl, b2⟩
  | true =>
    rw [hlt] at hLi
    by_cases hbad : n < 1 ∨ 12 < n ∨ q < 0 ∨ n ≤ q
    · rcases (show n < 1 ∨ (1 ≤ n ∧ 12 < n) ∨ (1 ≤ n ∧ n ≤ 12 ∧ q < 0) ∨ (1 ≤ n ∧ n ≤ 12 ∧ 0 ≤ q ∧ n ≤ q) by omega) with h1 | ⟨h1, h2⟩ | ⟨h1, h2, h3⟩ | ⟨h1, h2, h3, h4⟩
      all_goals
        clear hbad
        go_enter Try.func13, Try.ntmps13
        go_wp2_with (first | (go_at_call 64; refine (hLi.out).mono ?_; rintro e w1 ⟨rfl, rfl⟩) | (go_at_call 30; refine (alive_any _).mono ?_; rintro e w2 ⟨rfl, b2⟩))
        go_ret
        exact ⟨rfl, b2⟩
    obtain ⟨m, rfl⟩ : ∃ m : Nat, n = (m : Int) := ⟨n.toNat, by omega⟩
    obtain ⟨p, rfl⟩ : ∃ p : Nat, q = (p : Int) := ⟨q.toNat, by omega⟩
    have hm1 : 1 ≤ m := by omega
    have hm2 : m ≤ 12 := by omega
    have hpm : p < m := by omega
    have hNew := Lib.hid (new_any (m : Int) w hn0 hn1)
    simp only [if_neg (show ¬ ((m : Int) < 1 ∨ 1024 < (m : Int)) by omega), Int.toNat_natCast] at hNew
    obtain ⟨hl40, hlo⟩ := lightA_of hlt
    have Hlo := Lib.hid hlo
    clear hbad hlt hlo
    have hmI : (1 : Int) ≤ (m : Int) := by omega
    have hmI2 : (m : Int) ≤ 12 := by omega
    have hpI : (0 : Int) ≤ (p : Int) := by omega
    have hpI2 : (p : Int) < (m : Int) := by omega
    obtain ⟨X, hX⟩ : ∃ X, X = List.replicate 512 x := ⟨_, rfl⟩
    have hXl : X.length = 512 := by rw [hX, List.length_replicate]
    have Hfull := Lib.hid (fullQ x)
    rw [← hX] at Hfull
    obtain ⟨f1, f2, hsafe, hsz0, hss0, hsw0⟩ := start_state m p hpm X hXl
    have hokr := Lib.hid (ok_new hm1 (by omega : m ≤ 1024))
    obtain ⟨r1, hr1⟩ : ∃ r, r = write (new m) (p : Int) X := ⟨_, rfl⟩
    rw [← hr1] at f1 f2 hsafe hsz0 hss0 hsw0
    obtain ⟨r2, hr2⟩ : ∃ r, r = flush r1.1 := ⟨_, rfl⟩
    rw [← hr2] at f2 hsafe hsz0 hss0
    have HXl := Lib.hid hXl
    have Hw := Lib.hid (fun g fp A c W (h : DAt W g fp (new m)) (hR : RdN W fp A (X.map e8)) => write_any g fp (new m) (p : Int) A 512 c X W h (by show (new m).sz ≤ _; have : (new m).sz = 0 := rfl; omega) hXl.symm hR)
    rw [← hr1] at Hw
    have Hf := Lib.hid (fun g fp W (h : DAt W g fp r1.1) => flush_any g fp r1.1 W h (by omega))
    rw [← hr2] at Hf
    have F1 := Lib.hid f1
    have F2 := Lib.hid f2
    clear hX hr1 hr2 f1 f2 hXl
    go_enter Try.func13, Try.ntmps13
    go_wp2_with (first
      | (go_at_call 64; refine (hLi.out).mono ?_; rintro e w1 ⟨rfl, rfl⟩)
      | (go_at_call 31; refine (hNew.out).mono ?_; rintro e w2 ⟨⟨g, fp, rfl, hD, hfp⟩, b2⟩)
      | (go_at_call 33; refine (Hfull.out _).mono ?_; rintro e w3 ⟨A3, c3, rfl, own3, b3⟩; have hD3 := hD.on b3; have hR3 := RdN.own2 own3 hD.lt)
      | (go_at_call 34; refine (Hw.out g fp A3 c3 _ hD3 hR3).mono ?_; rintro e w4 ⟨rfl, fp4, hD4, k4, fr4⟩; rw [F1.out])
      | (go_at_call 73; refine (Hf.out g fp4 _ hD4).mono ?_; rintro e w5 ⟨rfl, fp5, hD5, k5, fr5⟩; rw [F2.out]))
    have hge3 : ∀ j ∈ fp, w.heap.size ≤ j := hfp
    have bw3 : Below w.heap.size w w3 := bt b2 b3
    have bw4 : Below w.heap.size w w4 := bw3.trans (k4.below hge3 bw3.size)
    have hge4 := fr4.ge hge3 bw3.size
    have bw5 : Below w.heap.size w w5 := bw4.trans (k5.below hge4 bw4.size)
    have hge5 := fr5.ge hge4 bw4.size
    obtain ⟨s0, hs0⟩ : ∃ s, s = r2.1 := ⟨_, rfl⟩
    rw [← hs0] at hD5 hsafe hsz0 hss0
    have HsN := Lib.hid (show ∀ k, ((l.take k).foldl (actN (p : Int)) s0).sz ≤ 90 from fun k => by
      have := sz_actsN (p : Int) (l.take k) s0
      rw [List.length_take] at this
      omega)
    clear hs0 hD hD3 hR3 own3 hD4 k4 k5 fr4 fr5 hge3 hge4 bw3 bw4 b2 b3 hfp
    go_wp2_with fail
    go_loopw [11] (fun i wr => ∃ k : Nat, k ≤ l.length ∧ i = .int .i64 k ∧ ∃ fq, DAt wr g fq ((l.take k).foldl (actN (p : Int)) s0) ∧ (∀ j ∈ fq, w.heap.size ≤ j) ∧ Below w.heap.size w wr) (fun i _ => l.length - (intOf i).toNat)
    case atStart => exact ⟨0, by omega, rfl, fp5, by rw [List.take_zero]; exact hD5, hge5, bw5⟩
    case round =>
      clear hD5 bw5 hge5
      rename_i wr
      obtain ⟨k, hk, rfl, fq, hD, hge, bel⟩ := hrel
      have hsz := HsN.out k
      have htk := Lib.hid (fun (h : k < l.length) => show (l.take (k + 1)).foldl (actN (p : Int)) s0 = actN (p : Int) ((l.take k).foldl (actN (p : Int)) s0) (l[k]'h) by rw [List.take_succ_eq_append_getElem h, List.foldl_append]; rfl)
      obtain ⟨s, hs⟩ : ∃ s, s = (l.take k).foldl (actN (p : Int)) s0 := ⟨_, rfl⟩
      rw [← hs] at hD hsz htk
      have Hs := Lib.hid hs
      clear hs
      by_cases hlt : k < l.length
      · obtain ⟨b, off, Ak, ck, rfl, hbb, y0, y1, y2, y3, y4, y5, y6, hkr, hkc, hkm, hyo⟩ := (hr.below bel).get hlt
        obtain ⟨hk20, hs0', hs6⟩ := Hlo.out _ (List.getElem_mem hlt)
        have Htk := Lib.hid (htk.out hlt)
        obtain ⟨y, hy⟩ : ∃ y, y = l[k] := ⟨_, rfl⟩
        rw [← hy] at y0 y1 y2 y3 y4 y5 y6 hkr hkc hyo hk20 hs0' hs6 Htk
        clear hy htk
        have hbr : b < wr.heap.size := Nat.lt_of_lt_of_le hbb bel.size
        have hkrN : RdN wr fq Ak (y.keep.map (Value.int .i64)) := RdN.of hkr hge bel.size
        have cells := Lib.hid (show ∀ W : World, Below wr.heap.size wr W → W.cell? ⟨b, off + k * 7, none⟩ = some (.int .i64 y.kind) ∧ W.cell? ⟨b, off + k * 7 + 1, none⟩ = some (.int .i64 y.place) ∧ W.cell? ⟨b, off + k * 7 + 2, none⟩ = some (.int .i64 y.size) ∧ W.cell? ⟨b, off + k * 7 + 3, none⟩ = some (.int .i64 y.n) ∧ W.cell? ⟨b, off + k * 7 + 4, none⟩ = some (.int .i64 y.at') ∧ W.cell? ⟨b, off + k * 7 + 5, none⟩ = some (.int .u8 (y.fill.toNat : Int)) ∧ W.cell? ⟨b, off + k * 7 + 6, none⟩ = some (.slice Ak y.keep.length ck) from fun W bW => by
          have h : ∀ p : Addr, p.block < wr.heap.size → W.cell? p = wr.cell? p := fun p h1 => by simp only [World.cell?, bW.block _ h1]
          exact ⟨(h ⟨b, _, none⟩ hbr).trans y0, (h ⟨b, _, none⟩ hbr).trans y1, (h ⟨b, _, none⟩ hbr).trans y2, (h ⟨b, _, none⟩ hbr).trans y3, (h ⟨b, _, none⟩ hbr).trans y4, (h ⟨b, _, none⟩ hbr).trans y5, (h ⟨b, _, none⟩ hbr).trans y6⟩)
        have bd : Below wr.heap.size wr wr.drew := (Below.refl _ _).drew
        have Hgo := Lib.hid (fun W xv (bW : Below wr.heap.size wr W) (hX : RAt W fq xv (new m)) => go_any W g fq s (new m) xv y Ak ck (hD.on bW) hX hokr.out (by show (new m).sz ≤ _; have : (new m).sz = 0 := rfl; omega) (by omega) (hkrN.on bW) hk20 hs0' hs6 hyo)
        by_cases hmay : mayDo (p : Int) y
        · rw [show actN (p : Int) s y = act s y from if_pos hmay] at Htk
          rcases (show y.place ≠ (p : Int) ∨ (y.place = (p : Int) ∧ 1 ≤ y.kind ∧ y.kind ≤ 4) by
            rcases hmay with h | ⟨h1, h2⟩
            · exact .inl h
            · by_cases e : y.place = (p : Int)
              · exact .inr ⟨e, h1, h2⟩
              · exact .inl e) with t1 | ⟨t1, t2, t3⟩
          case' inl => have tt := bne_yes t1
          case' inr => have tt := bne_no t1
          all_goals
            clear hmay t1
            go_wp2_with fail
            obtain ⟨s5, hs5⟩ : ∃ s5, s5 = act s y := ⟨_, rfl⟩
            rw [← hs5] at Htk
            simp only [← hs5] at Hgo
            clear hs5 y0 y1 y2 y3 y4 y5 y6 hkr hkrN tt hD
            (try clear t2 t3)
            refine wp_region_held_drew (S := (fun w' => w'.cell? ⟨b, off + k * 7, none⟩ = some (.int .i64 y.kind) ∧ w'.cell? ⟨b, off + k * 7 + 1, none⟩ = some (.int .i64 y.place) ∧ w'.cell? ⟨b, off + k * 7 + 2, none⟩ = some (.int .i64 y.size) ∧ w'.cell? ⟨b, off + k * 7 + 3, none⟩ = some (.int .i64 y.n) ∧ w'.cell? ⟨b, off + k * 7 + 4, none⟩ = some (.int .i64 y.at') ∧ w'.cell? ⟨b, off + k * 7 + 5, none⟩ = some (.int .u8 (y.fill.toNat : Int)) ∧ w'.cell? ⟨b, off + k * 7 + 6, none⟩ = some (.slice Ak y.keep.length ck))) (by kernel_rfl) (by exact cells.out _ bd) (fun hHeld => ?_)
            refine wpAnyH_take (i := 0) (oi := { dst := some 81, op := Op.move (Operand.tmp 9), type := 59, pos := "law.go:112", after := #[], guard := none }) (v := ?_) rfl (by kernel_rfl) (by kernel_rfl) (by kernel_rfl) (fun _ _ _ h => h) (Or.inl ⟨by rfl, ?_⟩) (by assumption) ?_; rotate_left; · ((intro w hSw; (try dsimp only at hSw); go_simp) <;> with_reducible rfl)
            try simp only [Act.put, List.setIfInBounds_toArray, List.set_cons_zero, List.set_cons_succ]
            refine wpAnyH_take (i := 1) (oi := { dst := some 82, op := Op.move (Operand.tmp 0), type := 3, pos := "law.go:112", after := #[], guard := none }) (v := ?_) rfl (by kernel_rfl) (by kernel_rfl) (by kernel_rfl) (fun _ _ _ h => h) (Or.inl ⟨by rfl, ?_⟩) (by assumption) ?_; rotate_left; · ((intro w hSw; (try dsimp only at hSw); go_simp) <;> with_reducible rfl)
            try simp only [Act.put, List.setIfInBounds_toArray, List.set_cons_zero, List.set_cons_succ]
            refine wpAnyH_take (i := 3) (oi := { dst := some 84, op := Op.move (Operand.tmp 3), type := 105, pos := "law.go:112", after := #[], guard := none }) (v := ?_) rfl (by kernel_rfl) (by kernel_rfl) (by kernel_rfl) (fun _ _ _ h => h) (Or.inl ⟨by rfl, ?_⟩) (by assumption) ?_; rotate_left; · ((intro w hSw; (try dsimp only at hSw); go_simp) <;> with_reducible rfl)
            try simp only [Act.put, List.setIfInBounds_toArray, List.set_cons_zero, List.set_cons_succ]
            refine wpAnyH_take (i := 4) (oi := { dst := some 85, op := Op.move (Operand.tmp 11), type := 3, pos := "law.go:112", after := #[], guard := none }) (v := ?_) rfl (by kernel_rfl) (by kernel_rfl) (by kernel_rfl) (fun _ _ _ h => h) (Or.inl ⟨by rfl, ?_⟩) (by assumption) ?_; rotate_left; · ((intro w hSw; (try dsimp only at hSw); go_simp) <;> with_reducible rfl)
            try simp only [Act.put, List.setIfInBounds_toArray, List.set_cons_zero, List.set_cons_succ]
            refine wpAnyH_take (i := 5) (oi := { dst := some 86, op := Op.indexAddr 105 (Operand.tmp 84) (Operand.tmp 85), type := 0, pos := "law.go:112", after := #[{ on := 3, ground := Ground.data }, { on := 4, ground := Ground.data }], guard := none }) (v := ?_) rfl (by kernel_rfl) (by kernel_rfl) (by kernel_rfl) (fun _ _ _ h => h) (Or.inl ⟨by rfl, ?_⟩) (by assumption) ?_; rotate_left; · ((intro w hSw; (try dsimp only at hSw); go_simp) <;> with_reducible rfl)
            try simp only [Act.put, List.setIfInBounds_toArray, List.set_cons_zero, List.set_cons_succ]
            refine wpAnyH_take (i := 6) (oi := { dst := some 87, op := Op.load 113 (Operand.tmp 86), type := 113, pos := "law.go:112", after := #[{ on := 5, ground := Ground.data }], guard := none }) (v := ?_) rfl (by kernel_rfl) (by kernel_rfl) (by kernel_rfl) (fun _ _ _ h => h) (Or.inl ⟨by rfl, ?_⟩) (by assumption) ?_; rotate_left; · ((intro w hSw; (try dsimp only at hSw); go_simp) <;> with_reducible rfl)
            try simp only [Act.put, List.setIfInBounds_toArray, List.set_cons_zero, List.set_cons_succ]
            refine wpAnyH_ready (rs := [2]) (by kernel_rfl) (by simp) ?_
            refine AllReadyH.cons (o := { dst := some 83, op := Op.call { callee := Callee.value (Operand.func 65), args := #[Operand.tmp 82], argTypes := #[3] }, type := 108, pos := "law.go:112", after := #[{ on := 1, ground := Ground.data }], guard := none }) rfl (fun K hK => ?_) AllReadyH.nil
            go_simp; (first | (go_at_call 65; refine (rnew_any m _).mono ?_; rintro e w6 ⟨x6, rfl, hx6, b6⟩; have bd6 := bt bd b6) | (go_at_call 66; refine (Hgo.out _ x6 bd6 (hx6 fq)).mono ?_; rintro e w7 ⟨x7, z7, rfl, fq7, hD7, k7, f7⟩; have hc7 := Lib.hid (show (fun w' : World => w'.cell? ⟨b, off + k * 7, none⟩ = some (.int .i64 y.kind) ∧ w'.cell? ⟨b, off + k * 7 + 1, none⟩ = some (.int .i64 y.place) ∧ w'.cell? ⟨b, off + k * 7 + 2, none⟩ = some (.int .i64 y.size) ∧ w'.cell? ⟨b, off + k * 7 + 3, none⟩ = some (.int .i64 y.n) ∧ w'.cell? ⟨b, off + k * 7 + 4, none⟩ = some (.int .i64 y.at') ∧ w'.cell? ⟨b, off + k * 7 + 5, none⟩ = some (.int .u8 (y.fill.toNat : Int)) ∧ w'.cell? ⟨b, off + k * 7 + 6, none⟩ = some (.slice Ak y.keep.length ck)) w7 from (fun h => (cells.out _ bd6 : _) |> fun q => ⟨(h _ rfl).trans q.1, (h _ rfl).trans q.2.1, (h _ rfl).trans q.2.2.1, (h _ rfl).trans q.2.2.2.1, (h _ rfl).trans q.2.2.2.2.1, (h _ rfl).trans q.2.2.2.2.2.1, (h _ rfl).trans q.2.2.2.2.2.2⟩) (show ∀ a : Addr, a.block = b → w7.cell? a = w6.cell? a from fun a ha => by have hb6 := Nat.lt_of_lt_of_le hbr bd6.size; simp only [World.cell?, ha, k7.block hb6 (fun e => by have := hge _ e; omega)])))); (try (go_wp2_with fail)); refine hK.out _ _ (by first | (first | with_reducible exact cells.out _ bd | with_reducible exact cells.out _ bd6 | with_reducible exact hc7.out) | ((try dsimp only); (first | with_reducible exact cells.out _ bd | with_reducible exact cells.out _ bd6 | with_reducible exact hc7.out))) (fun hHeld => ?_)
            clear hK K
            try simp only [Act.put, List.setIfInBounds_toArray, List.set_cons_zero, List.set_cons_succ]
            refine wpAnyH_ready (rs := [7]) (by kernel_rfl) (by simp) ?_
            refine AllReadyH.cons (o := { dst := some 88, op := Op.call { callee := Callee.value (Operand.func 66), args := #[Operand.tmp 81, Operand.tmp 83, Operand.tmp 87], argTypes := #[59, 108, 113] }, type := 110, pos := "law.go:112", after := #[{ on := 0, ground := Ground.data }, { on := 2, ground := Ground.data }, { on := 6, ground := Ground.data }, { on := 2, ground := Ground.chain }], guard := none }) rfl (fun K hK => ?_) AllReadyH.nil
            go_simp; (first | (go_at_call 65; refine (rnew_any m _).mono ?_; rintro e w6 ⟨x6, rfl, hx6, b6⟩; have bd6 := bt bd b6) | (go_at_call 66; refine (Hgo.out _ x6 bd6 (hx6 fq)).mono ?_; rintro e w7 ⟨x7, z7, rfl, fq7, hD7, k7, f7⟩; have hc7 := Lib.hid (show (fun w' : World => w'.cell? ⟨b, off + k * 7, none⟩ = some (.int .i64 y.kind) ∧ w'.cell? ⟨b, off + k * 7 + 1, none⟩ = some (.int .i64 y.place) ∧ w'.cell? ⟨b, off + k * 7 + 2, none⟩ = some (.int .i64 y.size) ∧ w'.cell? ⟨b, off + k * 7 + 3, none⟩ = some (.int .i64 y.n) ∧ w'.cell? ⟨b, off + k * 7 + 4, none⟩ = some (.int .i64 y.at') ∧ w'.cell? ⟨b, off + k * 7 + 5, none⟩ = some (.int .u8 (y.fill.toNat : Int)) ∧ w'.cell? ⟨b, off + k * 7 + 6, none⟩ = some (.slice Ak y.keep.length ck)) w7 from (fun h => (cells.out _ bd6 : _) |> fun q => ⟨(h _ rfl).trans q.1, (h _ rfl).trans q.2.1, (h _ rfl).trans q.2.2.1, (h _ rfl).trans q.2.2.2.1, (h _ rfl).trans q.2.2.2.2.1, (h _ rfl).trans q.2.2.2.2.2.1, (h _ rfl).trans q.2.2.2.2.2.2⟩) (show ∀ a : Addr, a.block = b → w7.cell? a = w6.cell? a from fun a ha => by have hb6 := Nat.lt_of_lt_of_le hbr bd6.size; simp only [World.cell?, ha, k7.block hb6 (fun e => by have := hge _ e; omega)])))); (try (go_wp2_with fail)); refine hK.out _ _ (by first | (first | with_reducible exact cells.out _ bd | with_reducible exact cells.out _ bd6 | with_reducible exact hc7.out) | ((try dsimp only); (first | with_reducible exact cells.out _ bd | with_reducible exact cells.out _ bd6 | with_reducible exact hc7.out))) (fun hHeld => ?_)
            clear hK K
            try simp only [Act.put, List.setIfInBounds_toArray, List.set_cons_zero, List.set_cons_succ]
            refine wpAnyH_done (by kernel_rfl) ?_ _
            go_wp2_with fail
            have bw6 := bt bel bd6
            go_roundw
            case rel => exact ⟨k + 1, by omega, by go_num, fq7, by rw [Htk.out]; exact hD7, f7.ge hge bw6.size, bw6.trans (k7.below hge bw6.size)⟩
            case measure => simp [intOf]; omega
        · rw [show actN (p : Int) s y = s from if_neg hmay] at Htk
          have t1 : y.place = (p : Int) := Classical.byContradiction fun e => hmay (.inl e)
          have tt := bne_no t1
          rcases (show y.kind < 1 ∨ (1 ≤ y.kind ∧ 4 < y.kind) by
            rcases Int.lt_or_le y.kind 1 with h | h
            · exact .inl h
            · exact .inr ⟨h, by rcases Int.lt_or_le 4 y.kind with h2 | h2; exact h2; exact absurd (.inr ⟨h, h2⟩) hmay⟩) with t2 | ⟨t2, t3⟩
          all_goals
            clear hmay t1
            go_wp2_with fail
            go_roundw
            case rel => exact ⟨k + 1, by omega, by go_num, fq, by rw [Htk.out]; exact hD, hge, bel⟩
            case measure => simp [intOf]; omega
      · obtain rfl : k = l.length := by omega
        rw [List.take_length] at Hs
        have hsS : SafeAt p X s := by rw [Hs.out]; exact safe_acts l hsafe
        have hsm : s.size = m := by rw [Hs.out, size_actsN, hsz0]
        have HK := kept_any g fq s (p : Int)
        rw [show keptAt s (p : Int) = X from by unfold keptAt; rw [if_neg (by omega)]; simpa using hsS.kept] at HK
        have HKK := Lib.hid (fun W (bW : Below wr.heap.size wr W) => HK W (hD.on bW))
        have hXb := Lib.hid (show X.length ≤ 1000000000000 from by have := HXl.out; omega)
        clear HK hsS hsm hD
        go_wp2_with (first
          | (go_at_call 74; refine (arm_nil _ _).mono ?_; rintro e w1 ⟨rfl, rfl⟩)
          | (go_at_call 35; refine (restart_nil _).mono ?_; rintro e w1 ⟨rfl, b1⟩)
          | (go_at_call 75; refine (read_nil _ _).mono ?_; rintro e w2 ⟨rfl, b2⟩; have c2 := bt b1 b2)
          | (go_at_call 69; refine (size_nil _).mono ?_; rintro e w3 ⟨rfl, b3⟩; have c3 := bt c2 b3)
          | (go_at_call 68; refine (calls_nil _).mono ?_; rintro e w4 ⟨rfl, b4⟩; have c4 := bt c3 b4)
          | (go_at_call 34; refine (write_nil _ _).mono ?_; rintro e w5 ⟨rfl, b5⟩; have c5 := bt c4 b5)
          | (go_at_call 73; refine (flush_nil _).mono ?_; rintro e w6 ⟨rfl, b6⟩; have c6 := bt c5 b6)
          | (go_at_call 32; refine (put_nil _ _).mono ?_; rintro e w7 ⟨rfl, b7⟩; have c7 := bt c6 b7)
          | (go_at_call 67; refine (down_nil _).mono ?_; rintro e w8 ⟨rfl, rfl⟩)
          | (go_at_call 38; (with_reducible refine (kept_nil' 0 _).mono ?_); rintro e w8 ⟨rfl, rfl⟩)
          | (go_at_call 71; refine (pending_nil _).mono ?_; rintro e w9 ⟨rfl, b9⟩; have c9 := bt c7 b9)
          | (go_at_call 37; refine (history_nil _).mono ?_; rintro e w10 ⟨rfl, b10⟩; have c10 := bt c9 b10)
          | (go_at_call 38; refine (HKK.out _ c10).mono ?_; rintro e w11 ⟨v11, rfl, hN11, b11⟩; obtain ⟨A11, c11', rfl, hc111, hc112, hr11⟩ := hN11.rdN (fp := []) (fun j hj => by cases hj); have c11 := bt c10 b11)
          | (go_at_call 33; refine (Hfull.out _).mono ?_; rintro e w12 ⟨A12, c12', rfl, own12, b12⟩; have hr12 := Rd.own own12; have c12 := bt c11 b12)
          | (go_at_call 19; refine (R1.same_any A11 A12 X X X.length 512 c11' c12' _ rfl HXl.out.symm (hr11.on b12).rd hr12 hXb.out hXb.out).mono ?_; rw [R1.sameB_self]; rintro e w13 ⟨rfl, b13⟩; have c13 := bt c12 b13)
          | (go_at_call 30; refine (alive_any _).mono ?_; rintro e w14 ⟨rfl, b14⟩; have c14 := bt c13 b14))
        go_ret
        exact ⟨rfl, bt bel c14⟩
set_option maxRecDepth 100000 in
theorem lifted (os : Os) (started : os.Started) (H : Type) (enc : TypeId × Value → H) :
    ReturnsInHanded {} Try.checked os 13 .any (Rows.diskKeepsSpec.pre6 enc Try.prog Try.f13 Rows.diskKeepsRow.domain false) (Rows.diskKeepsSpec.post enc Try.prog Try.f13 false true false false) := by
  refine returnsInHanded_of_change (C := Try.checked) own started (by kernel_rfl) Try.func13
    (ChangeSpec.witness6 (enc := enc) (C := Try.checked) false ⟨#[], #[.int .i64 0, .int .i64 0, .int .u8 0, .slice none 0 0], []⟩ 8 (by kernel_rfl) (by kernel_rfl) (by kernel_rfl) (by kernel_rfl)) ?_
  intro W base args ds gs before hval0 hW hcnd _
  have hval : ∀ (j : Nat) t v, Try.f13.params[j]? = some t → args[j]? = some v → Value.okWide Try.prog W .any base t v := hval0
  have hW' := hW
  obtain ⟨p, q, hA0, hV, rfl, hfz, hnd⟩ := hW
  have hA : DataW.TrodAll enc Try.prog W 0 (fun _ => true) true Try.f13.params.toList args.toList ds p := hA0
  rw [Try.params13] at hA hval
  obtain ⟨v0, vs0, d0, ds0, p0, q0, hargs, rfl, rfl, h0, r0⟩ := trodAll_cons hA
  obtain ⟨v1, vs1, d1, ds1, p1, q1, rfl, rfl, rfl, h1, r1⟩ := trodAll_cons r0
  obtain ⟨v2, vs2, d2, ds2, p2, q2, rfl, rfl, rfl, h2, r2⟩ := trodAll_cons r1
  obtain ⟨v3, vs3, d3, ds3, p3, q3, rfl, rfl, rfl, h3, r3⟩ := trodAll_cons r2
  obtain ⟨rfl, rfl, rfl⟩ := trodAll_nil r3
  obtain rfl : args = #[v0, v1, v2, v3] := by cases args; simp_all
  obtain ⟨rfl, rfl⟩ := trodVars_none hV
  have k0 := h0
  have lt0 := places_lt k0
  obtain ⟨n0, rfl, _, _, w0⟩ := open_int Try.underlying3 (hval 0 3 v0 rfl rfl) h0
  have k1 := h1
  have lt1 := places_lt k1
  obtain ⟨n1, rfl, _, _, w1⟩ := open_int Try.underlying3 (hval 1 3 v1 rfl rfl) h1
  have k2 := h2
  have lt2 := places_lt k2
  obtain ⟨n2, rfl, _, _, w2⟩ := open_int Try.underlying5 (hval 2 5 v2 rfl rfl) h2
  obtain ⟨x2, rfl⟩ := wf8 w2
  have k3 := h3
  have lt3 := places_lt k3
  obtain ⟨a3, len3, cap3, rfl⟩ := okWide_slice Try.underlying105 (hval 3 105 v3 rfl rfl)
  obtain ⟨fuel3, hf3⟩ := h3
  obtain ⟨l3, rfl, rr3, rc3, rm3⟩ := acts_of hf3
  clear hA0 hval0
  refine (walk n0 n1 x2 a3 l3 cap3 W (wfi w0).1 (wfi w0).2 (wfi w1).1 (wfi w1).2 rr3 rc3 rm3).mono fun e W' ⟨he, bel⟩ => ?_
  subst he
  exact ⟨_, rfl, _, _, _, [], _, [], hW', trodAll_mk1 (shut_bool Try.underlying4 _), (trodAll_cons_mk (Below.trod laidOut (by kernel_rfl) (of_decide_eq_true (by kernel_rfl)) k0 bel lt0) (trodAll_cons_mk (Below.trod laidOut (by kernel_rfl) (of_decide_eq_true (by kernel_rfl)) k1 bel lt1) (trodAll_cons_mk (Below.trod laidOut (by kernel_rfl) (of_decide_eq_true (by kernel_rfl)) k2 bel lt2) (trodAll_cons_mk (Below.trod laidOut (by kernel_rfl) (of_decide_eq_true (by kernel_rfl)) k3 bel lt3) trodAll_mk0)))), rfl, bel.frame _, fun h => by cases h⟩

theorem proved : Rows.DiskKeepsSaid :=
  OpenClaim.holds_of_wide 13 Try.f13 rfl rfl rfl rfl rfl rfl rfl ⟨rfl, rfl, rfl, rfl, rfl⟩ rfl rfl rfl rfl rfl (by kernel_rfl) Try.func13 (by kernel_rfl)
    (of_decide_eq_true (by kernel_rfl)) (by unfold Func.isWrapper; first | (rw [if_pos (by decide +kernel)]; kernel_rfl) | (rw [if_neg (by decide +kernel)]; exact ⟨rfl, rfl⟩))
    (fun os started H enc _ => lifted os started H enc)
#print axioms proved
end Go.Proofs.Ytdkcdojcglmlbaa.DiskKeeps
