/- The walks of the reference's Stream, and of both Over. -/
import Derived.Test.YteecbjpnnklbpaaCtr4
import Derived.Deep.RegionHeld3
namespace Go.Proofs.Yteecbjpnnklbpaa.Ctr
open Go.RowKit
open Go.Proofs.Yteecbjpnnklbpaa.Aes
set_option linter.unusedVariables false
set_option maxRecDepth 100000
theorem bcells {B : Nat} {a w : World} (h : Below B a w) {b : Nat} (hb : B ≤ b) (o : Nat) (vs : List Value) (hs : B ≤ w.heap.size) : Below B a (w.setCells b o vs) :=
  h.grown (setCells_grown b vs o w) hs (fun k e => by cases e; exact hb)
set_option maxHeartbeats 1600000 in
theorem rstream_any (A B : Option Addr) (key nonce : List UInt8) (n c m d : Nat) (i : Int) (w : World) (hn : n = key.length) (hm : m = nonce.length) (hc : n ≤ c) (hcm : c ≤ maxLen) (hd : m ≤ d) (hdm : d ≤ maxLen)
    (hr : Rd w w.heap.size A (key.map e8)) (hq : Rd w w.heap.size B (nonce.map e8)) (hi0 : -9223372036854775808 ≤ i) (hi1 : i ≤ 9223372036854775807) (hn9 : n ≤ 1000000000) (hm9 : m ≤ 1000000000) :
    Calls Try.prog 26 #[.slice A n c, .slice B m d, .int .i64 i] w fun e w' => RetF w (strB key nonce i) (strF key nonce i) e w' := by
  obtain ⟨i0, hi0', hz0, hz1, hz2⟩ := info_parts info8
  have hri : ∀ W, Calls Try.prog 40 #[.slice A n c, .slice B m d] W fun e w' => e = .returned (.bool (decide (okK key nonce))) ∧ W = w' := fun W => by
    have := right_any A B n c m d W hn9 hm9
    subst hn hm
    exact this
  have zR := zeroVR
  have hZ := zero240_len
  obtain ⟨Z, hZe⟩ : ∃ Z, Z = zero240 := ⟨_, rfl⟩
  rw [← hZe] at zR hZ
  have HZ := Lib.hid hZ
  clear hZe hZ
  by_cases hok : okK key nonce
  · have hat0 := Lib.hid (show strF key nonce i = if i < 0 ∨ 65536 < i then 2 else 0 by rw [strF, if_pos hok])
    have hat1 := Lib.hid (show strB key nonce i = if i < 0 ∨ 65536 < i then [] else stream (sched key) nonce i.toNat by rw [strB, if_pos hok])
    rw [show decide (okK key nonce) = true from decide_eq_true hok] at hri
    have Hri := Lib.hid hri
    have hk32 := hok.1
    have hn16 := hok.2
    have hkk : keysOf key = sched key := by rw [keysOf, if_pos hok.1]
    have hsc : ∀ W, Below w.heap.size w W → Calls Try.prog 19 #[.slice A n c] W fun e w' => e = .returned (.tuple #[arrV (vb (sched key)), .int .i64 0]) ∧ Below W.heap.size W w' := fun W hW => by
      have := rschedule_any A key n c W hn hc hcm (hr.on hW)
      rwa [hkk, if_pos hk32] at this
    have hsl := sched_len key
    obtain ⟨L, hL⟩ : ∃ L, L = sched key := ⟨_, rfl⟩
    rw [← hL] at hsc hat1 hsl
    have hszL := size240 sizeR hsl
    have hZL := Lib.hid (show (vb Z).length = (vb L).length by rw [vb_len, vb_len, hsl, HZ.out])
    have HLl := Lib.hid hsl
    have Hsc := Lib.hid hsc
    have H16 := Lib.hid hn16
    clear hok hri hkk hsc hsl hL hk32
    subst hn
    subst hm
    by_cases hrg : i < 0 ∨ 65536 < i
    · rw [if_pos hrg] at hat0 hat1
      by_cases hneg : i < 0
      · clear hrg hn16
        go_enter Try.func26, Try.ntmps26
        go_wp2_with fail
        refine (Hri.out _).mono ?_
        rintro e w2 ⟨rfl, rfl⟩
        go_wp2_with fail
        rw [hat0.out, hat1.out]
        go_ret2
        exact RetF.nil (Below.refl _ _)
      · have hbig : 65536 < i := by omega
        have hneg' : 0 ≤ i := by omega
        clear hrg hn16
        go_enter Try.func26, Try.ntmps26
        go_wp2_with fail
        refine (Hri.out _).mono ?_
        rintro e w2 ⟨rfl, rfl⟩
        go_wp2_with fail
        rw [hat0.out, hat1.out]
        go_ret2
        exact RetF.nil (Below.refl _ _)
    · rw [if_neg hrg] at hat0 hat1
      have hneg : ¬ i < 0 := by omega
      have hbig : ¬ 65536 < i := by omega
      obtain ⟨n, rfl⟩ : ∃ n : Nat, i = (n : Int) := ⟨i.toNat, by omega⟩
      rw [Int.toNat_natCast] at hat1
      have HnB := Lib.hid (show n ≤ 65536 by omega)
      have hge : decide ((65536 : Int) < (n : Int)) = false := by simp; omega
      obtain ⟨b, off, rfl⟩ : ∃ b off, B = some ⟨b, off, none⟩ := by
        obtain ⟨b, off, e, _, _⟩ := hq (by intro e; have := congrArg List.length e; rw [List.length_map, List.length_nil] at this; omega)
        exact ⟨b, off, e⟩
      have hd16 : 16 ≤ d := by omega
      have hcn : ∀ (j : Nat) W, j ≤ 1000000 → Below w.heap.size w W → Calls Try.prog 41 #[.slice (some ⟨b, off, none⟩) nonce.length d, .int .i64 (j : Int)] W fun e w' => e = .returned (arrV (vb (later nonce j))) ∧ Below W.heap.size W w' := fun j W hj hW => by
        have := counter_any b off nonce d j (j : Int) rfl W hn16 (by omega) hd16 hdm (hq.on hW)
        rwa [← hn16] at this
      have Hcn := Lib.hid hcn
      clear hrg hneg hbig hi0 hi1 hcn hn16 hd16
      go_enter Try.func26, Try.ntmps26
      go_wp2_with fail
      refine (Hri.out _).mono ?_
      rintro e w2 ⟨rfl, rfl⟩
      go_wp2_with fail
      refine (Hsc.out _ (Below.refl _ _)).mono ?_
      rintro e w2 ⟨rfl, bt2⟩
      go_wp2_with (first
        | ((with_reducible show wpList _ _ _ (⟨some 8, _, _, _, _, _⟩ :: _) _ _); refine wpList_allocN rfl _ rfl (vb Z) zR ?_; intro w3 hb3 bw3 hs3)
        | ((with_reducible show wpList _ _ _ (⟨none, .store 28 (.tmp 8) _, _, _, _, _⟩ :: _) _ _); refine wpList_storeN rfl _ _ _ rfl rfl (ys := vb L) rfl hb3 hZL.out (vb_one _) hszL ?_; intro w5 hb5 hg5; have b5 := below_row bw3 hg5 (Nat.le_refl _) bw3.size; have bt5 := bt bt2 b5)
        | fail)
      have l02 := bt2.size
      have l25 : w2.heap.size < w5.heap.size := hb5.lt
      obtain ⟨B8, hB8⟩ : ∃ B, B = w2.heap.size := ⟨_, rfl⟩
      rw [← hB8] at hb5 l02 l25 ⊢
      obtain ⟨BB, hBB⟩ : ∃ B, B = w5.heap.size := ⟨_, rfl⟩
      have l6 : B8 < BB := by omega
      have hBs : BB ≤ w5.heap.size := by omega
      clear hB8 hBB hb3 hg5 bw3 b5 hs3 bt2 l25
      go_loopw [10, 11] (fun v i wr => ∃ k j : Nat, Hid (j = 16 * k ∧ j < n + 16) ∧ i = .int .i64 (k : Int) ∧ wr.ownsRow BB 5 1 v j ((row L nonce k).map e8) ∧ Blk wr B8 (vb L) ∧ Below w.heap.size w wr ∧ BB ≤ wr.heap.size) (fun v _ _ => n - lenS v)
      case atStart => exact ⟨0, 0, Lib.hid (by omega), rfl, own_nil _ _ _ _, hb5, bt5, hBs⟩
      case round =>
        obtain ⟨k, j, hj, rfl, hown, d8, bt0, hsz⟩ := hrel
        clear hb5 bt5 hBs
        obtain ⟨A0, c0, rfl⟩ := own_form hown
        have hcap := own_cap hown
        by_cases hlt : j < n
        · have hltI : (j : Int) < (n : Int) := by omega
          have hjb : j ≤ 65536 := by have := HnB.out; omega
          have hkb : k ≤ 1000000 := by have := hj.out; omega
          have hDl : (later nonce k).length = 16 := by rw [later_len, H16.out]
          have hct := Lib.hid (fun W hW => Hcn.out k W hkb hW)
          have hen := Lib.hid (fun W => rencrypt_any L (later nonce k) HLl.out hDl W)
          have hEe := Lib.hid (show row L nonce (k + 1) = row L nonce k ++ encrypt L (later nonce k) by rw [row, block])
          have hEl := Lib.hid (encrypt_len L (later nonce k))
          obtain ⟨D, hD⟩ : ∃ D, D = later nonce k := ⟨_, rfl⟩
          rw [← hD] at hct hen hEe hEl
          obtain ⟨E, hE⟩ : ∃ E, E = encrypt L D := ⟨_, rfl⟩
          rw [← hE] at hen hEe hEl
          have hwk : IntKind.i64.wrap ((k : Int) + 1) = (k : Int) + 1 := wrap_small (by omega) (by omega)
          have Hlt := Lib.hid hlt
          have hszE := sizeL hEl.out
          have hrgL : wr.rangeAt B8 0 (vb L) := range_sub d8 (by simp) (fun j hj => by rw [Nat.zero_add])
          have Hrg := Lib.hid (fun W (hW : Below wr.heap.size wr W) => (range_sub (d8.on hW) (by simp) (fun j hj => by rw [Nat.zero_add]) : W.rangeAt B8 0 (vb L)))
          have bel0 : Below wr.heap.size wr wr.drew := (Below.refl _ _).drew
          have bel00 : Below wr.heap.size wr wr := (Below.refl _ _)
          clear hE hD hDl hlt hcap hkb
          have hu28 := Try.underlying28
          have hu16 := Try.underlying22
          have hi16 : (Try.prog.info? 22).map (·.size) = some 16 := size16
          have hone : ∀ v ∈ vb E, v.oneCell' = true := vb_one _
          have hEl16 := hEl.out
          have hvl : (vb E).length = 16 := by rw [vb_len]; exact hEl16
          have Hvl := Lib.hid hvl
          have hBn : Blk (wr.alloc (.cells #[.int .u8 0, .int .u8 0, .int .u8 0, .int .u8 0, .int .u8 0, .int .u8 0, .int .u8 0, .int .u8 0, .int .u8 0, .int .u8 0, .int .u8 0, .int .u8 0, .int .u8 0, .int .u8 0, .int .u8 0, .int .u8 0] 22)).drew wr.heap.size (vb zero16) := Blk.new wr (vb zero16) 22
          clear hEl16 hvl
          go_wp2
          go_region_held3 (fun w' => w'.rangeAt B8 0 (vb L)) (first | (refine Hrg.out _ ?_; first | exact bc4 | exact bc3 | exact bel0 | exact bel00 | exact bt bc4 (b1alloc _ _) | exact bt bc3 (b1alloc _ _) | exact bt bel0 (b1alloc _ _) | exact bcells (bt bc4 (b1alloc _ _)) bc4.size 0 _ (Nat.le_trans bc4.size (b1alloc _ _).size) | exact bcells bc4 bc3.size 0 _ bc4.size | exact bcells bc4 (Nat.le_refl _) 0 _ bc4.size) | go_keep)
            (first
            | (go_at_call 41; refine (hct.out _ (bt bt0 (by first | exact bel0 | exact bt bel0 (b1alloc _ _)))).mono ?_; rintro e w3 ⟨rfl, b3⟩; have bc3 : Below wr.heap.size wr w3 := (by first | exact bt bel0 b3 | exact bt (bt bel0 (b1alloc _ _)) b3))
            | (go_at_call 21; refine (hen.out _).mono ?_; rintro e w4 ⟨rfl, b4⟩; have bc4 : Below wr.heap.size wr w4 := (by first | exact bt bc3 b4 | exact bt (bt bc3 (b1alloc _ _)) b4); have th4 : (w4.alloc (.cells #[.int .u8 0, .int .u8 0, .int .u8 0, .int .u8 0, .int .u8 0, .int .u8 0, .int .u8 0, .int .u8 0, .int .u8 0, .int .u8 0, .int .u8 0, .int .u8 0, .int .u8 0, .int .u8 0, .int .u8 0, .int .u8 0] 22)).there w4.heap.size 0 (vb E).length := there_sub (Blk.new w4 (vb zero16) 22) (by rw [Hvl.out]; decide); (try (have hchk2 : Below (w3.alloc (.cells #[.int .u8 0, .int .u8 0, .int .u8 0, .int .u8 0, .int .u8 0, .int .u8 0, .int .u8 0, .int .u8 0, .int .u8 0, .int .u8 0, .int .u8 0, .int .u8 0, .int .u8 0, .int .u8 0, .int .u8 0, .int .u8 0] 22)).heap.size (w3.alloc (.cells #[.int .u8 0, .int .u8 0, .int .u8 0, .int .u8 0, .int .u8 0, .int .u8 0, .int .u8 0, .int .u8 0, .int .u8 0, .int .u8 0, .int .u8 0, .int .u8 0, .int .u8 0, .int .u8 0, .int .u8 0, .int .u8 0] 22)) w4 := b4; have q2 : Blk w4 w3.heap.size (vb zero16) := (Blk.new w3 (vb zero16) 22).on hchk2; have th2 : w4.there w3.heap.size 0 (vb E).length := there_sub q2 (by rw [Hvl.out]; decide))); (try (have hchk3 : Below (wr.alloc (.cells #[.int .u8 0, .int .u8 0, .int .u8 0, .int .u8 0, .int .u8 0, .int .u8 0, .int .u8 0, .int .u8 0, .int .u8 0, .int .u8 0, .int .u8 0, .int .u8 0, .int .u8 0, .int .u8 0, .int .u8 0, .int .u8 0] 22)).drew.heap.size (wr.alloc (.cells #[.int .u8 0, .int .u8 0, .int .u8 0, .int .u8 0, .int .u8 0, .int .u8 0, .int .u8 0, .int .u8 0, .int .u8 0, .int .u8 0, .int .u8 0, .int .u8 0, .int .u8 0, .int .u8 0, .int .u8 0, .int .u8 0] 22)).drew w3 := b3; have q3 : Blk w4 wr.heap.size (vb zero16) := (hBn.on hchk3).on b4; have th3 : w4.there wr.heap.size 0 (vb E).length := there_sub q3 (by rw [Hvl.out]; decide))))
            | fail)
          all_goals
            first
            | (have f3 := Blk.setCells (vb E) 0 q3
               rw [splice_all (l := E) (z := zero16) (by rw [hEl.out]; rfl)] at f3
               have bW : Below wr.heap.size wr (w4.setCells wr.heap.size 0 (vb E)) := bcells bc4 (Nat.le_refl _) 0 _ bc4.size
               have lB3' : wr.heap.size ≤ wr.heap.size := Nat.le_refl _
               obtain ⟨W1, hW1⟩ : ∃ W, W = (w4.setCells wr.heap.size 0 (vb E)) := ⟨_, rfl⟩
               rw [← hW1] at f3 bW ⊢
               obtain ⟨B3, hB3⟩ : ∃ B, B = wr.heap.size := ⟨_, rfl⟩
               have lB3 : wr.heap.size ≤ B3 := by omega
               rw [← hB3] at f3 ⊢
               clear hW1 hB3 lB3')
            | (have f3 := Blk.setCells (vb E) 0 q2
               rw [splice_all (l := E) (z := zero16) (by rw [hEl.out]; rfl)] at f3
               have bW : Below wr.heap.size wr (w4.setCells w3.heap.size 0 (vb E)) := bcells bc4 bc3.size 0 _ bc4.size
               have lB3' : wr.heap.size ≤ w3.heap.size := bc3.size
               obtain ⟨W1, hW1⟩ : ∃ W, W = (w4.setCells w3.heap.size 0 (vb E)) := ⟨_, rfl⟩
               rw [← hW1] at f3 bW ⊢
               obtain ⟨B3, hB3⟩ : ∃ B, B = w3.heap.size := ⟨_, rfl⟩
               have lB3 : wr.heap.size ≤ B3 := by omega
               rw [← hB3] at f3 ⊢
               clear hW1 hB3 lB3')
            | (have f3 := Blk.setCells (vb E) 0 (show Blk (w4.alloc (.cells #[.int .u8 0, .int .u8 0, .int .u8 0, .int .u8 0, .int .u8 0, .int .u8 0, .int .u8 0, .int .u8 0, .int .u8 0, .int .u8 0, .int .u8 0, .int .u8 0, .int .u8 0, .int .u8 0, .int .u8 0, .int .u8 0] 22)) w4.heap.size (vb zero16) from Blk.new w4 (vb zero16) 22)
               rw [splice_all (l := E) (z := zero16) (by rw [hEl.out]; rfl)] at f3
               have bW : Below wr.heap.size wr ((w4.alloc (.cells #[.int .u8 0, .int .u8 0, .int .u8 0, .int .u8 0, .int .u8 0, .int .u8 0, .int .u8 0, .int .u8 0, .int .u8 0, .int .u8 0, .int .u8 0, .int .u8 0, .int .u8 0, .int .u8 0, .int .u8 0, .int .u8 0] 22)).setCells w4.heap.size 0 (vb E)) := bcells (bt bc4 (b1alloc _ _)) bc4.size 0 _ (Nat.le_trans bc4.size (b1alloc _ _).size)
               have lB3' : wr.heap.size ≤ w4.heap.size := bc4.size
               obtain ⟨W1, hW1⟩ : ∃ W, W = ((w4.alloc (.cells #[.int .u8 0, .int .u8 0, .int .u8 0, .int .u8 0, .int .u8 0, .int .u8 0, .int .u8 0, .int .u8 0, .int .u8 0, .int .u8 0, .int .u8 0, .int .u8 0, .int .u8 0, .int .u8 0, .int .u8 0, .int .u8 0] 22)).setCells w4.heap.size 0 (vb E)) := ⟨_, rfl⟩
               rw [← hW1] at f3 bW ⊢
               obtain ⟨B3, hB3⟩ : ∃ B, B = w4.heap.size := ⟨_, rfl⟩
               have lB3 : wr.heap.size ≤ B3 := by omega
               rw [← hB3] at f3 ⊢
               clear hW1 hB3 lB3')
            have e8' := d8.on bW
            have hown1 := own_on hown bW
            have btW := bt bt0 bW
            have hszW : BB ≤ W1.heap.size := Nat.le_trans hsz bW.size
            have hnb : ∀ g, (Value.slice A0 j c0).ownBlock = some g → g ≠ B3 := fun g hg => by have := (hown.lt g hg).2; omega
            have l38 : B8 < B3 := by have := d8.lt; omega
            have lBB3 : BB ≤ B3 := by omega
            clear b3 b4 bc3 bc4 th4 bW d8 hown bt0 hsz hrgL bel0 bel00 hBn hone
            go_wp2
            go_loopw [10, 13] (fun v i wx => ∃ r : Nat, r ≤ 16 ∧ i = .int .i64 r ∧ wx.ownsRow BB 5 1 v (j + r) ((row L nonce k ++ E.take r).map e8) ∧ Blk wx B8 (vb L) ∧ Blk wx B3 (vb E) ∧ (∀ g, v.ownBlock = some g → g ≠ B3) ∧ Below w.heap.size w wx ∧ BB ≤ wx.heap.size) (fun _ i _ => 16 - (intOf i).toNat)
            case atStart => exact ⟨0, by omega, rfl, by rw [List.take_zero, List.append_nil]; exact hown1, e8', f3, hnb, btW, hszW⟩
            case round =>
              obtain ⟨r, hr, rfl, g10, g8, g3, gnb, gb, gs⟩ := hrel
              clear hown1 e8' f3 hnb btW hszW
              obtain ⟨A1, c1, rfl⟩ := own_form g10
              by_cases hlr : r < 16
              · have hcc := Blk.byte g3 (k := r) (by rw [hEl.out]; exact hlr)
                have hts := Lib.hid (take_snoc E r (by rw [hEl.out]; exact hlr))
                obtain ⟨x, hx⟩ : ∃ x, x = E.getD r 0 := ⟨_, rfl⟩
                rw [← hx] at hcc hts
                have hrI : (r : Int) < 16 := by omega
                have hB3 := g3.lt
                have hbs := fun g' hg' => own_block (k := g') g10 hg'
                clear hx
                go_wp2_with (at_builtin; refine wpList_append_rd _ rfl _ _ _ rfl BB 5 i0 _ 1 1 Try.underlying27 hi0' hz0 hz1 hz2 rfl (by omega) _ (j + r) _ rfl (g10.alloc _) _ _ 1 1 [e8 x] rfl rfl (Rd.lit wr _ _ _ (wr.heap.size + 1) rfl (by omega)) (one_int _ _) (by simp only [maxLen]; omega) (by omega) (le_alloc gs _) ?_; intro v8 w8 hown8 hg8 hat8)
                go_roundw
                case rel =>
                  refine ⟨r + 1, by omega, by go_num, by rw [hts.out, ← List.append_assoc, List.map_append]; exact hown8, (g8.alloc _).grown hg8 (fun e => by have := hbs _ e.symm; omega), (g3.alloc _).grown hg8 (fun e => gnb _ e.symm rfl), ?_, (gb.alloc gb.size _).grown hg8 (le_alloc gb.size _) (fun g' hg' => by have := hbs _ hg'; omega), Nat.le_trans (le_alloc gs _) hg8.size⟩
                  intro g' hg'
                  rcases hat8 with h | h
                  · rw [h] at hg'; exact gnb _ hg'
                  · rw [h] at hg'
                    have h2 := Option.some.inj hg'
                    simp at h2
                    omega
                case measure => simp [intOf]; omega
              · obtain rfl : r = 16 := by omega
                rw [List.take_of_length_le (by rw [hEl.out]; omega), ← hEe.out] at g10
                go_wp2
                go_roundw
                case rel => exact ⟨k + 1, j + 16, Lib.hid (by have := hj.out; have := Hlt.out; omega), (by first | rfl | go_num), g10, g8, gb, gs⟩
                case measure => have := Hlt.out; simp [lenS]; omega
        · have hge' : n ≤ j := by omega
          have hltI : ¬ (j : Int) < (n : Int) := by omega
          have hcI : (n : Int) ≤ (c0 : Int) := by omega
          have hcN : n ≤ c0 := by omega
          have hmx := hcap.2
          have hrd := Rd.own hown
          have hrs := stream_of_row L nonce n k (by have := hj.out; omega)
          have hres := Lib.hid (show strB key nonce (n : Int) = (row L nonce k).take n by rw [hat1.out, hrs])
          have hrl := row_len L nonce k
          have Hrl := Lib.hid (show ((row L nonce k).take n).length = n by rw [List.length_take, hrl]; have := hj.out; omega)
          have hrd2 := hrd.take n
          rw [← List.map_take] at hrd2
          clear hcap hlt hrs hrl hge'
          go_wp2
          rw [hat0.out, hres.out]
          go_ret2
          exact ⟨A0, c0, by rw [Hrl.out]; rfl, hrd2, by rw [Hrl.out]; exact hcN, hmx, bt0⟩
  · have hat0 := Lib.hid (show strF key nonce i = 4 by rw [strF, if_neg hok])
    have hat1 := Lib.hid (show strB key nonce i = [] by rw [strB, if_neg hok])
    rw [show decide (okK key nonce) = false from decide_eq_false hok] at hri
    have Hri := Lib.hid hri
    clear hok hri
    subst hn
    subst hm
    go_enter Try.func26, Try.ntmps26
    go_wp2_with fail
    refine (Hri.out _).mono ?_
    rintro e w2 ⟨rfl, rfl⟩
    go_wp2_with fail
    rw [hat0.out, hat1.out]
    go_ret2
    exact RetF.nil (Below.refl _ _)
end Go.Proofs.Yteecbjpnnklbpaa.Ctr
