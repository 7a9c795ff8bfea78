/- Texts of this claim, joined: Box1, Box2, Box3. -/
import Derived.Test.YteecbjpnnklbpaaDoorGH
import Derived.Test.YteecbjpnnklbpaaDoorGI
import Derived.Lib.MinMax
import Derived.Deep.RegionHeld3
/- The walks of the package box and of the reference's layer 13. -/
namespace Go.Proofs.YteecbjpnnklbpaaDoor.Box
open Go.RowKit
open Go.Proofs.YteecbjpnnklbpaaDoor.Ctr (RetF strF overB over_any rover_any RetF.nil okK)
open Go.Proofs.YteecbjpnnklbpaaDoor.Kdf (RetD RetDC derive_cap rderive_cap)
open Go.Proofs.YteecbjpnnklbpaaDoor.Kdf
open Go.Proofs.YteecbjpnnklbpaaDoor.Mac (mac mac_len of_any rof_any check_any)
set_option linter.unusedVariables false
set_option maxRecDepth 100000
def sealL : List UInt8 := [115, 101, 97, 108]
def tagL : List UInt8 := [116, 97, 103]
def sealK (key : List UInt8) : List UInt8 := derive key sealL
def tagK (key : List UInt8) : List UInt8 := derive key tagL
theorem sealK_len (key : List UInt8) : (sealK key).length = 32 := derive_len _ _
theorem tagK_len (key : List UInt8) : (tagK key).length = 32 := derive_len _ _
theorem info8 : (Tryd.prog.info? 5).map (fun i => (i.zero, i.size, i.bytes)) = some (some (.int .u8 0), 1, 1) := by kernel_rfl
set_option maxHeartbeats 400000 in
theorem size_any (n : Int) (w : World) (h0 : -9223372036854775808 ≤ n) (h1 : n ≤ 1099511627776) : Calls Tryd.prog 31 #[.int .i64 n] w fun e w' => e = .returned (.int .i64 (max n 0 + 48)) ∧ w = w' := by
  obtain ⟨k, hk⟩ : ∃ k, k = max n 0 := ⟨_, rfl⟩
  have hw : IntKind.i64.wrap (k + 48) = k + 48 := by rw [IntKind.wrap_i64]; omega
  rw [← hk]
  have hk' : max n 0 = k := hk.symm
  clear hk
  go_enter Tryd.func31, Tryd.ntmps31
  go_wp2
  go_ret
  exact ⟨rfl, rfl⟩
set_option maxHeartbeats 400000 in
theorem key_any (g : Nat) (A : Option Addr) (key lab : List UInt8) (n c : Nat) (w : World) (hn : n = key.length) (hg : w.cell? ⟨g, 0, none⟩ = some (.slice A n c)) (hr : Rd w w.heap.size A (key.map e8)) (bk : key.length ≤ 1000000000) (bl : lab.length ≤ 100000) (hk : Sha.Tab w) :
    Calls Tryd.prog 49 #[.string ⟨lab.toArray⟩, .pointer (some ⟨g, 0, none⟩)] w fun e w' => RetDC w (derive key lab) e w' := by
  have hd := Lib.hid (derive_cap A key lab n c w hn hr bk bl hk)
  have hl := Lib.hid (derive_len key lab)
  obtain ⟨D, hD⟩ : ∃ D, D = derive key lab := ⟨_, rfl⟩
  rw [← hD] at hd hl ⊢
  clear hD hn
  go_enter Tryd.func49, Tryd.ntmps49
  go_wp2_with fail
  refine hd.out.mono ?_
  rintro e w1 ⟨A1, c1, rfl, r1, q1, m1, b1⟩
  go_wp2_with fail
  go_ret
  exact ⟨A1, c1, rfl, r1, q1, m1, b1⟩
/-- two slices come back -/
def RetK (w : World) (l m : List UInt8) (e : Ending) (w' : World) : Prop :=
  ∃ A c B d, e = .returned (.tuple #[.slice A l.length c, .slice B m.length d]) ∧ Rd w' w'.heap.size A (l.map e8) ∧ l.length ≤ c ∧ c ≤ maxLen ∧ Rd w' w'.heap.size B (m.map e8) ∧ m.length ≤ d ∧ d ≤ maxLen ∧ Below w.heap.size w w'
set_option maxHeartbeats 400000 in
theorem keys_any (A : Option Addr) (key : List UInt8) (n c : Nat) (w : World) (hn : n = key.length) (hr : Rd w w.heap.size A (key.map e8)) (bk : key.length ≤ 1000000000) (hk : Sha.Tab w) :
    Calls Tryd.prog 28 #[.slice A n c] w fun e w' => RetK w (sealK key) (tagK key) e w' := by
  have hone : ∀ (lab : List UInt8), lab.length ≤ 100000 → ∀ (g : Nat) W, Below w.heap.size w W → W.cell? ⟨g, 0, none⟩ = some (.slice A n c) → Calls Tryd.prog 49 #[.string ⟨lab.toArray⟩, .pointer (some ⟨g, 0, none⟩)] W fun e w' => RetDC W (derive key lab) e w' := fun lab hl g W hW hg =>
    key_any g A key lab n c W hn hg (hr.on hW) bk hl (hk.on hW)
  have h1 := Lib.hid (hone sealL (by decide))
  have h2 := Lib.hid (hone tagL (by decide))
  have l1 := Lib.hid (sealK_len key)
  have l2 := Lib.hid (tagK_len key)
  obtain ⟨S, hS⟩ : ∃ D, D = sealK key := ⟨_, rfl⟩
  obtain ⟨T, hT⟩ : ∃ D, D = tagK key := ⟨_, rfl⟩
  rw [show derive key sealL = sealK key from rfl, ← hS] at h1
  rw [show derive key tagL = tagK key from rfl, ← hT] at h2
  rw [← hS] at l1 ⊢
  rw [← hT] at l2 ⊢
  have hval : ∀ w', Sem.run Tryd.prog (callFunc 49 #[.pointer (some ⟨w.heap.size, 0, none⟩)]) w' = .ok (.enter 49 #[.pointer (some ⟨w.heap.size, 0, none⟩)]) w' := by intro w; simp [go_sem]
  clear hS hT hone hn
  go_enter Tryd.func28, Tryd.ntmps28
  go_wp2_with fail
  refine (h1.out w.heap.size _ (b1alloc _ _) (by simp)).mono ?_
  rintro e w1 ⟨A1, c1, rfl, r1, q1, m1, b1⟩
  have bt1 := bt (b1alloc w (.cells #[.slice A n c] 37)) b1
  have hcell : w1.cell? ⟨w.heap.size, 0, none⟩ = some (.slice A n c) := (b1.cell (p := ⟨w.heap.size, 0, none⟩) (by simp)).trans (by simp)
  go_wp2_with fail
  refine (h2.out w.heap.size _ bt1 hcell).mono ?_
  rintro e w2 ⟨A2, c2, rfl, r2, q2, m2, b2⟩
  go_wp2_with fail
  go_ret2
  exact ⟨A1, c1, A2, c2, rfl, r1.on b2, q1, m1, r2, q2, m2, bt bt1 b2⟩
def bodyB (key nonce text : List UInt8) : List UInt8 := nonce ++ overB (sealK key) nonce text
def sealF (key nonce text : List UInt8) : Int := if okK key nonce then (if 60000 < text.length then 6 else 0) else 4
def sealB (key nonce text : List UInt8) : List UInt8 := if okK key nonce then (if 60000 < text.length then [] else bodyB key nonce text ++ mac (tagK key) (bodyB key nonce text)) else []
theorem over_f {S nonce : List UInt8} (hS : S.length = 32) (hn : nonce.length = 16) {n : Nat} (h : n ≤ 60000) : strF S nonce (n : Int) = 0 := by
  rw [strF, if_pos ⟨hS, hn⟩, if_neg (by omega)]
set_option maxHeartbeats 1000000 in
theorem seal_any (A B T : Option Addr) (key nonce text : List UInt8) (c d g : Nat) (w : World) (hc : key.length ≤ c) (hcm : c ≤ maxLen) (hd : nonce.length ≤ d) (hdm : d ≤ maxLen)
    (hr : Rd w w.heap.size A (key.map e8)) (hq : Rd w w.heap.size B (nonce.map e8)) (hx : Rd w w.heap.size T (text.map e8)) (bk : key.length ≤ 1000) (bn : nonce.length ≤ 1000) (bx : text.length ≤ 1000) (hk : Sha.Tab w) :
    Calls Tryd.prog 26 #[.slice A key.length c, .slice B nonce.length d, .slice T text.length g] w fun e w' => RetF w (sealB key nonce text) (sealF key nonce text) e w' := by
  obtain ⟨i0, hi0, hz0, hz1, hz2⟩ := info_parts info8
  by_cases h1 : key.length = 32
  · by_cases h2 : nonce.length = 16
    · have hs0 := Lib.hid (show sealF key nonce text = 0 by rw [sealF, if_pos ⟨h1, h2⟩, if_neg (by omega)])
      have hs1 := Lib.hid (show sealB key nonce text = bodyB key nonce text ++ mac (tagK key) (bodyB key nonce text) by rw [sealB, if_pos ⟨h1, h2⟩, if_neg (by omega)])
      have e1 : ((key.length : Int) != 32) = false := bne_no (by omega)
      have e2 : ((nonce.length : Int) != 16) = false := bne_no (by omega)
      have hf := over_f (sealK_len key) h2 (n := text.length) (by omega)
      have hky := Lib.hid (keys_any A key _ c w rfl hr (by omega) hk)
      have hov := Lib.hid (fun (A1 : Option Addr) c1 W (q1 : (sealK key).length ≤ c1) (m1 : c1 ≤ maxLen) (hW : Below w.heap.size w W) (r1 : Rd W W.heap.size A1 ((sealK key).map e8)) => over_any A1 B T (sealK key) nonce text _ c1 _ d _ g W rfl rfl rfl q1 m1 hd hdm r1 (hq.on hW) (hx.on hW) (by omega))
      rw [hf] at hov
      have hbd : bodyB key nonce text = nonce ++ overB (sealK key) nonce text := rfl
      have hol := Ctr.overB_len (sealK key) nonce text
      have hsl := sealK_len key
      have htl := tagK_len key
      obtain ⟨O, hO⟩ : ∃ O, O = overB (sealK key) nonce text := ⟨_, rfl⟩
      rw [← hO] at hov hbd hol
      rw [hbd] at hs1
      obtain ⟨S, hS⟩ : ∃ S, S = sealK key := ⟨_, rfl⟩
      rw [← hS] at hov hky hsl
      obtain ⟨TK, hT⟩ : ∃ S, S = tagK key := ⟨_, rfl⟩
      rw [← hT] at hs1 hky htl
      have HTl := Lib.hid htl
      have Hol := Lib.hid (show O.length ≤ 1000 by omega)
      clear hf hO hS hT hbd hol hsl htl h1 h2
      go_enter Tryd.func26, Tryd.ntmps26
      go_wp2_with fail
      refine hky.out.mono ?_
      rintro e w1 ⟨A1, c1, A2, c2, rfl, r1, q1, m1, r2, q2, m2, b1⟩
      go_wp2_with fail
      refine (hov.out A1 c1 w1 q1 m1 b1 r1).mono ?_
      rintro e w2 ⟨A3, c3, rfl, r3, q3, m3, b2⟩
      have bt2 := bt b1 b2
      go_wp2_with fail
      have hcat : Cat.cat [⟨B, nonce, d⟩, ⟨A3, O, c3⟩] = nonce ++ O := by simp [Cat.cat]
      have ba := b1alloc w2 (.cells #[.slice B nonce.length d, .slice A3 O.length c3] 37)
      have hcc := Cat.concat_any w2.heap.size [⟨B, nonce, d⟩, ⟨A3, O, c3⟩] 2 2 (w2.alloc (.cells #[.slice B nonce.length d, .slice A3 O.length c3] 37)) rfl (by simp)
        (by intro k hk
            match k, hk with
            | 0, _ => simp [Cat.Pc.val]
            | 1, _ => simp [Cat.Pc.val])
        (by intro p hp
            simp only [List.mem_cons, List.not_mem_nil, or_false] at hp
            rcases hp with rfl | rfl
            · exact (hq.on bt2).on ba
            · exact r3.on ba)
        (by unfold Cat.lens; rw [hcat, List.length_append]; have := Hol.out; omega) (by simp)
      rw [hcat] at hcc
      refine hcc.mono ?_
      clear hcc hcat
      rintro e w3 ⟨A4, c4, rfl, own4, b4⟩
      have bt4 := bt (bt bt2 ba) b4
      have hmo := Lib.hid (of_any A2 A4 TK (nonce ++ O) _ c2 _ c4 w3 rfl rfl (r2.on (bt (bt b2 ba) b4)) (Rd.own own4) (by rw [HTl.out]; omega) (by rw [List.length_append]; have := Hol.out; omega) (hk.on bt4))
      have Hbl := Lib.hid (show (nonce ++ O).length ≤ 2000 by rw [List.length_append]; have := Hol.out; omega)
      obtain ⟨Y, hY⟩ : ∃ Y, Y = nonce ++ O := ⟨_, rfl⟩
      rw [← hY] at hmo own4 hs1 Hbl ⊢
      have hml := mac_len TK Y
      obtain ⟨M, hM⟩ : ∃ M, M = mac TK Y := ⟨_, rfl⟩
      rw [← hM] at hmo hs1 hml
      have Hml := Lib.hid hml
      clear hY hM hml
      go_wp2_with fail
      refine hmo.out.mono ?_
      rintro e w5 ⟨A5, c5, rfl, own5, b5⟩
      have own45 := own_on own4 b5
      have bt5 := bt bt4 b5
      have hbase : w2.heap.size + 1 ≤ w5.heap.size := by have := b4.size; have := b5.size; simp at *; omega
      have hbs : (w2.alloc (.cells #[.slice B nonce.length d, .slice A3 O.length c3] 37)).heap.size = w2.heap.size + 1 := by simp
      rw [hbs] at own45
      have hw2 := bt2.size
      go_wp2_with (at_builtin; refine wpList_append_rd _ rfl _ _ _ rfl (w2.heap.size + 1) 5 i0 _ 1 1 Tryd.underlying37 hi0 hz0 hz1 hz2 rfl (by omega) _ Y.length _ rfl own45 _ A5 M.length c5 (M.map e8) rfl (by simp) (Rd.own own5) (e8_one _) (by have := Hbl.out; have := Hml.out; simp only [maxLen]; omega) (by have := Hbl.out; have := Hml.out; omega) hbase ?_; intro v6 w6 hown6 hg6 hat6)
      obtain ⟨A6, c6, rfl⟩ := own_form hown6
      have hcap := own_cap hown6
      rw [hs0.out, hs1.out]
      go_ret2
      exact ⟨A6, c6, by rw [List.length_append]; rfl, by rw [List.map_append]; exact Rd.own hown6, by rw [List.length_append]; exact hcap.1, hcap.2, bt5.grown hg6 bt5.size (fun k hk => by have := own_block own45 hk; omega)⟩
    · have hs0 := Lib.hid (show sealF key nonce text = 4 by rw [sealF, if_neg (fun h => h2 h.2)])
      have hs1 := Lib.hid (show sealB key nonce text = [] by rw [sealB, if_neg (fun h => h2 h.2)])
      have e1 : ((key.length : Int) != 32) = false := bne_no (by omega)
      have e2 : ((nonce.length : Int) != 16) = true := bne_yes (by omega)
      clear h1 h2
      go_enter Tryd.func26, Tryd.ntmps26
      go_wp2_with fail
      rw [hs0.out, hs1.out]
      go_ret2
      exact RetF.nil (Below.refl _ _)
  · have hs0 := Lib.hid (show sealF key nonce text = 4 by rw [sealF, if_neg (fun h => h1 h.1)])
    have hs1 := Lib.hid (show sealB key nonce text = [] by rw [sealB, if_neg (fun h => h1 h.1)])
    have e1 : ((key.length : Int) != 32) = true := bne_yes (by omega)
    clear h1
    go_enter Tryd.func26, Tryd.ntmps26
    go_wp2_with fail
    rw [hs0.out, hs1.out]
    go_ret2
    exact RetF.nil (Below.refl _ _)
set_option maxHeartbeats 1000000 in
theorem rseal_any (A B T : Option Addr) (key nonce text : List UInt8) (c d g : Nat) (w : World) (hc : key.length ≤ c) (hcm : c ≤ maxLen) (hd : nonce.length ≤ d) (hdm : d ≤ maxLen)
    (hr : Rd w w.heap.size A (key.map e8)) (hq : Rd w w.heap.size B (nonce.map e8)) (hx : Rd w w.heap.size T (text.map e8)) (bk : key.length ≤ 1000) (bn : nonce.length ≤ 1000) (bx : text.length ≤ 1000) :
    Calls Tryd.prog 27 #[.slice A key.length c, .slice B nonce.length d, .slice T text.length g] w fun e w' => RetF w (sealB key nonce text) (sealF key nonce text) e w' := by
  by_cases h1 : key.length = 32
  · by_cases h2 : nonce.length = 16
    · have hs0 := Lib.hid (show sealF key nonce text = 0 by rw [sealF, if_pos ⟨h1, h2⟩, if_neg (by omega)])
      have hs1 := Lib.hid (show sealB key nonce text = bodyB key nonce text ++ mac (tagK key) (bodyB key nonce text) by rw [sealB, if_pos ⟨h1, h2⟩, if_neg (by omega)])
      have e1 : ((key.length : Int) != 32) = false := bne_no (by omega)
      have e2 : ((nonce.length : Int) != 16) = false := bne_no (by omega)
      have hf := over_f (sealK_len key) h2 (n := text.length) (by omega)
      have hd1 := Lib.hid (fun W (hW : Below w.heap.size w W) => (show Calls Tryd.prog 30 #[.slice A key.length c, .string ⟨sealL.toArray⟩] W fun e w' => RetDC W (sealK key) e w' from rderive_cap A key sealL _ c W rfl (hr.on hW) (by omega) (by decide)))
      have hd2 := Lib.hid (fun W (hW : Below w.heap.size w W) => (show Calls Tryd.prog 30 #[.slice A key.length c, .string ⟨tagL.toArray⟩] W fun e w' => RetDC W (tagK key) e w' from rderive_cap A key tagL _ c W rfl (hr.on hW) (by omega) (by decide)))
      have hov := Lib.hid (fun (A1 : Option Addr) c1 W (q1 : (sealK key).length ≤ c1) (m1 : c1 ≤ maxLen) (hW : Below w.heap.size w W) (r1 : Rd W W.heap.size A1 ((sealK key).map e8)) => rover_any A1 B T (sealK key) nonce text _ c1 _ d _ g W rfl rfl rfl q1 m1 hd hdm r1 (hq.on hW) (hx.on hW) (by omega) (by rw [sealK_len]; omega) (by omega))
      rw [hf] at hov
      have hbd : bodyB key nonce text = nonce ++ overB (sealK key) nonce text := rfl
      have hol := Ctr.overB_len (sealK key) nonce text
      have hsl := sealK_len key
      have htl := tagK_len key
      obtain ⟨O, hO⟩ : ∃ O, O = overB (sealK key) nonce text := ⟨_, rfl⟩
      rw [← hO] at hov hbd hol
      rw [hbd] at hs1
      obtain ⟨S, hS⟩ : ∃ S, S = sealK key := ⟨_, rfl⟩
      rw [← hS] at hov hd1 hsl
      obtain ⟨TK, hT⟩ : ∃ S, S = tagK key := ⟨_, rfl⟩
      rw [← hT] at hs1 hd2 htl
      have HTl := Lib.hid htl
      have Hol := Lib.hid (show O.length ≤ 1000 by omega)
      clear hf hO hS hT hbd hol hsl htl h1 h2
      go_enter Tryd.func27, Tryd.ntmps27
      go_wp2_with fail
      refine (hd1.out _ (Below.refl _ _)).mono ?_
      rintro e w1 ⟨A1, c1, rfl, r1, q1, m1, b1⟩
      go_wp2_with fail
      refine (hov.out A1 c1 w1 q1 m1 b1 r1).mono ?_
      rintro e w2 ⟨A3, c3, rfl, r3, q3, m3, b2⟩
      have bt2 := bt b1 b2
      go_wp2_with fail
      refine (R1.join_any B A3 nonce O _ _ _ _ w2 rfl rfl (hq.on bt2) r3 (by have := Hol.out; omega)).mono ?_
      rintro e w3 ⟨A4, c4, rfl, own4, b4⟩
      have bt4 := bt bt2 b4
      have Hbl := Lib.hid (show (nonce ++ O).length ≤ 2000 by rw [List.length_append]; have := Hol.out; omega)
      obtain ⟨Y, hY⟩ : ∃ Y, Y = nonce ++ O := ⟨_, rfl⟩
      rw [← hY] at own4 hs1 Hbl ⊢
      have hmo := Lib.hid (fun (A2 : Option Addr) c2 W (hW : Below w3.heap.size w3 W) (r2 : Rd W W.heap.size A2 (TK.map e8)) => rof_any A2 A4 TK Y _ c2 _ c4 W rfl rfl r2 ((Rd.own own4).on hW) (by rw [HTl.out]; omega) (by have := Hbl.out; omega))
      have hml := mac_len TK Y
      obtain ⟨M, hM⟩ : ∃ M, M = mac TK Y := ⟨_, rfl⟩
      rw [← hM] at hmo hs1 hml
      have Hml := Lib.hid hml
      clear hY hM hml
      go_wp2_with fail
      refine (hd2.out _ bt4).mono ?_
      rintro e w5 ⟨A2, c2, rfl, r2, q2, m2, b5⟩
      have bt5 := bt bt4 b5
      go_wp2_with fail
      refine (hmo.out A2 c2 w5 b5 r2).mono ?_
      rintro e w6 ⟨A6, c6, rfl, own6, b6⟩
      have bt6 := bt bt5 b6
      go_wp2_with fail
      refine (R1.join_any A4 A6 Y M _ _ _ _ w6 rfl rfl (((Rd.own own4).on b5).on b6) (Rd.own own6) (by have := Hbl.out; have := Hml.out; omega)).mono ?_
      rintro e w7 ⟨A7, c7, rfl, own7, b7⟩
      have hcap := own_cap own7
      have hr7 := Rd.own own7
      go_wp2_with fail
      rw [hs0.out, hs1.out]
      go_ret2
      exact ⟨A7, c7, by rw [List.length_append]; rfl, hr7, hcap.1, hcap.2, bt bt6 b7⟩
    · have hs0 := Lib.hid (show sealF key nonce text = 4 by rw [sealF, if_neg (fun h => h2 h.2)])
      have hs1 := Lib.hid (show sealB key nonce text = [] by rw [sealB, if_neg (fun h => h2 h.2)])
      have e1 : ((key.length : Int) != 32) = false := bne_no (by omega)
      have e2 : ((nonce.length : Int) != 16) = true := bne_yes (by omega)
      clear h1 h2
      go_enter Tryd.func27, Tryd.ntmps27
      go_wp2_with fail
      rw [hs0.out, hs1.out]
      go_ret2
      exact RetF.nil (Below.refl _ _)
  · have hs0 := Lib.hid (show sealF key nonce text = 4 by rw [sealF, if_neg (fun h => h1 h.1)])
    have hs1 := Lib.hid (show sealB key nonce text = [] by rw [sealB, if_neg (fun h => h1 h.1)])
    have e1 : ((key.length : Int) != 32) = true := bne_yes (by omega)
    clear h1
    go_enter Tryd.func27, Tryd.ntmps27
    go_wp2_with fail
    rw [hs0.out, hs1.out]
    go_ret2
    exact RetF.nil (Below.refl _ _)
end Go.Proofs.YteecbjpnnklbpaaDoor.Box

/- The walks of box.Open and of the reference's Open. -/
namespace Go.Proofs.YteecbjpnnklbpaaDoor.Box
open Go.RowKit
open Go.Proofs.YteecbjpnnklbpaaDoor.Ctr (RetF strF overB over_any rover_any RetF.nil okK)
open Go.Proofs.YteecbjpnnklbpaaDoor.Kdf (RetD RetDC derive_cap rderive_cap)
open Go.Proofs.YteecbjpnnklbpaaDoor.Mac (mac mac_len of_any rof_any check_any)
set_option linter.unusedVariables false
set_option maxRecDepth 100000
def openOk (key b : List UInt8) : Prop := key.length = 32 ∧ 48 ≤ b.length ∧ b.length ≤ 60048
instance (key b : List UInt8) : Decidable (openOk key b) := by unfold openOk; infer_instance
def tagOk (key b : List UInt8) : Bool := R1.sameB (mac (tagK key) (b.take (b.length - 32))) (b.drop (b.length - 32))
def openF (key b : List UInt8) : Int := if openOk key b then (if tagOk key b = true then 0 else 11) else 4
def openB (key b : List UInt8) : List UInt8 := if openOk key b then (if tagOk key b = true then overB (sealK key) (b.take 16) ((b.take (b.length - 32)).drop 16) else []) else []
theorem openB_len (key b : List UInt8) : (openB key b).length ≤ b.length := by
  unfold openB
  split
  · split
    · have := Ctr.overB_len (sealK key) (b.take 16) ((b.take (b.length - 32)).drop 16)
      rw [List.length_drop, List.length_take] at this
      omega
    · simp
  · simp
theorem rd_cut {w : World} {bb off : Nat} {b : List UInt8} (h : Rd w w.heap.size (some ⟨bb, off, none⟩) (b.map e8)) (k n : Nat) : Rd w w.heap.size (some ⟨bb, off + k, none⟩) (((b.take n).drop k).map e8) := by
  have h1 := (h.take n).drop k
  simp only [Option.map_some, Addr.add_lit] at h1
  rw [List.map_drop, List.map_take]
  exact h1
set_option maxHeartbeats 1000000 in
theorem open_any (A B : Option Addr) (key b : List UInt8) (c d : Nat) (w : World) (hc : key.length ≤ c) (hcm : c ≤ maxLen) (hd : b.length ≤ d) (hdm : d ≤ maxLen)
    (hr : Rd w w.heap.size A (key.map e8)) (hq : Rd w w.heap.size B (b.map e8)) (bk : key.length ≤ 1000) (bn : b.length ≤ 1000) (hk : Sha.Tab w) :
    Calls Tryd.prog 32 #[.slice A key.length c, .slice B b.length d] w fun e w' => RetF w (openB key b) (openF key b) e w' := by
  have z0 : ∀ W, Calls Tryd.prog 31 #[.int .i64 0] W fun e w' => e = .returned (.int .i64 48) ∧ W = w' := fun W => size_any 0 W (by omega) (by omega)
  have z6 : ∀ W, Calls Tryd.prog 31 #[.int .i64 60000] W fun e w' => e = .returned (.int .i64 60048) ∧ W = w' := fun W => size_any 60000 W (by omega) (by omega)
  have Z0 := Lib.hid z0
  have Z6 := Lib.hid z6
  clear z0 z6
  by_cases h1 : key.length = 32
  · by_cases h2 : 48 ≤ b.length
    · have hok : openOk key b := ⟨h1, h2, by omega⟩
      have hs0 := Lib.hid (show openF key b = if tagOk key b = true then 0 else 11 by rw [openF, if_pos hok])
      have hs1 := Lib.hid (show openB key b = if tagOk key b = true then overB (sealK key) (b.take 16) ((b.take (b.length - 32)).drop 16) else [] by rw [openB, if_pos hok])
      have htg : tagOk key b = R1.sameB (mac (tagK key) (b.take (b.length - 32))) (b.drop (b.length - 32)) := rfl
      obtain ⟨bb, off, rfl⟩ : ∃ bb off, B = some ⟨bb, off, none⟩ := by
        obtain ⟨bb, off, e, _, _⟩ := hq (by intro e; have := congrArg List.length e; rw [List.length_map, List.length_nil] at this; omega)
        exact ⟨bb, off, e⟩
      have e1 : ((key.length : Int) != 32) = false := bne_no (by omega)
      have g2 : decide ((b.length : Int) < 48) = false := by simp; omega
      have g3 : decide ((60048 : Int) < (b.length : Int)) = false := by simp; omega
      have g2' : ¬ (b.length : Int) < 48 := by omega
      have g3' : ¬ (60048 : Int) < (b.length : Int) := by omega
      have hky := Lib.hid (fun W (hW : Below w.heap.size w W) => keys_any A key _ c W rfl (hr.on hW) (by omega) (hk.on hW))
      obtain ⟨n, hn⟩ : ∃ n, n = b.length - 32 := ⟨_, rfl⟩
      have hwn : IntKind.i64.wrap ((b.length : Int) - 32) = (n : Int) := by rw [IntKind.wrap_i64]; omega
      rw [← hn] at hs1 htg
      have Hn := Lib.hid (show b.length = n + 32 ∧ 16 ≤ n ∧ n ≤ 1000 by omega)
      have hnd : (n : Int) ≤ (d : Int) := by omega
      have hnb : (n : Int) ≤ (b.length : Int) := by omega
      have hnN : n ≤ d := by omega
      have hdn : ¬ d = n := by omega
      have hnB : n ≤ b.length := by omega
      have h16n : (16 : Int) ≤ (n : Int) := by omega
      have h16N : 16 ≤ n := by omega
      have hchk := Lib.hid (fun (A2 : Option Addr) c2 W (hW : Below w.heap.size w W) (r2 : Rd W W.heap.size A2 ((tagK key).map e8)) => (show Calls Tryd.prog 52 #[.slice A2 (tagK key).length c2, .slice (some ⟨bb, off, none⟩) n n, .slice (some ⟨bb, off + n, none⟩) (b.length - n) (d - n)] W fun e w' => e = .returned (.bool (tagOk key b)) ∧ Below W.heap.size W w' by
        have h1 := rd_cut (hq.on hW) 0 n
        have h2 := rd_cut (hq.on hW) n b.length
        rw [List.drop_zero, Nat.add_zero] at h1
        rw [List.take_of_length_le (Nat.le_refl _)] at h2
        rw [htg]
        exact check_any A2 (some ⟨bb, off, none⟩) (some ⟨bb, off + n, none⟩) (tagK key) (b.take n) (b.drop n) _ c2 n n _ (d - n) W rfl (by rw [List.length_take]; omega) (by rw [List.length_drop]) r2 h1 h2 (by rw [tagK_len]; omega) (by rw [List.length_take]; omega) (hk.on hW)))
      have hnl : (b.take 16).length = 16 := by rw [List.length_take]; omega
      have hxl : ((b.take n).drop 16).length = n - 16 := by rw [List.length_drop, List.length_take]; omega
      have hf := over_f (sealK_len key) hnl (n := ((b.take n).drop 16).length) (by omega)
      obtain ⟨TT, hif⟩ : ∃ T, (if n = 16 then some (⟨bb, off, none⟩ : Addr) else some ⟨bb, off + 16, none⟩) = T := ⟨_, rfl⟩
      have hTT : ∀ W, Below w.heap.size w W → Rd W W.heap.size TT (((b.take n).drop 16).map e8) := fun W hW => by
        by_cases h : n = 16
        · exact Rd.empty (by rw [List.drop_of_length_le (by rw [List.length_take]; omega)]; rfl)
        · rw [if_neg h] at hif
          rw [← hif]
          exact rd_cut (hq.on hW) 16 n
      have hov := Lib.hid (fun (A1 : Option Addr) c1 W (q1 : (sealK key).length ≤ c1) (m1 : c1 ≤ maxLen) (hW : Below w.heap.size w W) (r1 : Rd W W.heap.size A1 ((sealK key).map e8)) => (show Calls Tryd.prog 43 #[.slice A1 (sealK key).length c1, .slice (some ⟨bb, off, none⟩) 16 n, .slice TT (n - 16) (n - 16)] W fun e w' => RetF W (overB (sealK key) (b.take 16) ((b.take n).drop 16)) 0 e w' by
        have h1 := rd_cut (hq.on hW) 0 16
        have h2 := hTT W hW
        rw [List.drop_zero, Nat.add_zero] at h1
        have := over_any A1 (some ⟨bb, off, none⟩) TT (sealK key) (b.take 16) ((b.take n).drop 16) _ c1 16 n (n - 16) (n - 16) W rfl hnl.symm hxl.symm q1 m1 h16N (by omega) r1 h1 h2 (by omega)
        rwa [hf] at this))
      have hol := Ctr.overB_len (sealK key) (b.take 16) ((b.take n).drop 16)
      have htl := tagK_len key
      obtain ⟨O, hO⟩ : ∃ O, O = overB (sealK key) (b.take 16) ((b.take n).drop 16) := ⟨_, rfl⟩
      rw [← hO] at hov hs1 hol
      obtain ⟨S, hS⟩ : ∃ S, S = sealK key := ⟨_, rfl⟩
      rw [← hS] at hov hky
      obtain ⟨TK, hT⟩ : ∃ S, S = tagK key := ⟨_, rfl⟩
      rw [← hT] at hky hchk
      obtain ⟨tg, htg'⟩ : ∃ t, t = tagOk key b := ⟨_, rfl⟩
      rw [← htg'] at hchk hs0 hs1
      clear hok htg hn hnl hxl hf hol htl hO hS hT htg' h1 h2 hTT
      go_enter Tryd.func32, Tryd.ntmps32
      go_wp2_with (first
        | (go_at_call 31; with_reducible refine (Z0.out _).mono ?_; rintro e w' ⟨rfl, rfl⟩)
        | (go_at_call 31; with_reducible refine (Z6.out _).mono ?_; rintro e w' ⟨rfl, rfl⟩)
        | fail)
      refine region_inb (by kernel_rfl) (by kernel_rfl) ?_
      have inbNe := InB.some
      have inbW := @wrap_small
      have inbU := IntKind.wrap_u8'
      repeat (refine wpQuiet_step (fun K hK => ?_); go_simp; first | (refine hK _ ?_; clear hK K) | (apply Exists.intro; refine ⟨?_, hK _ ?_⟩; (· (intro w' hw'; first | fail | (have hcw := hw'.cell; go_simp; exact rfl))); clear hK K))
      refine wpQuiet_nil ?_
      intro wq hq
      clear inbNe inbW inbU
      have bq := hq.below
      clear hq
      go_wp2_with fail
      refine (hky.out _ bq).mono ?_
      rintro e w1 ⟨A1, c1, A2, c2, rfl, r1, q1, m1, r2, q2, m2, b1⟩
      have bt1 := bt bq b1
      go_wp2_with fail
      refine (hchk.out A2 c2 w1 bt1 r2).mono ?_
      rintro e w2 ⟨rfl, b2⟩
      have bt2 := bt bt1 b2
      cases tg
      · go_wp2_with fail
        rw [hs0.out, hs1.out]
        go_ret2
        exact RetF.nil bt2
      · have r1' := r1.on b2
        have bt2d : Below w.heap.size w w2.drew := bt2.drew
        have r1d : Rd w2.drew w2.drew.heap.size A1 (S.map e8) := r1'
        have hcall := Lib.hid (hov.out A1 c1 w2.drew q1 m1 bt2d r1d)
        clear r1 r2 r1' r1d
        go_wp2_with fail
        go_region_held3 (fun w' => True) (trivial)
          (first
          | (go_at_call 43; refine hcall.out.mono ?_; rintro e w3 ⟨A3, c3, rfl, r3, q3, m3, b3⟩)
          | fail)
        go_wp2
        rw [hs0.out, hs1.out]
        go_ret2
        exact ⟨A3, c3, rfl, r3, q3, m3, bt bt2d b3⟩
    · have hs0 := Lib.hid (show openF key b = 4 by rw [openF, if_neg (fun h => h2 h.2.1)])
      have hs1 := Lib.hid (show openB key b = [] by rw [openB, if_neg (fun h => h2 h.2.1)])
      have e1 : ((key.length : Int) != 32) = false := bne_no (by omega)
      have g2' : (b.length : Int) < 48 := by omega
      clear h1 h2
      go_enter Tryd.func32, Tryd.ntmps32
      go_wp2_with (first
        | (go_at_call 31; with_reducible refine (Z0.out _).mono ?_; rintro e w' ⟨rfl, rfl⟩)
        | fail)
      rw [hs0.out, hs1.out]
      go_ret2
      exact RetF.nil (Below.refl _ _)
  · have hs0 := Lib.hid (show openF key b = 4 by rw [openF, if_neg (fun h => h1 h.1)])
    have hs1 := Lib.hid (show openB key b = [] by rw [openB, if_neg (fun h => h1 h.1)])
    have e1 : ((key.length : Int) != 32) = true := bne_yes (by omega)
    clear h1
    go_enter Tryd.func32, Tryd.ntmps32
    go_wp2_with fail
    rw [hs0.out, hs1.out]
    go_ret2
    exact RetF.nil (Below.refl _ _)
set_option maxHeartbeats 1000000 in
theorem ropen_any (A B : Option Addr) (key b : List UInt8) (c d : Nat) (w : World) (hc : key.length ≤ c) (hcm : c ≤ maxLen) (hd : b.length ≤ d) (hdm : d ≤ maxLen)
    (hr : Rd w w.heap.size A (key.map e8)) (hq : Rd w w.heap.size B (b.map e8)) (bk : key.length ≤ 1000) (bn : b.length ≤ 1000) :
    Calls Tryd.prog 33 #[.slice A key.length c, .slice B b.length d] w fun e w' => RetF w (openB key b) (openF key b) e w' := by
  by_cases h1 : key.length = 32
  · by_cases h2 : 48 ≤ b.length
    · have hok : openOk key b := ⟨h1, h2, by omega⟩
      have hs0 := Lib.hid (show openF key b = if tagOk key b = true then 0 else 11 by rw [openF, if_pos hok])
      have hs1 := Lib.hid (show openB key b = if tagOk key b = true then overB (sealK key) (b.take 16) ((b.take (b.length - 32)).drop 16) else [] by rw [openB, if_pos hok])
      have htg : tagOk key b = R1.sameB (mac (tagK key) (b.take (b.length - 32))) (b.drop (b.length - 32)) := rfl
      obtain ⟨bb, off, rfl⟩ : ∃ bb off, B = some ⟨bb, off, none⟩ := by
        obtain ⟨bb, off, e, _, _⟩ := hq (by intro e; have := congrArg List.length e; rw [List.length_map, List.length_nil] at this; omega)
        exact ⟨bb, off, e⟩
      have e1 : ((key.length : Int) != 32) = false := bne_no (by omega)
      have g2 : decide ((b.length : Int) < 48) = false := by simp; omega
      have g3 : decide ((60048 : Int) < (b.length : Int)) = false := by simp; omega
      have g2' : ¬ (b.length : Int) < 48 := by omega
      have g3' : ¬ (60048 : Int) < (b.length : Int) := by omega
      obtain ⟨n, hn⟩ : ∃ n, n = b.length - 32 := ⟨_, rfl⟩
      have hwn : IntKind.i64.wrap ((b.length : Int) - 32) = (n : Int) := by rw [IntKind.wrap_i64]; omega
      rw [← hn] at hs1 htg
      have hnd : (n : Int) ≤ (d : Int) := by omega
      have hnb : (n : Int) ≤ (b.length : Int) := by omega
      have hnN : n ≤ d := by omega
      have hdn : ¬ d = n := by omega
      have hd16 : ¬ d = 16 := by omega
      have hd16' : (16 : Int) ≤ (d : Int) := by omega
      have hd16N : 16 ≤ d := by omega
      have hnB : n ≤ b.length := by omega
      have h16n : (16 : Int) ≤ (n : Int) := by omega
      have h16N : 16 ≤ n := by omega
      have hd1 := Lib.hid (fun W (hW : Below w.heap.size w W) => (show Calls Tryd.prog 30 #[.slice A key.length c, .string ⟨sealL.toArray⟩] W fun e w' => RetDC W (sealK key) e w' from rderive_cap A key sealL _ c W rfl (hr.on hW) (by omega) (by decide)))
      have hd2 := Lib.hid (fun W (hW : Below w.heap.size w W) => (show Calls Tryd.prog 30 #[.slice A key.length c, .string ⟨tagL.toArray⟩] W fun e w' => RetDC W (tagK key) e w' from rderive_cap A key tagL _ c W rfl (hr.on hW) (by omega) (by decide)))
      have hof := Lib.hid (fun (A2 : Option Addr) c2 W (hW : Below w.heap.size w W) (r2 : Rd W W.heap.size A2 ((tagK key).map e8)) => (show Calls Tryd.prog 48 #[.slice A2 (tagK key).length c2, .slice (some ⟨bb, off, none⟩) n d] W fun e w' => RetB 5 W (mac (tagK key) (b.take n)) e w' by
        have h1 := rd_cut (hq.on hW) 0 n
        rw [List.drop_zero, Nat.add_zero] at h1
        exact rof_any A2 (some ⟨bb, off, none⟩) (tagK key) (b.take n) _ c2 n d W rfl (by rw [List.length_take]; omega) r2 h1 (by rw [tagK_len]; omega) (by rw [List.length_take]; omega)))
      have hsm := Lib.hid (fun (A3 : Option Addr) c3 W (hW : Below w.heap.size w W) (r3 : Rd W W.heap.size A3 ((mac (tagK key) (b.take n)).map e8)) => (show Calls Tryd.prog 29 #[.slice A3 (mac (tagK key) (b.take n)).length c3, .slice (some ⟨bb, off + n, none⟩) (b.length - n) (d - n)] W fun e w' => e = .returned (.bool (tagOk key b)) ∧ Below W.heap.size W w' by
        have h2 := rd_cut (hq.on hW) n b.length
        rw [List.take_of_length_le (Nat.le_refl _)] at h2
        rw [htg]
        exact R1.same_any A3 (some ⟨bb, off + n, none⟩) _ (b.drop n) _ _ c3 (d - n) W rfl (by rw [List.length_drop]) r3 h2 (by rw [mac_len]; omega) (by rw [List.length_drop]; omega)))
      have hnl : (b.take 16).length = 16 := by rw [List.length_take]; omega
      have hxl : ((b.take n).drop 16).length = n - 16 := by rw [List.length_drop, List.length_take]; omega
      have hf := over_f (sealK_len key) hnl (n := ((b.take n).drop 16).length) (by omega)
      have hov := Lib.hid (fun (A1 : Option Addr) c1 W (q1 : (sealK key).length ≤ c1) (m1 : c1 ≤ maxLen) (hW : Below w.heap.size w W) (r1 : Rd W W.heap.size A1 ((sealK key).map e8)) => (show Calls Tryd.prog 46 #[.slice A1 (sealK key).length c1, .slice (some ⟨bb, off, none⟩) 16 d, .slice (some ⟨bb, off + 16, none⟩) (n - 16) (d - 16)] W fun e w' => RetF W (overB (sealK key) (b.take 16) ((b.take n).drop 16)) 0 e w' by
        have h1 := rd_cut (hq.on hW) 0 16
        have h2 := rd_cut (hq.on hW) 16 n
        rw [List.drop_zero, Nat.add_zero] at h1
        have := rover_any A1 (some ⟨bb, off, none⟩) (some ⟨bb, off + 16, none⟩) (sealK key) (b.take 16) ((b.take n).drop 16) _ c1 16 d (n - 16) (d - 16) W rfl hnl.symm hxl.symm q1 m1 hd16N hdm r1 h1 h2 (by omega) (by rw [sealK_len]; omega) (by omega)
        rwa [hf] at this))
      obtain ⟨O, hO⟩ : ∃ O, O = overB (sealK key) (b.take 16) ((b.take n).drop 16) := ⟨_, rfl⟩
      rw [← hO] at hov hs1
      obtain ⟨S, hS⟩ : ∃ S, S = sealK key := ⟨_, rfl⟩
      rw [← hS] at hov hd1
      obtain ⟨TK, hT⟩ : ∃ S, S = tagK key := ⟨_, rfl⟩
      rw [← hT] at hd2 hof hsm
      obtain ⟨M, hM⟩ : ∃ M, M = mac TK (b.take n) := ⟨_, rfl⟩
      rw [← hM] at hof hsm
      obtain ⟨tg, htg'⟩ : ∃ t, t = tagOk key b := ⟨_, rfl⟩
      rw [← htg'] at hsm hs0 hs1
      have b0d : Below w.heap.size w w.drew := (Below.refl _ _).drew
      clear hok htg hn hnl hxl hf hO hS hT hM htg' h1 h2
      go_enter Tryd.func33, Tryd.ntmps33
      go_wp2_with fail
      go_region_held3 (fun w' => True) (trivial)
        (first
        | (go_at_call 30; refine (hd2.out _ b0d).mono ?_; rintro e w1 ⟨A1, c1, rfl, r1, q1, m1, b1⟩; have bt1 : Below w.heap.size w w1 := bt b0d b1)
        | (go_at_call 48; refine (hof.out A1 c1 _ bt1 r1).mono ?_; rintro e w2 ⟨A2, c2, rfl, own2, b2⟩; have bt2 : Below w.heap.size w w2 := bt bt1 b2)
        | (go_at_call 29; refine (hsm.out A2 c2 _ bt2 (Rd.own own2)).mono ?_; rintro e w3 ⟨rfl, b3⟩; have bt3 : Below w.heap.size w w3 := bt bt2 b3)
        | fail)
      all_goals
        cases tg
        · go_wp2_with fail
          rw [hs0.out, hs1.out]
          go_ret2
          exact RetF.nil bt3
        · have b3d : Below w.heap.size w w3.drew := bt3.drew
          go_wp2_with fail
          go_region_held3 (fun w' => True) (trivial)
            (first
            | (go_at_call 30; refine (hd1.out _ b3d).mono ?_; rintro e w4 ⟨A4, c4, rfl, r4, q4, m4, b4⟩; have bt4 : Below w.heap.size w w4 := bt b3d b4)
            | (go_at_call 46; refine (hov.out A4 c4 _ q4 m4 bt4 r4).mono ?_; rintro e w5 ⟨A5, c5, rfl, r5, q5, m5, b5⟩; have bt5 : Below w.heap.size w w5 := bt bt4 b5)
            | fail)
          all_goals
            go_wp2
            rw [hs0.out, hs1.out]
            go_ret2
            exact ⟨A5, c5, rfl, r5, q5, m5, bt5⟩
    · have hs0 := Lib.hid (show openF key b = 4 by rw [openF, if_neg (fun h => h2 h.2.1)])
      have hs1 := Lib.hid (show openB key b = [] by rw [openB, if_neg (fun h => h2 h.2.1)])
      have e1 : ((key.length : Int) != 32) = false := bne_no (by omega)
      have g2' : (b.length : Int) < 48 := by omega
      clear h1 h2
      go_enter Tryd.func33, Tryd.ntmps33
      go_wp2_with fail
      rw [hs0.out, hs1.out]
      go_ret2
      exact RetF.nil (Below.refl _ _)
  · have hs0 := Lib.hid (show openF key b = 4 by rw [openF, if_neg (fun h => h1 h.1)])
    have hs1 := Lib.hid (show openB key b = [] by rw [openB, if_neg (fun h => h1 h.1)])
    have e1 : ((key.length : Int) != 32) = true := bne_yes (by omega)
    clear h1
    go_enter Tryd.func33, Tryd.ntmps33
    go_wp2_with fail
    rw [hs0.out, hs1.out]
    go_ret2
    exact RetF.nil (Below.refl _ _)
end Go.Proofs.YteecbjpnnklbpaaDoor.Box

/- The walk of the statements' own example; what is sealed is opened as it was, in plain terms. -/
namespace Go.Proofs.YteecbjpnnklbpaaDoor.Box
open Go.RowKit
open Go.Proofs.YteecbjpnnklbpaaDoor.Ctr (RetF strF strB overB stream okK mk_run)
open Go.Proofs.YteecbjpnnklbpaaDoor.Mac (mac mac_len)
open Go.Proofs.YteecbjpnnklbpaaDoor.Aes (vb)
set_option linter.unusedVariables false
set_option maxRecDepth 100000
theorem xor_twice : ∀ (x s : List UInt8), x.length = s.length → Mac.xorL (Mac.xorL x s) s = x
  | [], [], _ => rfl
  | a :: x, b :: s, h => by
    have ih := xor_twice x s (by simpa using h)
    simp only [Mac.xorL, List.zipWith_cons_cons] at ih ⊢
    rw [ih, UInt8.xor_assoc, UInt8.xor_self, UInt8.xor_zero]
  | [], _ :: _, h => by simp at h
  | _ :: _, [], h => by simp at h
theorem over_ok {l m x : List UInt8} (hl : l.length = 32) (hm : m.length = 16) (hx : x.length ≤ 65536) : overB l m x = Mac.xorL x (stream (Aes.sched l) m x.length) := by
  rw [overB, strB, if_pos ⟨hl, hm⟩, if_neg (by omega), Int.toNat_natCast]
theorem over_len {l m x : List UInt8} (hl : l.length = 32) (hm : m.length = 16) (hx : x.length ≤ 65536) : (overB l m x).length = x.length := by
  rw [over_ok hl hm hx, Mac.xorL_len, Ctr.stream_len]; omega
theorem over_back {l m x : List UInt8} (hl : l.length = 32) (hm : m.length = 16) (hx : x.length ≤ 65536) : overB l m (overB l m x) = x := by
  rw [over_ok (x := overB l m x) hl hm (by rw [over_len hl hm hx]; exact hx), over_len hl hm hx, over_ok hl hm hx, xor_twice _ _ (Ctr.stream_len _ _ _).symm]
theorem seal_len {key nonce text : List UInt8} (hk : key.length = 32) (hn : nonce.length = 16) (hx : text.length ≤ 60000) : (sealB key nonce text).length = text.length + 48 := by
  rw [sealB, if_pos ⟨hk, hn⟩, if_neg (by omega), List.length_append, mac_len, bodyB, List.length_append, over_len (sealK_len key) hn (by omega)]; omega
theorem seal_f {key nonce text : List UInt8} (hk : key.length = 32) (hn : nonce.length = 16) (hx : text.length ≤ 60000) : sealF key nonce text = 0 := by
  rw [sealF, if_pos ⟨hk, hn⟩, if_neg (by omega)]
theorem back_tag {key nonce text : List UInt8} (hk : key.length = 32) (hn : nonce.length = 16) (hx : text.length ≤ 60000) : openOk key (sealB key nonce text) ∧ tagOk key (sealB key nonce text) = true ∧ openB key (sealB key nonce text) = text ∧ openF key (sealB key nonce text) = 0 := by
  have hlen := seal_len hk hn hx
  have hok : openOk key (sealB key nonce text) := ⟨hk, by omega, by omega⟩
  have hY : (bodyB key nonce text).length = text.length + 16 := by rw [bodyB, List.length_append, over_len (sealK_len key) hn (by omega)]; omega
  have he : sealB key nonce text = bodyB key nonce text ++ mac (tagK key) (bodyB key nonce text) := by rw [sealB, if_pos ⟨hk, hn⟩, if_neg (by omega)]
  have ht : (sealB key nonce text).take ((sealB key nonce text).length - 32) = bodyB key nonce text := by
    rw [hlen, he, show text.length + 48 - 32 = (bodyB key nonce text).length by omega, List.take_left]
  have hd : (sealB key nonce text).drop ((sealB key nonce text).length - 32) = mac (tagK key) (bodyB key nonce text) := by
    rw [hlen, he, show text.length + 48 - 32 = (bodyB key nonce text).length by omega, List.drop_left]
  have htg : tagOk key (sealB key nonce text) = true := by rw [tagOk, ht, hd, R1.sameB_self]
  have h16 : (sealB key nonce text).take 16 = nonce := by
    rw [he, bodyB, List.append_assoc, show (16 : Nat) = nonce.length by omega, List.take_left]
  have h16d : (bodyB key nonce text).drop 16 = overB (sealK key) nonce text := by
    rw [bodyB, show (16 : Nat) = nonce.length by omega, List.drop_left]
  refine ⟨hok, htg, ?_, ?_⟩
  · rw [openB, if_pos hok, if_pos htg, h16, ht, h16d, over_back (sealK_len key) hn (by omega)]
  · rw [openF, if_pos hok, if_pos htg]
set_option maxHeartbeats 400000 in
theorem alive_any (w : World) (hk : Sha.Tab w) : Calls Tryd.prog 25 #[] w fun e w' => e = .returned (.bool true) ∧ Below w.heap.size w w' := by
  obtain ⟨OA, hA, hAb⟩ := mk_run 32 (by omega)
  obtain ⟨OB, hB', hBb⟩ := mk_run 16 (by omega)
  have hk32 : (List.replicate 32 (0 : UInt8)).length = 32 := rfl
  have hn16 : (List.replicate 16 (0 : UInt8)).length = 16 := rfl
  obtain ⟨KA, hKA⟩ : ∃ l : List UInt8, l = List.replicate 32 0 := ⟨_, rfl⟩
  obtain ⟨KB, hKB⟩ : ∃ l : List UInt8, l = List.replicate 16 0 := ⟨_, rfl⟩
  rw [← hKA] at hk32 hAb
  rw [← hKB] at hn16 hBb
  clear hKA hKB
  have hf0 := seal_f hk32 hn16 (text := []) (by simp)
  have hb0 := seal_len hk32 hn16 (text := []) (by simp)
  have hstm : ∀ (A B : Option Addr) W, Below w.heap.size w W → Rd W W.heap.size A (KA.map e8) → Rd W W.heap.size B (KB.map e8) → Calls Tryd.prog 26 #[.slice A 32 32, .slice B 16 16, .slice none 0 0] W fun e w' => RetF W (sealB KA KB []) 0 e w' := fun A B W hW hr hq => by
    have := seal_any A B none KA KB [] 32 16 0 W (by omega) (by unfold maxLen; omega) (by omega) (by unfold maxLen; omega) hr hq (Rd.nil _ _ _) (by omega) (by omega) (by simp) (hk.on hW)
    rw [hf0, hk32, hn16] at this
    exact this
  obtain ⟨S, hS⟩ : ∃ S, S = sealB KA KB [] := ⟨_, rfl⟩
  rw [← hS] at hstm hb0
  have Hstm := Lib.hid hstm
  have HSl := Lib.hid hb0
  have hA' : ∀ W, (Instr.makeSlice 37 (.int .i64 32) (.int .i64 32)).run Tryd.prog W = .ok (.slice (some ⟨W.heap.size, 0, none⟩) 32 32) (W.alloc OA) := hA
  have hB'' : ∀ W, (Instr.makeSlice 37 (.int .i64 16) (.int .i64 16)).run Tryd.prog W = .ok (.slice (some ⟨W.heap.size, 0, none⟩) 16 16) (W.alloc OB) := hB'
  have k1 : Below w.heap.size w ((w.alloc OA).alloc OB).drew := (bt (b1alloc w OA) (b1alloc _ OB)).drew
  have k2 : Below w.heap.size w ((w.alloc OB).alloc OA).drew := (bt (b1alloc w OB) (b1alloc _ OA)).drew
  have r1 : Rd ((w.alloc OA).alloc OB) ((w.alloc OA).alloc OB).heap.size (some ⟨w.heap.size, 0, none⟩) (vb KA) := ((hAb w).alloc OB).rd
  have r2 : Rd ((w.alloc OA).alloc OB) ((w.alloc OA).alloc OB).heap.size (some ⟨w.heap.size + 1, 0, none⟩) (vb KB) := by
    have := (hBb (w.alloc OA)).rd
    simpa using this
  have r3 : Rd ((w.alloc OB).alloc OA) ((w.alloc OB).alloc OA).heap.size (some ⟨w.heap.size + 1, 0, none⟩) (vb KA) := by
    have := (hAb (w.alloc OB)).rd
    simpa using this
  have r4 : Rd ((w.alloc OB).alloc OA) ((w.alloc OB).alloc OA).heap.size (some ⟨w.heap.size, 0, none⟩) (vb KB) := ((hBb w).alloc OA).rd
  have C1 := Lib.hid (Hstm.out (some ⟨w.heap.size, 0, none⟩) (some ⟨w.heap.size + 1, 0, none⟩) ((w.alloc OA).alloc OB).drew k1 r1 r2)
  have C2 := Lib.hid (Hstm.out (some ⟨w.heap.size + 1, 0, none⟩) (some ⟨w.heap.size, 0, none⟩) ((w.alloc OB).alloc OA).drew k2 r3 r4)
  have z0 := Lib.hid (fun W => (show Calls Tryd.prog 31 #[.int .i64 0] W fun e w' => e = .returned (.int .i64 48) ∧ W = w' from size_any 0 W (by omega) (by omega)))
  clear r1 r2 r3 r4 hAb hBb hA hB' hstm hb0 hf0 hS hk32 hn16 hk
  go_enter Tryd.func25, Tryd.ntmps25
  go_wp2_with fail
  go_region_held3 (fun w' => True) (trivial)
    (first
    | (go_at_call 26; (with_reducible show Calls _ _ #[.slice (some ⟨w.heap.size, 0, none⟩) 32 32, _, _] _ _); refine C1.out.mono ?_; rintro e w5 ⟨A5, c5, rfl, hr5, hc5, hm5, b5⟩; have bs : Below w.heap.size w w5 := bt k1 b5)
    | (go_at_call 26; (with_reducible show Calls _ _ #[.slice (some ⟨w.heap.size + 1, 0, none⟩) 32 32, _, _] _ _); refine C2.out.mono ?_; rintro e w5 ⟨A5, c5, rfl, hr5, hc5, hm5, b5⟩; have bs : Below w.heap.size w w5 := bt k2 b5)
    | fail)
  all_goals
    have hSl := HSl.out
    rw [List.length_nil, Nat.zero_add] at hSl
    rw [hSl]
    clear hSl hA' hB'' k1 k2
    go_wp2_with (go_at_call 31; refine (z0.out _).mono ?_; rintro e w' ⟨rfl, rfl⟩)
    go_ret
    exact ⟨rfl, bs⟩
end Go.Proofs.YteecbjpnnklbpaaDoor.Box
