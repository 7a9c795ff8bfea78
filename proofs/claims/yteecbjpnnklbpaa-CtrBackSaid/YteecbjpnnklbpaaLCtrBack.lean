/- CtrBack: for every input the law returns true: a row put over a text twice leaves it as it was, and less of a text is the first of more. No condition. -/
import Derived.Test.YteecbjpnnklbpaaCtr7
import Derived.Test.YteecbjpnnklbpaaRef01
import Derived.Test.YteecbjpnnklbpaaOpen
namespace Go.Proofs.Yteecbjpnnklbpaa.CtrBack
open Go.ChangeShapes Go.WideShapes Go.ChangeAt Go.RowKit Go.Joins
open Go.ChangeMaps (open_string shut_string)
open Go.Proofs.Yteecbjpnnklbpaa.Aes
open Go.Proofs.Yteecbjpnnklbpaa.Ctr
set_option linter.unusedVariables false

theorem xor_twice : ∀ (x s : List UInt8), x.length = s.length → Mac.xorL (Mac.xorL x s) s = x
  | [], [], _ => rfl
  | a :: x, b :: s, h => by
    have ih := xor_twice x s (by simpa using h)
    simp only [Mac.xorL, List.zipWith_cons_cons] at ih ⊢
    rw [ih, UInt8.xor_assoc, UInt8.xor_self, UInt8.xor_zero]
  | [], _ :: _, h => by simp at h
  | _ :: _, [], h => by simp at h
theorem xor_take (x s : List UInt8) (n : Nat) : (Mac.xorL x s).take n = Mac.xorL (x.take n) (s.take n) := by simp [Mac.xorL, List.take_zipWith]
theorem over_ok {l m x : List UInt8} (hl : l.length = 32) (hm : m.length = 16) (hx : x.length ≤ 65536) : overB l m x = Mac.xorL x (stream (sched l) m x.length) := by
  rw [overB, strB, if_pos ⟨hl, hm⟩, if_neg (by omega), Int.toNat_natCast]
theorem over_len {l m x : List UInt8} (hl : l.length = 32) (hm : m.length = 16) (hx : x.length ≤ 65536) : (overB l m x).length = x.length := by
  rw [over_ok hl hm hx, Mac.xorL_len, stream_len]; omega
theorem over_back {l m x : List UInt8} (hl : l.length = 32) (hm : m.length = 16) (hx : x.length ≤ 65536) : overB l m (overB l m x) = x := by
  rw [over_ok (x := overB l m x) hl hm (by rw [over_len hl hm hx]; exact hx), over_len hl hm hx, over_ok hl hm hx, xor_twice _ _ (stream_len _ _ _).symm]
theorem over_less {l m x : List UInt8} (hl : l.length = 32) (hm : m.length = 16) (hx : x.length ≤ 65536) (n : Nat) (hn : n ≤ x.length) : overB l m (x.take n) = (overB l m x).take n := by
  have hn' : (x.take n).length = n := by rw [List.length_take]; omega
  rw [over_ok (x := x.take n) hl hm (by omega), hn', over_ok hl hm hx, xor_take, stream_take _ _ _ _ hn]
set_option maxRecDepth 100000 in
set_option maxHeartbeats 1000000 in
theorem walk (A : Option Addr) (l : List UInt8) (c : Nat) (B : Option Addr) (m : List UInt8) (d : Nat) (T : Option Addr) (x : List UInt8) (g : Nat) (i : Int) (w : World)
    (ha : Rd w w.heap.size A (l.map e8)) (hc : l.length ≤ c) (hcm : c ≤ maxLen) (hb : Rd w w.heap.size B (m.map e8)) (hd : m.length ≤ d) (hdm : d ≤ maxLen) (hx : Rd w w.heap.size T (x.map e8)) (hg : x.length ≤ g) (hgm : g ≤ maxLen)
    (hi0 : -9223372036854775808 ≤ i) (hi1 : i ≤ 9223372036854775807) :
    Calls Try.prog 8 #[.slice A l.length c, .slice B m.length d, .slice T x.length g, .int .i64 i] w fun e w' => e = .returned (.bool true) ∧ Below w.heap.size w w' := by
  by_cases h1 : l.length = 32
  · by_cases h2 : m.length = 16
    · by_cases h3 : 200 < x.length
      · rw [h1, h2]
        go_enter Try.func8, Try.ntmps8
        go_wp2_with (go_at_call 22; refine (Ctr.alive_any _).mono ?_; rintro e w' ⟨rfl, hw⟩)
        go_ret
        exact ⟨rfl, hw⟩
      · rw [h1] at hc
        rw [h2] at hd
        rw [h1, h2]
        have hf := fun (n : Nat) (hn : n ≤ 65536) => strF_ok h1 h2 (i := (n : Int)) (by omega) (by omega)
        have ho := Lib.hid (fun (T : Option Addr) (x : List UInt8) (g : Nat) W (hW : Below w.heap.size w W) (hx : Rd W W.heap.size T (x.map e8)) (h3 : x.length ≤ 200) => (show Calls Try.prog 30 #[.slice A 32 c, .slice B 16 d, .slice T x.length g] W fun e w' => RetF W (overB l m x) 0 e w' by
          have := over_any A B T l m x 32 c 16 d x.length g W h1.symm h2.symm rfl hc hcm hd hdm (ha.on hW) (hb.on hW) hx (by omega)
          rwa [hf _ (by omega)] at this))
        have hol := over_len h1 h2 (x := x) (by omega)
        have hback := over_back h1 h2 (x := x) (by omega)
        have hless := Lib.hid (fun n hn => over_less h1 h2 (x := x) (by omega) n hn)
        obtain ⟨n, hn, hnx⟩ : ∃ n : Nat, R1.modI i ((x.length : Int) + 1) = (n : Int) ∧ n ≤ x.length := by
          unfold R1.modI
          rw [if_neg (by omega)]
          have h0 := Int.emod_nonneg i (show (x.length : Int) + 1 ≠ 0 by omega)
          have h1 := Int.emod_lt_of_pos i (show 0 < (x.length : Int) + 1 by omega)
          exact ⟨(i % ((x.length : Int) + 1)).toNat, by omega, by omega⟩
        have hmd := Lib.hid (fun W => (R1.mod_any i ((x.length : Int) + 1) W hi0 hi1 (by omega) (by omega)))
        rw [hn] at hmd
        obtain ⟨O, hO⟩ : ∃ O, O = overB l m x := ⟨_, rfl⟩
        have hoO := Lib.hid (fun W hW hx' => (show Calls Try.prog 30 #[.slice A 32 c, .slice B 16 d, .slice T x.length g] W fun e w' => RetF W O 0 e w' by rw [hO]; exact ho.out T x g W hW hx' (by omega)))
        rw [← hO] at hol hback hless
        have h3' : x.length ≤ 200 := by omega
        have Hback := Lib.hid hback
        have Hol := Lib.hid hol
        have hwx : IntKind.i64.wrap ((x.length : Int) + 1) = (x.length : Int) + 1 := wrap_small (by omega) (by omega)
        have hgI : (n : Int) ≤ (g : Int) := by omega
        clear hf hO hback hol h1 h2
        go_enter Try.func8, Try.ntmps8
        go_wp2_with fail
        refine (hoO.out _ (Below.refl _ _) hx).mono ?_
        rintro e w1 ⟨A1, c1, rfl, r1, q1, m1, b1⟩
        rw [Hol.out] at q1 ⊢
        go_wp2_with fail
        have h2nd := ho.out A1 O c1 w1 b1 r1 (by rw [Hol.out]; exact h3')
        rw [Hback.out, Hol.out] at h2nd
        refine h2nd.mono ?_
        rintro e w2 ⟨A2, c2, rfl, r2, q2, m2, b2⟩
        have bt2 := bt b1 b2
        clear h2nd
        go_wp2_with fail
        refine (hmd.out w2).mono ?_
        rintro e w3 ⟨rfl, rfl⟩
        have hgN : n ≤ g := by omega
        have hqI : (n : Int) ≤ (c1 : Int) := by omega
        have htl : (x.take n).length = n := by rw [List.length_take]; omega
        have hOtl : (O.take n).length = n := by rw [List.length_take, Hol.out]; omega
        have h3rd := ho.out T (x.take n) g w2 bt2 (by rw [List.map_take]; exact (hx.on bt2).take n) (by omega)
        rw [hless.out n hnx, htl] at h3rd
        have H3 := Lib.hid h3rd
        have HOt := Lib.hid hOtl
        clear h3rd htl hOtl
        go_wp2_with fail
        refine H3.out.mono ?_
        rintro e w4 ⟨A3, c3, rfl, r3, q3, m3, b3⟩
        rw [HOt.out] at q3 ⊢
        have bt3 := bt bt2 b3
        go_wp2_with fail
        refine (R1.same_any A2 T x x _ _ _ _ _ rfl rfl (r2.on b3) (hx.on bt3) (by omega) (by omega)).mono ?_
        rintro e w5 ⟨rfl, b5⟩
        rw [R1.sameB_self]
        have bt5 := bt bt3 b5
        have r1' : Rd w5 w5.heap.size A1 ((O.take n).map e8) := by
          rw [List.map_take]
          exact (r1.on (bt (bt b2 b3) b5)).take n
        go_wp2_with fail
        refine (R1.same_any A3 A1 (O.take n) (O.take n) _ _ _ _ _ HOt.out.symm HOt.out.symm (r3.on b5) r1' (by rw [HOt.out]; omega) (by rw [HOt.out]; omega)).mono ?_
        rintro e w6 ⟨rfl, b6⟩
        rw [R1.sameB_self]
        have bt6 := bt bt5 b6
        go_wp2_with (go_at_call 22; refine (Ctr.alive_any _).mono ?_; rintro e w' ⟨rfl, hw⟩)
        go_ret
        exact ⟨rfl, bt bt6 hw⟩
    · have e2 : ((m.length : Int) != 16) = true := bne_yes (by omega)
      rw [h1]
      go_enter Try.func8, Try.ntmps8
      go_wp2_with (go_at_call 22; refine (Ctr.alive_any _).mono ?_; rintro e w' ⟨rfl, hw⟩)
      go_ret
      exact ⟨rfl, hw⟩
  · have e1 : ((l.length : Int) != 32) = true := bne_yes (by omega)
    go_enter Try.func8, Try.ntmps8
    go_wp2_with (go_at_call 22; refine (Ctr.alive_any _).mono ?_; rintro e w' ⟨rfl, hw⟩)
    go_ret
    exact ⟨rfl, hw⟩

set_option maxRecDepth 100000 in
theorem lifted (os : Os) (started : os.Started) (H : Type) (enc : TypeId × Value → H) :
    ReturnsInHanded {} Try.checked os 8 .any (Rows.ctrBackSpec.pre6 enc Try.prog Try.f8 Rows.ctrBackRow.domain false) (Rows.ctrBackSpec.post enc Try.prog Try.f8 false true false false) := by
  refine returnsInHanded_of_change (C := Try.checked) own started (by kernel_rfl) Try.func8
    (ChangeSpec.witness6 (enc := enc) (C := Try.checked) false ⟨#[], #[.slice none 0 0, .slice none 0 0, .slice none 0 0, .int .i64 0], []⟩ 8 (by kernel_rfl) (by kernel_rfl) (by kernel_rfl) (by kernel_rfl)) ?_
  intro W base args ds gs before hval0 hW hcnd _
  have hval : ∀ (j : Nat) t v, Try.f8.params[j]? = some t → args[j]? = some v → Value.okWide Try.prog W .any base t v := hval0
  have hW' := hW
  obtain ⟨p, q, hA0, hV, rfl, hfz, hnd⟩ := hW
  have hA : DataW.TrodAll enc Try.prog W 0 (fun _ => true) true Try.f8.params.toList args.toList ds p := hA0
  rw [Try.params8] at hA hval
  obtain ⟨v0, vs0, d0, ds0, p0, q0, hargs, rfl, rfl, h0, r0⟩ := trodAll_cons hA
  obtain ⟨v1, vs1, d1, ds1, p1, q1, rfl, rfl, rfl, h1, r1⟩ := trodAll_cons r0
  obtain ⟨v2, vs2, d2, ds2, p2, q2, rfl, rfl, rfl, h2, r2⟩ := trodAll_cons r1
  obtain ⟨v3, vs3, d3, ds3, p3, q3, rfl, rfl, rfl, h3, r3⟩ := trodAll_cons r2
  obtain ⟨rfl, rfl, rfl⟩ := trodAll_nil r3
  obtain rfl : args = #[v0, v1, v2, v3] := by cases args; simp_all
  obtain ⟨rfl, rfl⟩ := trodVars_none hV
  have k0 := h0
  have lt0 := places_lt k0
  obtain ⟨a0, len0, cap0, rfl⟩ := okWide_slice Try.underlying27 (hval 0 27 v0 rfl rfl)
  obtain ⟨fuel0, hf0⟩ := h0
  obtain ⟨l0, rfl, rr0, rc0, rm0⟩ := bytes_of rfl Try.underlying27 Try.underlying5 (by kernel_rfl) hf0
  have k1 := h1
  have lt1 := places_lt k1
  obtain ⟨a1, len1, cap1, rfl⟩ := okWide_slice Try.underlying27 (hval 1 27 v1 rfl rfl)
  obtain ⟨fuel1, hf1⟩ := h1
  obtain ⟨l1, rfl, rr1, rc1, rm1⟩ := bytes_of rfl Try.underlying27 Try.underlying5 (by kernel_rfl) hf1
  have k2 := h2
  have lt2 := places_lt k2
  obtain ⟨a2, len2, cap2, rfl⟩ := okWide_slice Try.underlying27 (hval 2 27 v2 rfl rfl)
  obtain ⟨fuel2, hf2⟩ := h2
  obtain ⟨l2, rfl, rr2, rc2, rm2⟩ := bytes_of rfl Try.underlying27 Try.underlying5 (by kernel_rfl) hf2
  have k3 := h3
  have lt3 := places_lt k3
  obtain ⟨n3, rfl, _, _, w3⟩ := open_int Try.underlying3 (hval 3 3 v3 rfl rfl) h3
  clear hA0 hval0
  refine (walk a0 l0 cap0 a1 l1 cap1 a2 l2 cap2 n3 W rr0 rc0 rm0 rr1 rc1 rm1 rr2 rc2 rm2 (wfi w3).1 (wfi w3).2).mono fun e W' ⟨he, bel⟩ => ?_
  subst he
  exact ⟨_, rfl, _, _, _, [], _, [], hW', trodAll_mk1 (shut_bool Try.underlying4 _), (trodAll_cons_mk (Below.trod laidOut (by kernel_rfl) (of_decide_eq_true (by kernel_rfl)) k0 bel lt0) (trodAll_cons_mk (Below.trod laidOut (by kernel_rfl) (of_decide_eq_true (by kernel_rfl)) k1 bel lt1) (trodAll_cons_mk (Below.trod laidOut (by kernel_rfl) (of_decide_eq_true (by kernel_rfl)) k2 bel lt2) (trodAll_cons_mk (Below.trod laidOut (by kernel_rfl) (of_decide_eq_true (by kernel_rfl)) k3 bel lt3) trodAll_mk0)))), rfl, bel.frame _, fun h => by cases h⟩

theorem proved : Rows.CtrBackSaid :=
  OpenClaim.holds_of_wide 8 Try.f8 rfl rfl rfl rfl rfl rfl rfl ⟨rfl, rfl, rfl, rfl, rfl⟩ rfl rfl rfl rfl rfl (by kernel_rfl) Try.func8 (by kernel_rfl)
    (of_decide_eq_true (by kernel_rfl)) (by unfold Func.isWrapper; first | (rw [if_pos (by decide +kernel)]; kernel_rfl) | (rw [if_neg (by decide +kernel)]; exact ⟨rfl, rfl⟩))
    (fun os started H enc _ => lifted os started H enc)
#print axioms proved
end Go.Proofs.Yteecbjpnnklbpaa.CtrBack
