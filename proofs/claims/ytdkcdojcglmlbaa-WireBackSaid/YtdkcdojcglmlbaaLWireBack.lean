/- WireBack: for every input the law returns true: fields are read as they were written, up to the end, and nil ones say what they must. No condition. -/
import Derived.Test.YtdkcdojcglmlbaaBackPlain
import Derived.Test.YtdkcdojcglmlbaaNil
import Derived.Test.YtdkcdojcglmlbaaOpen
import Derived.Deep.DeepCutAuto
namespace Go.Proofs.Ytdkcdojcglmlbaa.WireBack
open Go.ChangeShapes Go.WideShapes Go.ChangeAt Go.RowKit Go.Joins
open Go.ChangeMaps (open_string shut_string)
set_option linter.unusedVariables false
set_option maxRecDepth 100000
open Wire
open Go.Proofs.Ytdkcdojcglmlbaa.Read Go.Proofs.Ytdkcdojcglmlbaa.Back Go.Proofs.Ytdkcdojcglmlbaa.Nil

def encs (l : List Fl) : List UInt8 := l.flatMap enc
theorem encs_take {l : List Fl} {k : Nat} (h : k < l.length) : encs (l.take (k + 1)) = encs (l.take k) ++ enc l[k] := by
  simp only [encs]; rw [List.take_succ_eq_append_getElem h, List.flatMap_append]; simp
theorem encs_drop {l : List Fl} {k : Nat} (h : k < l.length) : encs (l.drop k) = enc l[k] ++ encs (l.drop (k + 1)) := by
  simp only [encs]; rw [List.drop_eq_getElem_cons h, List.flatMap_cons]
theorem encs_len {l : List Fl} (ha : ∀ i (hi : i < l.length), okF l[i] = true) : ∀ k, k ≤ l.length → (encs (l.take k)).length ≤ 302 * k
  | 0, _ => by simp [encs]
  | k + 1, h => by
    rw [encs_take (by omega), List.length_append]
    have := encs_len ha k (by omega)
    have := enc_len (ha k (by omega))
    omega
def WrSt (w0 w : World) (l : List UInt8) (g : Nat) : Prop := ∃ fp, WAt w w0.heap.size g l fp ∧ Below w0.heap.size w0 w
def RdSt (w0 w : World) (l : List UInt8) (g : Nat) : Prop := RAt w g l 0 ∧ Below w0.heap.size w0 w

theorem shl_of (s : Int) (h1 : 1 ≤ s) (h7 : s < 8) : ∃ p : Int, p = 256 ^ s.toNat ∧ 1 ≤ p ∧ IntKind.u64.wrap (2 ^ (8 * s).toNat) = p := by
  rcases (show s = 1 ∨ s = 2 ∨ s = 3 ∨ s = 4 ∨ s = 5 ∨ s = 6 ∨ s = 7 by omega) with rfl | rfl | rfl | rfl | rfl | rfl | rfl
  all_goals exact ⟨_, rfl, by decide, by decide⟩
theorem rem_of (n : UInt64) (p : Int) (s : Int) (hp : p = 256 ^ s.toNat) : ∃ m : Int, m = ((n.toNat % 256 ^ s.toNat : Nat) : Int) ∧ 0 ≤ m ∧ (n.toNat : Int).tmod p = m ∧ (n.toNat : Int) % p = m ∧ IntKind.u64.wrap m = m := by
  have hpn : p = ((256 ^ s.toNat : Nat) : Int) := by rw [hp]; push_cast; rfl
  have hlt : n.toNat % 256 ^ s.toNat < 18446744073709551616 := Nat.lt_of_le_of_lt (Nat.mod_le _ _) n.toNat_lt
  have hm : (n.toNat : Int) % p = ((n.toNat % 256 ^ s.toNat : Nat) : Int) := by rw [hpn]; rfl
  exact ⟨_, rfl, by omega, by rw [Int.tmod_eq_emod_of_nonneg (by omega)]; exact hm, hm, IntWalk.u64_in _ (by omega)⟩
theorem bdrew1 {B : Nat} {a w : World} (h : Below B a w) : Below B a w.drew := h.drew
theorem rdst_next {w wr W w9 : World} {l rest : List UInt8} {g : Nat} (hbel : Below w.heap.size w wr) (hg : w.heap.size ≤ g) (hr : rest = l) (b : Below wr.heap.size wr W) (h1 : RAt w9 g rest 0) (h2 : Keep [g] W w9) : RdSt w w9 l g := by
  subst hr
  have hW := hbel.trans (b.mono hbel.size)
  exact ⟨h1, hW.trans (h2.below (by simpa using hg) hW.size)⟩
theorem rdst_alloc {w wr : World} {l : List UInt8} {g : Nat} (h : RdSt w wr l g) (o : Obj) : RdSt w (wr.alloc o) l g := ⟨h.1.on (b1alloc _ _), h.2.trans ((b1alloc _ _).mono h.2.size)⟩
set_option maxHeartbeats 8000000 in
theorem walk (A : Option Addr) (l : List Fl) (c : Nat) (t : Bool) (w : World)
    (ha : Fields w w.heap.size A l) (hc : l.length ≤ c) (hcm : c ≤ maxLen) :
    Calls Try.prog 7 #[.slice A l.length c, .bool t] w fun e w' => e = .returned (.bool true) ∧ Below w.heap.size w w' := by
  unfold maxLen at hcm
  by_cases hli : lightB l = true
  · obtain ⟨h40, hok⟩ := light_yes hli
    have Hli := Lib.hid hli
    have Hok := Lib.hid hok
    clear hli hok
    go_enter Try.func7, Try.ntmps7
    go_wp2_with fail
    refine (light_any A l _ c _ rfl ha (by omega)).mono ?_
    rintro e w1 ⟨rfl, b1⟩
    rw [Hli.out]
    have hg1 := b1.size
    have st0 : WrSt w (w1.alloc (.cells #[.slice none 0 0] 28)) [] w1.heap.size := ⟨_, (by
      have h := WAt.new w1 28
      obtain ⟨v, h1, h2, h3, h4, h5⟩ := h
      exact ⟨v, h1, own_base h2 b1.size, h3, h4, b1.size⟩), bt b1 (b1alloc _ _)⟩
    go_wp2_with fail
    go_loopw [6] (fun i wr => ∃ k : Nat, k ≤ l.length ∧ i = .int .i64 k ∧ WrSt w wr (encs (l.take k)) w1.heap.size) (fun i _ => l.length - (intOf i).toNat)
    case atStart => exact ⟨0, by omega, rfl, by simpa [encs] using st0⟩
    case round =>
      obtain ⟨k, hk, rfl, fp, hw, hbel⟩ := hrel
      clear st0
      by_cases hlt : k < l.length
      · have hkok := Hok.out k hlt
        obtain ⟨b, off, a, c', rfl, hbb, c0, c1, c2, c3, hfa, hok⟩ := (ha.keep hbel).get hlt
        have Hkok := Lib.hid hkok
        have hle := encs_len Hok.out k hk
        have hel := enc_len hkok
        have Htk := Lib.hid (encs_take hlt)
        clear hkok
        go_wp2_with fail
        refine (write_any _ _ _ fp l[k] a c' t wr hw hbel.size (by omega) hfa hok Hkok.out).mono ?_
        intro e w2 h1
        obtain ⟨rfl, fp2, hw2, k2, f2⟩ := h1
        rw [← Htk.out] at hw2
        have hst : WrSt w w2 (encs (l.take (k + 1))) w1.heap.size := ⟨fp2, hw2, hbel.trans (k2.below hw.ge hbel.size)⟩
        clear hw2 k2 f2 hw hbel
        go_wp2
        go_roundw
        case rel => exact ⟨k + 1, by omega, by go_num, hst⟩
        case measure => simp [intOf]; omega
      · obtain rfl : k = l.length := by omega
        have hle := encs_len Hok.out l.length (Nat.le_refl _)
        rw [List.take_length] at hw hle
        go_wp2_with fail
        refine (out_any _ _ _ _ _ hw (by omega)).mono ?_
        rintro e w5 ⟨A5, c5', rfl, h5, b5⟩
        have hbel5 := hbel.trans (b5.mono hbel.size)
        go_wp2_with fail
        refine (read_any _ (encs l) _ _ _ rfl (Rd.own h5) (by omega)).mono ?_
        rintro e w6 ⟨g, rfl, hr6, hg6, b6⟩
        have st1 : RdSt w w6 (encs (l.drop 0)) g := ⟨hr6, hbel5.trans (b6.mono hbel5.size)⟩
        have hg : w.heap.size ≤ g := Nat.le_trans hbel5.size hg6
        clear hw hbel h5 b5 hr6 b6 hbel5
        go_wp2_with fail
        go_loopw [8] (fun i wr => ∃ k : Nat, k ≤ l.length ∧ i = .int .i64 k ∧ RdSt w wr (encs (l.drop k)) g) (fun i _ => l.length - (intOf i).toNat)
        case atStart => exact ⟨0, by omega, rfl, st1⟩
        case round =>
          obtain ⟨k, hk, rfl, hrd, hbel⟩ := hrel
          clear st1
          by_cases hlt : k < l.length
          · have hkok := Hok.out k hlt
            obtain ⟨b, off, a, c', rfl, hbb, c0, c1, c2, c3, hfa, hok⟩ := (ha.keep hbel).get hlt
            obtain ⟨k0, k2, kb⟩ := okF_yes hkok
            obtain ⟨o1, o2, o3, o4⟩ := hok
            clear hkok
            have hed := encs_drop hlt
            obtain ⟨fl, hfl⟩ : ∃ fl, fl = l[k] := ⟨_, rfl⟩
            rw [← hfl] at c0 c1 c2 c3 hfa k0 k2 kb o1 o2 o3 o4 hed
            obtain ⟨rest, hrest⟩ : ∃ rest, rest = encs (l.drop (k + 1)) := ⟨_, rfl⟩
            rw [← hrest] at hed
            rw [hed] at hrd
            have Hrest := Lib.hid hrest
            clear hfl hed hrest
            have hsz := hbel.size
            have n0 : (0 : Int) ≤ (fl.n.toNat : Int) := by omega
            have n1 : (fl.n.toNat : Int) ≤ 18446744073709551615 := by have := fl.n.toNat_lt; omega
            obtain ⟨q1, q2, q3⟩ := hfa
            unfold maxLen at q3
            rcases (show fl.kind = 0 ∨ fl.kind = 1 ∨ fl.kind = 2 by omega) with hk0 | hk1 | hk2
            · have Hbk := Lib.hid (back_0 fl hk0 · rest)
              have Hk := Lib.hid hk0
              rw [hk0] at c0
              clear hk0 k0 k2 o1 o2
              go_wp2_with fail
              all_goals
                refine (read_0m g _ rest _ t _ _ _ _ (by omega) (show fl.n.toNat % 256 < 18446744073709551616 by omega) _ _ (Hbk.out _) (hrd.on (b1alloc _ _))).mono ?_
                rintro e w9 ⟨rfl, h1, h2⟩
                have hst := rdst_next hbel hg Hrest.out (b1alloc wr _) h1 h2
                clear h1 h2 hrd hbel
                go_wp2
                go_roundw
                case rel => exact ⟨k + 1, by omega, by go_num, hst⟩
                case measure => simp [intOf]; omega
            · rw [hk1] at c0
              by_cases hbad : fl.size < 1 ∨ 8 < fl.size
              · rw [enc_bad fl hk1 hbad, List.nil_append, Hrest.out] at hrd
                have hst : RdSt w wr (encs (l.drop (k + 1))) g := ⟨hrd, hbel⟩
                clear hk1 k0 k2 o1 o2 hrd hbel
                rcases hbad with hb | hb
                all_goals
                  go_wp2
                  go_roundw
                  case rel => exact ⟨k + 1, by omega, by go_num, rdst_alloc hst _⟩
                  case measure => simp [intOf]; omega
              · have Hbk := Lib.hid (back_1 fl hk1 (by omega) (by omega) rest)
                have z1 : 1 ≤ fl.size := by omega
                have z8 : fl.size ≤ 8 := by omega
                clear hk1 k0 k2 o1 o2 hbad
                by_cases z7 : fl.size < 8
                · obtain ⟨p, hp, hp1, hshl⟩ := shl_of fl.size z1 z7
                  obtain ⟨m, hm, hm0, hm1, hm2, hm3⟩ := rem_of fl.n p fl.size hp
                  have hwr : IntKind.i64.wrap (8 * fl.size) = 8 * fl.size := IntWalk.i64_in _ (by omega)
                  have Hm := Lib.hid hm
                  have hlt9 : fl.n.toNat % 256 ^ fl.size.toNat < 18446744073709551616 := Nat.lt_of_le_of_lt (Nat.mod_le _ _) fl.n.toNat_lt
                  have Hlt9 := Lib.hid hlt9
                  clear hm hp hlt9
                  go_wp2_with fail
                  go_region
                  clear hm1 hm2 hm3 hshl hwr
                  go_wp2_with fail
                  refine (read_1m g _ rest _ o3 o4 t _ _ _ _ Hm.out Hlt9.out _ _ Hbk.out (hrd.on (bdrew1 (b1alloc _ _)))).mono ?_
                  rintro e w9 ⟨rfl, h1, h2⟩
                  have hst := rdst_next hbel hg Hrest.out (bdrew1 (b1alloc wr _)) h1 h2
                  clear h1 h2 hrd hbel
                  go_wp2
                  go_roundw
                  case rel => exact ⟨k + 1, by omega, by go_num, hst⟩
                  case measure => simp [intOf]; omega
                · have hs8 : fl.size = 8 := by omega
                  rw [hs8] at c1
                  have Hs8 := Lib.hid hs8
                  clear hs8 z1 z8 z7 o3 o4
                  go_wp2_with fail
                  refine (read_1m g _ rest _ (by omega) (by omega) t _ _ _ _ (by rfl) (show fl.n.toNat < 18446744073709551616 by omega) _ _ (by have h := Hbk.out; rw [Hs8.out] at h; rw [h]; congr 1; exact Nat.mod_eq_of_lt (by have := fl.n.toNat_lt; exact this)) (hrd.on (b1alloc _ _))).mono ?_
                  rintro e w9 ⟨rfl, h1, h2⟩
                  have hst := rdst_next hbel hg Hrest.out (b1alloc wr _) h1 h2
                  clear h1 h2 hrd hbel
                  go_wp2
                  go_roundw
                  case rel => exact ⟨k + 1, by omega, by go_num, hst⟩
                  case measure => simp [intOf]; omega
            · have Hbk := Lib.hid (back_2 fl hk2 kb · · rest)
              rw [hk2] at c0
              clear hk2 k0 k2 o1 o2
              go_wp2_with fail
              all_goals
                refine (read_2m g _ rest _ t _ _ fl.n a fl.b c' _ w.heap.size (q1.below ((b1alloc _ _).mono hsz)) hg (by omega) (Hbk.out _ (by omega)) (hrd.on (b1alloc _ _))).mono ?_
                rintro e w9 ⟨rfl, h1, h2⟩
                have hst := rdst_next hbel hg Hrest.out (b1alloc wr _) h1 h2
                clear h1 h2 hrd hbel
                go_wp2
                go_roundw
                case rel => exact ⟨k + 1, by omega, by go_num, hst⟩
                case measure => simp [intOf]; omega
          · obtain rfl : k = l.length := by omega
            have hrd' : RAt wr g [] 0 := by
              have h := hrd
              rw [List.drop_length] at h
              exact h
            clear hrd ha
            go_wp2_with fail
            refine (byteW_nil _ _).mono ?_
            rintro e x1 ⟨rfl, y1⟩
            have B1 := hbel.trans (y1.mono hbel.size)
            have r1 := hrd'.on y1
            go_wp2_with fail
            refine (textW_nil _).mono ?_
            rintro e x2 ⟨rfl, y2⟩
            have B2 := B1.trans (y2.mono B1.size)
            have r2 := r1.on y2
            clear y1 y2 r1 hrd' B1 hbel
            go_wp2_with fail
            refine (end_any g [] 0 _ r2).mono ?_
            rintro e x3 ⟨rfl, rfl⟩
            rw [show endF [] 0 = 0 by simp [endF]]
            clear r2
            go_wp2_with fail
            refine (out_nil _).mono ?_
            rintro e x3 ⟨rfl, rfl⟩
            go_wp2_with fail
            refine (byteR_nil _).mono ?_
            rintro e x4 ⟨rfl, y4⟩
            have B4 := B2.trans (y4.mono B2.size)
            go_wp2_with fail
            refine (numberR_nil _ _).mono ?_
            rintro e x5 ⟨rfl, y5⟩
            have B5 := B4.trans (y5.mono B4.size)
            go_wp2_with fail
            refine (bytesR_nil _ _).mono ?_
            rintro e x6 ⟨rfl, y6⟩
            have B6 := B5.trans (y6.mono B5.size)
            clear y4 y5 y6 B2 B4 B5
            go_wp2_with fail
            refine (left_nil _).mono ?_
            rintro e x7 ⟨rfl, rfl⟩
            go_wp2_with fail
            refine (fault_nil _).mono ?_
            rintro e x7 ⟨rfl, rfl⟩
            go_wp2_with fail
            refine (end_nil _).mono ?_
            rintro e x7 ⟨rfl, rfl⟩
            go_wp2_with (go_at_call 15; refine (alive_any _).mono ?_; rintro e w' ⟨rfl, hw9⟩)
            go_ret
            exact ⟨rfl, B6.trans (hw9.mono B6.size)⟩
  · have Hli := Lib.hid (show lightB l = false by simpa using hli)
    clear hli
    go_enter Try.func7, Try.ntmps7
    go_wp2_with fail
    refine (light_any A l _ c _ rfl ha (by omega)).mono ?_
    rintro e w1 ⟨rfl, b1⟩
    rw [Hli.out]
    go_wp2_with (go_at_call 15; refine (alive_any _).mono ?_; rintro e w' ⟨rfl, hw9⟩)
    go_ret
    exact ⟨rfl, bt b1 hw9⟩

set_option maxRecDepth 100000 in
theorem lifted (os : Os) (started : os.Started) (H : Type) (enc : TypeId × Value → H) :
    ReturnsInHanded {} Try.checked os 7 .any (Rows.wireBackSpec.pre6 enc Try.prog Try.f7 Rows.wireBackRow.domain false) (Rows.wireBackSpec.post enc Try.prog Try.f7 false true false false) := by
  refine returnsInHanded_of_change (C := Try.checked) own started (by kernel_rfl) Try.func7
    (ChangeSpec.witness6 (enc := enc) (C := Try.checked) false ⟨#[], #[.slice none 0 0, .bool false], []⟩ 8 (by kernel_rfl) (by kernel_rfl) (by kernel_rfl) (by kernel_rfl)) ?_
  intro W base args ds gs before hval0 hW hcnd _
  have hval : ∀ (j : Nat) t v, Try.f7.params[j]? = some t → args[j]? = some v → Value.okWide Try.prog W .any base t v := hval0
  have hW' := hW
  obtain ⟨p, q, hA0, hV, rfl, hfz, hnd⟩ := hW
  have hA : DataW.TrodAll enc Try.prog W 0 (fun _ => true) true Try.f7.params.toList args.toList ds p := hA0
  rw [Try.params7] at hA hval
  obtain ⟨v0, vs0, d0, ds0, p0, q0, hargs, rfl, rfl, h0, r0⟩ := trodAll_cons hA
  obtain ⟨v1, vs1, d1, ds1, p1, q1, rfl, rfl, rfl, h1, r1⟩ := trodAll_cons r0
  obtain ⟨rfl, rfl, rfl⟩ := trodAll_nil r1
  obtain rfl : args = #[v0, v1] := by cases args; simp_all
  obtain ⟨rfl, rfl⟩ := trodVars_none hV
  have k0 := h0
  have lt0 := places_lt k0
  obtain ⟨a0, len0, cap0, rfl⟩ := okWide_slice Try.underlying22 (hval 0 22 v0 rfl rfl)
  obtain ⟨fuel0, hf0⟩ := h0
  obtain ⟨l0, rfl, rr0, rc0, rm0⟩ := fields_of hf0
  have k1 := h1
  have lt1 := places_lt k1
  obtain ⟨b1, rfl, _, _⟩ := open_bool Try.underlying4 (hval 1 4 v1 rfl rfl) h1
  clear hA0 hval0
  refine (walk a0 l0 cap0 b1 W rr0 rc0 rm0).mono fun e W' ⟨he, bel⟩ => ?_
  subst he
  exact ⟨_, rfl, _, _, _, [], _, [], hW', trodAll_mk1 (shut_bool Try.underlying4 _), (trodAll_cons_mk (Below.trod laidOut (by kernel_rfl) (of_decide_eq_true (by kernel_rfl)) k0 bel lt0) (trodAll_cons_mk (Below.trod laidOut (by kernel_rfl) (of_decide_eq_true (by kernel_rfl)) k1 bel lt1) trodAll_mk0)), rfl, bel.frame _, fun h => by cases h⟩

theorem proved : Rows.WireBackSaid :=
  OpenClaim.holds_of_wide 7 Try.f7 rfl rfl rfl rfl rfl rfl rfl ⟨rfl, rfl, rfl, rfl, rfl⟩ rfl rfl rfl rfl rfl (by kernel_rfl) Try.func7 (by kernel_rfl)
    (of_decide_eq_true (by kernel_rfl)) (by unfold Func.isWrapper; first | (rw [if_pos (by decide +kernel)]; kernel_rfl) | (rw [if_neg (by decide +kernel)]; exact ⟨rfl, rfl⟩))
    (fun os started H enc _ => lifted os started H enc)
#print axioms proved
end Go.Proofs.Ytdkcdojcglmlbaa.WireBack
