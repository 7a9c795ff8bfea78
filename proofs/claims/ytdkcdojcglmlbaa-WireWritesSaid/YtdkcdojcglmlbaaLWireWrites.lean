/- WireWrites: for every input the law returns true: the bytes of any fields, one behind the other, are the document's. No condition. -/
import Derived.Test.YtdkcdojcglmlbaaLWire
import Derived.Test.YtdkcdojcglmlbaaRef01
import Derived.Test.YtdkcdojcglmlbaaOpen
namespace Go.Proofs.Ytdkcdojcglmlbaa.WireWrites
open Go.ChangeShapes Go.WideShapes Go.ChangeAt Go.RowKit Go.Joins
open Go.ChangeMaps (open_string shut_string)
set_option linter.unusedVariables false
set_option maxRecDepth 100000
open Wire

def encs (l : List Fl) : List UInt8 := l.flatMap enc
theorem encs_take {l : List Fl} {k : Nat} (h : k < l.length) : encs (l.take (k + 1)) = encs (l.take k) ++ enc l[k] := by
  simp only [encs]; rw [List.take_succ_eq_append_getElem h, List.flatMap_append]; simp
theorem encs_len {l : List Fl} (ha : ∀ i (hi : i < l.length), okF l[i] = true) : ∀ k, k ≤ l.length → (encs (l.take k)).length ≤ 302 * k
  | 0, _ => by simp [encs]
  | k + 1, h => by
    rw [encs_take (by omega), List.length_append]
    have := encs_len ha k (by omega)
    have := enc_len (ha k (by omega))
    omega
/-- the writer, and what is wanted, lie apart -/
def St (w0 w : World) (l : List UInt8) (g : Nat) (v : Value) : Prop :=
  ∃ fp, WAt w w0.heap.size g l fp ∧ w.ownsRow w0.heap.size 5 1 v l.length (l.map e8) ∧ (∀ k, v.ownBlock = some k → k ∉ fp) ∧ Below w0.heap.size w0 w

set_option maxHeartbeats 800000 in
theorem walk (A : Option Addr) (l : List Fl) (c : Nat) (t : Bool) (w : World)
    (ha : Fields w w.heap.size A l) (hc : l.length ≤ c) (hcm : c ≤ maxLen) :
    Calls Try.prog 3 #[.slice A l.length c, .bool t] w fun e w' => e = .returned (.bool true) ∧ Below w.heap.size w w' := by
  unfold maxLen at hcm
  by_cases hli : lightB l = true
  · obtain ⟨h40, hok⟩ := light_yes hli
    have Hli := Lib.hid hli
    have Hok := Lib.hid hok
    clear hli hok
    go_enter Try.func3, Try.ntmps3
    go_wp2_with fail
    refine (light_any A l _ c _ rfl ha (by omega)).mono ?_
    rintro e w1 ⟨rfl, b1⟩
    rw [Hli.out]
    have st0 : St w (w1.alloc (.cells #[.slice none 0 0] 28)) [] w1.heap.size (.slice none 0 0) := ⟨_, (by
      have h := WAt.new w1 28
      obtain ⟨v, h1, h2, h3, h4, h5⟩ := h
      exact ⟨v, h1, own_base h2 b1.size, h3, h4, b1.size⟩), own_nil _ _ _ _, (fun k h => by cases h), bt b1 (b1alloc _ _)⟩
    have hg1 := b1.size
    go_wp2_with fail
    go_loopw [6, 7] (fun v i wr => ∃ k : Nat, k ≤ l.length ∧ i = .int .i64 k ∧ St w wr (encs (l.take k)) w1.heap.size v) (fun _ i _ => l.length - (intOf i).toNat)
    case atStart => exact ⟨0, by omega, rfl, by simpa [encs] using st0⟩
    case round =>
      obtain ⟨k, hk, rfl, fp, hw, hv, hd, hbel⟩ := hrel
      by_cases hlt : k < l.length
      · have hkok := Hok.out k hlt
        obtain ⟨b, off, a, c', rfl, hbb, c0, c1, c2, c3, hfa, hok⟩ := (ha.keep hbel).get hlt
        have Hkok := Lib.hid hkok
        have hle := encs_len Hok.out k hk
        have hel := enc_len hkok
        have Htk := Lib.hid (encs_take hlt)
        clear hkok
        obtain ⟨A0, c0', rfl⟩ := own_form hv
        go_wp2_with fail
        refine (write_any _ _ _ fp l[k] a c' t wr hw hbel.size (by omega) hfa hok Hkok.out).mono ?_
        intro e w2 h1
        obtain ⟨rfl, fp2, hw2, k2, f2⟩ := h1
        have b2 : Below w.heap.size wr w2 := k2.below hw.ge hbel.size
        have hbel2 := hbel.trans b2
        have hv2 := own_keep hv k2 hd
        have hd2 : ∀ j, (Value.slice A0 (encs (l.take k)).length c0').ownBlock = some j → j ∉ fp2 := fun j hj => f2.out (hv.lt j hj).2 (hd j hj)
        have c0 := (b2.cell (p := ⟨b, off + k * 4, none⟩) hbb).trans c0
        have c1 := (b2.cell (p := ⟨b, off + k * 4 + 1, none⟩) hbb).trans c1
        have c2 := (b2.cell (p := ⟨b, off + k * 4 + 2, none⟩) hbb).trans c2
        have c3 := (b2.cell (p := ⟨b, off + k * 4 + 3, none⟩) hbb).trans c3
        have hfa2 := hfa.keep b2
        have hB2 : w.heap.size ≤ w2.heap.size := hbel2.size
        go_wp2_with fail
        refine (rbytes_any l[k] a c' w2 ⟨hfa2.1.more hB2, hfa2.2⟩ hok Hkok.out).mono ?_
        rintro e w3 ⟨A3, c3', rfl, h3, b3⟩
        go_wp2_with fail
        refine (R1.join_any _ _ _ _ _ _ _ _ _ rfl rfl ((Rd.own hv2).on b3) (Rd.own h3) (by omega)).mono ?_
        rw [← Htk.out]
        have hle' := encs_len Hok.out (k + 1) hlt
        rintro e w4 ⟨A4, c4', rfl, h4, b4⟩
        have b24 := bt b3 b4
        have hw4 := hw2.on b24
        have hd4 : ∀ j, (Value.slice A4 (encs (l.take (k + 1))).length c4').ownBlock = some j → j ∉ fp2 := fun j hj e => by
          have h1 := (h4.lt j hj).1
          have h2 := hw2.lt j e
          have h5 := b3.size
          omega
        have hv4 := own_base h4 (Nat.le_trans hB2 b3.size)
        have hbel4 := hbel2.trans (b24.mono hB2)
        rw [← Htk.out] at hw4
        go_wp2_with fail
        refine (out_any _ _ _ _ _ hw4 (by omega)).mono ?_
        rintro e w5 ⟨A5, c5', rfl, h5, b5⟩
        have hv5 := own_on hv4 b5
        have hbel5 := hbel4.trans (b5.mono hbel4.size)
        go_wp2_with fail
        refine (R1.same_any _ _ _ _ _ _ _ _ _ rfl rfl (Rd.own h5) (Rd.own hv5) (by omega) (by omega)).mono ?_
        rintro e w6 ⟨rfl, b6⟩
        rw [R1.sameB_self]
        have hst : St w w6 (encs (l.take (k + 1))) w1.heap.size (.slice A4 (encs (l.take (k + 1))).length c4') := ⟨fp2, (hw4.on b5).on b6, own_on hv5 b6, hd4, hbel5.trans (b6.mono hbel5.size)⟩
        go_wp2
        go_roundw
        case rel => exact ⟨k + 1, by omega, by go_num, hst⟩
        case measure => simp [intOf]; omega
      · go_wp2_with (go_at_call 15; refine (alive_any _).mono ?_; rintro e w' ⟨rfl, hw9⟩)
        go_ret
        exact ⟨rfl, hbel.trans (hw9.mono hbel.size)⟩
  · have Hli := Lib.hid (show lightB l = false by simpa using hli)
    clear hli
    go_enter Try.func3, Try.ntmps3
    go_wp2_with fail
    refine (light_any A l _ c _ rfl ha (by omega)).mono ?_
    rintro e w1 ⟨rfl, b1⟩
    rw [Hli.out]
    go_wp2_with (go_at_call 15; refine (alive_any _).mono ?_; rintro e w' ⟨rfl, hw9⟩)
    go_ret
    exact ⟨rfl, bt b1 hw9⟩

set_option maxRecDepth 100000 in
theorem lifted (os : Os) (started : os.Started) (H : Type) (enc : TypeId × Value → H) :
    ReturnsInHanded {} Try.checked os 3 .any (Rows.wireWritesSpec.pre6 enc Try.prog Try.f3 Rows.wireWritesRow.domain false) (Rows.wireWritesSpec.post enc Try.prog Try.f3 false true false false) := by
  refine returnsInHanded_of_change (C := Try.checked) own started (by kernel_rfl) Try.func3
    (ChangeSpec.witness6 (enc := enc) (C := Try.checked) false ⟨#[], #[.slice none 0 0, .bool false], []⟩ 8 (by kernel_rfl) (by kernel_rfl) (by kernel_rfl) (by kernel_rfl)) ?_
  intro W base args ds gs before hval0 hW hcnd _
  have hval : ∀ (j : Nat) t v, Try.f3.params[j]? = some t → args[j]? = some v → Value.okWide Try.prog W .any base t v := hval0
  have hW' := hW
  obtain ⟨p, q, hA0, hV, rfl, hfz, hnd⟩ := hW
  have hA : DataW.TrodAll enc Try.prog W 0 (fun _ => true) true Try.f3.params.toList args.toList ds p := hA0
  rw [Try.params3] at hA hval
  obtain ⟨v0, vs0, d0, ds0, p0, q0, hargs, rfl, rfl, h0, r0⟩ := trodAll_cons hA
  obtain ⟨v1, vs1, d1, ds1, p1, q1, rfl, rfl, rfl, h1, r1⟩ := trodAll_cons r0
  obtain ⟨rfl, rfl, rfl⟩ := trodAll_nil r1
  obtain rfl : args = #[v0, v1] := by cases args; simp_all
  obtain ⟨rfl, rfl⟩ := trodVars_none hV
  have k0 := h0
  have lt0 := places_lt k0
  obtain ⟨a0, len0, cap0, rfl⟩ := okWide_slice Try.underlying22 (hval 0 22 v0 rfl rfl)
  obtain ⟨fuel0, hf0⟩ := h0
  obtain ⟨l0, rfl, rr0, rc0, rm0⟩ := fields_of hf0
  have k1 := h1
  have lt1 := places_lt k1
  obtain ⟨b1, rfl, _, _⟩ := open_bool Try.underlying4 (hval 1 4 v1 rfl rfl) h1
  clear hA0 hval0
  refine (walk a0 l0 cap0 b1 W rr0 rc0 rm0).mono fun e W' ⟨he, bel⟩ => ?_
  subst he
  exact ⟨_, rfl, _, _, _, [], _, [], hW', trodAll_mk1 (shut_bool Try.underlying4 _), (trodAll_cons_mk (Below.trod laidOut (by kernel_rfl) (of_decide_eq_true (by kernel_rfl)) k0 bel lt0) (trodAll_cons_mk (Below.trod laidOut (by kernel_rfl) (of_decide_eq_true (by kernel_rfl)) k1 bel lt1) trodAll_mk0)), rfl, bel.frame _, fun h => by cases h⟩

theorem proved : Rows.WireWritesSaid :=
  OpenClaim.holds_of_wide 3 Try.f3 rfl rfl rfl rfl rfl rfl rfl ⟨rfl, rfl, rfl, rfl, rfl⟩ rfl rfl rfl rfl rfl (by kernel_rfl) Try.func3 (by kernel_rfl)
    (of_decide_eq_true (by kernel_rfl)) (by unfold Func.isWrapper; first | (rw [if_pos (by decide +kernel)]; kernel_rfl) | (rw [if_neg (by decide +kernel)]; exact ⟨rfl, rfl⟩))
    (fun os started H enc _ => lifted os started H enc)
#print axioms proved
end Go.Proofs.Ytdkcdojcglmlbaa.WireWrites
