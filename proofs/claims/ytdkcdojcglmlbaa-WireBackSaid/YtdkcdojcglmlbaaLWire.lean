/- The walks of the statements' helpers on fields, and of the document's answer for writing. -/
import Derived.Test.YtdkcdojcglmlbaaWire
import Derived.Test.YtdkcdojcglmlbaaFld
namespace Go.Proofs.Ytdkcdojcglmlbaa.Wire
open Go.RowKit
set_option linter.unusedVariables false
set_option maxRecDepth 100000

def okF (f : Fl) : Bool := decide (0 ≤ f.kind) && (decide (f.kind ≤ 2) && decide (f.b.length ≤ 300))
def lightB (l : List Fl) : Bool := decide (l.length ≤ 40) && l.all okF
theorem okF_yes {f : Fl} (h : okF f = true) : 0 ≤ f.kind ∧ f.kind ≤ 2 ∧ f.b.length ≤ 300 := by simpa [okF] using h
theorem okF_no {f : Fl} (h : okF f = false) : f.kind < 0 ∨ 0 ≤ f.kind ∧ 2 < f.kind ∨ 0 ≤ f.kind ∧ f.kind ≤ 2 ∧ 300 < f.b.length := by
  have : ¬ (0 ≤ f.kind ∧ f.kind ≤ 2 ∧ f.b.length ≤ 300) := fun h' => by simp [okF, h'.1, h'.2.1, h'.2.2] at h
  omega
theorem light_yes {l : List Fl} (h : lightB l = true) : l.length ≤ 40 ∧ ∀ i (hi : i < l.length), okF l[i] = true := by
  simp only [lightB, Bool.and_eq_true, decide_eq_true_eq, List.all_eq_true] at h
  exact ⟨h.1, fun i hi => h.2 _ (List.getElem_mem hi)⟩
theorem light_no {l : List Fl} {k : Nat} (hk : k < l.length) (h : okF l[k] = false) : lightB l = false := by
  cases hh : lightB l with
  | false => rfl
  | true => rw [(light_yes hh).2 k hk] at h; cases h
theorem light_all {l : List Fl} (h : l.length ≤ 40) (ha : ∀ i (hi : i < l.length), okF l[i] = true) : lightB l = true := by
  simp only [lightB, Bool.and_eq_true, decide_eq_true_eq, List.all_eq_true]
  exact ⟨h, fun x hx => by obtain ⟨i, hi, rfl⟩ := List.getElem_of_mem hx; exact ha i hi⟩

set_option maxHeartbeats 400000 in
theorem light_any (A : Option Addr) (l : List Fl) (n c : Nat) (w : World) (hn : n = l.length) (hr : Fields w w.heap.size A l) (hl : l.length ≤ 9223372036854775807) :
    Calls Try.prog 14 #[.slice A n c] w fun e w' => e = .returned (.bool (lightB l)) ∧ Below w.heap.size w w' := by
  subst hn
  by_cases h40 : l.length ≤ 40
  · go_enter Try.func14, Try.ntmps14
    go_wp2
    go_loopw [3] (fun i wr => ∃ k : Nat, k ≤ l.length ∧ i = .int .i64 k ∧ Hid (∀ j (hj : j < l.length), j < k → okF l[j] = true) ∧ Below w.heap.size w wr) (fun i _ => l.length - (intOf i).toNat)
    case atStart => exact ⟨0, by omega, rfl, fun j _ h => absurd h (by omega), Below.refl _ _⟩
    case round =>
      obtain ⟨k, hk, rfl, hall, hbel⟩ := hrel
      by_cases hlt : k < l.length
      · obtain ⟨b, off, a, c', rfl, hbb, c0, c1, c2, c3, hfa, hok⟩ := (hr.keep hbel).get hlt
        obtain ⟨o1, o2, o3, o4⟩ := hok
        obtain ⟨q1, q2, q3⟩ := hfa
        unfold maxLen at q3
        by_cases hk' : okF l[k] = true
        · have hall' := Lib.hid (show ∀ j (hj : j < l.length), j < k + 1 → okF l[j] = true from fun j hj h => by
            rcases Nat.lt_or_ge j k with e | e
            · exact hall.out j hj e
            · obtain rfl : j = k := by omega
              exact hk')
          obtain ⟨p1, p2, p3⟩ := okF_yes hk'
          clear hk'
          go_wp2
          go_roundw
          case rel => exact ⟨k + 1, by omega, by go_num, hall', hbel⟩
          case measure => simp [intOf]; omega
        · have hno := okF_no (by simpa using hk')
          have hf := Lib.hid (light_no hlt (by simpa using hk'))
          clear hk'
          rcases hno with h1 | ⟨h1, h2⟩ | ⟨h1, h2, h3⟩
          all_goals
            go_wp2
            go_ret
            exact ⟨ret_bool hf.out.symm, hbel⟩
      · have hf := Lib.hid (light_all h40 fun j hj => hall.out j hj (by omega))
        go_wp2
        go_ret
        exact ⟨ret_bool hf.out.symm, hbel⟩
  · have hf := Lib.hid (show lightB l = false by simp [lightB, h40])
    go_enter Try.func14, Try.ntmps14
    go_wp2
    go_ret
    exact ⟨ret_bool hf.out.symm, Below.refl _ _⟩

/-- the bytes of a field -/
def enc (f : Fl) : List UInt8 := if f.kind = 0 then [UInt8.ofNat f.n.toNat] else if f.kind = 1 then Num.put f.n.toNat f.size else field f.b
theorem enc_0 {f : Fl} (h : f.kind = 0) : enc f = [UInt8.ofNat f.n.toNat] := if_pos h
theorem enc_1 {f : Fl} (h : f.kind = 1) : enc f = Num.put f.n.toNat f.size := by unfold enc; rw [if_neg (by omega), if_pos h]
theorem enc_2 {f : Fl} (h : f.kind = 2) : enc f = field f.b := by unfold enc; rw [if_neg (by omega), if_neg (by omega)]
theorem field_len {l : List UInt8} (h : l.length ≤ 300) : (field l).length ≤ 302 := by rw [field_few (by omega)]; simp [Num.putL_len]; omega
theorem enc_len {f : Fl} (h : okF f = true) : (enc f).length ≤ 302 := by
  obtain ⟨h0, h1, h2⟩ := okF_yes h
  rcases (show f.kind = 0 ∨ f.kind = 1 ∨ f.kind = 2 by omega) with e | e | e
  · rw [enc_0 e]; simp
  · rw [enc_1 e]; have := Num.put_le f.n.toNat f.size; omega
  · rw [enc_2 e]; exact field_len h2
theorem byte_of (n : UInt64) : (n.toNat : Int) % 256 = ((UInt8.ofNat n.toNat).toNat : Int) := by rw [UInt8.toNat_ofNat']; omega

set_option maxHeartbeats 400000 in
theorem write_any (g base : Nat) (l : List UInt8) (fp : List Nat) (f : Fl) (a : Option Addr) (c : Nat) (t : Bool) (w : World) (hw : WAt w base g l fp) (hb : base ≤ w.heap.size) (hl : l.length ≤ 1000000000) (hf : FlAt w base f a c) (hok : f.ok) (hk : okF f = true) :
    Calls Try.prog 16 #[.pointer (some ⟨g, 0, none⟩), flv f a c, .bool t] w (Wrote w base g (l ++ enc f) fp) := by
  obtain ⟨kd, sz, n, b⟩ := f
  obtain ⟨h0, h1, h2⟩ := okF_yes hk
  obtain ⟨o1, o2, o3, o4⟩ := hok
  obtain ⟨q1, q2, q3⟩ := hf
  clear hk
  dsimp only [flv] at *
  unfold maxLen at q3
  have n0 : (0 : Int) ≤ (n.toNat : Int) := by omega
  have n1 : (n.toNat : Int) ≤ 18446744073709551615 := by have := n.toNat_lt; omega
  rcases (show kd = 0 ∨ kd = 1 ∨ kd = 2 by omega) with rfl | rfl | rfl
  · rw [enc_0 rfl]
    have hby := Lib.hid (byte_of n)
    go_enter Try.func16, Try.ntmps16
    go_wp2_with fail
    refine (byte_any g base l _ _ hby.out fp _ (hw.on (b1alloc _ _)) (le_alloc hb _) (by omega)).mono ?_
    intro e w1 h1
    obtain ⟨rfl, h2⟩ := h1
    go_wp2
    go_end0
    exact wrote_alloc ⟨rfl, h2⟩
  · rw [enc_1 rfl]
    go_enter Try.func16, Try.ntmps16
    go_wp2_with fail
    refine (number_any g base l n _ (by rfl) sz o3 o4 fp _ (hw.on (b1alloc _ _)) (le_alloc hb _) (by omega)).mono ?_
    intro e w1 h1
    obtain ⟨rfl, h2⟩ := h1
    go_wp2
    go_end0
    exact wrote_alloc ⟨rfl, h2⟩
  · rw [enc_2 rfl]
    cases t
    · go_enter Try.func16, Try.ntmps16
      go_wp2_with fail
      refine (bytes_any g base l b fp a _ c _ rfl (hw.on (b1alloc _ _)) (RdN.on (RdN.of q1 hw.ge hb) (b1alloc _ _)) (le_alloc hb _) hl h2 q2).mono ?_
      intro e w1 h1
      obtain ⟨rfl, h2⟩ := h1
      go_wp2
      go_end0
      exact wrote_alloc ⟨rfl, h2⟩
    · have hcv := run_conv_rd (P := Try.prog) (w := w.alloc (.cells #[.int .i64 2, .int .i64 sz, .int .u64 (n.toNat : Int), .slice a b.length c] 32)) 26 9 5 b.length c rfl Try.underlying26 Try.underlying5 Try.underlying9 ((q1.more hb).on (b1alloc _ _))
      go_enter Try.func16, Try.ntmps16
      go_wp2_with fail
      refine (text_any g base l b _ rfl fp _ (hw.on (b1alloc _ _)) (le_alloc hb _) hl h2).mono ?_
      intro e w1 h1
      obtain ⟨rfl, h2⟩ := h1
      go_wp2
      go_end0
      exact wrote_alloc ⟨rfl, h2⟩

set_option maxHeartbeats 400000 in
theorem rbytes_any (f : Fl) (a : Option Addr) (c : Nat) (w : World) (hf : FlAt w w.heap.size f a c) (hok : f.ok) (hk : okF f = true) :
    Calls Try.prog 18 #[flv f a c] w fun e w' => RetB 5 w (enc f) e w' := by
  obtain ⟨kd, sz, n, b⟩ := f
  obtain ⟨h0, h1, h2⟩ := okF_yes hk
  obtain ⟨o1, o2, o3, o4⟩ := hok
  obtain ⟨q1, q2, q3⟩ := hf
  clear hk
  dsimp only [flv] at *
  unfold maxLen at q3
  have n0 : (0 : Int) ≤ (n.toNat : Int) := by omega
  have n1 : (n.toNat : Int) ≤ 18446744073709551615 := by have := n.toNat_lt; omega
  rcases (show kd = 0 ∨ kd = 1 ∨ kd = 2 by omega) with rfl | rfl | rfl
  · rw [enc_0 rfl]
    have hby := Lib.hid (byte_of n)
    go_enter Try.func18, Try.ntmps18
    go_wp2
    go_ret
    exact retB_lit1 (by rw [hby.out]; rfl) (by simp) rfl
  · rw [enc_1 rfl]
    go_enter Try.func18, Try.ntmps18
    go_wp2_with fail
    refine (Num.rputz_any n _ (by rfl) sz o3 o4 _).mono ?_
    intro e w1 h1
    obtain ⟨A1, c1, rfl, h3, h4⟩ := h1
    go_wp2
    go_ret
    exact RetB.after (b1alloc _ _) h3 h4
  · rw [enc_2 rfl]
    obtain ⟨u, hu⟩ := u64_of b.length (by omega)
    have hu' := Lib.hid (show (b.length : Int) = (u.toNat : Int) by omega)
    have hfd := Lib.hid (show Num.put u.toNat 2 ++ b = field b by rw [field_few (by omega), hu]; rfl)
    clear hu
    go_enter Try.func18, Try.ntmps18
    go_wp2_with fail
    refine (Num.rputz_any u _ hu'.out 2 (by omega) (by omega) _).mono ?_
    intro e w1 h1
    obtain ⟨A1, c1, rfl, h3, h4⟩ := h1
    have h5 := bt (b1alloc _ _) h4
    go_wp2_with fail
    refine (R1.join_any _ _ _ _ _ _ _ _ _ rfl rfl (Rd.own h3) (q1.on h5) (by have := Num.put_le u.toNat 2; omega)).mono ?_
    intro e w2 h6
    rw [hfd.out] at h6
    obtain ⟨A2, c2, rfl, h7, h8⟩ := h6
    go_wp2
    go_ret
    exact RetB.after h5 h7 h8
end Go.Proofs.Ytdkcdojcglmlbaa.Wire
