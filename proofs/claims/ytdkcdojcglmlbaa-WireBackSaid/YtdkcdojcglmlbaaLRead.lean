/- The walks of the statements' read, and of the document's answer for reading. -/
import Derived.Test.YtdkcdojcglmlbaaRead2
import Derived.Test.YtdkcdojcglmlbaaPhase
import Derived.Test.YtdkcdojcglmlbaaRef01
import Derived.Test.YtdkcdojcglmlbaaLWire
import Derived.Deep.RegionHeld3
namespace Go.Proofs.Ytdkcdojcglmlbaa.Read
open Go.RowKit Wire
set_option linter.unusedVariables false
set_option maxRecDepth 100000

/-- what a field of a kind is at the beginning of bytes: a number, bytes, what is left -/
def takeP (kind size : Int) (l : List UInt8) : Option (Nat × List UInt8 × List UInt8) :=
  if kind = 0 then (if 1 ≤ l.length then some (Num.getN (l.take 1), [], l.drop 1) else none)
  else if kind = 1 then (if 1 ≤ size ∧ size ≤ 8 ∧ size ≤ l.length then some (Num.getN (l.take size.toNat), [], l.drop size.toNat) else none)
  else if 2 ≤ l.length ∧ (Num.getN (l.take 2) : Int) ≤ size ∧ 2 + Num.getN (l.take 2) ≤ l.length then some (0, (l.drop 2).take (Num.getN (l.take 2)), l.drop (2 + Num.getN (l.take 2))) else none
/-- what is read: a number, bytes; where the reader stands then -/
def outc (kind size : Int) (l : List UInt8) (f : Int) : Nat × List UInt8 × List UInt8 × Int :=
  if f = 0 then match takeP kind size l with
    | some (n, b, r) => (n, b, r, 0)
    | none => (0, [], [], 4)
  else (0, [], l, f)
theorem getN_one (x : UInt8) (l : List UInt8) : Num.getN ((x :: l).take 1) = x.toNat := by simp [Num.getN]

theorem u64_small {n : Nat} (h : n < 18446744073709551616) : IntKind.u64.wrap (n : Int) = (n : Int) := by
  exact IntWalk.u64_in _ (by omega)
theorem outc_lt (size : Int) (l : List UInt8) (f : Int) : (outc 0 size l f).1 < 256 := by
  unfold outc
  split
  · cases l with
    | nil => simp [takeP]
    | cons x l => simp only [takeP, if_true, List.length_cons, show (1 ≤ l.length + 1) = True by simp, getN_one]; exact x.toNat_lt
  · simp
theorem byteO (g : Nat) (l : List UInt8) (f : Int) (size : Int) (w : World) (hr : RAt w g l f) :
    Calls Try.prog 41 #[.pointer (some ⟨g, 0, none⟩)] w (Got w g (.int .u8 ((outc 0 size l f).1 : Int)) (outc 0 size l f).2.2.1 (outc 0 size l f).2.2.2) := by
  by_cases hf : f = 0
  · subst hf
    cases l with
    | nil => exact byte_no g w hr
    | cons x l =>
      have := byte_yes g x l w hr
      simp only [outc, if_true, takeP, List.length_cons, show (1 ≤ l.length + 1) = True by simp, getN_one, List.drop_succ_cons, List.drop_zero]
      exact this
  · have := byte_idle g l f hf w hr
    simp only [outc, if_neg hf]
    exact this
theorem numberO (g : Nat) (l : List UInt8) (f : Int) (size : Int) (h0 : -9223372036854775808 ≤ size) (h1 : size ≤ 9223372036854775807) (w : World) (hr : RAt w g l f) :
    Calls Try.prog 42 #[.pointer (some ⟨g, 0, none⟩), .int .i64 size] w (Got w g (.int .u64 ((outc 1 size l f).1 : Int)) (outc 1 size l f).2.2.1 (outc 1 size l f).2.2.2) := by
  by_cases hf : f = 0
  · subst hf
    by_cases h : 1 ≤ size ∧ size ≤ 8 ∧ size ≤ l.length
    · have := numberM_yes g l size.toNat size (by omega) w hr (by omega) (by omega) (by omega)
      simp only [outc, if_true, takeP, if_neg (show ¬ (1 : Int) = 0 by omega), if_pos h]
      exact this
    · have := numberM_no g l size w hr (by omega) h0 h1
      simp only [outc, if_true, takeP, if_neg (show ¬ (1 : Int) = 0 by omega), if_neg h]
      exact this
  · have := numberM_idle g l f hf size w hr
    simp only [outc, if_neg hf]
    exact this
theorem bytesO (g : Nat) (l : List UInt8) (f : Int) (size : Int) (w : World) (hr : RAt w g l f) :
    Calls Try.prog 43 #[.pointer (some ⟨g, 0, none⟩), .int .i64 size] w (GotB w g (outc 2 size l f).2.1 (outc 2 size l f).2.2.1 (outc 2 size l f).2.2.2) := by
  by_cases hf : f = 0
  · subst hf
    by_cases h : 2 ≤ l.length ∧ (Num.getN (l.take 2) : Int) ≤ size ∧ 2 + Num.getN (l.take 2) ≤ l.length
    · have := bytesM_yes g l _ size w hr h.1 rfl h.2.1 h.2.2
      simp only [outc, if_true, takeP, if_neg (show ¬ (2 : Int) = 0 by omega), if_neg (show ¬ (2 : Int) = 1 by omega), if_pos h]
      exact this
    · have := bytesM_no g l size w hr (by unfold noB; omega)
      simp only [outc, if_true, takeP, if_neg (show ¬ (2 : Int) = 0 by omega), if_neg (show ¬ (2 : Int) = 1 by omega), if_neg h]
      exact this
  · have := bytesM_idle g l f hf size w hr
    simp only [outc, if_neg hf]
    exact this
theorem textO (g : Nat) (l : List UInt8) (f : Int) (size : Int) (w : World) (hr : RAt w g l f) :
    Calls Try.prog 86 #[.pointer (some ⟨g, 0, none⟩), .int .i64 size] w (GotS w g (outc 2 size l f).2.1 (outc 2 size l f).2.2.1 (outc 2 size l f).2.2.2) :=
  text_of g l _ _ f _ size w (bytesO g l f size w hr)

def At (w : World) (g : Nat) (l : List UInt8) (f : Int) (w' : World) : Prop := RAt w' g l f ∧ Keep [g] w w'
theorem At.cells {w w' : World} {g : Nat} {l : List UInt8} {f : Int} (h : At w g l f w') {b o : Nat} (hb : b < w.heap.size) (hn : b ≠ g) : w'.cell? ⟨b, o, none⟩ = w.cell? ⟨b, o, none⟩ := World.cell?_of_block (h.2.block hb (by simpa using hn))
theorem At.next {w w1 w' : World} {g : Nat} {l l' : List UInt8} {f f' : Int} (h : At w g l f w1) (h1 : RAt w' g l' f') (h2 : Keep [g] w1 w') : At w g l' f' w' := ⟨h1, h.2.trans h2 (Fresh.refl _ _)⟩

theorem two_keep {w w' : World} {g : Nat} {l l' : List UInt8} {f f' : Int} {b : Nat} (h : Cl (Two (At w g l f) (At w g l' f')) b w') : Keep [g] w w' := by
  obtain ⟨p, _, h⟩ := h
  cases p with
  | zero => exact h.2
  | succ p => exact h.2
theorem keep_cells {w w' : World} {g : Nat} (h : Keep [g] w w') : ∀ b o, b < w.heap.size → b ≠ g → w'.cell? ⟨b, o, none⟩ = w.cell? ⟨b, o, none⟩ := fun b o hb hn => World.cell?_of_block (h.block hb (by simpa using hn))
set_option maxHeartbeats 800000 in
theorem read_0 (g : Nat) (l : List UInt8) (f size : Int) (t : Bool) (wk ws : Int) (wn : UInt64) (wv : Value) (w : World) (hr : RAt w g l f) (hn : wn.toNat = (outc 0 size l f).1) :
    Calls Try.prog 26 #[.pointer (some ⟨g, 0, none⟩), .int .i64 0, .int .i64 size, .bool t, .agg #[.int .i64 wk, .int .i64 ws, .int .u64 (wn.toNat : Int), wv]] w (Got w g (.bool true) (outc 0 size l f).2.2.1 (outc 0 size l f).2.2.2) := by
  have Hn := Lib.hid hn
  obtain ⟨o, ho⟩ : ∃ o, o = outc 0 size l f := ⟨_, rfl⟩
  have hby := byteO g l f size
  have hx : IntKind.u64.wrap (o.1 : Int) = (o.1 : Int) := by rw [ho]; exact u64_small (by have := outc_lt size l f; omega)
  rw [← ho] at hby hn
  have Hby := Lib.hid hby
  have hlt := hr.lt
  rw [← ho, hn]
  clear hn ho hby
  go_enter Try.func26, Try.ntmps26
  go_wp2_with fail
  obtain ⟨W, hW⟩ : ∃ W, W = w.alloc (.cells #[.int .i64 wk, .int .i64 ws, .int .u64 (o.1 : Int), wv] 32) := ⟨_, rfl⟩
  have hc2 : W.cell? ⟨w.heap.size, 2, none⟩ = some (.int .u64 (o.1 : Int)) := by rw [hW]; simp [go_sem]
  have hsz : w.heap.size < W.heap.size := by rw [hW]; simp
  have hb : Below w.heap.size w W := by rw [hW]; exact b1alloc _ _
  have hne : w.heap.size ≠ g := by omega
  rw [← hW]
  have hrW := hr.on hb
  have HW := Lib.hid hW
  clear hW
  refine region_phase 8 [1] [] (Two (At W g l f) (At W g o.2.2.1 o.2.2.2)) (by kernel_rfl) (by kernel_rfl) (by kernel_rfl) ⟨hrW, (Keep.refl _ _)⟩ ?_
  have phNe : ∃ w, Cl (Two (At W g l f) (At W g o.2.2.1 o.2.2.2)) 0 w := ⟨_, 0, Nat.le_refl _, ⟨hrW, (Keep.refl _ _)⟩⟩
  have phW := @wrap_small
  have phU := IntKind.wrap_u8'
  repeat (first | (refine wpPh_call (by rfl) (by rfl) (fun K hK => ?_); go_simp; apply Exists.intro; refine ⟨?_, hK _ ?_⟩; (· (intro w' hw'; first | (go_at_call 41; refine (Hby.out _ hw'.1).mono ?_; rintro e w1 ⟨rfl, h1, h2⟩; exact ⟨rfl, At.next hw' h1 h2⟩))); clear hK K) | (refine wpPh_read (by rfl) (by rfl) (fun K hK => ?_); go_simp; first | (refine hK _ ?_; clear hK K) | (apply Exists.intro; refine ⟨?_, hK _ ?_⟩; (· (intro w' hw'; first | (have hcw := keep_cells (two_keep hw'); go_simp; exact rfl))); clear hK K)))
  refine wpPh_nil ?_
  intro wq hq
  clear phNe phW phU
  go_wp2
  go_ret
  exact ⟨rfl, hq.1, (Keep.of_below hb [g]).trans hq.2 (Fresh.refl _ _)⟩
set_option maxHeartbeats 800000 in
theorem read_1 (g : Nat) (l : List UInt8) (f size : Int) (hs0 : -9223372036854775808 ≤ size) (hs1 : size ≤ 9223372036854775807) (t : Bool) (wk ws : Int) (wn : UInt64) (wv : Value) (w : World) (hr : RAt w g l f) (hn : wn.toNat = (outc 1 size l f).1) :
    Calls Try.prog 26 #[.pointer (some ⟨g, 0, none⟩), .int .i64 1, .int .i64 size, .bool t, .agg #[.int .i64 wk, .int .i64 ws, .int .u64 (wn.toNat : Int), wv]] w (Got w g (.bool true) (outc 1 size l f).2.2.1 (outc 1 size l f).2.2.2) := by
  obtain ⟨o, ho⟩ : ∃ o, o = outc 1 size l f := ⟨_, rfl⟩
  have hby := numberO g l f size hs0 hs1
  rw [← ho] at hby hn
  have Hby := Lib.hid hby
  have hlt := hr.lt
  rw [← ho, hn]
  clear hn ho hby
  go_enter Try.func26, Try.ntmps26
  go_wp2_with fail
  obtain ⟨W, hW⟩ : ∃ W, W = w.alloc (.cells #[.int .i64 wk, .int .i64 ws, .int .u64 (o.1 : Int), wv] 32) := ⟨_, rfl⟩
  have hc2 : W.cell? ⟨w.heap.size, 2, none⟩ = some (.int .u64 (o.1 : Int)) := by rw [hW]; simp [go_sem]
  have hsz : w.heap.size < W.heap.size := by rw [hW]; simp
  have hb : Below w.heap.size w W := by rw [hW]; exact b1alloc _ _
  have hne : w.heap.size ≠ g := by omega
  rw [← hW]
  have hrW := hr.on hb
  have HW := Lib.hid hW
  clear hW
  refine region_phase 8 [2] [] (Two (At W g l f) (At W g o.2.2.1 o.2.2.2)) (by kernel_rfl) (by kernel_rfl) (by kernel_rfl) ⟨hrW, (Keep.refl _ _)⟩ ?_
  have phNe : ∃ w, Cl (Two (At W g l f) (At W g o.2.2.1 o.2.2.2)) 0 w := ⟨_, 0, Nat.le_refl _, ⟨hrW, (Keep.refl _ _)⟩⟩
  have phW := @wrap_small
  have phU := IntKind.wrap_u8'
  repeat (first | (refine wpPh_call (by rfl) (by rfl) (fun K hK => ?_); go_simp; apply Exists.intro; refine ⟨?_, hK _ ?_⟩; (· (intro w' hw'; first | (go_at_call 42; refine (Hby.out _ hw'.1).mono ?_; rintro e w1 ⟨rfl, h1, h2⟩; exact ⟨rfl, At.next hw' h1 h2⟩))); clear hK K) | (refine wpPh_read (by rfl) (by rfl) (fun K hK => ?_); go_simp; first | (refine hK _ ?_; clear hK K) | (apply Exists.intro; refine ⟨?_, hK _ ?_⟩; (· (intro w' hw'; first | (have hcw := keep_cells (two_keep hw'); go_simp; exact rfl))); clear hK K)))
  refine wpPh_nil ?_
  intro wq hq
  clear phNe phW phU
  go_wp2
  go_ret
  exact ⟨rfl, hq.1, (Keep.of_below hb [g]).trans hq.2 (Fresh.refl _ _)⟩
theorem rd_keep1 {w w' : World} {g B : Nat} {A : Option Addr} {xs : List Value} (h : Rd w B A xs) (k : Keep [g] w w') (hB : B ≤ g) (hs : B ≤ w.heap.size) : Rd w' B A xs := h.keepK k (by simpa using hB) hs
set_option maxHeartbeats 800000 in
theorem read_2t (g : Nat) (l : List UInt8) (f size : Int) (wk ws : Int) (wn : UInt64) (A : Option Addr) (m : List UInt8) (c : Nat) (w : World) (B : Nat) (hr : RAt w g l f) (hm : Rd w B A (m.map e8)) (hB : B ≤ g) (hn : m = (outc 2 size l f).2.1) :
    Calls Try.prog 26 #[.pointer (some ⟨g, 0, none⟩), .int .i64 2, .int .i64 size, .bool true, .agg #[.int .i64 wk, .int .i64 ws, .int .u64 (wn.toNat : Int), .slice A m.length c]] w (Got w g (.bool true) (outc 2 size l f).2.2.1 (outc 2 size l f).2.2.2) := by
  obtain ⟨o, ho⟩ : ∃ o, o = outc 2 size l f := ⟨_, rfl⟩
  have hby := textO g l f size
  rw [← ho] at hby hn
  have Hby := Lib.hid hby
  have hlt := hr.lt
  rw [← ho]
  have Ho := Lib.hid hn
  clear ho hby hn
  go_enter Try.func26, Try.ntmps26
  go_wp2_with fail
  obtain ⟨W, hW⟩ : ∃ W, W = w.alloc (.cells #[.int .i64 wk, .int .i64 ws, .int .u64 (wn.toNat : Int), .slice A m.length c] 32) := ⟨_, rfl⟩
  have hc3 : W.cell? ⟨w.heap.size, 3, none⟩ = some (.slice A m.length c) := by rw [hW]; simp [go_sem]
  have hsz : w.heap.size < W.heap.size := by rw [hW]; simp
  have hb : Below w.heap.size w W := by rw [hW]; exact b1alloc _ _
  have hne : w.heap.size ≠ g := by omega
  rw [← hW]
  have hrW := hr.on hb
  have hmW := hm.below (hb.mono (by omega))
  have HW := Lib.hid hW
  clear hW
  rw [← Ho.out] at Hby
  refine region_phase 8 [2] [] (Two (At W g l f) (At W g o.2.2.1 o.2.2.2)) (by kernel_rfl) (by kernel_rfl) (by kernel_rfl) ⟨hrW, (Keep.refl _ _)⟩ ?_
  have phNe : ∃ w, Cl (Two (At W g l f) (At W g o.2.2.1 o.2.2.2)) 0 w := ⟨_, 0, Nat.le_refl _, ⟨hrW, (Keep.refl _ _)⟩⟩
  have phW := @wrap_small
  have phU := IntKind.wrap_u8'
  repeat (first | (refine wpPh_call (by rfl) (by rfl) (fun K hK => ?_); go_simp; apply Exists.intro; refine ⟨?_, hK _ ?_⟩; (· (intro w' hw'; first | (go_at_call 86; refine (Hby.out _ hw'.1).mono ?_; rintro e w1 ⟨rfl, h1, h2⟩; exact ⟨rfl, At.next hw' h1 h2⟩))); clear hK K) | (refine wpPh_read (by rfl) (by rfl) (fun K hK => ?_); go_simp; first | (refine hK _ ?_; clear hK K) | (apply Exists.intro; refine ⟨?_, hK _ ?_⟩; (· (intro w' hw'; first | (have hcw := keep_cells (two_keep hw'); have hcv := run_conv_rd (P := Try.prog) 26 9 5 m.length c rfl Try.underlying26 Try.underlying5 Try.underlying9 (rd_keep1 hmW (two_keep hw') hB (by omega)); go_simp; exact rfl))); clear hK K)))
  refine wpPh_nil ?_
  intro wq hq
  clear phNe phW phU
  go_wp2
  go_ret
  exact ⟨by simp, hq.1, (Keep.of_below hb [g]).trans hq.2 (Fresh.refl _ _)⟩
theorem rd_same {w W w1 : World} {g B : Nat} {A : Option Addr} {xs : List Value} (h : Rd W B A xs) (hb : Below w.heap.size w W) (k : Keep [g] W.drew w1) (hB : B ≤ g) (hBW : B ≤ W.heap.size) : Rd w1 w1.heap.size A xs := by
  have k' : Keep [g] W w1 := k
  exact (rd_keep1 h k' hB hBW).more (Nat.le_trans hBW k'.size)
set_option maxHeartbeats 800000 in
theorem read_2b (g : Nat) (l : List UInt8) (f size : Int) (wk ws : Int) (wn : UInt64) (A : Option Addr) (m : List UInt8) (c : Nat) (w : World) (B : Nat) (hr : RAt w g l f) (hm : Rd w B A (m.map e8)) (hB : B ≤ g) (hn : m = (outc 2 size l f).2.1) (hml : m.length ≤ 1000000) :
    Calls Try.prog 26 #[.pointer (some ⟨g, 0, none⟩), .int .i64 2, .int .i64 size, .bool false, .agg #[.int .i64 wk, .int .i64 ws, .int .u64 (wn.toNat : Int), .slice A m.length c]] w (Got w g (.bool true) (outc 2 size l f).2.2.1 (outc 2 size l f).2.2.2) := by
  obtain ⟨o, ho⟩ : ∃ o, o = outc 2 size l f := ⟨_, rfl⟩
  have hby := bytesO g l f size
  rw [← ho] at hby hn
  rw [← hn] at hby
  have Hby := Lib.hid hby
  have hlt := hr.lt
  rw [← ho]
  clear ho hby hn
  go_enter Try.func26, Try.ntmps26
  go_wp2_with fail
  obtain ⟨W, hW⟩ : ∃ W, W = w.alloc (.cells #[.int .i64 wk, .int .i64 ws, .int .u64 (wn.toNat : Int), .slice A m.length c] 32) := ⟨_, rfl⟩
  have hc3 : W.cell? ⟨w.heap.size, 3, none⟩ = some (.slice A m.length c) := by rw [hW]; simp [go_sem]
  have hsz : w.heap.size < W.heap.size := by rw [hW]; simp
  have hb : Below w.heap.size w W := by rw [hW]; exact b1alloc _ _
  have hne : w.heap.size ≠ g := by omega
  rw [← hW]
  have hrW := hr.on hb
  have hmW := hm.below (hb.mono (by omega))
  have HW := Lib.hid hW
  clear hW
  go_region_held3 (fun w' => w'.cell? ⟨w.heap.size, 3, none⟩ = some (.slice A m.length c)) (first | go_keep | (rw [World.cell?_of_block (h2.block (by simpa using hsz) (by simpa using hne))]; exact hc3) | (rw [h4.cell (p := ⟨w.heap.size, 3, none⟩) (by have := h2.size; simp at this ⊢; omega), World.cell?_of_block (h2.block (by simpa using hsz) (by simpa using hne))]; exact hc3))
    (first
      | (go_at_call 43; refine (Hby.out _ ?_).mono ?_; (exact hrW.on ((Below.refl _ _).drew)); rintro e w1 ⟨h1, h2, A1, c1, rfl, h3⟩)
      | (go_at_call 19; refine (R1.same_any A1 A m m _ _ c1 c _ rfl rfl (Rd.own h3) ?_ (by omega) (by omega)).mono ?_; (exact rd_same hmW hb h2 hB (by omega)); rintro e w2 ⟨rfl, h4⟩))
  go_wp2
  go_ret
  have h2' : Keep [g] W w1 := h2
  exact ⟨ret_bool (R1.sameB_self m), h1.on h4, ((Keep.of_below hb [g]).trans h2' (Fresh.refl _ _)).trans (Keep.of_below h4 [g]) (Fresh.refl _ _)⟩

/-- the document's Take -/
def TookF (w : World) (B : Nat) (l : List UInt8) (e : Ending) (w' : World) : Option (Nat × List UInt8 × List UInt8) → Prop
  | none => e = .returned (.tuple #[.agg #[.int .i64 0, .int .i64 0, .int .u64 0, .slice none 0 0], .int .i64 0, .bool false]) ∧ Below w.heap.size w w'
  | some (n, b, r) => Below w.heap.size w w' ∧ ∃ k s A c, e = .returned (.tuple #[.agg #[.int .i64 k, .int .i64 s, .int .u64 (n : Int), .slice A b.length c], .int .i64 ((l.length - r.length : Nat) : Int), .bool true]) ∧ Rd w B A (b.map e8)
theorem takeP_0 (size : Int) (x : UInt8) (l : List UInt8) : takeP 0 size (x :: l) = some (x.toNat, [], l) := by
  simp only [takeP, if_true, List.length_cons, show (1 ≤ l.length + 1) = True by simp, getN_one, List.drop_succ_cons, List.drop_zero]
set_option maxHeartbeats 800000 in
theorem take_0 (A : Option Addr) (l : List UInt8) (n cap : Nat) (size : Int) (w : World) (hn : n = l.length) (B : Nat) (hB : B ≤ w.heap.size) (hr : Rd w B A (l.map e8)) (hl : l.length ≤ 300) :
    Calls Try.prog 25 #[.slice A n cap, .int .i64 0, .int .i64 size] w fun e w' => TookF w B l e w' (takeP 0 size l) := by
  subst hn
  cases l with
  | nil =>
    go_enter Try.func25, Try.ntmps25
    go_wp2
    refine bodyPost_ret (v := .tuple #[.agg #[.int .i64 0, .int .i64 0, .int .u64 0, .slice none 0 0], .int .i64 (0), .bool false]) (by simp [results, Try.results25, go_sem]) rfl ⟨rfl, b1alloc _ _⟩
  | cons x l =>
    rw [takeP_0]
    have Hx := Lib.hid (u64_small (show x.toNat < 18446744073709551616 by have := x.toNat_lt; omega))
    obtain ⟨b, off, rfl, hbb, hc⟩ := hr.get (k := 0) (by simp)
    have hbb := Nat.lt_of_lt_of_le hbb hB
    simp only [List.map_cons, List.getElem_cons_zero, Nat.add_zero] at hc
    go_enter Try.func25, Try.ntmps25
    go_wp2
    refine bodyPost_ret (v := .tuple #[.agg #[.int .i64 0, .int .i64 0, .int .u64 (x.toNat : Int), .slice none 0 0], .int .i64 (1), .bool true]) (by simp [results, Try.results25, go_sem, Hx.out]) rfl ⟨b1alloc _ _, 0, 0, none, 0, by simp, Rd.nil _ _ _⟩
theorem takeP_1y {size : Int} {l : List UInt8} (h : 1 ≤ size ∧ size ≤ 8 ∧ size ≤ l.length) : takeP 1 size l = some (Num.getN (l.take size.toNat), [], l.drop size.toNat) := by
  simp only [takeP, if_neg (show ¬ (1 : Int) = 0 by omega), if_true, if_pos h]
theorem takeP_1n {size : Int} {l : List UInt8} (h : ¬ (1 ≤ size ∧ size ≤ 8 ∧ size ≤ l.length)) : takeP 1 size l = none := by
  simp only [takeP, if_neg (show ¬ (1 : Int) = 0 by omega), if_true, if_neg h]
set_option maxHeartbeats 800000 in
theorem take_1 (A : Option Addr) (l : List UInt8) (n cap : Nat) (size : Int) (hs0 : -9223372036854775808 ≤ size) (hs1 : size ≤ 9223372036854775807) (w : World) (hn : n = l.length) (B : Nat) (hB : B ≤ w.heap.size) (hr : Rd w B A (l.map e8)) (hl : l.length ≤ 300) (hc : l.length ≤ cap) :
    Calls Try.prog 25 #[.slice A n cap, .int .i64 1, .int .i64 size] w fun e w' => TookF w B l e w' (takeP 1 size l) := by
  subst hn
  by_cases h : 1 ≤ size ∧ size ≤ 8 ∧ size ≤ l.length
  · rw [takeP_1y h]
    obtain ⟨h1, h2, h3⟩ := h
    obtain ⟨s, rfl⟩ := Int.eq_ofNat_of_zero_le (show 0 ≤ size by omega)
    have hlen := Lib.hid (show s = (l.take s).length by rw [List.length_take]; omega)
    have hr1 : Rd (w.alloc (.cells #[.int .i64 0, .int .i64 0, .int .u64 0, .slice none 0 0] 32)) B A ((l.take s).map e8) := by rw [List.map_take]; exact (hr.below ((b1alloc _ _).mono hB)).take s
    have h2' : s ≤ 8 := by omega
    have hcnt := Lib.hid (show ((l.length - (l.drop s).length : Nat) : Int) = (s : Int) by rw [List.length_drop]; omega)
    rw [Int.toNat_natCast]
    go_enter Try.func25, Try.ntmps25
    go_wp2_with fail
    refine (Num.rget_any A (l.take s) s _ _ _ hlen.out hr1 (by rw [List.length_take]; omega) (by rw [List.length_take]; omega)).mono ?_
    rintro e w1 ⟨rfl, rfl⟩
    go_wp2
    refine bodyPost_ret (v := .tuple #[.agg #[.int .i64 1, .int .i64 (s : Int), .int .u64 (Num.getN (l.take s) : Int), .slice none 0 0], .int .i64 ((s : Int)), .bool true]) (by simp [results, Try.results25, go_sem]) rfl ⟨b1alloc _ _, 1, _, none, 0, by rw [hcnt.out]; rfl, Rd.nil _ _ _⟩
  · rw [takeP_1n h]
    rcases (show size < 1 ∨ (1 ≤ size ∧ 8 < size) ∨ (1 ≤ size ∧ size ≤ 8 ∧ l.length < size) by omega) with h1 | ⟨h1, h2⟩ | ⟨h1, h2, h3⟩
    all_goals
      clear h
      go_enter Try.func25, Try.ntmps25
      go_wp2
      refine bodyPost_ret (v := .tuple #[.agg #[.int .i64 0, .int .i64 0, .int .u64 0, .slice none 0 0], .int .i64 (0), .bool false]) (by simp [results, Try.results25, go_sem]) rfl ⟨rfl, b1alloc _ _⟩
def has2 (size : Int) (l : List UInt8) : Prop := 2 ≤ l.length ∧ (Num.getN (l.take 2) : Int) ≤ size ∧ 2 + Num.getN (l.take 2) ≤ l.length
theorem takeP_2y {size : Int} {l : List UInt8} (h : has2 size l) : takeP 2 size l = some (0, (l.drop 2).take (Num.getN (l.take 2)), l.drop (2 + Num.getN (l.take 2))) := by
  unfold has2 at h
  simp only [takeP, if_neg (show ¬ (2 : Int) = 0 by omega), if_neg (show ¬ (2 : Int) = 1 by omega), if_pos h]
theorem takeP_2n {size : Int} {l : List UInt8} (h : ¬ has2 size l) : takeP 2 size l = none := by
  unfold has2 at h
  simp only [takeP, if_neg (show ¬ (2 : Int) = 0 by omega), if_neg (show ¬ (2 : Int) = 1 by omega), if_neg h]
theorem getN_two {l : List UInt8} (h0 : 0 < l.length) (h1 : 1 < l.length) : Num.getN (l.take 2) = l[0].toNat * 256 + l[1].toNat := by
  have e1 : Num.getN (l.take 2) = Num.getN (l.take 1) * 256 + l[1].toNat := Num.getN_take h1
  have e0 : Num.getN (l.take 1) = Num.getN (l.take 0) * 256 + l[0].toNat := Num.getN_take h0
  rw [e1, e0]
  simp [Num.getN]
theorem tookF_2 {w w' : World} {l : List UInt8} {q c : Nat} {a b : Int} {A : Option Addr} (hb : Below w.heap.size w w') (hq : 2 + q ≤ l.length) {B : Nat} (hr : Rd w B A (((l.drop 2).take q).map e8)) {z : Int} (hz : z = 2 + (q : Int)) :
    TookF w B l (.returned (.tuple #[.agg #[.int .i64 a, .int .i64 b, .int .u64 0, .slice A q c], .int .i64 z, .bool true])) w' (some (0, (l.drop 2).take q, l.drop (2 + q))) := by
  have e : q = ((l.drop 2).take q).length := by rw [List.length_take, List.length_drop]; omega
  have e2 : ((l.length - (l.drop (2 + q)).length : Nat) : Int) = z := by rw [List.length_drop]; omega
  refine ⟨hb, a, b, A, c, ?_, hr⟩
  rw [← e, e2]
  rfl
end Go.Proofs.Ytdkcdojcglmlbaa.Read
