/- The walks of wire.Writer. -/
import Derived.Test.YtdkcdojcglmlbaaBase
import Derived.Test.YtdkcdojcglmlbaaNum
import Derived.Test.YtdkcdojcglmlbaaStr
import Derived.Test.YtdkcdojcglmlbaaSlices
import Derived.Test.YtdkcdojcglmlbaaRef01
import Derived.Test.YtdkcdojcglmlbaaRows
import Derived.Outline
namespace Go.Proofs.Ytdkcdojcglmlbaa.Wire
open Go.RowKit
set_option linter.unusedVariables false
set_option maxRecDepth 100000

theorem info8 : (Try.prog.info? 5).map (fun i => (i.zero, i.size, i.bytes)) = some (some (.int .u8 0), 1, 1) := by kernel_rfl

/-- a writer stands at block g: its bytes are l, in a row of their own; it lies in the blocks fp -/
def WAt (w : World) (base g : Nat) (l : List UInt8) (fp : List Nat) : Prop :=
  ∃ v, Box w g v ∧ w.ownsRow base 5 1 v l.length (l.map e8) ∧ fp = g :: v.ownBlock.toList ∧ v.ownBlock ≠ some g ∧ base ≤ g
theorem WAt.ge {w : World} {base g : Nat} {l : List UInt8} {fp : List Nat} (h : WAt w base g l fp) : ∀ j ∈ fp, base ≤ j := by
  obtain ⟨v, hbox, hown, rfl, hkg, hbg⟩ := h
  intro j hj
  simp only [List.mem_cons, Option.mem_toList] at hj
  rcases hj with rfl | hj
  · exact hbg
  · exact own_block hown hj
theorem WAt.keep {w w' : World} {base g : Nat} {l : List UInt8} {fp fp' : List Nat} (h : WAt w base g l fp) (k : Keep fp' w w') (hd : ∀ j ∈ fp, j ∉ fp') : WAt w' base g l fp := by
  obtain ⟨v, hbox, hown, rfl, hkg, hbg⟩ := h
  exact ⟨v, hbox.keep k (hd g (by simp)), own_keep hown k (fun j hj => hd j (by simp [hj])), rfl, hkg, hbg⟩
theorem WAt.on {w w' : World} {base g : Nat} {l : List UInt8} {fp : List Nat} (h : WAt w base g l fp) (b : Below w.heap.size w w') : WAt w' base g l fp := h.keep (Keep.of_below b []) (fun _ _ => by simp)
/-- what a call of a writer's method does: so many bytes more -/
def Wrote (w : World) (base g : Nat) (l : List UInt8) (fp : List Nat) (e : Ending) (w' : World) : Prop := e = .returned (.tuple #[]) ∧ ∃ fp', WAt w' base g l fp' ∧ Keep fp w w' ∧ Fresh w fp fp'

theorem wrote_put {w w1 : World} {base g : Nat} {l l' : List UInt8} {A0 A1 : Option Addr} {c0 c1 n : Nat} (hbox : Box w g (.slice A0 l.length c0)) (hown : w.ownsRow base 5 1 (.slice A0 l.length c0) l.length (l.map e8)) (hkg : (Value.slice A0 l.length c0).ownBlock ≠ some g) (hbg : base ≤ g)
    (hbox1 : Box w1 g (.slice A0 l.length c0)) (hown1 : w1.ownsRow base 5 1 (.slice A1 n c1) n (l'.map e8)) (hg1 : w.grownBy w1 (Value.slice A0 l.length c0).ownBlock)
    (hat1 : (Value.slice A1 n c1).ownBlock = (Value.slice A0 l.length c0).ownBlock ∨ (Value.slice A1 n c1).ownBlock = some w.heap.size) :
    Wrote w base g l' (g :: (Value.slice A0 l.length c0).ownBlock.toList) (.returned (.tuple #[])) (w1.setCell ⟨g, 0, none⟩ (.slice A1 n c1)) := by
  have hlt := hbox.lt
  obtain rfl : n = l'.length := by have := hown1.1; simp at this; omega
  have hng : (Value.slice A1 l'.length c1).ownBlock ≠ some g := by
    rcases hat1 with e | e <;> rw [e]
    · exact hkg
    · intro h; injection h with h; omega
  have hk1 : Keep (g :: (Value.slice A0 l.length c0).ownBlock.toList) w w1 := Keep.of_grown hg1 (fun j hj => by simp [hj])
  have hk2 : Keep [g] w1 (w1.setCell ⟨g, 0, none⟩ (.slice A1 l'.length c1)) := (Keep.refl _ _).set (.inl (by simp)) _
  refine ⟨rfl, _, ⟨_, hbox1.set _, own_keep hown1 hk2 ?_, rfl, hng, hbg⟩, hk1.set (.inl (by simp)) _, ?_⟩
  · intro j hj e
    simp only [List.mem_singleton] at e
    subst e
    exact hng hj
  · intro j hj
    simp only [List.mem_cons, Option.mem_toList] at hj
    rcases hj with rfl | hj
    · exact .inl (by simp)
    · rcases hat1 with e | e <;> rw [e] at hj
      · exact .inl (by simp [hj])
      · injection hj with hj; exact .inr (by omega)

set_option maxHeartbeats 400000 in
theorem put_any (g base : Nat) (l m : List UInt8) (fp : List Nat) (A : Option Addr) (n c : Nat) (w : World) (hn : n = m.length) (hw : WAt w base g l fp) (hr : Rd w w.heap.size A (m.map e8)) (hb : base ≤ w.heap.size) (hl : l.length + m.length ≤ 1000000000000) :
    Calls Try.prog 91 #[.pointer (some ⟨g, 0, none⟩), .slice A n c] w (Wrote w base g (l ++ m) fp) := by
  subst hn
  obtain ⟨i0, hi0, hz0, hz1, hz2⟩ := info_parts info8
  obtain ⟨v, hbox, hown, rfl, hkg, hbg⟩ := hw
  obtain ⟨A0, c0, rfl⟩ := own_form hown
  have hne : some g ≠ (Value.slice A0 l.length c0).ownBlock := fun e => hkg e.symm
  have hlt := hbox.lt
  have hc := hbox.cell
  have hf := hbox.free
  go_enter Try.func91, Try.ntmps91
  go_wp2_with (at_builtin; refine wpList_append_rd _ rfl _ _ _ rfl base 5 i0 _ 1 1 Try.underlying26 hi0 hz0 hz1 hz2 rfl (by omega) (.slice A0 l.length c0) l.length (l.map e8) rfl hown w.heap.size A m.length c (m.map e8) rfl (by simp) hr (e8_one _) (by simp only [maxLen]; omega) (by omega) hb ?_; intro v1 w1 hown1 hg1 hat1; obtain ⟨A1, c1, rfl⟩ := own_form hown1; have hbox1 := hbox.kept hg1 hne; have hc1 := hbox1.cell; have hf1 := hbox1.free)
  go_end0
  exact wrote_put hbox hown hkg hbg hbox1 (by simpa using hown1) hg1 hat1

theorem wrote_alloc {w : World} {o : Obj} {base g : Nat} {l : List UInt8} {fp : List Nat} {e : Ending} {w' : World} (h : Wrote (w.alloc o) base g l fp e w') : Wrote w base g l fp e w' := by
  obtain ⟨rfl, fp', h1, h2, h3⟩ := h
  exact ⟨rfl, fp', h1, ((Keep.refl fp w).alloc o).trans h2 (Fresh.refl _ _), fun j hj => (h3 j hj).imp id (fun h => by simp at h; omega)⟩
theorem wrote_below {w w1 : World} {base g : Nat} {l : List UInt8} {fp : List Nat} {e : Ending} {w' : World} (b : Below w.heap.size w w1) (h : Wrote w1 base g l fp e w') : Wrote w base g l fp e w' := by
  obtain ⟨rfl, fp', h1, h2, h3⟩ := h
  exact ⟨rfl, fp', h1, (Keep.of_below b fp).trans h2 (Fresh.refl _ _), fun j hj => (h3 j hj).imp id (fun h => Nat.le_trans b.size h)⟩
theorem wrote_trans {w w1 w2 : World} {base g : Nat} {l l' : List UInt8} {fp fp1 : List Nat} {e : Ending} (h2 : Keep fp w w1) (h3 : Fresh w fp fp1) (h : Wrote w1 base g l' fp1 e w2) : Wrote w base g l' fp e w2 := by
  obtain ⟨rfl, fp', k1, k2, k3⟩ := h
  exact ⟨rfl, fp', k1, h2.trans k2 h3, h3.trans h2.size k3⟩

set_option maxHeartbeats 400000 in
theorem byte_any (g base : Nat) (l : List UInt8) (x : UInt8) (z : Int) (hz : z = (x.toNat : Int)) (fp : List Nat) (w : World) (hw : WAt w base g l fp) (hb : base ≤ w.heap.size) (hl : l.length + 1 ≤ 1000000000000) :
    Calls Try.prog 39 #[.pointer (some ⟨g, 0, none⟩), .int .u8 z] w (Wrote w base g (l ++ [x]) fp) := by
  subst hz
  go_enter Try.func39, Try.ntmps39
  go_wp2_with fail
  refine (put_any g base l [x] fp _ 1 1 _ rfl (hw.on (b1alloc _ _)) (Rd.lit _ _ _ _ _ rfl (by simp)) (le_alloc hb _) hl).mono ?_
  intro e w1 h1
  obtain ⟨rfl, h2⟩ := h1
  go_wp2
  go_end0
  exact wrote_alloc ⟨rfl, h2⟩

set_option maxHeartbeats 400000 in
theorem number_any (g base : Nat) (l : List UInt8) (n : UInt64) (z : Int) (hz : z = (n.toNat : Int)) (s : Int) (hs0 : -9223372036854775808 ≤ s) (hs1 : s ≤ 9223372036854775807) (fp : List Nat) (w : World) (hw : WAt w base g l fp) (hb : base ≤ w.heap.size) (hl : l.length + 8 ≤ 1000000000000) :
    Calls Try.prog 76 #[.pointer (some ⟨g, 0, none⟩), .int .u64 z, .int .i64 s] w (Wrote w base g (l ++ Num.put n.toNat s) fp) := by
  subst hz
  go_enter Try.func76, Try.ntmps76
  go_wp2_with fail
  refine (Num.putz_any n _ (by rfl) s hs0 hs1 _).mono ?_
  rintro e w1 ⟨A, c, rfl, ho, b1⟩
  go_wp2_with fail
  have hlen := Num.put_le n.toNat s
  refine (put_any g base l (Num.put n.toNat s) fp A _ c _ rfl (hw.on b1) (Rd.own ho) (Nat.le_trans hb b1.size) (by omega)).mono ?_
  intro e w2 h1
  obtain ⟨rfl, h2⟩ := h1
  go_wp2
  go_end0
  exact wrote_below b1 ⟨rfl, h2⟩

/-- what Bytes writes: of at most 65535 bytes -/
def field (l : List UInt8) : List UInt8 := Num.putL (l.take 65535).length 2 ++ l.take 65535
theorem field_few {l : List UInt8} (h : l.length ≤ 65535) : field l = Num.putL l.length 2 ++ l := by
  unfold field; rw [List.take_of_length_le h]
theorem u64_of (n : Nat) (h : n ≤ 1000000) : ∃ u : UInt64, u.toNat = n := ⟨UInt64.ofNat n, by rw [UInt64.toNat_ofNat']; exact Nat.mod_eq_of_lt (by omega)⟩

set_option maxHeartbeats 400000 in
theorem bytes_any (g base : Nat) (l m : List UInt8) (fp : List Nat) (A : Option Addr) (n c : Nat) (w : World) (hn : n = m.length) (hw : WAt w base g l fp) (hr : RdN w fp A (m.map e8)) (hb : base ≤ w.heap.size) (hl : l.length ≤ 1000000000) (hm : m.length ≤ 300) (hc : m.length ≤ c) :
    Calls Try.prog 77 #[.pointer (some ⟨g, 0, none⟩), .slice A n c] w (Wrote w base g (l ++ field m) fp) := by
  subst hn
  have hfew := Lib.hid (field_few (l := m) (by omega))
  obtain ⟨u, hu⟩ := u64_of m.length (by omega)
  have hu' := Lib.hid (show (m.length : Int) = (u.toNat : Int) by omega)
  have hp := Lib.hid (show Num.put u.toNat 2 ++ m = field m by rw [hfew.out, hu]; rfl)
  have hp2 := Num.put_le u.toNat 2
  clear hu
  go_enter Try.func77, Try.ntmps77
  go_wp2_with fail
  refine (number_any g base l u _ hu'.out 2 (by omega) (by omega) fp _ hw hb (by omega)).mono ?_
  intro e w1 h1
  obtain ⟨rfl, fp1, hw1, k1, f1⟩ := h1
  go_wp2_with fail
  refine (put_any g base _ m fp1 A _ c _ rfl hw1 (hr.keep k1 f1).rd (Nat.le_trans hb k1.size) (by rw [List.length_append]; omega)).mono ?_
  intro e w2 h1
  rw [List.append_assoc, hp.out] at h1
  have h2 := wrote_trans (l := l) k1 f1 h1
  obtain ⟨rfl, h3⟩ := h2
  go_wp2
  go_end0
  exact ⟨rfl, h3⟩

theorem WAt.lt {w : World} {base g : Nat} {l : List UInt8} {fp : List Nat} (h : WAt w base g l fp) : ∀ j ∈ fp, j < w.heap.size := by
  obtain ⟨v, hbox, hown, rfl, hkg, hbg⟩ := h
  intro j hj
  simp only [List.mem_cons, Option.mem_toList] at hj
  rcases hj with rfl | hj
  · exact hbox.lt
  · exact (hown.lt j hj).2

set_option maxHeartbeats 400000 in
theorem text_any (g base : Nat) (l m : List UInt8) (s : ByteArray) (hs : s = ⟨m.toArray⟩) (fp : List Nat) (w : World) (hw : WAt w base g l fp) (hb : base ≤ w.heap.size) (hl : l.length ≤ 1000000000) (hm : m.length ≤ 300) :
    Calls Try.prog 40 #[.pointer (some ⟨g, 0, none⟩), .string s] w (Wrote w base g (l ++ field m) fp) := by
  subst hs
  obtain ⟨c, w1, hrun, b1, hsz, hc, hcell⟩ := run_conv_new (P := Try.prog) w 9 26 5 m Try.underlying9 Try.underlying26 Try.underlying5
  have hlt := hw.lt
  have hr : RdN w1 fp (some ⟨w.heap.size, 0, none⟩) (m.map e8) := fun _ => ⟨_, _, rfl, hsz, fun e => by have := hlt _ e; omega, hcell⟩
  clear hcell hlt
  go_enter Try.func40, Try.ntmps40
  go_wp2_with fail
  refine (bytes_any g base l m fp _ _ c _ rfl (hw.on b1) hr (Nat.le_trans hb b1.size) hl hm hc).mono ?_
  intro e w2 h1
  obtain ⟨rfl, h2⟩ := h1
  go_wp2
  go_end0
  exact wrote_below b1 ⟨rfl, h2⟩

set_option maxHeartbeats 400000 in
theorem out_any (g base : Nat) (l : List UInt8) (fp : List Nat) (w : World) (hw : WAt w base g l fp) (hl : l.length ≤ 1000000000) :
    Calls Try.prog 20 #[.pointer (some ⟨g, 0, none⟩)] w fun e w' => RetB 5 w l e w' := by
  obtain ⟨v, hbox, hown, rfl, hkg, hbg⟩ := hw
  obtain ⟨A0, c0, rfl⟩ := own_form hown
  have hc := hbox.cell
  go_enter Try.func20, Try.ntmps20
  go_wp2_with fail
  refine (Sl.clone_any A0 l _ c0 _ rfl (Rd.own hown) (by omega)).mono ?_
  intro e w1 h1
  obtain ⟨A1, c1, rfl, h2, h3⟩ := h1
  go_wp2
  go_ret
  exact ⟨A1, c1, rfl, h2, h3⟩

theorem WAt.new (w : World) (t : TypeId) : WAt (w.alloc (.cells #[.slice none 0 0] t)) w.heap.size w.heap.size [] [w.heap.size] :=
  ⟨_, Box.new w t _, own_nil _ _ _ _, rfl, by simp [Value.ownBlock], Nat.le_refl _⟩

set_option maxHeartbeats 400000 in
theorem alive_any (w : World) : Calls Try.prog 15 #[] w fun e w' => e = .returned (.bool true) ∧ Below w.heap.size w w' := by
  have hf := Lib.hid (show field [97, 98] = [0, 2, 97, 98] by decide)
  go_enter Try.func15, Try.ntmps15
  go_wp2_with fail
  refine (text_any w.heap.size w.heap.size [] [97, 98] _ rfl _ _ (WAt.new w _) (by simp) (by simp) (by simp)).mono ?_
  intro e w1 h1
  obtain ⟨rfl, fp1, hw1, k1, f1⟩ := h1
  have hb1 : Below w.heap.size w w1 := (b1alloc _ _).trans (k1.below (by simp) (by simp))
  rw [hf.out, List.nil_append] at hw1
  go_wp2_with fail
  refine (out_any _ _ _ _ _ hw1 (by simp)).mono ?_
  rintro e w2 ⟨A2, c2, rfl, h2, h3⟩
  go_wp2_with fail
  refine (R1.same_any _ _ [0, 2, 97, 98] [0, 2, 97, 98] _ 4 _ _ _ rfl rfl ((Rd.own h2).on (b1alloc _ _)) (Rd.lit _ _ _ _ _ rfl (by simp)) (by simp) (by simp)).mono ?_
  rintro e w3 ⟨rfl, h4⟩
  rw [R1.sameB_self]
  go_wp2
  go_ret
  exact ⟨rfl, bt (bt (bt hb1 h3) (b1alloc _ _)) h4⟩
end Go.Proofs.Ytdkcdojcglmlbaa.Wire