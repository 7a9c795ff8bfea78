/- Texts of this claim, joined: Sup4, SupPlain, SupL1, SupL2, Open, OpenSup, OpenSec. -/
import Derived.Test.YtmpmibcdpkolkaaSuperReadsD
import Derived.Test.YtmpmibcdpkolkaaSuperReadsA
import Derived.Test.YtmpmibcdpkolkaaRows
import Derived.ProofKit
import Derived.OpenShut
import Derived.ShutString
import Derived.ChangeOld
import Derived.Lib.SmallJoins
import Derived.Deep.Slices
import Derived.Deep.Fields
import Derived.ChangeSame
import Derived.Test.YtmpmibcdpkolkaaSuperReadsB
/- The supers: super.Read and what it comes to. -/
namespace Go.Proofs.Ytmpmibcdpkolkaa.Sup
open Go.RowKit
open Go.Proofs.Ytmpmibcdpkolkaa.Geom
open Go.Proofs.Ytmpmibcdpkolkaa.Disk (St DAt Did flush_any read_any New8 Told8)
open Go.Proofs.Ytmpmibcdpkolkaa.Sec (X SymAt)
set_option linter.unusedVariables false
set_option maxRecDepth 100000
set_option maxHeartbeats 1000000 in
theorem at_else (g : Nat) (fp : List Nat) (s : St) (gS : Nat) (ga gd gl p : Int) (w : World) (hG : Gb ga gd gl) (h : DAt w g fp s) (hf : srightF s ga gd gl = 0) (hp0 : lo ≤ p) (hp1 : p ≤ hi) (hne : whereW ga gd gl p ≠ ⟨#[115, 117, 112, 101, 114]⟩) :
    Calls Try.prog 45 #[.pointer (some ⟨g, 0, none⟩), .pointer (some ⟨gS, 0, none⟩), gv ga gd gl, .int .i64 p] w fun e w' => e = .returned (.tuple #[SV.zero.v, .bool false, .int .i64 2]) ∧ Below w.heap.size w w' := by
  have FG := (Blk.new w (gcell ga gd gl) 23).alloc (.cells #[.int .u64 0, .int .i64 0, .int .u64 0] 35)
  have FX : Blk ((w.alloc (.cells (gcell ga gd gl).toArray 23)).alloc (.cells #[.int .u64 0, .int .i64 0, .int .u64 0] 35)) (w.heap.size + 1) [.int .u64 0, .int .i64 0, .int .u64 0] := by simpa using Blk.new (w.alloc (.cells (gcell ga gd gl).toArray 23)) [.int .u64 0, .int .i64 0, .int .u64 0] 35
  have b0 := b2alloc w (.cells (gcell ga gd gl).toArray 23) (.cells #[.int .u64 0, .int .i64 0, .int .u64 0] 35)
  obtain ⟨z0, z1, z2⟩ := gthree FG
  have HB := Lib.hid (both_any g fp s gS ga gd gl _ hG (h.on b0))
  rw [hf] at HB
  have hWh := fun W => where_any ga gd gl p W hG.a0 hG.a1 hG.d0 hG.d1 hG.g0 hG.g1 hp0 hp1
  obtain ⟨wk, hwk⟩ : ∃ wk, wk = whereK ga gd gl p := ⟨_, rfl⟩
  obtain ⟨ws, hws⟩ : ∃ wk, wk = whereW ga gd gl p := ⟨_, rfl⟩
  rw [← hwk, ← hws] at hWh
  rw [← hws] at hne
  have HW := Lib.hid hWh
  have FGh := Lib.hid FG
  have FXh := Lib.hid FX
  have hwc : ws = ⟨#[]⟩ ∨ ws = ⟨#[114, 111, 111, 116]⟩ ∨ ws = ⟨#[108, 111, 103]⟩ ∨ ws = ⟨#[97, 114, 101, 97]⟩ := by
    rw [hws] at hne ⊢
    unfold whereW at hne ⊢
    split
    · simp
    · split
      · simp
      · split
        · rename_i h1 h2 h3; rw [if_neg h1, if_neg h2, if_pos h3] at hne; exact absurd rfl hne
        · split <;> simp
  clear hwk hws hWh FG FX hne
  have HW' := HW
  clear HW
  rcases hwc with rfl | rfl | rfl | rfl
  all_goals have HW := HW'
  all_goals go_enter Try.func45, Try.ntmps45
  all_goals go_wp2_with (first
      | (go_at_call 67; refine HB.out.mono ?_; rintro e w1 ⟨rfl, b1⟩; obtain ⟨y0, y1, y2⟩ := gthree (FGh.out.on b1); have b01 := bt b0 b1)
      | (go_at_call 98; refine (HW.out _).mono ?_; rintro e w2 ⟨rfl, b2⟩; have b02 := bt b01 b2; obtain ⟨u0, u1, u2⟩ := gthree (FXh.out.on (bt b1 b2)); have fx := (FXh.out.on (bt b1 b2)).free))
  all_goals refine bodyPost_ret (v := .tuple #[SV.zero.v, .bool false, .int .i64 2]) (by simp [results, Try.results45, go_sem, SV.v, SV.zero, sv, *]) rfl ⟨rfl, ?_⟩
  all_goals exact bset (bset (bset b02 (by omega) _) (by omega) _) (by omega) _
def after1 (o : Option SV) (x : SV) : Bool := match o with | none => true | some b => decide (b.life < x.life)
def best (o p : Option SV) : Option SV := match p with | none => o | some x => if after1 o x = true then some x else o
def oV (o : Option SV) : SV := o.getD SV.zero
def rdV : Option SV → Value
  | some x => .tuple #[x.v, .int .i64 0]
  | none => .tuple #[SV.zero.v, .int .i64 11]
theorem read1_any (x : SV) (o : Option SV) (gF gB : Nat) (w : World) (hF : Box w gF (.bool o.isSome)) (hB : Blk w gB (scell (oV o).life (oV o).base (oV o).gen)) :
    Calls Try.prog 81 #[x.v, .pointer (some ⟨gF, 0, none⟩), .pointer (some ⟨gB, 0, none⟩)] w fun e w' => e = .returned (.bool (after1 o x)) ∧ Below w.heap.size w w' := by
  have b0 := b1alloc w (.cells (scell x.life x.base x.gen).toArray 35)
  obtain ⟨z0, z1, z2⟩ := gthree (Blk.new w (scell x.life x.base x.gen) 35)
  obtain ⟨y0, y1, y2⟩ := gthree (hB.on b0)
  have f0 := (hF.on' b0).cell
  unfold SV.v
  cases o with
  | none =>
    rw [show (Option.isSome (none : Option SV)) = false from rfl] at f0
    go_enter Try.func81, Try.ntmps81
    go_wp2
    go_ret
    exact ⟨rfl, b0⟩
  | some b =>
    rw [show (Option.isSome (some b)) = true from rfl] at f0
    rw [show oV (some b) = b from rfl] at y0 y1 y2
    have hd : decide (b.life.toNat < x.life.toNat) = after1 (some b) x := by
      simp [after1, UInt64.lt_iff_toNat_lt]
    obtain ⟨q, hq⟩ : ∃ q, q = after1 (some b) x := ⟨_, rfl⟩
    rw [← hq] at hd ⊢
    have Hd := Lib.hid hd
    clear hq hd
    go_enter Try.func81, Try.ntmps81
    go_wp2
    go_ret
    exact ⟨by rw [← Hd.out]; rfl, b0⟩
theorem best_no {o : Option SV} {x : SV} (h : after1 o x = false) : best o (some x) = o := by simp [best, h]
theorem best_yes {o : Option SV} {x : SV} (h : after1 o x = true) : best o (some x) = some x := by simp [best, h]
theorem stored {W : World} {hF hB h0 : Nat} {u a b c : Value} {G : List Value} (h1 : Box W hF u) (h2 : Blk W hB [a, b, c]) (h3 : Blk W h0 G) (n1 : hF ≠ hB) (n2 : hF ≠ h0) (n3 : hB ≠ h0) (x y z v : Value) :
    Box ((((W.setCell ⟨hB, 0, none⟩ x).setCell ⟨hB, 1, none⟩ y).setCell ⟨hB, 2, none⟩ z).setCell ⟨hF, 0, none⟩ v) hF v ∧ Blk ((((W.setCell ⟨hB, 0, none⟩ x).setCell ⟨hB, 1, none⟩ y).setCell ⟨hB, 2, none⟩ z).setCell ⟨hF, 0, none⟩ v) hB [x, y, z] ∧ Blk ((((W.setCell ⟨hB, 0, none⟩ x).setCell ⟨hB, 1, none⟩ y).setCell ⟨hB, 2, none⟩ z).setCell ⟨hF, 0, none⟩ v) h0 G := by
  have ne : some hF ≠ some hB := fun e => n1 (by injection e)
  refine ⟨(((h1.kept (grown_set _ ⟨hB, 0, none⟩ x) ne).kept (grown_set _ ⟨hB, 1, none⟩ y) ne).kept (grown_set _ ⟨hB, 2, none⟩ z) ne).set v, ?_, ?_⟩
  · exact Blk.other (((h2.set (k := 0) x).set (k := 1) y).set (k := 2) z) v (fun e => n1 e.symm)
  · exact Blk.other (Blk.other (Blk.other (Blk.other h3 x (fun e => n3 e.symm)) y (fun e => n3 e.symm)) z (fun e => n3 e.symm)) v (fun e => n2 e.symm)
theorem readS_nil (v : Value) (ga gd gl : Int) (w : World) : Calls Try.prog 24 #[v, .pointer none, gv ga gd gl] w fun e w' => e = .returned (.tuple #[SV.zero.v, .int .i64 1]) ∧ Below w.heap.size w w' := by
  have FG := (Blk.new w (gcell ga gd gl) 23).alloc (.cells #[.int .u64 0, .int .i64 0, .int .u64 0] 35)
  have FX : Blk ((w.alloc (.cells (gcell ga gd gl).toArray 23)).alloc (.cells #[.int .u64 0, .int .i64 0, .int .u64 0] 35)) (w.heap.size + 1) [.int .u64 0, .int .i64 0, .int .u64 0] := by simpa using Blk.new (w.alloc (.cells (gcell ga gd gl).toArray 23)) [.int .u64 0, .int .i64 0, .int .u64 0] 35
  have b0 := b2alloc w (.cells (gcell ga gd gl).toArray 23) (.cells #[.int .u64 0, .int .i64 0, .int .u64 0] 35)
  obtain ⟨z0, z1, z2⟩ := gthree FG
  go_enter Try.func24, Try.ntmps24
  go_wp2
  go_step3
  go_wp2_with (go_at_call 67; refine (bothS_nil _ _ _ _ _).mono ?_; rintro e w1 ⟨rfl, b1⟩; obtain ⟨y0, y1, y2⟩ := gthree (FX.on b1); have fx := (FX.on b1).free; have bw := bt b0 b1)
  try rw [Exit.noGoto_ret]
  refine bodyPost_ret (v := .tuple #[SV.zero.v, .int .i64 1]) (by simp [results, Try.results24, go_sem, SV.v, SV.zero, sv, *]) rfl ⟨rfl, ?_⟩
  exact bset (bset (bset bw (by omega) _) (by omega) _) (by omega) _
theorem readD_nil (gS : Nat) (ga gd gl : Int) (w : World) : Calls Try.prog 24 #[.pointer none, .pointer (some ⟨gS, 0, none⟩), gv ga gd gl] w fun e w' => e = .returned (.tuple #[SV.zero.v, .int .i64 1]) ∧ Below w.heap.size w w' := by
  have FG := (Blk.new w (gcell ga gd gl) 23).alloc (.cells #[.int .u64 0, .int .i64 0, .int .u64 0] 35)
  have FX : Blk ((w.alloc (.cells (gcell ga gd gl).toArray 23)).alloc (.cells #[.int .u64 0, .int .i64 0, .int .u64 0] 35)) (w.heap.size + 1) [.int .u64 0, .int .i64 0, .int .u64 0] := by simpa using Blk.new (w.alloc (.cells (gcell ga gd gl).toArray 23)) [.int .u64 0, .int .i64 0, .int .u64 0] 35
  have b0 := b2alloc w (.cells (gcell ga gd gl).toArray 23) (.cells #[.int .u64 0, .int .i64 0, .int .u64 0] 35)
  obtain ⟨z0, z1, z2⟩ := gthree FG
  go_enter Try.func24, Try.ntmps24
  go_wp2
  go_step3
  go_wp2_with (go_at_call 67; refine (bothD_nil _ _ _ _ _).mono ?_; rintro e w1 ⟨rfl, b1⟩; obtain ⟨y0, y1, y2⟩ := gthree (FX.on b1); have fx := (FX.on b1).free; have bw := bt b0 b1)
  try rw [Exit.noGoto_ret]
  refine bodyPost_ret (v := .tuple #[SV.zero.v, .int .i64 1]) (by simp [results, Try.results24, go_sem, SV.v, SV.zero, sv, *]) rfl ⟨rfl, ?_⟩
  exact bset (bset (bset bw (by omega) _) (by omega) _) (by omega) _
set_option maxHeartbeats 2000000 in
theorem readSup_any (g : Nat) (fp : List Nat) (s : St) (gS bS : Nat) (l : List (List UInt8)) (ga gd gl : Int) (w : World) (hG : Gb ga gd gl) (h : Both w g fp s gS bS l) (hl : l.length ≤ 1000000) (hs : s.sz ≤ 90000000) (hf : srightF s ga gd gl = 0) (hd : s.down = false) :
    Calls Try.prog 24 #[.pointer (some ⟨g, 0, none⟩), .pointer (some ⟨gS, 0, none⟩), gv ga gd gl] w fun e w' => e = .returned (rdV (best (best none (atR l s ga gd gl 2)) (atR l s ga gd gl 3))) ∧ Below w.heap.size w w' := by
  have FG := (Blk.new w (gcell ga gd gl) 23).alloc (.cells #[.int .u64 0, .int .i64 0, .int .u64 0] 35)
  have FX : Blk ((w.alloc (.cells (gcell ga gd gl).toArray 23)).alloc (.cells #[.int .u64 0, .int .i64 0, .int .u64 0] 35)) (w.heap.size + 1) [.int .u64 0, .int .i64 0, .int .u64 0] := by simpa using Blk.new (w.alloc (.cells (gcell ga gd gl).toArray 23)) [.int .u64 0, .int .i64 0, .int .u64 0] 35
  have b0 := b2alloc w (.cells (gcell ga gd gl).toArray 23) (.cells #[.int .u64 0, .int .i64 0, .int .u64 0] 35)
  obtain ⟨z0, z1, z2⟩ := gthree FG
  have HB := Lib.hid (both_any g fp s gS ga gd gl _ hG (h.disk.on b0))
  rw [hf] at HB
  have hA2 := fun W (bW : Below w.heap.size w W) => at_any g fp s gS bS l ga gd gl 2 W hG (h.on bW) hl hs hf hd (by omega) (by omega)
  have hA3 := fun W (bW : Below w.heap.size w W) => at_any g fp s gS bS l ga gd gl 3 W hG (h.on bW) hl hs hf hd (by omega) (by omega)
  obtain ⟨o2, ho2⟩ : ∃ o, o = atR l s ga gd gl 2 := ⟨_, rfl⟩
  obtain ⟨o3, ho3⟩ : ∃ o, o = atR l s ga gd gl 3 := ⟨_, rfl⟩
  rw [← ho2] at hA2 ⊢
  rw [← ho3] at hA3 ⊢
  have HA2 := Lib.hid hA2
  have HA3 := Lib.hid hA3
  have HP := Lib.hid (fun W => places_any W)
  have FGh := Lib.hid FG
  have FXh := Lib.hid FX
  have i0 : ∀ W, (Instr.index 134 (.agg #[.int .i64 2, .int .i64 3]) (.int .i64 0)).run Try.prog W = .ok (.int .i64 2) W := fun W => by kernel_rfl
  have i1 : ∀ W, (Instr.index 134 (.agg #[.int .i64 2, .int .i64 3]) (.int .i64 1)).run Try.prog W = .ok (.int .i64 3) W := fun W => by kernel_rfl
  have hmf : ∀ (x : Array Value) (w : World), Sem.run Try.prog (callFunc 81 x) w = .ok (.enter 81 x) w := by intro x w; simp [go_sem]
  clear hA2 hA3 ho2 ho3 FG FX
  go_enter Try.func24, Try.ntmps24
  go_wp2
  go_step3
  go_wp2_with (first
    | (go_at_call 67; refine HB.out.mono ?_; rintro e w1 ⟨rfl, b1⟩; obtain ⟨y0, y1, y2⟩ := gthree (FGh.out.on b1); have b01 := bt b0 b1)
    | (go_at_call 82; refine (HP.out _).mono ?_; rintro e w2 ⟨rfl, b2⟩))
  have b02 := bt b01 (b1alloc w1 (.cells #[.bool false] 4))
  have hF0 := Box.new w1 4 (.bool false)
  have hB0 := (FXh.out.on b1).on (b1alloc w1 (.cells #[.bool false] 4))
  have hG0 := (FGh.out.on b1).on (b1alloc w1 (.cells #[.bool false] 4))
  obtain ⟨w2, hw2⟩ : ∃ q, q = w1.alloc (.cells #[.bool false] 4) := ⟨_, rfl⟩
  obtain ⟨hF, hhF⟩ : ∃ q, q = w1.heap.size := ⟨_, rfl⟩
  obtain ⟨hB, hhB⟩ : ∃ q, q = w.heap.size + 1 := ⟨_, rfl⟩
  rw [← hw2] at hF0 hB0 hG0 b02 ⊢
  rw [← hhF] at hF0 ⊢
  rw [← hhB] at hB0 ⊢
  have hlt : w.heap.size ≤ hF ∧ w.heap.size ≤ hB ∧ hF ≠ hB ∧ hF ≠ w.heap.size ∧ hB ≠ w.heap.size := by have h1 := (FXh.out.on b1).lt; refine ⟨?_, ?_, ?_, ?_, ?_⟩ <;> omega
  clear hw2 hhF hhB b1 b01 y0 y1 y2 z0 z1 z2
  go_step3
  go_wp2_with (go_at_call 82; refine (HP.out _).mono ?_; rintro e w3 ⟨rfl, b3⟩)
  have b03 := bt b02 b3
  have hF3 := hF0.on' b3
  have hB3 := hB0.on b3
  have hG3 := hG0.on b3
  clear b3 b02 hF0 hB0 hG0 b0
  go_loopw [26] (fun i wr => ∃ k : Nat, k ≤ 2 ∧ i = .int .i64 k ∧ Below w.heap.size w wr ∧ ∃ o : Option SV, ((k = 0 → o = none) ∧ (k = 1 → o = best none o2) ∧ (k = 2 → o = best (best none o2) o3)) ∧ Box wr hF (.bool o.isSome) ∧ Blk wr hB (scell (oV o).life (oV o).base (oV o).gen) ∧ Blk wr w.heap.size (gcell ga gd gl)) (fun i _ => 2 - (intOf i).toNat)
  case atStart => exact ⟨0, by omega, rfl, b03, none, ⟨fun _ => rfl, fun h => by omega, fun h => by omega⟩, hF3, hB3, hG3⟩
  case round =>
    obtain ⟨k, hk, rfl, bel, o, ho, hFb, hBb, hGb⟩ := hrel
    clear hF3 hB3 hG3 b03
    have fF := hFb.free
    have fB := hBb.free
    rcases (show k = 0 ∨ k = 1 ∨ k = 2 by omega) with rfl | rfl | rfl
    · obtain rfl := ho.1 rfl
      have H := Lib.hid (HA2.out wr bel)
      obtain ⟨c0, c1, c2⟩ := gthree hGb
      obtain hp | ⟨x, hp⟩ : o2 = none ∨ ∃ x, o2 = some x := by cases o2; exact .inl rfl; exact .inr ⟨_, rfl⟩
      · rw [hp] at H
        have H' := H.out
        unfold atV at H'
        have H'' := Lib.hid H'
        have hb := Lib.hid (show (best none o2) = (none : Option SV) by rw [hp]; rfl)
        have Hp := Lib.hid hp
        clear H H' hp
        go_wp2_with (go_at_call 45; refine H''.out.mono ?_; rintro e w4 ⟨rfl, b4⟩; unfold SV.v)
        case roundEnd =>
          have b5 := bt b4 (b1alloc w4 (.cells (scell SV.zero.life SV.zero.base SV.zero.gen).toArray 35))
          exact ⟨⟨1, by omega, rfl, (bt bel b5), (best none o2), ⟨fun h => by omega, fun _ => rfl, fun h => by omega⟩, by rw [hb.out]; exact (hFb.on' b5), by rw [hb.out]; exact (hBb.on b5), (hGb.on b5)⟩, by simp [intOf]⟩
      · rw [hp] at H
        have H' := H.out
        unfold atV at H'
        have H'' := Lib.hid H'
        cases hq : after1 (none : Option SV) x with
        | false =>
          have hb := Lib.hid (show (best none o2) = (none : Option SV) by rw [hp]; exact best_no hq)
          have Hp := Lib.hid hp
          clear H H' hp
          go_wp2_with (first
            | (go_at_call 45; refine H''.out.mono ?_; rintro e w4 ⟨rfl, b4⟩; unfold SV.v; have b5 := bt b4 (b1alloc w4 (.cells (scell x.life x.base x.gen).toArray 35)); have fF5 := (hFb.on' b5).free; have fB5 := (hBb.on b5).free; obtain ⟨x0, x1, x2⟩ := gthree (Blk.new w4 (scell x.life x.base x.gen) 35))
            | (go_at_call 81; refine (read1_any x _ hF hB _ (hFb.on' b5) (hBb.on b5)).mono ?_; rintro e w6 ⟨rfl, b6⟩; rw [hq]; have b56 := bt b5 b6; have hF6 := hFb.on' b56; have hB6 := hBb.on b56; have fF6 := hF6.free; have fB6 := hB6.free; obtain ⟨v0, v1, v2⟩ := gthree ((Blk.new w4 (scell x.life x.base x.gen) 35).on b6); obtain ⟨p0, p1, p2⟩ := gthree hB6; have pF := hF6.cell))
          case roundEnd => exact ⟨⟨1, by omega, rfl, (bt bel b56), (best none o2), ⟨fun h => by omega, fun _ => rfl, fun h => by omega⟩, by rw [hb.out]; exact (hFb.on' b56), by rw [hb.out]; exact (hBb.on b56), (hGb.on b56)⟩, by simp [intOf]⟩
        | true =>
          have hb := Lib.hid (show (best none o2) = some x by rw [hp]; exact best_yes hq)
          have Hp := Lib.hid hp
          clear H H' hp
          go_wp2_with (first
            | (go_at_call 45; refine H''.out.mono ?_; rintro e w4 ⟨rfl, b4⟩; unfold SV.v; have b5 := bt b4 (b1alloc w4 (.cells (scell x.life x.base x.gen).toArray 35)); have fF5 := (hFb.on' b5).free; have fB5 := (hBb.on b5).free; obtain ⟨x0, x1, x2⟩ := gthree (Blk.new w4 (scell x.life x.base x.gen) 35))
            | (go_at_call 81; refine (read1_any x _ hF hB _ (hFb.on' b5) (hBb.on b5)).mono ?_; rintro e w6 ⟨rfl, b6⟩; rw [hq]; have b56 := bt b5 b6; have hF6 := hFb.on' b56; have hB6 := hBb.on b56; have fF6 := hF6.free; have fB6 := hB6.free; obtain ⟨v0, v1, v2⟩ := gthree ((Blk.new w4 (scell x.life x.base x.gen) 35).on b6); obtain ⟨p0, p1, p2⟩ := gthree hB6; have pF := hF6.cell))
          case roundEnd =>
            obtain ⟨q1, q2, q3⟩ := stored hF6 hB6 (hGb.on b56) hlt.2.2.1 hlt.2.2.2.1 hlt.2.2.2.2 (.int .u64 (x.life.toNat : Int)) (.int .i64 x.base) (.int .u64 (x.gen.toNat : Int)) (.bool true)
            exact ⟨⟨1, by omega, rfl, bset (bset (bset (bset (bt bel b56) hlt.2.1 _) hlt.2.1 _) hlt.2.1 _) hlt.1 _, (best none o2), ⟨fun h => by omega, fun _ => rfl, fun h => by omega⟩, by rw [hb.out]; exact q1, by rw [hb.out]; exact q2, q3⟩, by simp [intOf]⟩
    · obtain rfl := ho.2.1 rfl
      have H := Lib.hid (HA3.out wr bel)
      obtain ⟨c0, c1, c2⟩ := gthree hGb
      obtain hp | ⟨x, hp⟩ : o3 = none ∨ ∃ x, o3 = some x := by cases o3; exact .inl rfl; exact .inr ⟨_, rfl⟩
      · rw [hp] at H
        have H' := H.out
        unfold atV at H'
        have H'' := Lib.hid H'
        have hb := Lib.hid (show (best (best none o2) o3) = (best none o2) by rw [hp]; rfl)
        have Hp := Lib.hid hp
        clear H H' hp
        go_wp2_with (go_at_call 45; refine H''.out.mono ?_; rintro e w4 ⟨rfl, b4⟩; unfold SV.v)
        case roundEnd =>
          have b5 := bt b4 (b1alloc w4 (.cells (scell SV.zero.life SV.zero.base SV.zero.gen).toArray 35))
          exact ⟨⟨2, by omega, rfl, (bt bel b5), (best (best none o2) o3), ⟨fun h => by omega, fun h => by omega, fun _ => rfl⟩, by rw [hb.out]; exact (hFb.on' b5), by rw [hb.out]; exact (hBb.on b5), (hGb.on b5)⟩, by simp [intOf]⟩
      · rw [hp] at H
        have H' := H.out
        unfold atV at H'
        have H'' := Lib.hid H'
        cases hq : after1 (best none o2) x with
        | false =>
          have hb := Lib.hid (show (best (best none o2) o3) = (best none o2) by rw [hp]; exact best_no hq)
          have Hp := Lib.hid hp
          clear H H' hp
          go_wp2_with (first
            | (go_at_call 45; refine H''.out.mono ?_; rintro e w4 ⟨rfl, b4⟩; unfold SV.v; have b5 := bt b4 (b1alloc w4 (.cells (scell x.life x.base x.gen).toArray 35)); have fF5 := (hFb.on' b5).free; have fB5 := (hBb.on b5).free; obtain ⟨x0, x1, x2⟩ := gthree (Blk.new w4 (scell x.life x.base x.gen) 35))
            | (go_at_call 81; refine (read1_any x _ hF hB _ (hFb.on' b5) (hBb.on b5)).mono ?_; rintro e w6 ⟨rfl, b6⟩; rw [hq]; have b56 := bt b5 b6; have hF6 := hFb.on' b56; have hB6 := hBb.on b56; have fF6 := hF6.free; have fB6 := hB6.free; obtain ⟨v0, v1, v2⟩ := gthree ((Blk.new w4 (scell x.life x.base x.gen) 35).on b6); obtain ⟨p0, p1, p2⟩ := gthree hB6; have pF := hF6.cell))
          case roundEnd => exact ⟨⟨2, by omega, rfl, (bt bel b56), (best (best none o2) o3), ⟨fun h => by omega, fun h => by omega, fun _ => rfl⟩, by rw [hb.out]; exact (hFb.on' b56), by rw [hb.out]; exact (hBb.on b56), (hGb.on b56)⟩, by simp [intOf]⟩
        | true =>
          have hb := Lib.hid (show (best (best none o2) o3) = some x by rw [hp]; exact best_yes hq)
          have Hp := Lib.hid hp
          clear H H' hp
          go_wp2_with (first
            | (go_at_call 45; refine H''.out.mono ?_; rintro e w4 ⟨rfl, b4⟩; unfold SV.v; have b5 := bt b4 (b1alloc w4 (.cells (scell x.life x.base x.gen).toArray 35)); have fF5 := (hFb.on' b5).free; have fB5 := (hBb.on b5).free; obtain ⟨x0, x1, x2⟩ := gthree (Blk.new w4 (scell x.life x.base x.gen) 35))
            | (go_at_call 81; refine (read1_any x _ hF hB _ (hFb.on' b5) (hBb.on b5)).mono ?_; rintro e w6 ⟨rfl, b6⟩; rw [hq]; have b56 := bt b5 b6; have hF6 := hFb.on' b56; have hB6 := hBb.on b56; have fF6 := hF6.free; have fB6 := hB6.free; obtain ⟨v0, v1, v2⟩ := gthree ((Blk.new w4 (scell x.life x.base x.gen) 35).on b6); obtain ⟨p0, p1, p2⟩ := gthree hB6; have pF := hF6.cell))
          case roundEnd =>
            obtain ⟨q1, q2, q3⟩ := stored hF6 hB6 (hGb.on b56) hlt.2.2.1 hlt.2.2.2.1 hlt.2.2.2.2 (.int .u64 (x.life.toNat : Int)) (.int .i64 x.base) (.int .u64 (x.gen.toNat : Int)) (.bool true)
            exact ⟨⟨2, by omega, rfl, bset (bset (bset (bset (bt bel b56) hlt.2.1 _) hlt.2.1 _) hlt.2.1 _) hlt.1 _, (best (best none o2) o3), ⟨fun h => by omega, fun h => by omega, fun _ => rfl⟩, by rw [hb.out]; exact q1, by rw [hb.out]; exact q2, q3⟩, by simp [intOf]⟩
    · obtain rfl := ho.2.2 rfl
      have cF := hFb.cell
      obtain ⟨p0, p1, p2⟩ := gthree hBb
      obtain ⟨O, hO⟩ : ∃ O, O = best (best none o2) o3 := ⟨_, rfl⟩
      rw [← hO] at cF p0 p1 p2
      have HO := Lib.hid hO
      clear hO
      cases O with
      | none =>
        rw [show (Option.isSome (none : Option SV)) = false from rfl] at cF
        go_wp2
        try rw [Exit.noGoto_ret]
        refine bodyPost_ret (v := rdV none) (by simp [results, Try.results24, go_sem, rdV, SV.v, SV.zero, sv, *]) rfl ⟨by rw [← HO.out], ?_⟩
        exact bset (bset (bset bel hlt.2.1 _) hlt.2.1 _) hlt.2.1 _
      | some x =>
        rw [show (Option.isSome (some x)) = true from rfl] at cF
        rw [show oV (some x) = x from rfl] at p0 p1 p2
        go_wp2
        try rw [Exit.noGoto_ret]
        refine bodyPost_ret (v := rdV (some x)) (by simp [results, Try.results24, go_sem, rdV, SV.v, sv, *]) rfl ⟨by rw [← HO.out], ?_⟩
        exact bset (bset (bset bel hlt.2.1 _) hlt.2.1 _) hlt.2.1 _
end Go.Proofs.Ytmpmibcdpkolkaa.Sup

/- The supers, in plain Lean: what stands behind a write, and a power that goes. -/
namespace Go.Proofs.Ytmpmibcdpkolkaa.Sup
open Go.RowKit
open Go.Proofs.Ytmpmibcdpkolkaa.Disk (St write flush read kept burn restart fates fate keptAt new zero512 arm)
open Go.Proofs.Ytmpmibcdpkolkaa.Sec (X text text_len sumOf sumOf_len sumAfter ckS checkOf blankB rightF dec_back dec_blank X0 mark of_text place_of reads)
set_option linter.unusedVariables false
theorem ckS_own' (l : List (List UInt8)) (T : List UInt8) (hT : T.length = 504) : ckS (sumAfter l T) (T ++ sumOf l T) = true := by
  unfold ckS checkOf sumAfter sumOf
  rw [List.take_left' hT, List.drop_left' hT]
  by_cases h : T ∈ l
  · simp [h, R1.sameB_self]
  · simp [h, List.idxOf_append, R1.sameB_self]
theorem ckS_more {l : List (List UInt8)} {b : List UInt8} (T : List UInt8) (h : ckS l b = true) : ckS (sumAfter l T) b = true := by
  unfold ckS checkOf at *
  unfold sumAfter
  split
  · exact h
  · rw [Bool.and_eq_true] at h ⊢
    have h1 : b.take 504 ∈ l := of_decide_eq_true h.1
    refine ⟨by simp [h1], ?_⟩
    rw [List.idxOf_append, if_pos h1]; exact h.2
/-- bytes that are a sector's at a place, by these sums -/
def Good (l : List (List UInt8)) (p : Int) (x : X) (b : List UInt8) : Prop := rightF p x = 0 ∧ ckS l b = true ∧ ∃ s, s.length = 8 ∧ b = text p x ++ s
theorem Good.dec {l : List (List UInt8)} {p : Int} {x : X} {b : List UInt8} (h : Good l p x b) : Sec.decode (ckS l b) p b = (x, 0) := by
  obtain ⟨h1, h2, s, hs, rfl⟩ := h
  rw [h2]; exact dec_back h1 s hs
theorem Good.len {l : List (List UInt8)} {p : Int} {x : X} {b : List UInt8} (h : Good l p x b) : b.length = 512 := by
  obtain ⟨h1, h2, s, hs, rfl⟩ := h
  rw [List.length_append, text_len, hs]
theorem Good.more {l : List (List UInt8)} {p : Int} {x : X} {b : List UInt8} (h : Good l p x b) (T : List UInt8) : Good (sumAfter l T) p x b := ⟨h.1, ckS_more T h.2.1, h.2.2⟩
theorem Good.made (l : List (List UInt8)) {p : Int} {x : X} (h : rightF p x = 0) : Good (sumAfter l (text p x)) p x (text p x ++ sumOf l (text p x)) := ⟨h, ckS_own' l _ (text_len _ _), _, sumOf_len _ _, rfl⟩
theorem dec_zero (ck : Bool) (p : Int) : Sec.decode ck p zero512 = (X0, 7) := dec_blank Disk.zero512_len (decide_eq_true rfl)
theorem mem_after {l : List (List UInt8)} {T U : List UInt8} : U ∈ sumAfter l T ↔ U ∈ l ∨ U = T := by
  unfold sumAfter
  split
  · rename_i h; exact ⟨.inl, fun e => e.elim id (fun e => e ▸ h)⟩
  · simp
/-- what is read was summed -/
theorem dec_sound {l : List (List UInt8)} {p : Int} {b : List UInt8} {x : X} (h : Sec.decode (ckS l b) p b = (x, 0)) : rightF p x = 0 ∧ text p x ∈ l := by
  unfold Sec.decode at h
  split at h
  · cases h
  · split at h
    · cases h
    · split at h
      · rename_i y hr
        split at h
        · rename_i hc
          cases h
          unfold reads at hr
          split at hr
          · rename_i h3
            injection hr with hr
            subst hr
            refine ⟨h3.2.1, ?_⟩
            rw [h3.2.2]
            unfold ckS checkOf at hc
            rw [Bool.and_eq_true] at hc
            exact of_decide_eq_true hc.1
          · cases hr
        · cases h
      · cases h
theorem text_inj {p q : Int} {x y : X} (h : rightF p x = 0) (h' : rightF q y = 0) (e : text p x = text q y) : x = y := by
  have h1 := (of_text h).2
  have h2 := (of_text h').2
  rw [e, h2] at h1; exact h1.symm
/-! a disk whose power is there, and nothing is pending -/
structure UpN (s : St) (n : Nat) : Prop where
  size : s.size = n
  pend : s.pend = []
  down : s.down = false
  fuse : s.fuse < 0
theorem up_new (n : Nat) : UpN (new n) n := ⟨rfl, rfl, rfl, by simp [new]⟩
theorem wf_cases {s : St} {n : Nat} (h2 : s.size = n) (hp : s.pend = []) (hd : s.down = false) {p : Int} (h0 : 0 ≤ p) (h1 : p < n) {b : List UInt8} (hb : b.length = 512) :
    ((wf s p b).2 = 12 ∧ (wf s p b).1.down = true ∧ (wf s p b).1.pend = [(p.toNat, b)] ∧ (wf s p b).1.all = s.all ∧ (wf s p b).1.size = n ∧ ¬ s.fuse < 0) ∨
    ((wf s p b).2 = 0 ∧ (wf s p b).1.down = false ∧ (wf s p b).1.pend = [] ∧ (wf s p b).1.all = s.all ++ [(p.toNat, b)] ∧ (wf s p b).1.size = n ∧ (s.fuse < 0 → (wf s p b).1.fuse < 0)) := by
  obtain ⟨size, pend, all, fuse, calls, down⟩ := s
  simp only at h2 hp hd
  subst h2 hp hd
  have hw : write ⟨size, [], all, fuse, calls, false⟩ p b = burn ⟨size, [(p.toNat, b)], all, fuse, calls, false⟩ := by
    unfold write; rw [if_neg (by simp), if_neg (by simp; omega), if_neg (by simpa using hb)]; rfl
  unfold wf
  rw [hw]
  by_cases h0 : fuse = 0
  · subst h0
    simp [burn]
  · by_cases h1 : 0 < fuse
    · have hb1 : burn ⟨size, [(p.toNat, b)], all, fuse, calls, false⟩ = (⟨size, [(p.toNat, b)], all, fuse - 1, calls + 1, false⟩, 0) := by unfold burn; simp [h0, h1]
      rw [hb1]
      simp only [if_true]
      by_cases h3 : fuse - 1 = 0
      · have : flush ⟨size, [(p.toNat, b)], all, fuse - 1, calls + 1, false⟩ = (⟨size, [(p.toNat, b)], all, fuse - 1, calls + 1 + 1, true⟩, 12) := by unfold flush burn; simp [h3]
        rw [this]; simp; omega
      · have : flush ⟨size, [(p.toNat, b)], all, fuse - 1, calls + 1, false⟩ = (⟨size, [], all ++ [(p.toNat, b)], fuse - 1 - 1, calls + 1 + 1, false⟩, 0) := by
          have h4 : 0 < fuse - 1 := by omega
          have h5 : burn ⟨size, [(p.toNat, b)], all, fuse - 1, calls + 1, false⟩ = (⟨size, [(p.toNat, b)], all, fuse - 1 - 1, calls + 1 + 1, false⟩, 0) := by unfold burn; rw [if_neg h3, if_pos h4]
          unfold flush; rw [if_neg (by simp), h5]; rfl
        rw [this]; simp; omega
    · have hb1 : burn ⟨size, [(p.toNat, b)], all, fuse, calls, false⟩ = (⟨size, [(p.toNat, b)], all, fuse, calls + 1, false⟩, 0) := by unfold burn; simp [h0, h1]
      rw [hb1]
      simp only [if_true]
      have : flush ⟨size, [(p.toNat, b)], all, fuse, calls + 1, false⟩ = (⟨size, [], all ++ [(p.toNat, b)], fuse, calls + 1 + 1, false⟩, 0) := by unfold flush burn; simp [h0, h1]
      rw [this]; simp
theorem UpN.wf {s : St} {n : Nat} (h : UpN s n) {p : Int} (h0 : 0 ≤ p) (h1 : p < n) {b : List UInt8} (hb : b.length = 512) : (wf s p b).2 = 0 ∧ UpN (wf s p b).1 n ∧ (wf s p b).1.all = s.all ++ [(p.toNat, b)] := by
  rcases wf_cases h.size h.pend h.down h0 h1 hb with ⟨_, _, _, _, _, h6⟩ | ⟨h1, h2, h3, h4, h5, h6⟩
  · exact absurd h.fuse h6
  · exact ⟨h1, ⟨h5, h3, h2, h6 h.fuse⟩, h4⟩
theorem UpN.read {s : St} {n : Nat} (h : UpN s n) {p : Int} (h0 : 0 ≤ p) (h1 : p < n) : read s p = (kept s.all p.toNat, 0) := by
  unfold Disk.read
  rw [if_neg (by rw [h.down]; simp), if_neg (by rw [h.size]; omega), h.pend, List.append_nil]
theorem UpN.keptAt {s : St} {n : Nat} (h : UpN s n) {p : Int} (h0 : 0 ≤ p) (h1 : p < n) : keptAt s p = kept s.all p.toNat := by
  unfold Disk.keptAt
  rw [if_neg (by rw [h.size]; omega)]
theorem kept_after (l : List Disk.Wr) (p : Nat) (b : List UInt8) : kept (l ++ [(p, b)]) p = b := by rw [Disk.kept_snoc]; simp
theorem kept_beside (l : List Disk.Wr) {p q : Nat} (b : List UInt8) (h : q ≠ p) : kept (l ++ [(q, b)]) p = kept l p := by rw [Disk.kept_snoc]; simp [h]
theorem restart_one {s : St} {n q : Nat} {b : List UInt8} (h2 : s.size = n) (hp : s.pend = [(q, b)] ∨ s.pend = []) (keep : List Int) (t a : Int) :
    UpN (restart s keep t a) n ∧ ((restart s keep t a).all = s.all ∨ ∃ z, (restart s keep t a).all = s.all ++ [(q, z)]) ∧ (s.pend = [] → (restart s keep t a).all = s.all) := by
  refine ⟨⟨h2, rfl, rfl, by simp [restart]⟩, ?_, fun h => by unfold restart; rw [h]; rfl⟩
  unfold restart
  rcases hp with hp | hp
  · rw [hp]
    simp only [fates]
    unfold fate
    split
    · exact .inr ⟨_, rfl⟩
    · split
      · exact .inr ⟨_, rfl⟩
      · exact .inl rfl
  · rw [hp]; exact .inl rfl
/-! what is at a place -/
theorem isSup_own {ga gd gl : Int} {life : UInt64} {base : Int} {gen : UInt64} : isSup ga gd gl (splace life) (sx ga gd gl life base gen, 0) = true := by
  simp [isSup, sx, R1.sameB_self]
theorem isSup_fault {ga gd gl p : Int} {d : X × Int} (h : d.2 ≠ 0) : isSup ga gd gl p d = false := by simp [isSup, h]
theorem UpN.at_own {s : St} {n : Nat} (h : UpN s n) {l : List (List UInt8)} {ga gd gl : Int} {life : UInt64} {base : Int} {gen : UInt64} (hn : splace life < n) (hg : Good l (splace life) (sx ga gd gl life base gen) (kept s.all (splace life).toNat)) : atR l s ga gd gl (splace life) = some ⟨life, base, gen⟩ := by
  have := splace_ok life
  unfold atR Sup.dec
  rw [h.read (by omega) hn]
  simp only []
  rw [hg.dec, if_pos isSup_own]; rfl
theorem UpN.at_zero {s : St} {n : Nat} (h : UpN s n) {l : List (List UInt8)} {ga gd gl p : Int} (h0 : 0 ≤ p) (hn : p < n) (hg : kept s.all p.toNat = zero512) : atR l s ga gd gl p = none := by
  unfold atR Sup.dec
  rw [h.read h0 hn]
  simp only []
  rw [hg, dec_zero, isSup_fault (by simp)]; rfl
/-- where but two texts were summed, at the second one's place there is none, or the second one -/
theorem UpN.at_second {s : St} {n : Nat} (h : UpN s n) {l : List (List UInt8)} {ga gd gl : Int} {life life' : UInt64} {base base' : Int} {gen gen' : UInt64} (hp : splace life ≠ splace life') (hn : splace life' < n)
    (hr : rightF (splace life) (sx ga gd gl life base gen) = 0) (hr' : rightF (splace life') (sx ga gd gl life' base' gen') = 0)
    (hl : ∀ T ∈ l, T = text (splace life) (sx ga gd gl life base gen) ∨ T = text (splace life') (sx ga gd gl life' base' gen')) :
    atR l s ga gd gl (splace life') = none ∨ atR l s ga gd gl (splace life') = some ⟨life', base', gen'⟩ := by
  have := splace_ok life'
  unfold atR Sup.dec
  rw [h.read (by omega) hn]
  simp only []
  obtain ⟨d, hd⟩ : ∃ d, d = Sec.decode (ckS l (kept s.all (splace life').toNat)) (splace life') (kept s.all (splace life').toNat) := ⟨_, rfl⟩
  rw [← hd]
  by_cases h0 : d.2 = 0
  · obtain ⟨x, f⟩ := d
    simp only at h0
    subst h0
    obtain ⟨g1, g2⟩ := dec_sound hd.symm
    rcases hl _ g2 with e | e
    · have e1 := text_inj g1 hr e
      rw [e1] at g1 e
      exact absurd (place_of hr g1 e).symm hp
    · have e1 := text_inj g1 hr' e
      rw [e1, if_pos isSup_own]; exact .inr rfl
  · rw [isSup_fault h0]; exact .inl rfl
theorem splace_next (life : UInt64) : splace (life + 1) = 5 - splace life := by
  unfold splace
  have h1 : (life + 1).toNat = (life.toNat + 1) % 18446744073709551616 := by simp [UInt64.toNat_add]
  rw [h1]; omega
/-- which of two counts -/
theorem best_first {p q : Int} {f : Int → Option SV} {x : SV} (hp : 2 ≤ p ∧ p ≤ 3) (hq : q = 5 - p) (h : f p = some x) (hn : f q = none) : best (best none (f 2)) (f 3) = some x := by
  rcases (show p = 2 ∨ p = 3 by omega) with rfl | rfl
  · have : q = 3 := by omega
    subst this; rw [h, hn]; rfl
  · have : q = 2 := by omega
    subst this; rw [h, hn]; rfl
theorem best_later {p q : Int} {f : Int → Option SV} {x y : SV} (hp : 2 ≤ p ∧ p ≤ 3) (hq : q = 5 - p) (h : f p = some x) (hn : f q = some y) (hl : x.life < y.life) : best (best none (f 2)) (f 3) = some y := by
  rcases (show p = 2 ∨ p = 3 by omega) with rfl | rfl
  · have : q = 3 := by omega
    subst this; rw [h, hn]; simp [best, after1, hl]
  · have : q = 2 := by omega
    subst this
    rw [h, hn]
    have : ¬ y.life < x.life := fun e => by rw [UInt64.lt_iff_toNat_lt] at e hl; omega
    simp [best, after1, this]
theorem UpN.clr {s : St} {n : Nat} (h : UpN s n) (hn : 4 ≤ n) : (clr s).2 = 0 ∧ UpN (clr s).1 n ∧ (clr s).1.all = s.all ++ [(2, zero512), (3, zero512)] ∧ (clr s).1.sz ≤ s.sz + 5 := by
  obtain ⟨size, pend, all, fuse, calls, down⟩ := s
  obtain ⟨h1, h2, h3, h4⟩ := h
  simp only at h1 h2 h3 h4
  subst h1 h2 h3
  have f0 : ¬ fuse = 0 := by omega
  have f1 : ¬ 0 < fuse := by omega
  have e1 : write ⟨size, [], all, fuse, calls, false⟩ 2 zero512 = (⟨size, [(2, zero512)], all, fuse, calls + 1, false⟩, 0) := by
    unfold write; rw [if_neg (by simp), if_neg (by simp; omega), if_neg (by simp [Disk.zero512_len])]; unfold burn; simp [f0, f1]
  have e2 : write ⟨size, [(2, zero512)], all, fuse, calls + 1, false⟩ 3 zero512 = (⟨size, [(2, zero512), (3, zero512)], all, fuse, calls + 1 + 1, false⟩, 0) := by
    unfold write; rw [if_neg (by simp), if_neg (by simp; omega), if_neg (by simp [Disk.zero512_len])]; unfold burn; simp [f0, f1]
  have e3 : flush ⟨size, [(2, zero512), (3, zero512)], all, fuse, calls + 1 + 1, false⟩ = (⟨size, [], all ++ [(2, zero512), (3, zero512)], fuse, calls + 1 + 1 + 1, false⟩, 0) := by
    unfold flush burn; simp [f0, f1]
  have e : Sup.clr ⟨size, [], all, fuse, calls, false⟩ = (⟨size, [], all ++ [(2, zero512), (3, zero512)], fuse, calls + 1 + 1 + 1, false⟩, 0) := by
    unfold Sup.clr
    rw [e1]
    simp only [if_true]
    rw [e2]
    simp only [if_true]
    exact e3
  rw [e]
  exact ⟨rfl, ⟨rfl, rfl, rfl, h4⟩, rfl, by unfold Disk.St.sz; simp; omega⟩
theorem srightF_new {n : Nat} {ga gd gl : Int} (h : Geom.right ga gd gl = true) {s : St} (hs : s.size = n) (hn : (n : Int) = Geom.sizeOf ga gd gl) : srightF s ga gd gl = 0 := by
  unfold srightF; rw [if_pos ⟨h, by rw [hs, hn]⟩]
theorem srightF_no {ga gd gl : Int} (h : ¬ Geom.right ga gd gl = true) (s : St) : srightF s ga gd gl = 2 := by
  unfold srightF; rw [if_neg (fun e => h e.1)]
theorem sL_len (l : List (List UInt8)) (ga gd gl : Int) (life : UInt64) (base : Int) (gen : UInt64) : (sL l ga gd gl life base gen).length ≤ l.length + 1 := by unfold sL sumAfter; split <;> simp
theorem sB_good (l : List (List UInt8)) {ga gd gl : Int} {life : UInt64} {base : Int} {gen : UInt64} (h0 : 0 ≤ base) (h1 : base ≤ 1073741824) : Good (sL l ga gd gl life base gen) (splace life) (sx ga gd gl life base gen) (sB l ga gd gl life base gen) := Good.made l (sx_right h0 h1)
end Go.Proofs.Ytmpmibcdpkolkaa.Sup

/- What the laws on supers share: the reference's Mark, Place and Sector, the example. -/
namespace Go.Proofs.Ytmpmibcdpkolkaa
theorem RdN.lit1 (w : World) (fp : List Nat) (hf : ∀ j ∈ fp, j < w.heap.size) (v : Value) (t : TypeId) : RdN (w.alloc (.cells #[v] t)) fp (some ⟨w.heap.size, 0, none⟩) [v] := fun _ =>
  ⟨w.heap.size, 0, rfl, by simp, fun e => by have := hf _ e; omega, fun i hi => by rw [World.cell?_alloc_new, Nat.zero_add]; simp at hi; subst hi; rfl⟩
end Go.Proofs.Ytmpmibcdpkolkaa
namespace Go.Proofs.Ytmpmibcdpkolkaa.Sup
open Go.RowKit
open Go.Proofs.Ytmpmibcdpkolkaa.Geom
open Go.Proofs.Ytmpmibcdpkolkaa.Disk (St DAt Did New8 Told8 new)
open Go.Proofs.Ytmpmibcdpkolkaa.Sec (X SymAt text sumOf sumAfter ckS blankB rightF xv RetX X0 five5x symbolic_any bset5)
set_option linter.unusedVariables false
set_option maxRecDepth 100000
theorem newN_any (n : Nat) (z : Int) (hz : z = (n : Int)) (h1 : 1 ≤ n) (h2 : n ≤ 1024) (w : World) : Calls Try.prog 12 #[.int .i64 z] w fun e w' => ∃ g fp, e = .returned (.tuple #[.pointer (some ⟨g, 0, none⟩), .int .i64 0]) ∧ DAt w' g fp (new n) ∧ (∀ j ∈ fp, w.heap.size ≤ j) ∧ Below w.heap.size w w' := by
  subst hz
  refine (Disk.new_any n w (by omega) (by omega)).mono ?_
  rintro e w' ⟨h, b⟩
  rw [if_neg (by omega)] at h
  obtain ⟨g, fp, he, hd, hf⟩ := h
  exact ⟨g, fp, he, by simpa using hd, hf, b⟩
theorem rmark_any (ga gd gl : Int) (w : World) (hG : Gb ga gd gl) : Calls Try.prog 18 #[gv ga gd gl] w (RetB 5 w (mk ga gd gl)) := by
  obtain ⟨z0, z1, z2⟩ := gthree (Blk.new w (gcell ga gd gl) 23)
  have b0 := b1alloc w (.cells (gcell ga gd gl).toArray 23)
  have HR := Lib.hid (fun W => Geom.rright_any ga gd gl W hG.a0 hG.a1 hG.d0 hG.d1 hG.g0 hG.g1)
  unfold mk
  cases hq : right ga gd gl with
  | false =>
    rw [hq] at HR
    rw [if_neg (by simp)]
    go_enter Try.func18, Try.ntmps18
    go_wp2_with (go_at_call 19; refine (HR.out _).mono ?_; rintro e w' ⟨rfl, b1⟩)
    go_ret
    exact RetB.mk (own_nil _ _ _ _) rfl (bt b0 b1)
  | true =>
    rw [hq] at HR
    rw [if_pos rfl]
    have hy := Geom.right_yes hq
    obtain ⟨x, hx⟩ : ∃ x, x = UInt8.ofNat ga.toNat := ⟨_, rfl⟩
    obtain ⟨y, hY⟩ : ∃ x, x = UInt8.ofNat gd.toNat := ⟨_, rfl⟩
    obtain ⟨z, hz⟩ : ∃ x, x = UInt8.ofNat gl.toNat := ⟨_, rfl⟩
    have w1 : IntKind.u8.wrap ga = (x.toNat : Int) := by rw [hx, IntKind.wrap_u8', UInt8.toNat_ofNat']; omega
    have w2 : IntKind.u8.wrap gd = (y.toNat : Int) := by rw [hY, IntKind.wrap_u8', UInt8.toNat_ofNat']; omega
    have w3 : IntKind.u8.wrap gl = (z.toNat : Int) := by rw [hz, IntKind.wrap_u8', UInt8.toNat_ofNat']; omega
    rw [← hx, ← hY, ← hz]
    clear hx hY hz
    have F := Lib.hid (Blk.new w (gcell ga gd gl) 23)
    go_enter Try.func18, Try.ntmps18
    go_wp2_with (go_at_call 19; refine (HR.out _).mono ?_; rintro e w4 ⟨rfl, b1⟩; obtain ⟨y0, y1, y2⟩ := gthree (F.out.on b1))
    go_ret
    have hl := own_lit w4 5 #[e8 x, e8 y, e8 z] w.heap.size 3 (bt b0 b1).size rfl (by unfold maxLen; omega)
    exact RetB.mk hl rfl (bt (bt b0 b1) (b1alloc _ _))
theorem rplace_any (n : UInt64) (m : Int) (hm : m = (n.toNat : Int)) (w : World) : Calls Try.prog 21 #[.int .u64 m] w fun e w' => e = .returned (.int .i64 (splace n)) ∧ w = w' := by
  subst hm
  have hl := n.toNat_lt
  have h1 : (n.toNat : Int) % 2 = (n.toNat : Int).tmod 2 := by rw [Int.tmod_eq_emod_of_nonneg (by omega)]
  have hw : IntKind.i64.wrap ((n.toNat : Int) % 2) = (n.toNat : Int) % 2 := wrap_small (by omega) (by omega)
  have hw2 : IntKind.i64.wrap (2 + (n.toNat : Int) % 2) = 2 + (n.toNat : Int) % 2 := wrap_small (by omega) (by omega)
  go_enter Try.func21, Try.ntmps21
  go_wp2
  go_ret
  exact ⟨rfl, rfl⟩
theorem set5 {W : World} {g b : Nat} {xs : List Value} (h : Blk W g xs) (n : g ≠ b) (v0 v1 v2 v3 v4 : Value) : Blk (((((W.setCell ⟨b, 0, none⟩ v0).setCell ⟨b, 1, none⟩ v1).setCell ⟨b, 2, none⟩ v2).setCell ⟨b, 3, none⟩ v3).setCell ⟨b, 4, none⟩ v4) g xs :=
  Blk.other (Blk.other (Blk.other (Blk.other (Blk.other h v0 n) v1 n) v2 n) v3 n) v4 n
set_option maxHeartbeats 2000000 in
theorem rsector_any (ga gd gl : Int) (life : UInt64) (base : Int) (gen : UInt64) (w : World) (hG : Gb ga gd gl) : Calls Try.prog 25 #[gv ga gd gl, sv life base gen] w fun e w' => ∃ A c, e = .returned (.agg #[.int .i64 2, .int .u64 (life.toNat : Int), .int .i64 base, .int .u64 (gen.toNat : Int), .slice A (mk ga gd gl).length c]) ∧ Rd w' w'.heap.size A ((mk ga gd gl).map e8) ∧ Below w.heap.size w w' := by
  have FG : Blk (((w.alloc (.cells (gcell ga gd gl).toArray 23)).alloc (.cells (scell life base gen).toArray 26)).alloc (.cells #[.int .i64 0, .int .u64 0, .int .i64 0, .int .u64 0, .slice none 0 0] 49)) w.heap.size (gcell ga gd gl) := ((Blk.new w (gcell ga gd gl) 23).alloc (.cells (scell life base gen).toArray 26)).alloc _
  have FX : Blk (((w.alloc (.cells (gcell ga gd gl).toArray 23)).alloc (.cells (scell life base gen).toArray 26)).alloc (.cells #[.int .i64 0, .int .u64 0, .int .i64 0, .int .u64 0, .slice none 0 0] 49)) (w.heap.size + 1) (scell life base gen) := by simpa using (Blk.new (w.alloc (.cells (gcell ga gd gl).toArray 23)) (scell life base gen) 26).alloc (.cells #[.int .i64 0, .int .u64 0, .int .i64 0, .int .u64 0, .slice none 0 0] 49)
  have FR : Blk (((w.alloc (.cells (gcell ga gd gl).toArray 23)).alloc (.cells (scell life base gen).toArray 26)).alloc (.cells #[.int .i64 0, .int .u64 0, .int .i64 0, .int .u64 0, .slice none 0 0] 49)) (w.heap.size + 1 + 1) [.int .i64 0, .int .u64 0, .int .i64 0, .int .u64 0, .slice none 0 0] := by simpa using Blk.new ((w.alloc (.cells (gcell ga gd gl).toArray 23)).alloc (.cells (scell life base gen).toArray 26)) [.int .i64 0, .int .u64 0, .int .i64 0, .int .u64 0, .slice none 0 0] 49
  have b0 := b3alloc w (.cells (gcell ga gd gl).toArray 23) (.cells (scell life base gen).toArray 26) (.cells #[.int .i64 0, .int .u64 0, .int .i64 0, .int .u64 0, .slice none 0 0] 49)
  have HM := Lib.hid (fun W => rmark_any ga gd gl W hG)
  obtain ⟨M, hM⟩ : ∃ M, M = mk ga gd gl := ⟨_, rfl⟩
  rw [← hM] at HM ⊢
  clear hM
  go_enter Try.func25, Try.ntmps25
  go_wp2
  have hp1 : w.heap.size + 2 = w.heap.size + 1 + 1 := by omega
  obtain ⟨w0, hw0⟩ : ∃ q, q = (((w.alloc (.cells (gcell ga gd gl).toArray 23)).alloc (.cells (scell life base gen).toArray 26)).alloc (.cells #[.int .i64 0, .int .u64 0, .int .i64 0, .int .u64 0, .slice none 0 0] 49)) := ⟨_, rfl⟩
  rw [← hw0] at FG FX FR b0
  rw [show (((w.alloc (.cells #[.int .i64 ga, .int .i64 gd, .int .i64 gl] 23)).alloc (.cells #[.int .u64 (life.toNat : Int), .int .i64 base, .int .u64 (gen.toNat : Int)] 26)).alloc (.cells #[.int .i64 0, .int .u64 0, .int .i64 0, .int .u64 0, .slice none 0 0] 49)) = w0 from hw0.symm]
  clear hw0
  obtain ⟨z0, z1, z2⟩ := gthree FG
  obtain ⟨y0, y1, y2⟩ := gthree FX
  have fr := FR.free
  have c0 : Below w0.heap.size w0 w0.drew := (Below.refl _ _).drew
  go_region_held3 (fun w' => (w'.cell? ⟨w.heap.size, 0, none⟩ = some (.int .i64 ga) ∧ w'.cell? ⟨w.heap.size, 1, none⟩ = some (.int .i64 gd) ∧ w'.cell? ⟨w.heap.size, 2, none⟩ = some (.int .i64 gl)) ∧ (w'.cell? ⟨w.heap.size + 1, 0, none⟩ = some (.int .u64 (life.toNat : Int)) ∧ w'.cell? ⟨w.heap.size + 1, 1, none⟩ = some (.int .i64 base) ∧ w'.cell? ⟨w.heap.size + 1, 2, none⟩ = some (.int .u64 (gen.toNat : Int)))) (first | exact ⟨gthree (FG.on c0), gthree (FX.on c0)⟩ | exact ⟨gthree (FG.on c1), gthree (FX.on c1)⟩ | exact ⟨gthree (set5 (FG.on c1) (by omega) _ _ _ _ _), gthree (set5 (FX.on c1) (by omega) _ _ _ _ _)⟩) ((go_at_call 18; refine (HM.out _).mono ?_; rintro e w1 ⟨A1, d1, rfl, own1, b1'⟩; have c1 := bt c0 b1'; obtain ⟨r0, r1, r2, r3, r4⟩ := five5x (FR.on c1); have fr1 := (FR.on c1).free))
  have k5 := Sec.keep5 w1 (w.heap.size + 1 + 1) (.int .i64 2) (.int .u64 (life.toNat : Int)) (.int .i64 base) (.int .u64 (gen.toNat : Int)) (.slice A1 M.length d1)
  have hlt := FR.lt
  have own2 := own_keep own1 k5 (fun g' hg' e => by have := own_block own1 hg'; rw [List.mem_singleton] at e; have h0 : w0.drew.heap.size = w0.heap.size := rfl; omega)
  have bq := bset5 (bt b0 c1) (show w.heap.size ≤ w.heap.size + 1 + 1 by omega) (v0 := .int .i64 2) (v1 := .int .u64 (life.toNat : Int)) (v2 := .int .i64 base) (v3 := .int .u64 (gen.toNat : Int)) (v4 := .slice A1 M.length d1)
  go_wp2
  exact bodyPost_ret (v := .agg #[.int .i64 2, .int .u64 (life.toNat : Int), .int .i64 base, .int .u64 (gen.toNat : Int), .slice A1 M.length d1]) (by simp [results, Try.results25, go_sem, *]) rfl ⟨_, _, rfl, Rd.own own2, bq⟩
theorem gb213 : Gb 2 1 3 := ⟨by decide, by decide, by decide, by decide, by decide, by decide⟩
theorem size213 : Geom.sizeOf 2 1 3 = 13 := by decide
theorem right213 : Geom.right 2 1 3 = true := by decide
set_option maxHeartbeats 4000000 in
theorem alive_any (w : World) : Calls Try.prog 20 #[] w fun e w' => e = .returned (.bool true) ∧ Below w.heap.size w w' := by
  obtain ⟨c1, c2, c3, c4⟩ := (up_new 13).clr (by omega)
  have r0 : srightF (new 13) 2 1 3 = 0 := srightF_new (n := 13) right213 rfl (by rw [size213]; rfl)
  have rC : srightF (clr (new 13)).1 2 1 3 = 0 := srightF_new (n := 13) right213 c2.size (by rw [size213]; rfl)
  have hz0 : (new 13).sz = 0 := rfl
  have a2 : atR [] (clr (new 13)).1 2 1 3 2 = none := c2.at_zero (by omega) (by omega) (by rw [c3]; rfl)
  have a3 : atR [] (clr (new 13)).1 2 1 3 3 = none := c2.at_zero (by omega) (by omega) (by rw [c3]; rfl)
  have hC := fun g fp W h => clear_any g fp (new 13) 2 1 3 W gb213 h (by decide) r0
  obtain ⟨C, hCe⟩ : ∃ C, C = clr (new 13) := ⟨_, rfl⟩
  rw [← hCe] at c1 c2 c3 c4 rC a2 a3 hC
  have hR1 := fun g fp gS bS W h => readSup_any g fp C.1 gS bS [] 2 1 3 W gb213 h (by simp) (by omega) rC c2.down
  rw [a2, a3] at hR1
  have hW := fun g fp gS bS W h => write_any g fp C.1 gS bS [] 2 1 3 3 1 2 W gb213 h (by simp) (by omega) rC (by omega) (by omega)
  obtain ⟨v1, v2, v3⟩ := c2.wf (p := splace 3) (by decide) (by decide) (sB_len [] 2 1 3 3 1 2)
  have y1 := wf_sz C.1 (splace 3) (sB [] 2 1 3 3 1 2)
  have y2 := sL_len [] 2 1 3 3 1 2
  have hg := sB_good [] (ga := 2) (gd := 1) (gl := 3) (life := 3) (base := 1) (gen := 2) (by omega) (by omega)
  obtain ⟨V, hV⟩ : ∃ V, V = wf C.1 (splace 3) (sB [] 2 1 3 3 1 2) := ⟨_, rfl⟩
  rw [← hV] at v1 v2 v3 y1 hW
  have hs3 : splace 3 = 3 := by decide
  have rV : srightF V.1 2 1 3 = 0 := srightF_new (n := 13) right213 v2.size (by rw [size213]; rfl)
  obtain ⟨L, hL⟩ : ∃ L, L = sL [] 2 1 3 3 1 2 := ⟨_, rfl⟩
  rw [← hL] at hW y2 hg
  have w3 : atR L V.1 2 1 3 3 = some ⟨3, 1, 2⟩ := by
    have := v2.at_own (l := L) (ga := 2) (gd := 1) (gl := 3) (life := 3) (base := 1) (gen := 2) (by decide) (by rw [v3, kept_after]; exact hg)
    rw [hs3] at this; exact this
  have w2 : atR L V.1 2 1 3 2 = none := v2.at_zero (by omega) (by omega) (by rw [v3, kept_beside _ _ (by decide), c3]; rfl)
  have hR2 := fun g fp gS bS W h => readSup_any g fp V.1 gS bS L 2 1 3 W gb213 h (by simp at y2; omega) (by omega) rV v2.down
  rw [w2, w3] at hR2
  rw [v1] at hW
  have hR1' : ∀ g fp gS bS W, Both W g fp C.1 gS bS [] → Calls Try.prog 24 #[.pointer (some ⟨g, 0, none⟩), .pointer (some ⟨gS, 0, none⟩), gv 2 1 3] W fun e w' => e = .returned (.tuple #[.agg #[.int .u64 0, .int .i64 0, .int .u64 0], .int .i64 11]) ∧ Below W.heap.size W w' := hR1
  have hR2' : ∀ g fp gS bS W, Both W g fp V.1 gS bS L → Calls Try.prog 24 #[.pointer (some ⟨g, 0, none⟩), .pointer (some ⟨gS, 0, none⟩), gv 2 1 3] W fun e w' => e = .returned (.tuple #[.agg #[.int .u64 3, .int .i64 1, .int .u64 2], .int .i64 0]) ∧ Below W.heap.size W w' := hR2
  have hW' : ∀ g fp gS bS W, Both W g fp C.1 gS bS [] → Calls Try.prog 15 #[.pointer (some ⟨g, 0, none⟩), .pointer (some ⟨gS, 0, none⟩), gv 2 1 3, .agg #[.int .u64 3, .int .i64 1, .int .u64 2]] W fun e w' => e = .returned (.int .i64 0) ∧ Turn W g fp gS bS V.1 L w' := hW
  have HC := Lib.hid hC
  have HR1 := Lib.hid hR1'
  have HR2 := Lib.hid hR2'
  have HW := Lib.hid hW'
  have C1 := Lib.hid c1
  have tR : True := trivial
  clear hC hR1 hR2 hW hR1' hR2' hW' hCe hV hL c1 c2 c3 c4 v1 v2 v3 y1 y2 hg w2 w3 a2 a3 rV rC r0 hz0 hs3
  have F := Lib.hid (Blk.new w (gcell 2 1 3) 23)
  have hltF := F.out.lt
  have b0 := b1alloc w (.cells (gcell 2 1 3).toArray 23)
  go_enter Try.func20, Try.ntmps20
  go_wp2_with (first
    | (go_at_call 12; refine (newN_any 13 13 rfl (by omega) (by omega) _).mono ?_; rintro e w1 ⟨g, fp, rfl, hD, hfp, b1⟩)
    | (go_at_call 14; refine (symbolic_any _).mono ?_; rintro e w2 ⟨gS, bS, rfl, hS, hgS, hbS, b2⟩; have H2 := Here.start hD hfp b1 hS hgS hbS b2; obtain ⟨m0, m1, m2⟩ := gthree (F.out.below H2.bel hltF))
    | (go_at_call 27; refine (HC.out _ _ _ H2.both.disk).mono ?_; rintro e w3 d3; obtain ⟨rfl, fp3, H3, _, _⟩ := H2.did d3; rw [C1.out];clear m0 m1 m2; obtain ⟨n0, n1, n2⟩ := gthree (F.out.below H3.bel hltF))
    | (go_at_call 24; have _t := tR; refine (HR1.out _ _ _ _ _ H3.both).mono ?_; rintro e w4 ⟨rfl, b4⟩; have H4 := H3.on (bt b4 (b1alloc w4 (.cells #[.int .u64 0, .int .i64 0, .int .u64 0] 35)));clear n0 n1 n2; obtain ⟨o0, o1, o2⟩ := gthree (F.out.below H4.bel hltF); clear tR)
    | (go_at_call 15; refine (HW.out _ _ _ _ _ H4.both).mono ?_; rintro e w5 ⟨rfl, T5⟩; obtain ⟨fp5, H5, _, _⟩ := H4.turn T5;clear o0 o1 o2; obtain ⟨p0, p1, p2⟩ := gthree (F.out.below H5.bel hltF))
    | (go_at_call 24; refine (HR2.out _ _ _ _ _ H5.both).mono ?_; rintro e w6 ⟨rfl, b6⟩; have H6 := H5.on (bt b6 (b1alloc w6 (.cells #[.int .u64 3, .int .i64 1, .int .u64 2] 35)))))
  go_ret
  exact ⟨rfl, bt b0 H6.bel⟩
end Go.Proofs.Ytmpmibcdpkolkaa.Sup

/- What the law on reading supers needs of the reference: Of, and the law's best. -/
namespace Go.Proofs.Ytmpmibcdpkolkaa.Sup
open Go.RowKit
open Go.Proofs.Ytmpmibcdpkolkaa.Geom
open Go.Proofs.Ytmpmibcdpkolkaa.Disk (St DAt Did New8 Told8 new)
open Go.Proofs.Ytmpmibcdpkolkaa.Sec (X SymAt text sumOf sumAfter ckS blankB rightF xv RetX X0 five5x symbolic_any bset5)
set_option linter.unusedVariables false
set_option maxRecDepth 100000
def ofR (ga gd gl p : Int) (x : X) : Option SV := if isSup ga gd gl p (x, 0) = true then some ⟨x.life, x.seq, x.gen⟩ else none
def ofV : Option SV → Value
  | some x => .tuple #[x.v, .bool true]
  | none => .tuple #[SV.zero.v, .bool false]
set_option maxHeartbeats 2000000 in
theorem rof_any (ga gd gl p : Int) (x : X) (A : Option Addr) (c : Nat) (w : World) (hG : Gb ga gd gl) (hr : Rd w w.heap.size A (x.body.map e8)) (hl : x.body.length ≤ 1000000) :
    Calls Try.prog 44 #[gv ga gd gl, .int .i64 p, .agg #[.int .i64 x.kind, .int .u64 (x.life.toNat : Int), .int .i64 x.seq, .int .u64 (x.gen.toNat : Int), .slice A x.body.length c]] w fun e w' => e = .returned (ofV (ofR ga gd gl p x)) ∧ Below w.heap.size w w' := by
  have FG : Blk (((w.alloc (.cells (gcell ga gd gl).toArray 23)).alloc (.cells ([.int .i64 x.kind, .int .u64 (x.life.toNat : Int), .int .i64 x.seq, .int .u64 (x.gen.toNat : Int), .slice A x.body.length c] : List Value).toArray 49)).alloc (.cells #[.int .u64 0, .int .i64 0, .int .u64 0] 26)) w.heap.size (gcell ga gd gl) := ((Blk.new w (gcell ga gd gl) 23).alloc _).alloc _
  have FX : Blk (((w.alloc (.cells (gcell ga gd gl).toArray 23)).alloc (.cells ([.int .i64 x.kind, .int .u64 (x.life.toNat : Int), .int .i64 x.seq, .int .u64 (x.gen.toNat : Int), .slice A x.body.length c] : List Value).toArray 49)).alloc (.cells #[.int .u64 0, .int .i64 0, .int .u64 0] 26)) (w.heap.size + 1) [.int .i64 x.kind, .int .u64 (x.life.toNat : Int), .int .i64 x.seq, .int .u64 (x.gen.toNat : Int), .slice A x.body.length c] := by simpa using (Blk.new (w.alloc (.cells (gcell ga gd gl).toArray 23)) [.int .i64 x.kind, .int .u64 (x.life.toNat : Int), .int .i64 x.seq, .int .u64 (x.gen.toNat : Int), .slice A x.body.length c] 49).alloc (.cells #[.int .u64 0, .int .i64 0, .int .u64 0] 26)
  have FR : Blk (((w.alloc (.cells (gcell ga gd gl).toArray 23)).alloc (.cells ([.int .i64 x.kind, .int .u64 (x.life.toNat : Int), .int .i64 x.seq, .int .u64 (x.gen.toNat : Int), .slice A x.body.length c] : List Value).toArray 49)).alloc (.cells #[.int .u64 0, .int .i64 0, .int .u64 0] 26)) (w.heap.size + 1 + 1) [.int .u64 0, .int .i64 0, .int .u64 0] := by simpa using Blk.new ((w.alloc (.cells (gcell ga gd gl).toArray 23)).alloc (.cells ([.int .i64 x.kind, .int .u64 (x.life.toNat : Int), .int .i64 x.seq, .int .u64 (x.gen.toNat : Int), .slice A x.body.length c] : List Value).toArray 49)) [.int .u64 0, .int .i64 0, .int .u64 0] 26
  have b0 := b3alloc w (.cells (gcell ga gd gl).toArray 23) (.cells ([.int .i64 x.kind, .int .u64 (x.life.toNat : Int), .int .i64 x.seq, .int .u64 (x.gen.toNat : Int), .slice A x.body.length c] : List Value).toArray 49) (.cells #[.int .u64 0, .int .i64 0, .int .u64 0] 26)
  obtain ⟨w0, hw0⟩ : ∃ q, q = (((w.alloc (.cells (gcell ga gd gl).toArray 23)).alloc (.cells ([.int .i64 x.kind, .int .u64 (x.life.toNat : Int), .int .i64 x.seq, .int .u64 (x.gen.toNat : Int), .slice A x.body.length c] : List Value).toArray 49)).alloc (.cells #[.int .u64 0, .int .i64 0, .int .u64 0] 26)) := ⟨_, rfl⟩
  rw [← hw0] at FG FX FR b0
  have HM := Lib.hid (fun W => rmark_any ga gd gl W hG)
  have HP := Lib.hid (fun W => rplace_any x.life _ (by rfl) W)
  have HW0 := Lib.hid (show (((w.alloc (.cells #[.int .i64 ga, .int .i64 gd, .int .i64 gl] 23)).alloc (.cells #[.int .i64 x.kind, .int .u64 (x.life.toNat : Int), .int .i64 x.seq, .int .u64 (x.gen.toNat : Int), .slice A x.body.length c] 49)).alloc (.cells #[.int .u64 0, .int .i64 0, .int .u64 0] 26)) = w0 from hw0.symm)
  have hlX := FX.lt
  have hlG := FG.lt
  have hlR := FR.lt
  unfold ofR
  clear hw0
  by_cases e1 : x.kind = 2
  rotate_left
  · rw [if_neg (by simp [isSup, e1])]
    have t1 := bne_yes e1
    clear e1
    go_enter Try.func44, Try.ntmps44
    go_wp2
    rw [HW0.out]
    obtain ⟨z0, z1, z2⟩ := gthree FG
    obtain ⟨x0, x1, x2, x3, x4⟩ := five5x FX
    refine region_inb (by kernel_rfl) (by kernel_rfl) ?_
    have inbNe := InB.some
    have inbW := @wrap_small
    have inbU := IntKind.wrap_u8'
    repeat (refine wpQuiet_step (fun K hK => ?_); go_simp; first | (refine hK _ ?_; clear hK K) | (apply Exists.intro; refine ⟨?_, hK _ ?_⟩; (· (intro w' hw'; first | fail | (have hcw := hw'.cell; go_simp; exact rfl))); clear hK K))
    refine wpQuiet_nil ?_
    intro wq hq
    clear inbNe inbW inbU
    clear z0 z1 z2 x0 x1 x2 x3 x4
    obtain ⟨u0, u1, u2⟩ := gthree (FR.on hq.below)
    obtain ⟨x0, x1, x2, x3, x4⟩ := five5x (FX.on hq.below)
    have fx := (FR.on hq.below).free
    go_wp2
    refine bodyPost_ret (v := ofV none) (by simp [results, Try.results44, go_sem, ofV, SV.v, SV.zero, sv, *]) rfl ⟨rfl, ?_⟩
    exact bset (bset (bset (bt b0 hq.below) (by omega) _) (by omega) _) (by omega) _
  have t1 := bne_no e1
  by_cases e2 : splace x.life = p
  rotate_left
  · rw [if_neg (by simp [isSup, e2])]
    have t2 := bne_yes e2
    clear e1 e2
    go_enter Try.func44, Try.ntmps44
    go_wp2
    rw [HW0.out]
    obtain ⟨z0, z1, z2⟩ := gthree FG
    obtain ⟨x0, x1, x2, x3, x4⟩ := five5x FX
    refine region_inb (by kernel_rfl) (by kernel_rfl) ?_
    have inbNe := InB.some
    have inbW := @wrap_small
    have inbU := IntKind.wrap_u8'
    repeat (refine wpQuiet_step (fun K hK => ?_); go_simp; first | (refine hK _ ?_; clear hK K) | (apply Exists.intro; refine ⟨?_, hK _ ?_⟩; (· (intro w' hw'; first | (go_at_call 21; refine (HP.out _).mono ?_; rintro e q1 ⟨rfl, rfl⟩; exact ⟨rfl, hw'⟩) | (have hcw := hw'.cell; go_simp; exact rfl))); clear hK K))
    refine wpQuiet_nil ?_
    intro wq hq
    clear inbNe inbW inbU
    clear z0 z1 z2 x0 x1 x2 x3 x4
    obtain ⟨u0, u1, u2⟩ := gthree (FR.on hq.below)
    obtain ⟨x0, x1, x2, x3, x4⟩ := five5x (FX.on hq.below)
    have fx := (FR.on hq.below).free
    go_wp2
    refine bodyPost_ret (v := ofV none) (by simp [results, Try.results44, go_sem, ofV, SV.v, SV.zero, sv, *]) rfl ⟨rfl, ?_⟩
    exact bset (bset (bset (bt b0 hq.below) (by omega) _) (by omega) _) (by omega) _
  have t2 := bne_no e2
  have hSa := fun A B c d' W h3 h4 => R1.same_any A B x.body (mk ga gd gl) x.body.length (mk ga gd gl).length c d' W rfl rfl h3 h4 (by omega) (by have := mk_len ga gd gl; omega)
  cases e3 : R1.sameB x.body (mk ga gd gl) with
  | false =>
    rw [if_neg (by simp [isSup, e3])]
    rw [e3] at hSa
    have HSa := Lib.hid hSa
    obtain ⟨M, hM⟩ : ∃ M, M = mk ga gd gl := ⟨_, rfl⟩
    rw [← hM] at HSa HM
    clear hSa e1 e2 e3 hM
    go_enter Try.func44, Try.ntmps44
    go_wp2
    rw [HW0.out]
    obtain ⟨z0, z1, z2⟩ := gthree FG
    obtain ⟨x0, x1, x2, x3, x4⟩ := five5x FX
    have cz : Below w0.heap.size w0 w0.drew := (Below.refl _ _).drew
    go_region_held3 (fun w' => (w'.cell? ⟨w.heap.size + 1, 0, none⟩ = some (.int .i64 x.kind) ∧ w'.cell? ⟨w.heap.size + 1, 1, none⟩ = some (.int .u64 (x.life.toNat : Int)) ∧ w'.cell? ⟨w.heap.size + 1, 2, none⟩ = some (.int .i64 x.seq) ∧ w'.cell? ⟨w.heap.size + 1, 3, none⟩ = some (.int .u64 (x.gen.toNat : Int)) ∧ w'.cell? ⟨w.heap.size + 1, 4, none⟩ = some (.slice A x.body.length c)) ∧ (w'.cell? ⟨w.heap.size, 0, none⟩ = some (.int .i64 ga) ∧ w'.cell? ⟨w.heap.size, 1, none⟩ = some (.int .i64 gd) ∧ w'.cell? ⟨w.heap.size, 2, none⟩ = some (.int .i64 gl))) (first | exact ⟨five5x (FX.on cz), gthree (FG.on cz)⟩ | exact ⟨five5x (FX.on cm), gthree (FG.on cm)⟩ | exact ⟨five5x (FX.on cs), gthree (FG.on cs)⟩) (first
      | (go_at_call 21; refine (HP.out _).mono ?_; rintro e q6 ⟨rfl, rfl⟩)
      | (go_at_call 18; refine (HM.out _).mono ?_; rintro e q7 ⟨A7, c7, rfl, own7, t7⟩; have cm := bt cz t7)
      | (go_at_call 16; refine (HSa.out A A7 c c7 _ (hr.on (bt b0 cm)) (Rd.own own7)).mono ?_; rintro e q8 ⟨rfl, t8⟩; have cs := bt cm t8))
    clear z0 z1 z2 x0 x1 x2 x3 x4
    obtain ⟨u0, u1, u2⟩ := gthree (FR.on cs)
    obtain ⟨x0, x1, x2, x3, x4⟩ := five5x (FX.on cs)
    have fx := (FR.on cs).free
    go_wp2
    refine bodyPost_ret (v := ofV none) (by simp [results, Try.results44, go_sem, ofV, SV.v, SV.zero, sv, *]) rfl ⟨rfl, ?_⟩
    exact bset (bset (bset (bt b0 cs) (by omega) _) (by omega) _) (by omega) _
  | true =>
    rw [if_pos (by simp [isSup, e1, e2, e3])]
    rw [e3] at hSa
    have HSa := Lib.hid hSa
    obtain ⟨M, hM⟩ : ∃ M, M = mk ga gd gl := ⟨_, rfl⟩
    rw [← hM] at HSa HM
    clear hSa e1 e2 e3 hM
    go_enter Try.func44, Try.ntmps44
    go_wp2
    rw [HW0.out]
    obtain ⟨z0, z1, z2⟩ := gthree FG
    obtain ⟨x0, x1, x2, x3, x4⟩ := five5x FX
    have cz : Below w0.heap.size w0 w0.drew := (Below.refl _ _).drew
    go_region_held3 (fun w' => (w'.cell? ⟨w.heap.size + 1, 0, none⟩ = some (.int .i64 x.kind) ∧ w'.cell? ⟨w.heap.size + 1, 1, none⟩ = some (.int .u64 (x.life.toNat : Int)) ∧ w'.cell? ⟨w.heap.size + 1, 2, none⟩ = some (.int .i64 x.seq) ∧ w'.cell? ⟨w.heap.size + 1, 3, none⟩ = some (.int .u64 (x.gen.toNat : Int)) ∧ w'.cell? ⟨w.heap.size + 1, 4, none⟩ = some (.slice A x.body.length c)) ∧ (w'.cell? ⟨w.heap.size, 0, none⟩ = some (.int .i64 ga) ∧ w'.cell? ⟨w.heap.size, 1, none⟩ = some (.int .i64 gd) ∧ w'.cell? ⟨w.heap.size, 2, none⟩ = some (.int .i64 gl))) (first | exact ⟨five5x (FX.on cz), gthree (FG.on cz)⟩ | exact ⟨five5x (FX.on cm), gthree (FG.on cm)⟩ | exact ⟨five5x (FX.on cs), gthree (FG.on cs)⟩) (first
      | (go_at_call 21; refine (HP.out _).mono ?_; rintro e q6 ⟨rfl, rfl⟩)
      | (go_at_call 18; refine (HM.out _).mono ?_; rintro e q7 ⟨A7, c7, rfl, own7, t7⟩; have cm := bt cz t7)
      | (go_at_call 16; refine (HSa.out A A7 c c7 _ (hr.on (bt b0 cm)) (Rd.own own7)).mono ?_; rintro e q8 ⟨rfl, t8⟩; have cs := bt cm t8))
    clear z0 z1 z2 x0 x1 x2 x3 x4
    obtain ⟨u0, u1, u2⟩ := gthree (FR.on cs)
    obtain ⟨x0, x1, x2, x3, x4⟩ := five5x (FX.on cs)
    have fx := (FR.on cs).free
    go_wp2
    refine bodyPost_ret (v := ofV (some ⟨x.life, x.seq, x.gen⟩)) (by simp [results, Try.results44, go_sem, ofV, SV.v, SV.zero, sv, *]) rfl ⟨rfl, ?_⟩
    exact bset (bset (bset (bt b0 cs) (by omega) _) (by omega) _) (by omega) _
theorem lbest_any (o p : Option SV) (w : World) (hne : ∀ x y, o = some x → p = some y → x.life ≠ y.life) :
    Calls Try.prog 46 #[sv (oV o).life (oV o).base (oV o).gen, sv (oV p).life (oV p).base (oV p).gen, .bool o.isSome, .bool p.isSome] w fun e w' => e = .returned (rdV (best (best none o) p)) ∧ Below w.heap.size w w' := by
  have b0 := fun (a b : SV) => b3alloc w (.cells (scell a.life a.base a.gen).toArray 26) (.cells (scell b.life b.base b.gen).toArray 26) (.cells #[.int .u64 0, .int .i64 0, .int .u64 0] 26)
  cases o with
  | none =>
    cases p with
    | none =>
      have bb := b0 (oV none) (oV none)
      rw [show (Option.isSome (none : Option SV)) = false from rfl]
      go_enter Try.func46, Try.ntmps46
      go_wp2
      refine bodyPost_ret (v := rdV none) (by simp [results, Try.results46, go_sem, rdV, SV.v, SV.zero, sv]) rfl ⟨rfl, ?_⟩
      exact b3alloc _ _ _ _
    | some y =>
      have bb := b0 (oV none) y
      rw [show (Option.isSome (none : Option SV)) = false from rfl, show (Option.isSome (some y)) = true from rfl, show oV (some y) = y from rfl]
      go_enter Try.func46, Try.ntmps46
      go_wp2
      refine bodyPost_ret (v := rdV (some y)) (by simp [results, Try.results46, go_sem, rdV, SV.v, sv]) rfl ⟨rfl, ?_⟩
      exact b3alloc _ _ _ _
  | some x =>
    cases p with
    | none =>
      have bb := b0 x (oV none)
      rw [show (Option.isSome (none : Option SV)) = false from rfl, show (Option.isSome (some x)) = true from rfl, show oV (some x) = x from rfl]
      go_enter Try.func46, Try.ntmps46
      go_wp2
      refine bodyPost_ret (v := rdV (some x)) (by simp [results, Try.results46, go_sem, rdV, SV.v, sv]) rfl ⟨rfl, ?_⟩
      exact b3alloc _ _ _ _
    | some y =>
      have hn := hne x y rfl rfl
      have bb := b0 x y
      rw [show (Option.isSome (some y)) = true from rfl, show (Option.isSome (some x)) = true from rfl, show oV (some x) = x from rfl, show oV (some y) = y from rfl]
      by_cases hlt : y.life.toNat < x.life.toNat
      · have hb := Lib.hid (show best (best none (some x)) (some y) = some x by
          have h2 : ¬ x.life < y.life := fun e => by rw [UInt64.lt_iff_toNat_lt] at e; omega
          simp [best, after1, h2])
        have hi : (y.life.toNat : Int) < (x.life.toNat : Int) := by omega
        clear hn hne
        go_enter Try.func46, Try.ntmps46
        go_wp2
        refine bodyPost_ret (v := rdV (some x)) (by simp [results, Try.results46, go_sem, rdV, SV.v, sv]) rfl ⟨by rw [hb.out], ?_⟩
        exact b3alloc _ _ _ _
      · have hb := Lib.hid (show best (best none (some x)) (some y) = some y by
          have h3 : x.life.toNat ≠ y.life.toNat := fun e => hn (UInt64.toNat_inj.1 e)
          have h2 : x.life < y.life := by rw [UInt64.lt_iff_toNat_lt]; omega
          simp [best, after1, h2])
        have hi : ¬ (y.life.toNat : Int) < (x.life.toNat : Int) := by omega
        clear hn hne
        go_enter Try.func46, Try.ntmps46
        go_wp2
        refine bodyPost_ret (v := rdV (some y)) (by simp [results, Try.results46, go_sem, rdV, SV.v, sv]) rfl ⟨by rw [hb.out], ?_⟩
        exact b3alloc _ _ _ _
/-! the two places, one behind the other -/
def bytesAt (q : List (List UInt8) × St) (p : Int) (x : X) : List UInt8 := text p x ++ sumOf q.1 (text p x)
theorem bytesAt_len (q : List (List UInt8) × St) (p : Int) (x : X) : (bytesAt q p x).length = 512 := by unfold bytesAt; rw [List.length_append, Sec.text_len, Sec.sumOf_len]
def stp (q : List (List UInt8) × St) (p : Int) (x : X) : List (List UInt8) × St := if rightF p x = 0 then (sumAfter q.1 (text p x), (Disk.put q.2 p (bytesAt q p x)).1) else q
theorem stp_yes {q : List (List UInt8) × St} {p : Int} {x : X} (h : rightF p x = 0) : stp q p x = (sumAfter q.1 (text p x), (Disk.put q.2 p (bytesAt q p x)).1) := if_pos h
theorem stp_no {q : List (List UInt8) × St} {p : Int} {x : X} (h : rightF p x ≠ 0) : stp q p x = q := if_neg h
theorem UpN.put {s : St} {n : Nat} (h : UpN s n) {p : Int} (h0 : 0 ≤ p) (h1 : p < n) {b : List UInt8} (hb : b.length = 512) : UpN (Disk.put s p b).1 n ∧ (Disk.put s p b).1.all = s.all ++ [(p.toNat, b)] ∧ (Disk.put s p b).1.sz ≤ s.sz + 1 := by
  refine ⟨?_, ?_, Disk.sz_put _ _ _⟩ <;> unfold Disk.put <;> rw [if_neg (by rw [h.size]; omega), if_neg (by omega)]
  exact ⟨h.size, h.pend, h.down, h.fuse⟩
/-- what is at a place that a sector was put at, or was not -/
def ofAt (ga gd gl p : Int) (x : X) : Option SV := if rightF p x = 0 then ofR ga gd gl p x else none
theorem UpN.at_good {s : St} {n : Nat} (h : UpN s n) {l : List (List UInt8)} {ga gd gl p : Int} (h0 : 0 ≤ p) (h1 : p < n) {x : X} (hg : Good l p x (Disk.kept s.all p.toNat)) : atR l s ga gd gl p = ofR ga gd gl p x := by
  unfold atR Sup.dec
  rw [h.read h0 h1]
  simp only []
  rw [hg.dec]; rfl
theorem sumAfter_len (l : List (List UInt8)) (T : List UInt8) : (sumAfter l T).length ≤ l.length + 1 := by unfold sumAfter; split <;> simp
structure One (n : Nat) (ga gd gl : Int) (q : List (List UInt8) × St) (a : X) : Prop where
  up : UpN q.2 n
  len : q.1.length ≤ 1
  sz : q.2.sz ≤ 1
  good : rightF 2 a = 0 → Good q.1 2 a (Disk.kept q.2.all 2)
  zero2 : rightF 2 a ≠ 0 → Disk.kept q.2.all 2 = Disk.zero512
  zero3 : Disk.kept q.2.all 3 = Disk.zero512
theorem one {n : Nat} (hn : 4 ≤ n) (ga gd gl : Int) (a : X) : One n ga gd gl (stp ([], new n) 2 a) a := by
  by_cases h : rightF 2 a = 0
  · rw [stp_yes h]
    obtain ⟨u, e, z⟩ := (up_new n).put (p := 2) (by omega) (by omega) (bytesAt_len ([], new n) 2 a)
    exact ⟨u, sumAfter_len [] (text 2 a), z, fun _ => by rw [e, show ((2 : Int).toNat) = 2 from rfl, kept_after]; exact Good.made [] h, fun h2 => absurd h h2, by rw [e, kept_beside _ _ (by decide)]; rfl⟩
  · rw [stp_no h]
    exact ⟨up_new n, by simp, Nat.zero_le _, fun h2 => absurd h2 h, fun _ => rfl, rfl⟩
theorem One.at2 {n : Nat} (hn : 4 ≤ n) {ga gd gl : Int} {q : List (List UInt8) × St} {a : X} (h : One n ga gd gl q a) : atR q.1 q.2 ga gd gl 2 = ofAt ga gd gl 2 a := by
  unfold ofAt
  by_cases h1 : rightF 2 a = 0
  · rw [if_pos h1]; exact h.up.at_good (by omega) (by omega) (h.good h1)
  · rw [if_neg h1]; exact h.up.at_zero (by omega) (by omega) (h.zero2 h1)
structure Two (n : Nat) (ga gd gl : Int) (q : List (List UInt8) × St) (a b : X) : Prop where
  up : UpN q.2 n
  len : q.1.length ≤ 2
  sz : q.2.sz ≤ 2
  at2 : atR q.1 q.2 ga gd gl 2 = ofAt ga gd gl 2 a
  at3 : atR q.1 q.2 ga gd gl 3 = ofAt ga gd gl 3 b
theorem two {n : Nat} (hn : 4 ≤ n) (ga gd gl : Int) (a b : X) : Two n ga gd gl (stp (stp ([], new n) 2 a) 3 b) a b := by
  have h1 := one hn ga gd gl a
  obtain ⟨q, hq⟩ : ∃ q, q = stp ([], new n) 2 a := ⟨_, rfl⟩
  rw [← hq] at h1 ⊢
  by_cases h : rightF 3 b = 0
  · rw [stp_yes h]
    obtain ⟨u, e, z⟩ := h1.up.put (p := 3) (by omega) (by omega) (bytesAt_len q 3 b)
    have hl := sumAfter_len q.1 (text 3 b)
    have l1 := h1.len
    have s1 := h1.sz
    refine ⟨u, by simp only []; omega, by simp only []; omega, ?_, ?_⟩
    · unfold ofAt
      by_cases h2 : rightF 2 a = 0
      · rw [if_pos h2]; exact u.at_good (by omega) (by omega) (by rw [e, kept_beside _ _ (by decide)]; exact (h1.good h2).more _)
      · rw [if_neg h2]; exact u.at_zero (by omega) (by omega) (by rw [e, kept_beside _ _ (by decide)]; exact h1.zero2 h2)
    · unfold ofAt
      rw [if_pos h]; exact u.at_good (by omega) (by omega) (by rw [e, show ((3 : Int).toNat) = 3 from rfl, kept_after]; exact Good.made q.1 h)
  · rw [stp_no h]
    refine ⟨h1.up, by have := h1.len; omega, by have := h1.sz; omega, h1.at2 hn, ?_⟩
    unfold ofAt
    rw [if_neg h]; exact h1.up.at_zero (by omega) (by omega) h1.zero3
theorem ofAt_place {ga gd gl p : Int} {x : X} {y : SV} (h : ofAt ga gd gl p x = some y) : splace y.life = p := by
  unfold ofAt ofR at h
  split at h
  · split at h
    · rename_i h1 h2
      injection h with h
      subst h
      simp [isSup] at h2
      exact h2.1.2
    · cases h
  · cases h
theorem ofAt_ne {ga gd gl : Int} {a b : X} {x y : SV} (h : ofAt ga gd gl 2 a = some x) (h' : ofAt ga gd gl 3 b = some y) : x.life ≠ y.life := fun e => by
  have h1 := ofAt_place h
  have h2 := ofAt_place h'
  rw [e] at h1; omega
end Go.Proofs.Ytmpmibcdpkolkaa.Sup

/- The arguments of a law, opened: slices of bytes and of numbers as lists; numbers as words. -/
namespace Go.Proofs.Ytmpmibcdpkolkaa
open Go.ChangeShapes Go.WideShapes Go.ChangeAt Go.RowKit Go.Joins
open Go.ChangeMaps (open_string shut_string)
set_option linter.unusedVariables false

theorem own : ownKnob Try.prog.godebug = none := by kernel_rfl
theorem laidOut : laidOutB Try.prog = true := by kernel_rfl
abbrev ei (n : Int) : Value := .int .i64 n

theorem rd_row {w : World} {k : IntKind} {x : Addr} {len cap : Nat} {zs : List Int} (hl : len ≤ cap) (hz : zs.length = cap) (hc : ∀ i, i < zs.length → w.cell? (x.add i) = some (.int k (zs.getD i 0))) :
    Rd w w.heap.size (some x) ((zs.take len).map (Value.int k)) := by
  intro hne
  have hlen : 0 < len := by
    rcases Nat.eq_zero_or_pos len with h | h
    · subst h; simp at hne
    · exact h
  obtain ⟨b, off, spot⟩ := x
  have h0 := hc 0 (by omega)
  have hspot : spot = none := by simpa [Addr.add] using World.cell?_spot h0
  subst hspot
  refine ⟨b, off, rfl, ?_, fun i hi => ?_⟩
  · have h0' : w.cell? ⟨b, off, none⟩ ≠ none := by
      have : (⟨b, off, none⟩ : Addr).add 0 = ⟨b, off, none⟩ := by simp [Addr.add]
      rw [this] at h0; rw [h0]; simp
    rcases Nat.lt_or_ge b w.heap.size with h | h
    · exact h
    · exact absurd (by simp [World.cell?, Array.getElem?_eq_none h]) h0'
  · have hi' : i < len := by simpa [hz, Nat.min_eq_left hl] using hi
    have := hc i (by omega)
    rw [Addr.add_lit] at this
    rw [this]
    simp [List.getD, List.getElem?_eq_getElem (show i < zs.length by omega)]

theorem bytes_of {w : World} {A : Option Addr} {len cap : Nat} {E : Type} {P : Program} {enc : TypeId × Value → E} {t e : TypeId} {spare : Nat → Bool} {held : Bool} {fuel : Nat} {x : DataW E × List MemPlace}
    (hs : spare = fun _ => true) (ht : P.underlying t = some (.slice e)) (he : P.underlying e = some (.int .u8)) (hc : P.cellsOf e = 1) (h : DataW.trod enc P w 0 spare held fuel t (Value.slice A len cap).cells.toList = some x) :
    ∃ l : List UInt8, l.length = len ∧ Rd w w.heap.size A (l.map e8) ∧ len ≤ cap ∧ cap ≤ maxLen := by
  subst hs
  rcases open_ints ht he hc h with ⟨hcs, _⟩ | ⟨x, l, c, zs, hcs, _, hl, hm, hz, _, hcell, hwz⟩
  · simp [Value.cells] at hcs
    obtain ⟨rfl, rfl, rfl⟩ := hcs
    exact ⟨[], rfl, Rd.nil _ _ _, by omega, by unfold maxLen; omega⟩
  · simp [Value.cells] at hcs
    obtain ⟨rfl, rfl, rfl⟩ := hcs
    obtain ⟨l, rfl⟩ := list8 zs hwz
    have hz' : l.length = cap := by simpa using hz
    refine ⟨l.take len, by simp; omega, ?_, hl, hm⟩
    have := rd_row (len := len) hl (by simpa using hz') hcell
    simpa [List.map_take, Function.comp_def] using this

theorem ints_of {w : World} {A : Option Addr} {len cap : Nat} {E : Type} {P : Program} {enc : TypeId × Value → E} {t e : TypeId} {spare : Nat → Bool} {held : Bool} {fuel : Nat} {x : DataW E × List MemPlace}
    (hs : spare = fun _ => true) (ht : P.underlying t = some (.slice e)) (he : P.underlying e = some (.int .i64)) (hc : P.cellsOf e = 1) (h : DataW.trod enc P w 0 spare held fuel t (Value.slice A len cap).cells.toList = some x) :
    ∃ l : List Int, l.length = len ∧ Rd w w.heap.size A (l.map ei) ∧ len ≤ cap ∧ cap ≤ maxLen ∧ (∀ n ∈ l, -9223372036854775808 ≤ n ∧ n ≤ 9223372036854775807) := by
  subst hs
  rcases open_ints ht he hc h with ⟨hcs, _⟩ | ⟨x, l, c, zs, hcs, _, hl, hm, hz, _, hcell, hwz⟩
  · simp [Value.cells] at hcs
    obtain ⟨rfl, rfl, rfl⟩ := hcs
    exact ⟨[], rfl, Rd.nil _ _ _, by omega, by unfold maxLen; omega, by simp⟩
  · simp [Value.cells] at hcs
    obtain ⟨rfl, rfl, rfl⟩ := hcs
    have hz' : zs.length = cap := by simpa using hz
    refine ⟨zs.take len, by simp; omega, ?_, hl, hm, fun n hn => ?_⟩
    · have := rd_row (len := len) hl hz' hcell
      simpa [List.map_take, Function.comp_def] using this
    · have := hwz n (List.mem_of_mem_take hn)
      simp [Lit.wf, IntKind.min, IntKind.max, IntKind.signed, IntKind.bits] at this
      omega

section
theorem okWide_arr' {P : Program} {w : World} {r : Reach} {base : Nat} {t e : TypeId} {n : Nat} {v : Value} (ht : P.underlying t = some (.array n e)) (h : Value.okWide P w r base t v) : ∃ cs, v = .agg cs ∧ cs.size = P.cellsOf t := by
  simp only [Value.okWide, ht] at h
  obtain ⟨cs, h1, h2, _⟩ := h
  exact ⟨cs, h1, h2⟩
/-- an argument that is an array of numbers -/
theorem arr_ints {H : Type} {enc : TypeId × Value → H} {P : Program} {w : World} {r : Reach} {base : Nat} {v : Value} {d : DataW H} {p : List MemPlace} {t e : TypeId} {n : Nat} {k : IntKind} (ht : P.underlying t = some (.array n e)) (he : P.underlying e = some (.int k))
    (hc : P.cellsOf t = n) (hc1 : P.cellsOf e = 1) (hv : Value.okWide P w r base t v) (h : DataW.Trod enc P w 0 (fun _ => true) true t v d p) :
    ∃ zs : List Int, zs.length = n ∧ v = .agg (zs.map (Value.int k)).toArray ∧ ∀ z ∈ zs, (Lit.int k z).wf = true := by
  obtain ⟨cs, rfl, hsz⟩ := okWide_arr' ht hv
  rw [hc] at hsz
  obtain ⟨fuel, hf⟩ := h
  obtain ⟨xs, m, _, _, _, hl, hi⟩ := DataW.trod_array ht hf
  have key : ∀ i (hi' : i < n), ∃ z : Int, cs[i]'(by omega) = Value.int k z ∧ (Lit.int k z).wf = true := fun i hi' => by
    have g1 := hi i hi'
    rw [hc1] at g1
    have h2 : (Value.agg cs).cells.toList = cs.toList := rfl
    rw [h2] at g1
    have h3 : (cs.toList.drop (i * 1)).take 1 = [cs[i]'(by omega)] := by
      rw [Nat.mul_one, List.drop_eq_getElem_cons (by simp; omega)]; simp
    rw [h3, List.getElem?_eq_getElem (by omega)] at g1
    obtain ⟨z, e1, _, wn⟩ := DataW.trod_int he g1
    simp only [List.cons.injEq, and_true] at e1
    exact ⟨z, e1, wn⟩
  refine ⟨(List.range n).map (fun i : Nat => ((cs[i]?).map intOf).getD 0), by simp, ?_, ?_⟩
  · congr 1
    apply Array.ext
    · simp [hsz]
    · intro i g1 g2
      obtain ⟨z, e, _⟩ := key i (by omega)
      simp [Array.getElem?_eq_getElem g1, e, intOf]
  · intro z hz
    simp only [List.mem_map, List.mem_range] at hz
    obtain ⟨i, hin, rfl⟩ := hz
    obtain ⟨z', e, wf⟩ := key i hin
    rw [Array.getElem?_eq_getElem (by omega), e]
    simpa [intOf] using wf
end
theorem wf8 {n : Int} (h : (Lit.int .u8 n).wf = true) : ∃ x : UInt8, n = (x.toNat : Int) := by
  simp [Lit.wf, IntKind.min, IntKind.max, IntKind.signed, IntKind.bits] at h; exact to8 n (by omega) (by omega)
theorem wf32 {n : Int} (h : (Lit.int .u32 n).wf = true) : ∃ x : UInt32, n = (x.toNat : Int) := by
  simp [Lit.wf, IntKind.min, IntKind.max, IntKind.signed, IntKind.bits] at h; exact to32 n (by omega) (by omega)
theorem wf64 {n : Int} (h : (Lit.int .u64 n).wf = true) : ∃ x : UInt64, n = (x.toNat : Int) := by
  simp [Lit.wf, IntKind.min, IntKind.max, IntKind.signed, IntKind.bits] at h; exact to64 n (by omega) (by omega)
theorem wfi {n : Int} (h : (Lit.int .i64 n).wf = true) : -9223372036854775808 ≤ n ∧ n ≤ 9223372036854775807 := by
  simp [Lit.wf, IntKind.min, IntKind.max, IntKind.signed, IntKind.bits] at h; omega
theorem places_lt {H : Type} {enc : TypeId × Value → H} {P : Program} {W : World} {t : TypeId} {v : Value} {d : DataW H} {p : List MemPlace} (k : DataW.Trod enc P W 0 (fun _ => true) true t v d p) : ∀ x ∈ p, x.block < W.heap.size := by
  obtain ⟨m, hm⟩ := k; exact DataW.trod_lt m _ _ _ hm
section
open Go.Deep
variable {H : Type} {enc : TypeId × Value → H} {P : Program} {w : World} {base : Nat} {spare : Nat → Bool} {held : Bool}
/-- a slice of structs of one-cell fields -/
theorem open_slice_fields {t e : TypeId} {fs : Array Field} {fuel : Nat} {cs : List Value} {x : DataW H × List MemPlace} (ht : P.underlying t = some (.slice e)) (he : P.underlying e = some (.struct fs))
    (hone : oneCellFields P fs = true) (hC : P.cellsOf e = fs.size) (h : DataW.trod enc P w base spare held fuel t cs = some x) :
    cs = [.slice none 0 0] ∨ ∃ (a : Addr) (len cap m : Nat), cs = [.slice (some a) len cap] ∧ base ≤ a.block ∧ len ≤ cap ∧ cap ≤ maxLen ∧ m = (if spare a.block then cap else len) ∧
      ∀ i, i < m → ∃ (ys : List (DataW H × List MemPlace)) (n : Nat), 
        ∀ (j : Nat) (f : Field), fs[j]? = some f → ∃ (v : Value) (y : DataW H × List MemPlace), w.cell? (a.add (i * fs.size + j)) = some v ∧ ys[j]? = some y ∧ DataW.trod enc P w base spare held n f.type [v] = some y := by
  rcases open_slice ht h with h0 | ⟨a, len, cap, m, n, D, Pl, hcs, hb, hl, hm, hmm, hx, hi⟩
  · exact .inl h0.1
  · refine .inr ⟨a, len, cap, m, hcs, hb, hl, hm, hmm, fun i him => ?_⟩
    obtain ⟨cs', hc, ht'⟩ := hi i him
    rw [hC] at hc
    obtain ⟨ys, n', hn', hy, hlen, hyl, hf⟩ := DataW.trod_struct he ht'
    obtain ⟨_, hcl, hat⟩ := World.cells?_some hc
    refine ⟨ys, n', fun j f hj => ?_⟩
    obtain ⟨ho, hk⟩ := hone_of hone j f hj
    have hjl : j < fs.size := (Array.getElem?_eq_some_iff.1 hj).1
    have hcell := hat j hjl
    have hv : cs'[j]? = some (cs'[j]'(by omega)) := List.getElem?_eq_getElem (by omega)
    have h1 := hf j f hj
    rw [ho, hk] at h1
    have hone' : (cs'.drop j).take 1 = [cs'[j]'(by omega)] := by
      rw [List.drop_eq_getElem_cons (by omega)]
      rfl
    rw [hone'] at h1
    have hys : ys[j]? = some (ys[j]'(by omega)) := List.getElem?_eq_getElem (by omega)
    refine ⟨_, _, ?_, hys, h1.trans hys⟩
    rw [← Go.Deep.add_add, hcell, hv]
theorem bytes_of1 {E : Type} {enc : TypeId × Value → E} {t e : TypeId} {fuel : Nat} {v : Value} {yy : DataW E × List MemPlace}
    (ht : P.underlying t = some (.slice e)) (he : P.underlying e = some (.int .u8)) (hc : P.cellsOf e = 1) (h : DataW.trod enc P w 0 (fun _ => true) held fuel t [v] = some yy) :
    ∃ (A : Option Addr) (l : List UInt8) (c : Nat), v = .slice A l.length c ∧ Rd w w.heap.size A (l.map e8) ∧ l.length ≤ c ∧ c ≤ maxLen := by
  have h0 := h
  rcases open_ints ht he hc h with ⟨hcs, _⟩ | ⟨x, l, c, zs, hcs, _, hl, hm, hz, _, hcell, hwz⟩
  · simp only [List.cons.injEq, and_true] at hcs
    exact ⟨none, [], 0, hcs, Rd.nil _ _ _, by simp, by unfold maxLen; omega⟩
  · simp only [List.cons.injEq, and_true] at hcs
    subst hcs
    obtain ⟨A, hA⟩ : ∃ A, A = some x := ⟨_, rfl⟩
    have h' : DataW.trod enc P w 0 (fun _ => true) held fuel t (Value.slice A l c).cells.toList = some yy := by rw [hA]; exact h0
    obtain ⟨ll, h1, h2, h3, h4⟩ := bytes_of rfl ht he hc h'
    subst h1
    exact ⟨A, ll, c, by rw [hA], h2, h3, h4⟩
theorem choose_list {α : Type} {n : Nat} {p : Nat → α → Prop} (h : ∀ i, i < n → ∃ a, p i a) : ∃ l : List α, l.length = n ∧ ∀ i (hi : i < l.length), p i l[i] := by
  induction n with
  | zero => exact ⟨[], rfl, fun i hi => absurd hi (by simp)⟩
  | succ n ih =>
    obtain ⟨l, hl, hp⟩ := ih fun i hi => h i (by omega)
    obtain ⟨a, ha⟩ := h n (by omega)
    refine ⟨l ++ [a], by simp [hl], fun i hi => ?_⟩
    rw [List.getElem_append]
    by_cases e : i < l.length
    · rw [dif_pos e]; exact hp i e
    · rw [dif_neg e]
      have : i = n := by simp at hi; omega
      subst this
      simpa using ha
end
end Go.Proofs.Ytmpmibcdpkolkaa

/- How a super comes in as an argument. -/
namespace Go.Proofs.Ytmpmibcdpkolkaa
open Go.ChangeShapes Go.WideShapes Go.ChangeAt Go.RowKit Go.Joins Go.Deep
set_option maxRecDepth 100000
set_option linter.unusedVariables false
theorem super_of {H : Type} {enc : TypeId × Value → H} {w : World} {r : Reach} {b0 : Nat} {v : Value} {d : DataW H} {p : List MemPlace} (hv : Value.okWide Try.prog w r b0 26 v) (h : DataW.Trod enc Try.prog w 0 (fun _ => true) true 26 v d p) :
    ∃ (l : UInt64) (b : Int) (g : UInt64), v = Sup.sv l b g ∧ (-9223372036854775808 ≤ b ∧ b ≤ 9223372036854775807) := by
  obtain ⟨v0, v1, v2, y0, y1, y2, n, rfl, _, _, t0, t1, t2⟩ := open_agg3 Try.underlying26 (by kernel_rfl) (by kernel_rfl) hv h
  obtain ⟨a, e0, _, w0⟩ := DataW.trod_int Try.underlying24 t0
  obtain ⟨b, e1, _, w1⟩ := DataW.trod_int Try.underlying3 t1
  obtain ⟨c, e2, _, w2⟩ := DataW.trod_int Try.underlying24 t2
  simp only [List.cons.injEq, and_true] at e0 e1 e2
  subst e0 e1 e2
  obtain ⟨a', rfl⟩ := wf64 w0
  obtain ⟨c', rfl⟩ := wf64 w2
  exact ⟨a', b, c', rfl, wfi w1⟩
end Go.Proofs.Ytmpmibcdpkolkaa

/- How a sector (a struct of five fields, one of them a slice of bytes) comes in as an argument. -/
namespace Go.Proofs.Ytmpmibcdpkolkaa
open Go.ChangeShapes Go.WideShapes Go.ChangeAt Go.RowKit Go.Joins Go.Deep
set_option maxRecDepth 100000
set_option linter.unusedVariables false
theorem array5 {α : Type} {cs : Array α} (h : cs.size = 5) : ∃ c0 c1 c2 c3 c4, cs = #[c0, c1, c2, c3, c4] := by
  obtain ⟨l⟩ := cs
  match l, h with
  | [c0, c1, c2, c3, c4], _ => exact ⟨c0, c1, c2, c3, c4, rfl⟩
theorem open_agg5 {H : Type} {enc : TypeId × Value → H} {P : Program} {w : World} {base : Nat} {spare : Nat → Bool} {held : Bool} {r : Reach} {b0 : Nat} {t : TypeId} {f0 f1 f2 f3 f4 : Field} {v : Value} {d : DataW H} {p : List MemPlace}
    (hs : P.underlying t = some (.struct #[f0, f1, f2, f3, f4])) (hone : oneCellFields P #[f0, f1, f2, f3, f4] = true) (hC : P.cellsOf t = 5)
    (hv : Value.okWide P w r b0 t v) (h : DataW.Trod enc P w base spare held t v d p) :
    ∃ (v0 v1 v2 v3 v4 : Value) (y0 y1 y2 y3 y4 : DataW H × List MemPlace) (n : Nat), v = .agg #[v0, v1, v2, v3, v4] ∧
      DataW.trod enc P w base spare held n f0.type [v0] = some y0 ∧ DataW.trod enc P w base spare held n f1.type [v1] = some y1 ∧ DataW.trod enc P w base spare held n f2.type [v2] = some y2 ∧ DataW.trod enc P w base spare held n f3.type [v3] = some y3 ∧ DataW.trod enc P w base spare held n f4.type [v4] = some y4 := by
  obtain ⟨cs, rfl, hsz⟩ := okWide_struct hs hv
  obtain ⟨c0, c1, c2, c3, c4, rfl⟩ := array5 (hsz.trans hC)
  obtain ⟨fuel, hf⟩ := h
  obtain ⟨ys, n, _, hx, hl, hlen, hf⟩ := DataW.trod_struct hs hf
  obtain ⟨o0, k0⟩ := hone_of hone 0 f0 rfl
  obtain ⟨o1, k1⟩ := hone_of hone 1 f1 rfl
  obtain ⟨o2, k2⟩ := hone_of hone 2 f2 rfl
  obtain ⟨o3, k3⟩ := hone_of hone 3 f3 rfl
  obtain ⟨o4, k4⟩ := hone_of hone 4 f4 rfl
  match ys, hlen with
  | [y0, y1, y2, y3, y4], _ =>
    have e0 := hf 0 f0 rfl
    have e1 := hf 1 f1 rfl
    have e2 := hf 2 f2 rfl
    have e3 := hf 3 f3 rfl
    have e4 := hf 4 f4 rfl
    exact ⟨c0, c1, c2, c3, c4, y0, y1, y2, y3, y4, n, rfl, by simpa [Value.cells, o0, k0] using e0, by simpa [Value.cells, o1, k1] using e1, by simpa [Value.cells, o2, k2] using e2, by simpa [Value.cells, o3, k3] using e3, by simpa [Value.cells, o4, k4] using e4⟩
theorem sector_of {H : Type} {enc : TypeId × Value → H} {w : World} {r : Reach} {b0 : Nat} {v : Value} {d : DataW H} {p : List MemPlace} (hv : Value.okWide Try.prog w r b0 49 v) (h : DataW.Trod enc Try.prog w 0 (fun _ => true) true 49 v d p) :
    ∃ (x : Sec.X) (A : Option Addr) (c : Nat), v = .agg #[.int .i64 x.kind, .int .u64 (x.life.toNat : Int), .int .i64 x.seq, .int .u64 (x.gen.toNat : Int), .slice A x.body.length c] ∧ Rd w w.heap.size A (x.body.map e8) ∧ x.body.length ≤ c ∧ c ≤ maxLen := by
  obtain ⟨v0, v1, v2, v3, v4, y0, y1, y2, y3, y4, n, rfl, t0, t1, t2, t3, t4⟩ := open_agg5 Try.underlying49 (by kernel_rfl) (by kernel_rfl) hv h
  obtain ⟨k, e0, _, wk⟩ := DataW.trod_int Try.underlying3 t0
  obtain ⟨u1, e1, _, w1⟩ := DataW.trod_int Try.underlying24 t1
  obtain ⟨s, e2, _, ws⟩ := DataW.trod_int Try.underlying3 t2
  obtain ⟨u3, e3, _, w3⟩ := DataW.trod_int Try.underlying24 t3
  obtain ⟨A4, l4, c4, e4, r4, q4, m4⟩ := bytes_of1 Try.underlying37 Try.underlying5 (by kernel_rfl) t4
  simp only [List.cons.injEq, and_true] at e0 e1 e2 e3
  subst e0 e1 e2 e3 e4
  obtain ⟨u1', rfl⟩ := wf64 w1
  obtain ⟨u3', rfl⟩ := wf64 w3
  exact ⟨⟨k, u1', s, u3', l4⟩, A4, c4, rfl, r4, q4, m4⟩
end Go.Proofs.Ytmpmibcdpkolkaa
