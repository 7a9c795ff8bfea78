/- Texts of this claim, joined: Sup4Q, SupPlainQ, EncPlainQ, Snap4Q, SeqOkQ, RegionInQ, RegionWQ, Snap5Q, Snap6Q, Snap7Q, SnapPlainQ, Wal1Q, Wal2Q, Wal3Q, PgsQ, Wal4Q, Wal5Q, Wal6Q, WalPlainQ, Wal7Q, WalRdQ, Wal8Q, Wal9Q, WalScanPQ. -/
import Derived.Test.YtchcmklelmlbgaaGreatStoreCrashesB
import Derived.Test.YtchcmklelmlbgaaGreatStoreCrashesA
import Derived.OrdersIn
import Derived.RangeFuncCalls
import Derived.OwnWalkIn
import Derived.Deep.DeepCutAuto
import Derived.Deep.RegionLaw
namespace Go.Proofs.YtchcmklelmlbgaaGreat.Sup
open Go.RowKit
open Go.Proofs.YtchcmklelmlbgaaGreat.Geom
open Go.Proofs.YtchcmklelmlbgaaGreat.Disk (St DAt Did flush_any read_any New8 Told8)
open Go.Proofs.YtchcmklelmlbgaaGreat.Sec (X SymAt)
set_option linter.unusedVariables false
set_option maxRecDepth 100000
def after1 (o : Option SV) (x : SV) : Bool := match o with | none => true | some b => decide (b.life < x.life)
def best (o p : Option SV) : Option SV := match p with | none => o | some x => if after1 o x = true then some x else o
def oV (o : Option SV) : SV := o.getD SV.zero
def rdV : Option SV -> Value
 | some x => .tuple #[x.v, .int .i64 0]
 | none => .tuple #[SV.zero.v, .int .i64 11]
theorem read1_any (x : SV) (o : Option SV) (gF gB : Nat) (w : World) (hF : Box w gF (.bool o.isSome)) (hB : Blk w gB (scell (oV o).life (oV o).base (oV o).gen)) :
   Calls Tryz.prog 88 #[x.v, .pointer (some ⟨gF, 0, none⟩), .pointer (some ⟨gB, 0, none⟩)] w fun e w' => e = .returned (.bool (after1 o x)) /\ Below w.heap.size w w' := by
 have b0 := b1alloc w (.cells (scell x.life x.base x.gen).toArray 90)
 obtain ⟨z0, z1, z2⟩ := gthree (Blk.new w (scell x.life x.base x.gen) 90)
 obtain ⟨y0, y1, y2⟩ := gthree (hB.on b0)
 have f0 := (hF.on' b0).cell
 unfold SV.v
 cases o with
 | none =>
   rw [show (Option.isSome (none : Option SV)) = false from rfl] at f0
   go_enter Tryz.func88, Tryz.ntmps88
   go_wp2
   go_ret
   exact ⟨rfl, b0⟩
 | some b =>
   rw [show (Option.isSome (some b)) = true from rfl] at f0
   rw [show oV (some b) = b from rfl] at y0 y1 y2
   have hd : decide (b.life.toNat < x.life.toNat) = after1 (some b) x := by
     simp [after1, UInt64.lt_iff_toNat_lt]
   obtain ⟨q, hq⟩ : ∃ q, q = after1 (some b) x := ⟨_, rfl⟩
   rw [<- hq] at hd ⊢
   have Hd := Lib.hid hd
   clear hq hd
   go_enter Tryz.func88, Tryz.ntmps88
   go_wp2
   go_ret
   exact ⟨by rw [<- Hd.out]; rfl, b0⟩
theorem best_no {o : Option SV} {x : SV} (h : after1 o x = false) : best o (some x) = o := by simp [best, h]
theorem best_yes {o : Option SV} {x : SV} (h : after1 o x = true) : best o (some x) = some x := by simp [best, h]
theorem stored {W : World} {hF hB h0 : Nat} {u a b c : Value} {G : List Value} (h1 : Box W hF u) (h2 : Blk W hB [a, b, c]) (h3 : Blk W h0 G) (n1 : hF ≠ hB) (n2 : hF ≠ h0) (n3 : hB ≠ h0) (x y z v : Value) :
   Box ((((W.setCell ⟨hB, 0, none⟩ x).setCell ⟨hB, 1, none⟩ y).setCell ⟨hB, 2, none⟩ z).setCell ⟨hF, 0, none⟩ v) hF v /\ Blk ((((W.setCell ⟨hB, 0, none⟩ x).setCell ⟨hB, 1, none⟩ y).setCell ⟨hB, 2, none⟩ z).setCell ⟨hF, 0, none⟩ v) hB [x, y, z] /\ Blk ((((W.setCell ⟨hB, 0, none⟩ x).setCell ⟨hB, 1, none⟩ y).setCell ⟨hB, 2, none⟩ z).setCell ⟨hF, 0, none⟩ v) h0 G := by
 have ne : some hF ≠ some hB := fun e => n1 (by injection e)
 refine ⟨(((h1.kept (grown_set _ ⟨hB, 0, none⟩ x) ne).kept (grown_set _ ⟨hB, 1, none⟩ y) ne).kept (grown_set _ ⟨hB, 2, none⟩ z) ne).set v, ?_, ?_⟩
 · exact Blk.other (((h2.set (k := 0) x).set (k := 1) y).set (k := 2) z) v (fun e => n1 e.symm)
 · exact Blk.other (Blk.other (Blk.other (Blk.other h3 x (fun e => n3 e.symm)) y (fun e => n3 e.symm)) z (fun e => n3 e.symm)) v (fun e => n2 e.symm)
set_option maxHeartbeats 2000000 in
theorem readSup_any (g : Nat) (fp : List Nat) (s : St) (gS bS : Nat) (l : List (List UInt8)) (ga gd gl : Int) (w : World) (hG : Gb ga gd gl) (h : Both w g fp s gS bS l) (hl : l.length <= 1000000) (hs : s.sz <= 90000000) (hf : srightF s ga gd gl = 0) (hd : s.down = false) :
   Calls Tryz.prog 51 #[.pointer (some ⟨g, 0, none⟩), .pointer (some ⟨gS, 0, none⟩), gv ga gd gl] w fun e w' => e = .returned (rdV (best (best none (atR l s ga gd gl 2)) (atR l s ga gd gl 3))) /\ Below w.heap.size w w' := by
 have FG := (Blk.new w (gcell ga gd gl) 23).alloc (.cells #[.int .u64 0, .int .i64 0, .int .u64 0] 90)
 have FX : Blk ((w.alloc (.cells (gcell ga gd gl).toArray 23)).alloc (.cells #[.int .u64 0, .int .i64 0, .int .u64 0] 90)) (w.heap.size + 1) [.int .u64 0, .int .i64 0, .int .u64 0] := by simpa using Blk.new (w.alloc (.cells (gcell ga gd gl).toArray 23)) [.int .u64 0, .int .i64 0, .int .u64 0] 90
 have b0 := b2alloc w (.cells (gcell ga gd gl).toArray 23) (.cells #[.int .u64 0, .int .i64 0, .int .u64 0] 90)
 obtain ⟨z0, z1, z2⟩ := gthree FG
 have HB := Lib.hid (both_any g fp s gS ga gd gl _ hG (h.disk.on b0))
 rw [hf] at HB
 have hA2 := fun W (bW : Below w.heap.size w W) => at_any g fp s gS bS l ga gd gl 2 W hG (h.on bW) hl hs hf hd (by omega) (by omega)
 have hA3 := fun W (bW : Below w.heap.size w W) => at_any g fp s gS bS l ga gd gl 3 W hG (h.on bW) hl hs hf hd (by omega) (by omega)
 obtain ⟨o2, ho2⟩ : ∃ o, o = atR l s ga gd gl 2 := ⟨_, rfl⟩
 obtain ⟨o3, ho3⟩ : ∃ o, o = atR l s ga gd gl 3 := ⟨_, rfl⟩
 rw [<- ho2] at hA2 ⊢
 rw [<- ho3] at hA3 ⊢
 have HA2 := Lib.hid hA2
 have HA3 := Lib.hid hA3
 have HP := Lib.hid (fun W => places_any W)
 have FGh := Lib.hid FG
 have FXh := Lib.hid FX
 have i0 : ∀ W, (Instr.index 123 (.agg #[.int .i64 2, .int .i64 3]) (.int .i64 0)).run Tryz.prog W = .ok (.int .i64 2) W := fun W => by kernel_rfl
 have i1 : ∀ W, (Instr.index 123 (.agg #[.int .i64 2, .int .i64 3]) (.int .i64 1)).run Tryz.prog W = .ok (.int .i64 3) W := fun W => by kernel_rfl
 have hmf : ∀ (x : Array Value) (w : World), Sem.run Tryz.prog (callFunc 88 x) w = .ok (.enter 88 x) w := by intro x w; simp [go_sem]
 clear hA2 hA3 ho2 ho3 FG FX
 go_enter Tryz.func51, Tryz.ntmps51
 go_wp2
 go_step3
 go_wp2_with (first
   | (go_at_call 87; refine HB.out.mono ?_; rintro e w1 ⟨rfl, b1⟩; obtain ⟨y0, y1, y2⟩ := gthree (FGh.out.on b1); have b01 := bt b0 b1)
   | (go_at_call 72; refine (HP.out _).mono ?_; rintro e w2 ⟨rfl, b2⟩))
 have b02 := bt b01 (b1alloc w1 (.cells #[.bool false] 4))
 have hF0 := Box.new w1 4 (.bool false)
 have hB0 := (FXh.out.on b1).on (b1alloc w1 (.cells #[.bool false] 4))
 have hG0 := (FGh.out.on b1).on (b1alloc w1 (.cells #[.bool false] 4))
 obtain ⟨w2, hw2⟩ : ∃ q, q = w1.alloc (.cells #[.bool false] 4) := ⟨_, rfl⟩
 obtain ⟨hF, hhF⟩ : ∃ q, q = w1.heap.size := ⟨_, rfl⟩
 obtain ⟨hB, hhB⟩ : ∃ q, q = w.heap.size + 1 := ⟨_, rfl⟩
 rw [<- hw2] at hF0 hB0 hG0 b02 ⊢
 rw [<- hhF] at hF0 ⊢
 rw [<- hhB] at hB0 ⊢
 have hlt : w.heap.size <= hF /\ w.heap.size <= hB /\ hF ≠ hB /\ hF ≠ w.heap.size /\ hB ≠ w.heap.size := by have h1 := (FXh.out.on b1).lt; refine ⟨?_, ?_, ?_, ?_, ?_⟩ <;> omega
 clear hw2 hhF hhB b1 b01 y0 y1 y2 z0 z1 z2
 go_step3
 go_wp2_with (go_at_call 72; refine (HP.out _).mono ?_; rintro e w3 ⟨rfl, b3⟩)
 have b03 := bt b02 b3
 have hF3 := hF0.on' b3
 have hB3 := hB0.on b3
 have hG3 := hG0.on b3
 clear b3 b02 hF0 hB0 hG0 b0
 go_loopw [26] (fun i wr => ∃ k : Nat, k <= 2 /\ i = .int .i64 k /\ Below w.heap.size w wr /\ ∃ o : Option SV, ((k = 0 -> o = none) /\ (k = 1 -> o = best none o2) /\ (k = 2 -> o = best (best none o2) o3)) /\ Box wr hF (.bool o.isSome) /\ Blk wr hB (scell (oV o).life (oV o).base (oV o).gen) /\ Blk wr w.heap.size (gcell ga gd gl)) (fun i _ => 2 - (intOf i).toNat)
 case atStart => exact ⟨0, by omega, rfl, b03, none, ⟨fun _ => rfl, fun h => by omega, fun h => by omega⟩, hF3, hB3, hG3⟩
 case round =>
   obtain ⟨k, hk, rfl, bel, o, ho, hFb, hBb, hGb⟩ := hrel
   clear hF3 hB3 hG3 b03
   have fF := hFb.free
   have fB := hBb.free
   rcases (show k = 0 \/ k = 1 \/ k = 2 by omega) with rfl | rfl | rfl
   · obtain rfl := ho.1 rfl
     have H := Lib.hid (HA2.out wr bel)
     obtain ⟨c0, c1, c2⟩ := gthree hGb
     obtain hp | ⟨x, hp⟩ : o2 = none \/ ∃ x, o2 = some x := by cases o2; exact .inl rfl; exact .inr ⟨_, rfl⟩
     · rw [hp] at H
       have H' := H.out
       unfold atV at H'
       have H'' := Lib.hid H'
       have hb := Lib.hid (show (best none o2) = (none : Option SV) by rw [hp]; rfl)
       have Hp := Lib.hid hp
       clear H H' hp
       go_wp2_with (go_at_call 89; refine H''.out.mono ?_; rintro e w4 ⟨rfl, b4⟩; unfold SV.v)
       case roundEnd =>
         have b5 := bt b4 (b1alloc w4 (.cells (scell SV.zero.life SV.zero.base SV.zero.gen).toArray 90))
         exact ⟨⟨1, by omega, rfl, (bt bel b5), (best none o2), ⟨fun h => by omega, fun _ => rfl, fun h => by omega⟩, by rw [hb.out]; exact (hFb.on' b5), by rw [hb.out]; exact (hBb.on b5), (hGb.on b5)⟩, by simp [intOf]⟩
     · rw [hp] at H
       have H' := H.out
       unfold atV at H'
       have H'' := Lib.hid H'
       cases hq : after1 (none : Option SV) x with
       | false =>
         have hb := Lib.hid (show (best none o2) = (none : Option SV) by rw [hp]; exact best_no hq)
         have Hp := Lib.hid hp
         clear H H' hp
         go_wp2_with (first
           | (go_at_call 89; refine H''.out.mono ?_; rintro e w4 ⟨rfl, b4⟩; unfold SV.v; have b5 := bt b4 (b1alloc w4 (.cells (scell x.life x.base x.gen).toArray 90)); have fF5 := (hFb.on' b5).free; have fB5 := (hBb.on b5).free; obtain ⟨x0, x1, x2⟩ := gthree (Blk.new w4 (scell x.life x.base x.gen) 90))
           | (go_at_call 88; refine (read1_any x _ hF hB _ (hFb.on' b5) (hBb.on b5)).mono ?_; rintro e w6 ⟨rfl, b6⟩; rw [hq]; have b56 := bt b5 b6; have hF6 := hFb.on' b56; have hB6 := hBb.on b56; have fF6 := hF6.free; have fB6 := hB6.free; obtain ⟨v0, v1, v2⟩ := gthree ((Blk.new w4 (scell x.life x.base x.gen) 90).on b6); obtain ⟨p0, p1, p2⟩ := gthree hB6; have pF := hF6.cell))
         case roundEnd => exact ⟨⟨1, by omega, rfl, (bt bel b56), (best none o2), ⟨fun h => by omega, fun _ => rfl, fun h => by omega⟩, by rw [hb.out]; exact (hFb.on' b56), by rw [hb.out]; exact (hBb.on b56), (hGb.on b56)⟩, by simp [intOf]⟩
       | true =>
         have hb := Lib.hid (show (best none o2) = some x by rw [hp]; exact best_yes hq)
         have Hp := Lib.hid hp
         clear H H' hp
         go_wp2_with (first
           | (go_at_call 89; refine H''.out.mono ?_; rintro e w4 ⟨rfl, b4⟩; unfold SV.v; have b5 := bt b4 (b1alloc w4 (.cells (scell x.life x.base x.gen).toArray 90)); have fF5 := (hFb.on' b5).free; have fB5 := (hBb.on b5).free; obtain ⟨x0, x1, x2⟩ := gthree (Blk.new w4 (scell x.life x.base x.gen) 90))
           | (go_at_call 88; refine (read1_any x _ hF hB _ (hFb.on' b5) (hBb.on b5)).mono ?_; rintro e w6 ⟨rfl, b6⟩; rw [hq]; have b56 := bt b5 b6; have hF6 := hFb.on' b56; have hB6 := hBb.on b56; have fF6 := hF6.free; have fB6 := hB6.free; obtain ⟨v0, v1, v2⟩ := gthree ((Blk.new w4 (scell x.life x.base x.gen) 90).on b6); obtain ⟨p0, p1, p2⟩ := gthree hB6; have pF := hF6.cell))
         case roundEnd =>
           obtain ⟨q1, q2, q3⟩ := stored hF6 hB6 (hGb.on b56) hlt.2.2.1 hlt.2.2.2.1 hlt.2.2.2.2 (.int .u64 (x.life.toNat : Int)) (.int .i64 x.base) (.int .u64 (x.gen.toNat : Int)) (.bool true)
           exact ⟨⟨1, by omega, rfl, bset (bset (bset (bset (bt bel b56) hlt.2.1 _) hlt.2.1 _) hlt.2.1 _) hlt.1 _, (best none o2), ⟨fun h => by omega, fun _ => rfl, fun h => by omega⟩, by rw [hb.out]; exact q1, by rw [hb.out]; exact q2, q3⟩, by simp [intOf]⟩
   · obtain rfl := ho.2.1 rfl
     have H := Lib.hid (HA3.out wr bel)
     obtain ⟨c0, c1, c2⟩ := gthree hGb
     obtain hp | ⟨x, hp⟩ : o3 = none \/ ∃ x, o3 = some x := by cases o3; exact .inl rfl; exact .inr ⟨_, rfl⟩
     · rw [hp] at H
       have H' := H.out
       unfold atV at H'
       have H'' := Lib.hid H'
       have hb := Lib.hid (show (best (best none o2) o3) = (best none o2) by rw [hp]; rfl)
       have Hp := Lib.hid hp
       clear H H' hp
       go_wp2_with (go_at_call 89; refine H''.out.mono ?_; rintro e w4 ⟨rfl, b4⟩; unfold SV.v)
       case roundEnd =>
         have b5 := bt b4 (b1alloc w4 (.cells (scell SV.zero.life SV.zero.base SV.zero.gen).toArray 90))
         exact ⟨⟨2, by omega, rfl, (bt bel b5), (best (best none o2) o3), ⟨fun h => by omega, fun h => by omega, fun _ => rfl⟩, by rw [hb.out]; exact (hFb.on' b5), by rw [hb.out]; exact (hBb.on b5), (hGb.on b5)⟩, by simp [intOf]⟩
     · rw [hp] at H
       have H' := H.out
       unfold atV at H'
       have H'' := Lib.hid H'
       cases hq : after1 (best none o2) x with
       | false =>
         have hb := Lib.hid (show (best (best none o2) o3) = (best none o2) by rw [hp]; exact best_no hq)
         have Hp := Lib.hid hp
         clear H H' hp
         go_wp2_with (first
           | (go_at_call 89; refine H''.out.mono ?_; rintro e w4 ⟨rfl, b4⟩; unfold SV.v; have b5 := bt b4 (b1alloc w4 (.cells (scell x.life x.base x.gen).toArray 90)); have fF5 := (hFb.on' b5).free; have fB5 := (hBb.on b5).free; obtain ⟨x0, x1, x2⟩ := gthree (Blk.new w4 (scell x.life x.base x.gen) 90))
           | (go_at_call 88; refine (read1_any x _ hF hB _ (hFb.on' b5) (hBb.on b5)).mono ?_; rintro e w6 ⟨rfl, b6⟩; rw [hq]; have b56 := bt b5 b6; have hF6 := hFb.on' b56; have hB6 := hBb.on b56; have fF6 := hF6.free; have fB6 := hB6.free; obtain ⟨v0, v1, v2⟩ := gthree ((Blk.new w4 (scell x.life x.base x.gen) 90).on b6); obtain ⟨p0, p1, p2⟩ := gthree hB6; have pF := hF6.cell))
         case roundEnd => exact ⟨⟨2, by omega, rfl, (bt bel b56), (best (best none o2) o3), ⟨fun h => by omega, fun h => by omega, fun _ => rfl⟩, by rw [hb.out]; exact (hFb.on' b56), by rw [hb.out]; exact (hBb.on b56), (hGb.on b56)⟩, by simp [intOf]⟩
       | true =>
         have hb := Lib.hid (show (best (best none o2) o3) = some x by rw [hp]; exact best_yes hq)
         have Hp := Lib.hid hp
         clear H H' hp
         go_wp2_with (first
           | (go_at_call 89; refine H''.out.mono ?_; rintro e w4 ⟨rfl, b4⟩; unfold SV.v; have b5 := bt b4 (b1alloc w4 (.cells (scell x.life x.base x.gen).toArray 90)); have fF5 := (hFb.on' b5).free; have fB5 := (hBb.on b5).free; obtain ⟨x0, x1, x2⟩ := gthree (Blk.new w4 (scell x.life x.base x.gen) 90))
           | (go_at_call 88; refine (read1_any x _ hF hB _ (hFb.on' b5) (hBb.on b5)).mono ?_; rintro e w6 ⟨rfl, b6⟩; rw [hq]; have b56 := bt b5 b6; have hF6 := hFb.on' b56; have hB6 := hBb.on b56; have fF6 := hF6.free; have fB6 := hB6.free; obtain ⟨v0, v1, v2⟩ := gthree ((Blk.new w4 (scell x.life x.base x.gen) 90).on b6); obtain ⟨p0, p1, p2⟩ := gthree hB6; have pF := hF6.cell))
         case roundEnd =>
           obtain ⟨q1, q2, q3⟩ := stored hF6 hB6 (hGb.on b56) hlt.2.2.1 hlt.2.2.2.1 hlt.2.2.2.2 (.int .u64 (x.life.toNat : Int)) (.int .i64 x.base) (.int .u64 (x.gen.toNat : Int)) (.bool true)
           exact ⟨⟨2, by omega, rfl, bset (bset (bset (bset (bt bel b56) hlt.2.1 _) hlt.2.1 _) hlt.2.1 _) hlt.1 _, (best (best none o2) o3), ⟨fun h => by omega, fun h => by omega, fun _ => rfl⟩, by rw [hb.out]; exact q1, by rw [hb.out]; exact q2, q3⟩, by simp [intOf]⟩
   · obtain rfl := ho.2.2 rfl
     have cF := hFb.cell
     obtain ⟨p0, p1, p2⟩ := gthree hBb
     obtain ⟨O, hO⟩ : ∃ O, O = best (best none o2) o3 := ⟨_, rfl⟩
     rw [<- hO] at cF p0 p1 p2
     have HO := Lib.hid hO
     clear hO
     cases O with
     | none =>
       rw [show (Option.isSome (none : Option SV)) = false from rfl] at cF
       go_wp2
       try rw [Exit.noGoto_ret]
       refine bodyPost_ret (v := rdV none) (by simp [results, Tryz.results51, go_sem, rdV, SV.v, SV.zero, sv, *]) rfl ⟨by rw [<- HO.out], ?_⟩
       exact bset (bset (bset bel hlt.2.1 _) hlt.2.1 _) hlt.2.1 _
     | some x =>
       rw [show (Option.isSome (some x)) = true from rfl] at cF
       rw [show oV (some x) = x from rfl] at p0 p1 p2
       go_wp2
       try rw [Exit.noGoto_ret]
       refine bodyPost_ret (v := rdV (some x)) (by simp [results, Tryz.results51, go_sem, rdV, SV.v, sv, *]) rfl ⟨by rw [<- HO.out], ?_⟩
       exact bset (bset (bset bel hlt.2.1 _) hlt.2.1 _) hlt.2.1 _
end Go.Proofs.YtchcmklelmlbgaaGreat.Sup
namespace Go.Proofs.YtchcmklelmlbgaaGreat.Sup
open Go.RowKit
open Go.Proofs.YtchcmklelmlbgaaGreat.Disk (St write flush read kept burn restart fates fate keptAt new zero512 arm)
open Go.Proofs.YtchcmklelmlbgaaGreat.Sec (X text text_len sumOf sumOf_len sumAfter ckS checkOf blankB rightF dec_back dec_blank X0 mark of_text place_of reads)
set_option linter.unusedVariables false
theorem ckS_own' (l : List (List UInt8)) (T : List UInt8) (hT : T.length = 504) : ckS (sumAfter l T) (T ++ sumOf l T) = true := by
 unfold ckS checkOf sumAfter sumOf
 rw [List.take_left' hT, List.drop_left' hT]
 by_cases h : T ∈ l
 · simp [h, R1.sameB_self]
 · simp [h, List.idxOf_append, R1.sameB_self]
theorem ckS_more {l : List (List UInt8)} {b : List UInt8} (T : List UInt8) (h : ckS l b = true) : ckS (sumAfter l T) b = true := by
 unfold ckS checkOf at *
 unfold sumAfter
 split
 · exact h
 · rw [Bool.and_eq_true] at h ⊢
   have h1 : b.take 504 ∈ l := of_decide_eq_true h.1
   refine ⟨by simp [h1], ?_⟩
   rw [List.idxOf_append, if_pos h1]; exact h.2
def Good (l : List (List UInt8)) (p : Int) (x : X) (b : List UInt8) : Prop := rightF p x = 0 /\ ckS l b = true /\ ∃ s, s.length = 8 /\ b = text p x ++ s
theorem Good.dec {l : List (List UInt8)} {p : Int} {x : X} {b : List UInt8} (h : Good l p x b) : Sec.decode (ckS l b) p b = (x, 0) := by
 obtain ⟨h1, h2, s, hs, rfl⟩ := h
 rw [h2]; exact dec_back h1 s hs
theorem Good.more {l : List (List UInt8)} {p : Int} {x : X} {b : List UInt8} (h : Good l p x b) (T : List UInt8) : Good (sumAfter l T) p x b := ⟨h.1, ckS_more T h.2.1, h.2.2⟩
theorem Good.made (l : List (List UInt8)) {p : Int} {x : X} (h : rightF p x = 0) : Good (sumAfter l (text p x)) p x (text p x ++ sumOf l (text p x)) := ⟨h, ckS_own' l _ (text_len _ _), _, sumOf_len _ _, rfl⟩
theorem dec_zero (ck : Bool) (p : Int) : Sec.decode ck p zero512 = (X0, 7) := dec_blank Disk.zero512_len (decide_eq_true rfl)
theorem mem_after {l : List (List UInt8)} {T U : List UInt8} : U ∈ sumAfter l T ↔ U ∈ l \/ U = T := by
 unfold sumAfter
 split
 · rename_i h; exact ⟨.inl, fun e => e.elim id (fun e => e ▸ h)⟩
 · simp
theorem dec_sound {l : List (List UInt8)} {p : Int} {b : List UInt8} {x : X} (h : Sec.decode (ckS l b) p b = (x, 0)) : rightF p x = 0 /\ text p x ∈ l := by
 unfold Sec.decode at h
 split at h
 · cases h
 · split at h
   · cases h
   · split at h
     · rename_i y hr
       split at h
       · rename_i hc
         cases h
         unfold reads at hr
         split at hr
         · rename_i h3
           injection hr with hr
           subst hr
           refine ⟨h3.2.1, ?_⟩
           rw [h3.2.2]
           unfold ckS checkOf at hc
           rw [Bool.and_eq_true] at hc
           exact of_decide_eq_true hc.1
         · cases hr
       · cases h
     · cases h
theorem text_inj {p q : Int} {x y : X} (h : rightF p x = 0) (h' : rightF q y = 0) (e : text p x = text q y) : x = y := by
 have h1 := (of_text h).2
 have h2 := (of_text h').2
 rw [e, h2] at h1; exact h1.symm
structure UpN (s : St) (n : Nat) : Prop where
 size : s.size = n
 pend : s.pend = []
 down : s.down = false
 fuse : s.fuse < 0
theorem up_new (n : Nat) : UpN (new n) n := ⟨rfl, rfl, rfl, by simp [new]⟩
theorem wf_cases {s : St} {n : Nat} (h2 : s.size = n) (hp : s.pend = []) (hd : s.down = false) {p : Int} (h0 : 0 <= p) (h1 : p < n) {b : List UInt8} (hb : b.length = 512) :
   ((wf s p b).2 = 12 /\ (wf s p b).1.down = true /\ (wf s p b).1.pend = [(p.toNat, b)] /\ (wf s p b).1.all = s.all /\ (wf s p b).1.size = n /\ ¬ s.fuse < 0) \/
   ((wf s p b).2 = 0 /\ (wf s p b).1.down = false /\ (wf s p b).1.pend = [] /\ (wf s p b).1.all = s.all ++ [(p.toNat, b)] /\ (wf s p b).1.size = n /\ (s.fuse < 0 -> (wf s p b).1.fuse < 0)) := by
 obtain ⟨size, pend, all, fuse, calls, down⟩ := s
 simp only at h2 hp hd
 subst h2 hp hd
 have hw : write ⟨size, [], all, fuse, calls, false⟩ p b = burn ⟨size, [(p.toNat, b)], all, fuse, calls, false⟩ := by
   unfold write; rw [if_neg (by simp), if_neg (by simp; omega), if_neg (by simpa using hb)]; rfl
 unfold wf
 rw [hw]
 by_cases h0 : fuse = 0
 · subst h0
   simp [burn]
 · by_cases h1 : 0 < fuse
   · have hb1 : burn ⟨size, [(p.toNat, b)], all, fuse, calls, false⟩ = (⟨size, [(p.toNat, b)], all, fuse - 1, calls + 1, false⟩, 0) := by unfold burn; simp [h0, h1]
     rw [hb1]
     simp only [if_true]
     by_cases h3 : fuse - 1 = 0
     · have : flush ⟨size, [(p.toNat, b)], all, fuse - 1, calls + 1, false⟩ = (⟨size, [(p.toNat, b)], all, fuse - 1, calls + 1 + 1, true⟩, 12) := by unfold flush burn; simp [h3]
       rw [this]; simp; omega
     · have : flush ⟨size, [(p.toNat, b)], all, fuse - 1, calls + 1, false⟩ = (⟨size, [], all ++ [(p.toNat, b)], fuse - 1 - 1, calls + 1 + 1, false⟩, 0) := by
         have h4 : 0 < fuse - 1 := by omega
         have h5 : burn ⟨size, [(p.toNat, b)], all, fuse - 1, calls + 1, false⟩ = (⟨size, [(p.toNat, b)], all, fuse - 1 - 1, calls + 1 + 1, false⟩, 0) := by unfold burn; rw [if_neg h3, if_pos h4]
         unfold flush; rw [if_neg (by simp), h5]; rfl
       rw [this]; simp; omega
   · have hb1 : burn ⟨size, [(p.toNat, b)], all, fuse, calls, false⟩ = (⟨size, [(p.toNat, b)], all, fuse, calls + 1, false⟩, 0) := by unfold burn; simp [h0, h1]
     rw [hb1]
     simp only [if_true]
     have : flush ⟨size, [(p.toNat, b)], all, fuse, calls + 1, false⟩ = (⟨size, [], all ++ [(p.toNat, b)], fuse, calls + 1 + 1, false⟩, 0) := by unfold flush burn; simp [h0, h1]
     rw [this]; simp
theorem UpN.wf {s : St} {n : Nat} (h : UpN s n) {p : Int} (h0 : 0 <= p) (h1 : p < n) {b : List UInt8} (hb : b.length = 512) : (wf s p b).2 = 0 /\ UpN (wf s p b).1 n /\ (wf s p b).1.all = s.all ++ [(p.toNat, b)] := by
 rcases wf_cases h.size h.pend h.down h0 h1 hb with ⟨_, _, _, _, _, h6⟩ | ⟨h1, h2, h3, h4, h5, h6⟩
 · exact absurd h.fuse h6
 · exact ⟨h1, ⟨h5, h3, h2, h6 h.fuse⟩, h4⟩
theorem UpN.read {s : St} {n : Nat} (h : UpN s n) {p : Int} (h0 : 0 <= p) (h1 : p < n) : read s p = (kept s.all p.toNat, 0) := by
 unfold Disk.read
 rw [if_neg (by rw [h.down]; simp), if_neg (by rw [h.size]; omega), h.pend, List.append_nil]
theorem kept_after (l : List Disk.Wr) (p : Nat) (b : List UInt8) : kept (l ++ [(p, b)]) p = b := by rw [Disk.kept_snoc]; simp
theorem kept_beside (l : List Disk.Wr) {p q : Nat} (b : List UInt8) (h : q ≠ p) : kept (l ++ [(q, b)]) p = kept l p := by rw [Disk.kept_snoc]; simp [h]
theorem restart_one {s : St} {n q : Nat} {b : List UInt8} (h2 : s.size = n) (hp : s.pend = [(q, b)] \/ s.pend = []) (keep : List Int) (t a : Int) :
   UpN (restart s keep t a) n /\ ((restart s keep t a).all = s.all \/ ∃ z, (restart s keep t a).all = s.all ++ [(q, z)]) /\ (s.pend = [] -> (restart s keep t a).all = s.all) := by
 refine ⟨⟨h2, rfl, rfl, by simp [restart]⟩, ?_, fun h => by unfold restart; rw [h]; rfl⟩
 unfold restart
 rcases hp with hp | hp
 · rw [hp]
   simp only [fates]
   unfold fate
   split
   · exact .inr ⟨_, rfl⟩
   · split
     · exact .inr ⟨_, rfl⟩
     · exact .inl rfl
 · rw [hp]; exact .inl rfl
theorem isSup_own {ga gd gl : Int} {life : UInt64} {base : Int} {gen : UInt64} : isSup ga gd gl (splace life) (sx ga gd gl life base gen, 0) = true := by
 simp [isSup, sx, R1.sameB_self]
theorem isSup_fault {ga gd gl p : Int} {d : X × Int} (h : d.2 ≠ 0) : isSup ga gd gl p d = false := by simp [isSup, h]
theorem UpN.at_own {s : St} {n : Nat} (h : UpN s n) {l : List (List UInt8)} {ga gd gl : Int} {life : UInt64} {base : Int} {gen : UInt64} (hn : splace life < n) (hg : Good l (splace life) (sx ga gd gl life base gen) (kept s.all (splace life).toNat)) : atR l s ga gd gl (splace life) = some ⟨life, base, gen⟩ := by
 have := splace_ok life
 unfold atR Sup.dec
 rw [h.read (by omega) hn]
 simp only []
 rw [hg.dec, if_pos isSup_own]; rfl
theorem UpN.at_zero {s : St} {n : Nat} (h : UpN s n) {l : List (List UInt8)} {ga gd gl p : Int} (h0 : 0 <= p) (hn : p < n) (hg : kept s.all p.toNat = zero512) : atR l s ga gd gl p = none := by
 unfold atR Sup.dec
 rw [h.read h0 hn]
 simp only []
 rw [hg, dec_zero, isSup_fault (by simp)]; rfl
theorem splace_next (life : UInt64) : splace (life + 1) = 5 - splace life := by
 unfold splace
 have h1 : (life + 1).toNat = (life.toNat + 1) % 18446744073709551616 := by simp [UInt64.toNat_add]
 rw [h1]; omega
theorem best_first {p q : Int} {f : Int -> Option SV} {x : SV} (hp : 2 <= p /\ p <= 3) (hq : q = 5 - p) (h : f p = some x) (hn : f q = none) : best (best none (f 2)) (f 3) = some x := by
 rcases (show p = 2 \/ p = 3 by omega) with rfl | rfl
 · have : q = 3 := by omega
   subst this; rw [h, hn]; rfl
 · have : q = 2 := by omega
   subst this; rw [h, hn]; rfl
theorem best_later {p q : Int} {f : Int -> Option SV} {x y : SV} (hp : 2 <= p /\ p <= 3) (hq : q = 5 - p) (h : f p = some x) (hn : f q = some y) (hl : x.life < y.life) : best (best none (f 2)) (f 3) = some y := by
 rcases (show p = 2 \/ p = 3 by omega) with rfl | rfl
 · have : q = 3 := by omega
   subst this; rw [h, hn]; simp [best, after1, hl]
 · have : q = 2 := by omega
   subst this
   rw [h, hn]
   have : ¬ y.life < x.life := fun e => by rw [UInt64.lt_iff_toNat_lt] at e hl; omega
   simp [best, after1, this]
theorem UpN.clr {s : St} {n : Nat} (h : UpN s n) (hn : 4 <= n) : (clr s).2 = 0 /\ UpN (clr s).1 n /\ (clr s).1.all = s.all ++ [(2, zero512), (3, zero512)] /\ (clr s).1.sz <= s.sz + 5 := by
 obtain ⟨size, pend, all, fuse, calls, down⟩ := s
 obtain ⟨h1, h2, h3, h4⟩ := h
 simp only at h1 h2 h3 h4
 subst h1 h2 h3
 have f0 : ¬ fuse = 0 := by omega
 have f1 : ¬ 0 < fuse := by omega
 have e1 : write ⟨size, [], all, fuse, calls, false⟩ 2 zero512 = (⟨size, [(2, zero512)], all, fuse, calls + 1, false⟩, 0) := by
   unfold write; rw [if_neg (by simp), if_neg (by simp; omega), if_neg (by simp [Disk.zero512_len])]; unfold burn; simp [f0, f1]
 have e2 : write ⟨size, [(2, zero512)], all, fuse, calls + 1, false⟩ 3 zero512 = (⟨size, [(2, zero512), (3, zero512)], all, fuse, calls + 1 + 1, false⟩, 0) := by
   unfold write; rw [if_neg (by simp), if_neg (by simp; omega), if_neg (by simp [Disk.zero512_len])]; unfold burn; simp [f0, f1]
 have e3 : flush ⟨size, [(2, zero512), (3, zero512)], all, fuse, calls + 1 + 1, false⟩ = (⟨size, [], all ++ [(2, zero512), (3, zero512)], fuse, calls + 1 + 1 + 1, false⟩, 0) := by
   unfold flush burn; simp [f0, f1]
 have e : Sup.clr ⟨size, [], all, fuse, calls, false⟩ = (⟨size, [], all ++ [(2, zero512), (3, zero512)], fuse, calls + 1 + 1 + 1, false⟩, 0) := by
   unfold Sup.clr
   rw [e1]
   simp only [if_true]
   rw [e2]
   simp only [if_true]
   exact e3
 rw [e]
 exact ⟨rfl, ⟨rfl, rfl, rfl, h4⟩, rfl, by unfold Disk.St.sz; simp; omega⟩
theorem srightF_new {n : Nat} {ga gd gl : Int} (h : Geom.right ga gd gl = true) {s : St} (hs : s.size = n) (hn : (n : Int) = Geom.sizeOf ga gd gl) : srightF s ga gd gl = 0 := by
 unfold srightF; rw [if_pos ⟨h, by rw [hs, hn]⟩]
theorem sB_good (l : List (List UInt8)) {ga gd gl : Int} {life : UInt64} {base : Int} {gen : UInt64} (h0 : 0 <= base) (h1 : base <= 1073741824) : Good (sL l ga gd gl life base gen) (splace life) (sx ga gd gl life base gen) (sB l ga gd gl life base gen) := Good.made l (sx_right h0 h1)
end Go.Proofs.YtchcmklelmlbgaaGreat.Sup
namespace Go.Proofs.YtchcmklelmlbgaaGreat.Enc
open Go.RowKit
open Go.Proofs.YtchcmklelmlbgaaGreat.Disk (St Wr write flush read kept burn restart fates fate keptAt new zero512 arm)
open Go.Proofs.YtchcmklelmlbgaaGreat.Sec (X text text_len sumOf sumOf_len sumAfter ckS rightF X0)
open Go.Proofs.YtchcmklelmlbgaaGreat.Sup (UpN dec_sound text_inj mem_after ckS_more)
set_option linter.unusedVariables false
def xB (l : List (List UInt8)) (p : Int) (x : X) : List UInt8 := text p x ++ sumOf l (text p x)
theorem xB_len (l : List (List UInt8)) (p : Int) (x : X) : (xB l p x).length = 512 := by unfold xB; rw [List.length_append, text_len, sumOf_len]
abbrev Itm := Int × X
def encs : List Itm -> List (List UInt8) -> St -> List (List UInt8) × St × Int
 | [], l, s => (l, s, 0)
 | i :: r, l, s => if (write s i.1 (xB l i.1 i.2)).2 = 0 then encs r (sumAfter l (text i.1 i.2)) (write s i.1 (xB l i.1 i.2)).1
   else (sumAfter l (text i.1 i.2), write s i.1 (xB l i.1 i.2))
def enf (is : List Itm) (l : List (List UInt8)) (s : St) : List (List UInt8) × St × Int :=
 if (encs is l s).2.2 = 0 then ((encs is l s).1, flush (encs is l s).2.1) else encs is l s
theorem encs_nil (l : List (List UInt8)) (s : St) : encs [] l s = (l, s, 0) := rfl
theorem encs_go {i : Itm} {r : List Itm} {l : List (List UInt8)} {s : St} (h : (write s i.1 (xB l i.1 i.2)).2 = 0) : encs (i :: r) l s = encs r (sumAfter l (text i.1 i.2)) (write s i.1 (xB l i.1 i.2)).1 := by
 show (if _ then _ else _) = _
 rw [if_pos h]
theorem encs_stop {i : Itm} {r : List Itm} {l : List (List UInt8)} {s : St} (h : (write s i.1 (xB l i.1 i.2)).2 ≠ 0) : encs (i :: r) l s = (sumAfter l (text i.1 i.2), write s i.1 (xB l i.1 i.2)) := by
 show (if _ then _ else _) = _
 rw [if_neg h]
theorem sumAfter_len (l : List (List UInt8)) (T : List UInt8) : (sumAfter l T).length <= l.length + 1 := by unfold sumAfter; split <;> simp
theorem encs_lim : ∀ (is : List Itm) (l : List (List UInt8)) (s : St), (encs is l s).1.length <= l.length + is.length /\ (encs is l s).2.1.sz <= s.sz + 2 * is.length
 | [], l, s => by simp [encs_nil]
 | i :: r, l, s => by
   have h1 := sumAfter_len l (text i.1 i.2)
   have h2 := Disk.sz_write s i.1 (xB l i.1 i.2)
   by_cases h : (write s i.1 (xB l i.1 i.2)).2 = 0
   · rw [encs_go h]
     obtain ⟨h3, h4⟩ := encs_lim r (sumAfter l (text i.1 i.2)) (write s i.1 (xB l i.1 i.2)).1
     simp only [List.length_cons]; omega
   · rw [encs_stop h]
     simp only [List.length_cons]; omega
theorem enf_lim (is : List Itm) (l : List (List UInt8)) (s : St) : (enf is l s).1.length <= l.length + is.length /\ (enf is l s).2.1.sz <= s.sz + 2 * is.length + 1 := by
 obtain ⟨h1, h2⟩ := encs_lim is l s
 unfold enf
 split
 · have := Disk.sz_flush (encs is l s).2.1
   simp only []; omega
 · omega
def More (l l' : List (List UInt8)) : Prop := ∀ p x b, Sup.Good l p x b -> Sup.Good l' p x b
theorem More.refl (l : List (List UInt8)) : More l l := fun _ _ _ h => h
theorem More.trans {a b c : List (List UInt8)} (h : More a b) (k : More b c) : More a c := fun p x y g => k p x y (h p x y g)
theorem More.after (l : List (List UInt8)) (T : List UInt8) : More l (sumAfter l T) := fun _ _ _ h => h.more T
structure Put (n : Nat) (is : List Itm) (l : List (List UInt8)) (s : St) (q : List (List UInt8) × St × Int) (m : List Wr) : Prop where
 size : q.2.1.size = n
 all : q.2.1.all = s.all
 pend : q.2.1.pend = s.pend ++ m
 len : m.length <= is.length
 at_ : ∀ k (h : k < m.length) (h' : k < is.length), m[k].1 = is[k].1.toNat /\ Sup.Good q.1 is[k].1 is[k].2 m[k].2
 more : More l q.1
 old : ∀ T ∈ l, T ∈ q.1
 text : ∀ T ∈ q.1, T ∈ l \/ ∃ i ∈ is, T = text i.1 i.2
 res : (q.2.2 = 12 /\ q.2.1.down = true /\ ¬ s.fuse < 0) \/ (q.2.2 = 0 /\ q.2.1.down = false /\ m.length = is.length /\ (s.fuse < 0 -> q.2.1.fuse < 0))
theorem write_cases {s : St} {n : Nat} (h2 : s.size = n) (hd : s.down = false) {p : Int} (h0 : 0 <= p) (h1 : p < n) {b : List UInt8} (hb : b.length = 512) :
   (write s p b).1.size = n /\ (write s p b).1.all = s.all /\ (write s p b).1.pend = s.pend ++ [(p.toNat, b)] /\
   (((write s p b).2 = 12 /\ (write s p b).1.down = true /\ ¬ s.fuse < 0) \/ ((write s p b).2 = 0 /\ (write s p b).1.down = false /\ (s.fuse < 0 -> (write s p b).1.fuse < 0))) := by
 subst h2
 have hw : write s p b = burn { s with pend := s.pend ++ [(p.toNat, b)] } := by
   unfold write; rw [if_neg (by simp [hd]), if_neg (by omega), if_neg (by simpa using hb)]
 rw [hw]
 obtain ⟨e1, e2, e3⟩ := Disk.burn_lists { s with pend := s.pend ++ [(p.toNat, b)] }
 refine ⟨e3, e2, e1, ?_⟩
 unfold burn
 split
 · rename_i h; exact .inl ⟨rfl, rfl, by simp only [] at h; omega⟩
 · split
   · rename_i h; exact .inr ⟨rfl, hd, fun e => by simp only [] at h; omega⟩
   · exact .inr ⟨rfl, hd, fun e => e⟩
theorem flush_cases {s : St} {n : Nat} (h2 : s.size = n) (hd : s.down = false) :
   (flush s).1.size = n /\ (((flush s).2 = 12 /\ (flush s).1.down = true /\ (flush s).1.all = s.all /\ (flush s).1.pend = s.pend /\ ¬ s.fuse < 0) \/ ((flush s).2 = 0 /\ (flush s).1.down = false /\ (flush s).1.all = s.all ++ s.pend /\ (flush s).1.pend = [] /\ (s.fuse < 0 -> (flush s).1.fuse < 0))) := by
 obtain ⟨size, pend, all, fuse, calls, down⟩ := s
 simp only at h2 hd
 subst h2 hd
 by_cases h0 : fuse = 0
 · subst h0; simp [flush, burn]
 · by_cases h1 : 0 < fuse
   · simp [flush, burn, h0, h1]; omega
   · simp [flush, burn, h0, h1]
theorem encs_put {n : Nat} : ∀ (is : List Itm) (l : List (List UInt8)) (s : St), s.size = n -> s.down = false -> (∀ i ∈ is, rightF i.1 i.2 = 0 /\ 0 <= i.1 /\ i.1 < n) -> ∃ m, Put n is l s (encs is l s) m
 | [], l, s, h2, hd, _ => ⟨[], h2, rfl, by rw [encs_nil]; simp, by simp, fun k h => by simp at h, More.refl l, fun T h => h, fun T h => .inl h, .inr ⟨rfl, hd, rfl, fun h => h⟩⟩
 | i :: r, l, s, h2, hd, hi => by
   obtain ⟨hr, hp0, hp1⟩ := hi i (by simp)
   obtain ⟨w1, w2, w3, w4⟩ := write_cases h2 hd hp0 hp1 (xB_len l i.1 i.2)
   have hg : Sup.Good (sumAfter l (text i.1 i.2)) i.1 i.2 (xB l i.1 i.2) := Sup.Good.made l hr
   rcases w4 with ⟨w4, w5, w6⟩ | ⟨w4, w5, w6⟩
   · rw [encs_stop (by rw [w4]; decide)]
     refine ⟨[(i.1.toNat, xB l i.1 i.2)], w1, w2, w3, by simp, ?_, More.after _ _, fun T h => mem_after.2 (.inl h), fun T h => (mem_after.1 h).imp id (fun e => ⟨i, by simp, e⟩), .inl ⟨w4, w5, w6⟩⟩
     intro k h h'
     obtain rfl : k = 0 := by simp at h; exact h
     exact ⟨rfl, hg⟩
   · rw [encs_go w4]
     obtain ⟨m, hm⟩ := encs_put r (sumAfter l (text i.1 i.2)) (write s i.1 (xB l i.1 i.2)).1 w1 w5 (fun j hj => hi j (by simp [hj]))
     refine ⟨(i.1.toNat, xB l i.1 i.2) :: m, hm.size, hm.all.trans w2, by rw [hm.pend, w3]; simp, by simpa using hm.len, ?_, (More.after _ _).trans hm.more, fun T h => hm.old T (mem_after.2 (.inl h)), ?_, ?_⟩
     · intro k h h'
       cases k with
       | zero => exact ⟨rfl, hm.more _ _ _ hg⟩
       | succ k => exact hm.at_ k (by simpa using h) (by simpa using h')
     · intro T h
       rcases hm.text T h with h | ⟨j, hj, e⟩
       · exact (mem_after.1 h).imp id (fun e => ⟨i, by simp, e⟩)
       · exact .inr ⟨j, by simp [hj], e⟩
     · rcases hm.res with ⟨h1, h3, h4⟩ | ⟨h1, h3, h4, h5⟩
       · exact .inl ⟨h1, h3, fun e => h4 (w6 e)⟩
       · exact .inr ⟨h1, h3, by simp [h4], fun e => h5 (w6 e)⟩
structure Enf (n : Nat) (is : List Itm) (l : List (List UInt8)) (s : St) (q : List (List UInt8) × St × Int) (m : List Wr) : Prop where
 size : q.2.1.size = n
 len : m.length <= is.length
 at_ : ∀ k (h : k < m.length) (h' : k < is.length), m[k].1 = is[k].1.toNat /\ Sup.Good q.1 is[k].1 is[k].2 m[k].2
 more : More l q.1
 old : ∀ T ∈ l, T ∈ q.1
 text : ∀ T ∈ q.1, T ∈ l \/ ∃ i ∈ is, T = text i.1 i.2
 res : (q.2.2 = 12 /\ q.2.1.down = true /\ q.2.1.all = s.all /\ q.2.1.pend = s.pend ++ m /\ ¬ s.fuse < 0) \/
   (q.2.2 = 0 /\ q.2.1.down = false /\ q.2.1.all = s.all ++ (s.pend ++ m) /\ q.2.1.pend = [] /\ m.length = is.length /\ (s.fuse < 0 -> q.2.1.fuse < 0))
theorem enf_of {n : Nat} (is : List Itm) (l : List (List UInt8)) (s : St) (h2 : s.size = n) (hd : s.down = false) (hi : ∀ i ∈ is, rightF i.1 i.2 = 0 /\ 0 <= i.1 /\ i.1 < n) : ∃ m, Enf n is l s (enf is l s) m := by
 obtain ⟨m, h⟩ := encs_put is l s h2 hd hi
 refine ⟨m, ?_⟩
 unfold enf
 rcases h.res with ⟨r1, r2, r3⟩ | ⟨r1, r2, r3, r4⟩
 · rw [if_neg (by rw [r1]; decide)]
   exact ⟨h.size, h.len, h.at_, h.more, h.old, h.text, .inl ⟨r1, r2, h.all, h.pend, r3⟩⟩
 · rw [if_pos r1]
   obtain ⟨f1, f2⟩ := flush_cases h.size r2
   refine ⟨f1, h.len, h.at_, h.more, h.old, h.text, ?_⟩
   rcases f2 with ⟨g1, g2, g3, g4, g5⟩ | ⟨g1, g2, g3, g4, g5⟩
   · exact .inl ⟨g1, g2, by rw [g3, h.all], by rw [g4, h.pend], fun e => g5 (r4 e)⟩
   · exact .inr ⟨g1, g2, by rw [g3, h.all, h.pend], g4, r3, fun e => g5 (r4 e)⟩
theorem kept_of (all : List Wr) : ∀ (m : List Wr) (k : Nat) (h : k < m.length), (∀ a b (ha : a < m.length) (hb : b < m.length), m[a].1 = m[b].1 -> a = b) -> kept (all ++ m) m[k].1 = m[k].2 := by
 intro m k h hd
 have e : all ++ m = (all ++ m.take k ++ [m[k]]) ++ m.drop (k + 1) := by
   rw [List.append_assoc, List.append_assoc]
   congr 1
   rw [List.singleton_append, <- List.drop_eq_getElem_cons h, List.take_append_drop]
 have hk := Disk.kept_append (all ++ m.take k ++ [m[k]]) (m.drop (k + 1)) m[k].1 (by
   intro w hw he
   obtain ⟨j, hj, rfl⟩ := List.mem_iff_getElem.1 hw
   rw [List.length_drop] at hj
   rw [List.getElem_drop] at he
   have := hd (k + 1 + j) k (by omega) h he
   omega)
 rw [e, hk, Disk.kept_snoc, if_pos rfl]
theorem fates_places (keep : List Int) (t a : Int) : ∀ (m : List Wr) (i : Nat) (all : List Wr), ∃ m', fates keep t a i m all = all ++ m' /\ ∀ w ∈ m', ∃ v ∈ m, w.1 = v.1
 | [], i, all => ⟨[], by simp [fates], fun w h => by simp at h⟩
 | v :: m, i, all => by
   obtain ⟨m', h1, h2⟩ := fates_places keep t a m (i + 1) (fate keep t a i v all)
   have h3 : ∃ m1, fate keep t a i v all = all ++ m1 /\ ∀ w ∈ m1, w.1 = v.1 := by
     unfold fate
     split
     · exact ⟨_, rfl, fun w hw => by rw [List.mem_singleton] at hw; subst hw; rfl⟩
     · split
       · exact ⟨_, rfl, fun w hw => by rw [List.mem_singleton] at hw; subst hw; rfl⟩
       · exact ⟨[], by simp, fun w hw => by simp at hw⟩
   obtain ⟨m1, h4, h5⟩ := h3
   refine ⟨m1 ++ m', by show fates keep t a (i + 1) m _ = _; rw [h1, h4, List.append_assoc], fun w hw => ?_⟩
   rcases List.mem_append.1 hw with hw | hw
   · exact ⟨v, by simp, h5 w hw⟩
   · obtain ⟨u, hu, e⟩ := h2 w hw
     exact ⟨u, by simp [hu], e⟩
theorem restart_up {s : St} {n : Nat} (h : s.size = n) (keep : List Int) (t a : Int) : UpN (restart s keep t a) n /\ (s.pend = [] -> (restart s keep t a).all = s.all) /\ ∃ m', (restart s keep t a).all = s.all ++ m' /\ ∀ w ∈ m', ∃ v ∈ s.pend, w.1 = v.1 := by
 refine ⟨⟨h, rfl, rfl, by simp [restart]⟩, fun e => by unfold restart; rw [e]; rfl, ?_⟩
 exact fates_places keep t a s.pend 0 s.all
def rd (l : List (List UInt8)) (s : St) (p : Int) : X × Int := Sec.decode (ckS l (read s p).1) p (read s p).1
theorem rd_good {s : St} {n : Nat} (h : UpN s n) {l : List (List UInt8)} {p : Int} {x : X} (h0 : 0 <= p) (h1 : p < n) (hg : Sup.Good l p x (kept s.all p.toNat)) : rd l s p = (x, 0) := by
 unfold rd
 rw [h.read h0 h1]
 exact hg.dec
theorem rd_zero {s : St} {n : Nat} (h : UpN s n) {l : List (List UInt8)} {p : Int} (h0 : 0 <= p) (h1 : p < n) (hg : kept s.all p.toNat = zero512) : rd l s p = (X0, 7) := by
 unfold rd
 rw [h.read h0 h1, hg]
 exact Sup.dec_zero _ _
theorem rd_sound {l : List (List UInt8)} {s : St} {p : Int} (h : (rd l s p).2 = 0) : rightF p (rd l s p).1 = 0 /\ text p (rd l s p).1 ∈ l := by
 unfold rd at h ⊢
 generalize hd : Sec.decode (ckS l (read s p).1) p (read s p).1 = d at h
 obtain ⟨x, f⟩ := d
 simp only at h
 subst h
 exact dec_sound hd
end Go.Proofs.YtchcmklelmlbgaaGreat.Enc
namespace Go.Proofs.YtchcmklelmlbgaaGreat.Snap
open Go.RowKit
open Go.Proofs.YtchcmklelmlbgaaGreat.Geom
open Go.Proofs.YtchcmklelmlbgaaGreat.Sup (Gb gv gcell srightF gthree)
open Go.Proofs.YtchcmklelmlbgaaGreat.Disk (St DAt Did New8 Told8)
open Go.Proofs.YtchcmklelmlbgaaGreat.Sec (X SymAt text sumOf sumAfter ckS blankB rightF encode_sym decode_sym right_0 right_2 xv RetX X0 five5x)
open Go.Proofs.YtchcmklelmlbgaaGreat.Enc (Itm xB encs enf encs_go encs_stop encs_nil)
set_option linter.unusedVariables false
set_option maxRecDepth 100000
def pItems (ga gd gl : Int) (life : UInt64) : Nat -> List (List UInt8) -> List Itm
 | _, [] => []
 | n, b :: r => (areaAt ga gd gl life.toNat n, px life n b) :: pItems ga gd gl life (n + 1) r
theorem pItems_len (ga gd gl : Int) (life : UInt64) : ∀ (n : Nat) (bs : List (List UInt8)), (pItems ga gd gl life n bs).length = bs.length
 | _, [] => rfl
 | n, b :: r => by show (_ :: pItems ga gd gl life (n + 1) r).length = _; rw [List.length_cons, pItems_len ga gd gl life (n + 1) r]; rfl
theorem pItems_drop {ga gd gl : Int} {life : UInt64} {pages : List (List UInt8)} {k : Nat} (h : k < pages.length) : pItems ga gd gl life k (pages.drop k) = (areaAt ga gd gl life.toNat k, px life k pages[k]) :: pItems ga gd gl life (k + 1) (pages.drop (k + 1)) := by
 rw [List.drop_eq_getElem_cons h]; rfl
theorem area_ok {ga gd gl : Int} {life : UInt64} {k : Nat} (h : (k : Int) < pagesOf ga gd gl) : 0 <= areaAt ga gd gl life.toNat k /\ areaAt ga gd gl life.toNat k < Geom.sizeOf ga gd gl /\ areaAt ga gd gl life.toNat k <= 1023 := by
 have hr := pages_right (a := ga) (d := gd) (g := gl) (i := (k : Int)) (by omega) h
 have hy := right_yes hr
 have hb := size_bd ga gd gl
 have e : Geom.sizeOf ga gd gl = 4 + gl + 2 * pagesOf ga gd gl := by unfold Geom.sizeOf; rw [if_pos hr]
 unfold areaAt
 rw [if_pos ⟨by omega, h⟩]
 have hp := pagesOf_bd ga gd gl
 rcases (show ((life.toNat : Int) % 2 = 0 \/ (life.toNat : Int) % 2 = 1) by omega) with h2 | h2 <;> rw [h2] <;> omega
def snapF (ga gd gl : Int) (life : UInt64) (pages : List (List UInt8)) (l : List (List UInt8)) (s : St) : List (List UInt8) × St × Int := enf (pItems ga gd gl life 0 pages) l s
theorem made_nil (s : Nat) : (madeCells (Value.slice none 0 0).cells (s * 1)).toList = List.replicate s (Value.slice none 0 0) := by
 apply List.ext_getElem
 · simp [madeCells]
 · intro i h1 h2
   simp [madeCells, Value.cells, Nat.mod_one]
theorem infoS : (Tryz.prog.info? 51).map (fun i => (i.zero, i.size, i.bytes)) = some (some (.slice none 0 0), 1, 24) := by kernel_rfl
theorem empty_any (ga gd gl : Int) (w : World) (hG : Gb ga gd gl) : Calls Tryz.prog 37 #[gv ga gd gl] w fun e w' => ∃ A c, e = .returned (.slice A (pagesOf ga gd gl).toNat c) /\ w'.ownsRow w.heap.size 51 1 (.slice A (pagesOf ga gd gl).toNat c) (pagesOf ga gd gl).toNat (List.replicate (pagesOf ga gd gl).toNat (.slice none 0 0)) /\ Below w.heap.size w w' := by
 obtain ⟨z0, z1, z2⟩ := gthree (Blk.new w (gcell ga gd gl) 23)
 have b0 := b1alloc w (.cells (gcell ga gd gl).toArray 23)
 have HP := Lib.hid (fun W => Geom.pages_any ga gd gl W hG.a0 hG.a1 hG.d0 hG.d1 hG.g0 hG.g1)
 have hp := pagesOf_bd ga gd gl
 obtain ⟨n, hn⟩ : ∃ n : Nat, pagesOf ga gd gl = (n : Int) := ⟨_, (Int.toNat_of_nonneg hp.1).symm⟩
 rw [hn] at HP hp ⊢
 rw [Int.toNat_natCast]
 clear hn
 obtain ⟨i0, hi0, hz0, hz1, hz2⟩ := info_parts infoS
 go_enter Tryz.func37, Tryz.ntmps37
 go_wp2_with (first
   | (go_at_call 70; refine (HP.out _).mono ?_; rintro e w1 ⟨rfl, b1⟩; have b2 := bt b0 b1)
   | (at_make; refine wpList_make_full _ rfl _ _ _ rfl w.heap.size 51 i0 _ 1 Tryz.underlying47 hi0 hz0 hz1 _ _ _ _ n rfl rfl rfl rfl (by rw [hz2]; omega) (by simp only [maxLen]; omega) b2.size ?_; intro w3 own3 b3))
 go_ret
 rw [made_nil] at own3
 exact ⟨_, _, rfl, own3, b2.trans ((Below.refl _ _).grown b3 b2.size (by simp))⟩
set_option maxHeartbeats 2000000 in
theorem write_any (g : Nat) (fp : List Nat) (s : St) (gS bS : Nat) (l : List (List UInt8)) (ga gd gl : Int) (life : UInt64) (Q : Nat -> Prop) (A : Option Addr) (pages : List (List UInt8)) (c : Nat) (w : World) (hG : Gb ga gd gl) (h : Both w g fp s gS bS l) (hl : l.length <= 900000) (hs : s.sz <= 80000000) (hf : srightF s ga gd gl = 0)
   (hr : Rw w Q A pages) (hQ : ∀ j, Q j -> j < w.heap.size -> j ∉ bS :: fp) (hn : (pages.length : Int) = pagesOf ga gd gl) (hlong : longB pages = false) :
   Calls Tryz.prog 78 #[.pointer (some ⟨g, 0, none⟩), .pointer (some ⟨gS, 0, none⟩), gv ga gd gl, .int .u64 (life.toNat : Int), .slice A pages.length c] w fun e w' => e = .returned (.int .i64 (snapF ga gd gl life pages l s).2.2) /\ Turn w g fp gS bS (snapF ga gd gl life pages l s).2.1 (snapF ga gd gl life pages l s).1 w' := by
 have FG := Blk.new w (gcell ga gd gl) 23
 obtain ⟨z0, z1, z2⟩ := gthree FG
 have b0 := b1alloc w (.cells (gcell ga gd gl).toArray 23)
 have HB := Lib.hid (fun W (bW : Below w.heap.size w W) => right_any g fp s gS ga gd gl life W hG (h.disk.on bW))
 rw [hf] at HB
 have HP := Lib.hid (fun W => Geom.pages_any ga gd gl W hG.a0 hG.a1 hG.d0 hG.d1 hG.g0 hG.g1)
 have hpb := pagesOf_bd ga gd gl
 have HC := Lib.hid (fun W (bW : Below w.heap.size w W) => contains_any A pages c W (hr.rws.on bW) (by omega))
 rw [hlong] at HC
 have FGh := Lib.hid FG
 have FA : Hid (Blk ((w.alloc (.cells (gcell ga gd gl).toArray 23)).alloc (.cells (acell (.pointer (some ⟨g, 0, none⟩)) (.pointer (some ⟨gS, 0, none⟩)) ga gd gl life).toArray 143)) (w.heap.size + 1) (acell (.pointer (some ⟨g, 0, none⟩)) (.pointer (some ⟨gS, 0, none⟩)) ga gd gl life)) := Lib.hid (by simpa using Blk.new (w.alloc (.cells (gcell ga gd gl).toArray 23)) (acell (.pointer (some ⟨g, 0, none⟩)) (.pointer (some ⟨gS, 0, none⟩)) ga gd gl life) 143)
 have har := Lib.hid (fun (k : Nat) (hk : k < pages.length) => area_ok (ga := ga) (gd := gd) (gl := gl) (life := life) (k := k) (by omega))
 rw [<- hn] at HP
 have hshort : ∀ j (hj : j < pages.length), pages[j].length <= 479 := by
   intro j hj
   apply Nat.le_of_not_lt
   intro hlt
   rw [longB_yes hj hlt] at hlong
   cases hlong
 have Hshort := Lib.hid hshort
 have t0 : ((pages.length : Int) != (pages.length : Int)) = false := bne_no rfl
 have hN85 : pages.length <= 85 := by omega
 have hu : snapF ga gd gl life pages l s = if (encs (pItems ga gd gl life 0 pages) l s).2.2 = 0 then ((encs (pItems ga gd gl life 0 pages) l s).1, Disk.flush (encs (pItems ga gd gl life 0 pages) l s).2.1) else encs (pItems ga gd gl life 0 pages) l s := rfl
 obtain ⟨R, hR⟩ : ∃ R, R = snapF ga gd gl life pages l s := ⟨_, rfl⟩
 rw [<- hR] at hu ⊢
 obtain ⟨E, hE⟩ : ∃ E, E = encs (pItems ga gd gl life 0 pages) l s := ⟨_, rfl⟩
 rw [<- hE] at hu
 have HE := Lib.hid hE
 have HU := Lib.hid hu
 clear hR
 clear hu hE hn hlong hpb FG hshort
 go_enter Tryz.func78, Tryz.ntmps78
 go_wp2_with (go_at_call 90; refine (HB.out _ (bt b0 (b1alloc _ _))).mono ?_; rintro e w1 ⟨rfl, b1⟩; have b2 := bt (bt b0 (b1alloc _ _)) b1; clear z0 z1 z2; obtain ⟨z0, z1, z2⟩ := gthree ((FGh.out.alloc _).on b1))
 go_wp2_with (first
   | (go_at_call 70; refine (HP.out _).mono ?_; rintro e w2 ⟨rfl, b3⟩; have b4 := bt b2 b3)
   | (go_at_call 103; refine (HC.out _ b4).mono ?_; rintro e w3 ⟨rfl, rfl⟩))
 have hA2 := FA.out.on (bt b1 b3)
 have nA : w.heap.size + 1 ∉ bS :: fp := fun e => by
   rcases List.mem_cons.1 e with e | e
   · have := h.sym.lt.2; omega
   · have := h.disk.lt _ e; omega
 have H2 := h.on b4
 clear z0 z1 z2
 go_loopw [39] (fun i wr => ∃ k : Nat, k <= pages.length /\ i = .int .i64 k /\ ∃ fp' s' l', Both wr g fp' s' gS bS l' /\ Keep (bS :: fp) w wr /\ Fresh w fp fp' /\ Blk wr (w.heap.size + 1) (acell (.pointer (some ⟨g, 0, none⟩)) (.pointer (some ⟨gS, 0, none⟩)) ga gd gl life) /\ w.heap.size + 1 ∉ bS :: fp' /\ Hid (E = encs (pItems ga gd gl life k (pages.drop k)) l' s' /\ l'.length <= l.length + k /\ s'.sz <= s.sz + 2 * k)) (fun i _ => pages.length - (intOf i).toNat)
 case atStart => exact ⟨0, by omega, rfl, fp, s, l, H2, Keep.of_below b4 _, Fresh.refl _ _, hA2, nA, Lib.hid ⟨by rw [List.drop_zero]; exact HE.out, by omega, by omega⟩⟩
 case round =>
   obtain ⟨k, hk, rfl, fp', s', l', HB', K, F, HA, nA', hid⟩ := hrel
   clear H2 hA2 nA
   obtain ⟨z0, z1, z2, z3, z4, z5⟩ := six6 HA
   by_cases hlt : k < pages.length
   · have hL1 : l'.length <= 1000000 := Nat.le_trans hid.out.2.1 (by omega)
     have hS1 : s'.sz <= 90000000 := Nat.le_trans hid.out.2.2 (by omega)
     have hk1 : k <= 1000 := by omega
     obtain ⟨b, off, Ai, ci, rfl, hb, hc, hrk, _, _⟩ := (hr.keep K hQ).get hlt
     have hkn : (k : Int) < (pages.length : Int) := by omega
     have hP := put_any g fp' s' gS bS l' ga gd gl life k pages[k] Ai ci wr hG HB' hL1 hS1 (har.out k hlt).1 (har.out k hlt).2.2 hk1 (Hshort.out k hlt) hrk.rd
     have hst := hid.out.1
     rw [pItems_drop hlt] at hst
     have hlm := hid.out.2
     have hl2 : (pL l' (areaAt ga gd gl life.toNat k) life k pages[k]).length <= l.length + (k + 1) := by have := Enc.sumAfter_len l' (text (areaAt ga gd gl life.toNat k) (px life k pages[k])); unfold pL; omega
     have hs2 : (Disk.write s' (areaAt ga gd gl life.toNat k) (pB l' (areaAt ga gd gl life.toNat k) life k pages[k])).1.sz <= s.sz + 2 * (k + 1) := by have := Disk.sz_write s' (areaAt ga gd gl life.toNat k) (pB l' (areaAt ga gd gl life.toNat k) life k pages[k]); omega
     have hgo : (Disk.write s' (areaAt ga gd gl life.toNat k) (pB l' (areaAt ga gd gl life.toNat k) life k pages[k])).2 = 0 -> E = encs (pItems ga gd gl life (k + 1) (pages.drop (k + 1))) (pL l' (areaAt ga gd gl life.toNat k) life k pages[k]) (Disk.write s' (areaAt ga gd gl life.toNat k) (pB l' (areaAt ga gd gl life.toNat k) life k pages[k])).1 := fun e => by rw [hst]; exact encs_go e
     have hstop : (Disk.write s' (areaAt ga gd gl life.toNat k) (pB l' (areaAt ga gd gl life.toNat k) life k pages[k])).2 ≠ 0 -> E = (pL l' (areaAt ga gd gl life.toNat k) life k pages[k], Disk.write s' (areaAt ga gd gl life.toNat k) (pB l' (areaAt ga gd gl life.toNat k) life k pages[k])) := fun e => by rw [hst]; exact encs_stop e
     obtain ⟨V, hV⟩ : ∃ V, V = Disk.write s' (areaAt ga gd gl life.toNat k) (pB l' (areaAt ga gd gl life.toNat k) life k pages[k]) := ⟨_, rfl⟩
     obtain ⟨L, hL⟩ : ∃ L, L = pL l' (areaAt ga gd gl life.toNat k) life k pages[k] := ⟨_, rfl⟩
     obtain ⟨bk, hbk⟩ : ∃ b, b = pages[k] := ⟨_, rfl⟩
     rw [<- hV] at hP hs2 hgo hstop
     rw [<- hL] at hP hl2 hgo hstop
     rw [<- hbk] at hP hc
     have HPut := Lib.hid hP
     have Hlm := Lib.hid (And.intro hl2 hs2)
     clear hP hst hV hL hlm hrk hbk hl2 hs2
     by_cases h0 : V.2 = 0
     · have t1 := bne_no h0
       have hgo' := Lib.hid (hgo h0)
       rw [h0] at HPut
       clear hgo hstop h0
       go_wp2_with (go_at_call 104; refine HPut.out.mono ?_; rintro e w5 ⟨rfl, T5⟩)
       case roundEnd =>
         obtain ⟨fp5, H5, K5, F5⟩ := T5
         have nA5 : w.heap.size + 1 ∉ bS :: fp5 := fun e => by
           rcases List.mem_cons.1 e with e | e
           · exact nA' (by rw [e]; simp)
           · exact F5.out HA.lt (fun e => nA' (List.mem_cons_of_mem _ e)) e
         exact ⟨⟨k + 1, by omega, by go_num, fp5, V.1, L, H5, keepT K F K5, F.trans K.size F5, HA.keepK K5 nA', nA5, Lib.hid ⟨hgo'.out, Hlm.out.1, Hlm.out.2⟩⟩, by simp only [intOf]; omega⟩
     · have t1 := bne_yes h0
       have hstop' := Lib.hid (show R = (L, V) by rw [HU.out, if_neg (by rw [hstop h0]; exact h0)]; exact hstop h0)
       have H0 := Lib.hid h0
       clear hgo hstop h0
       go_wp2_with (go_at_call 104; refine HPut.out.mono ?_; rintro e w5 ⟨rfl, T5⟩)
       go_ret
       rw [hstop'.out]
       exact ⟨rfl, Turn.trans K F T5⟩
   · have hkn : ¬ (k : Int) < (pages.length : Int) := by omega
     have hst := hid.out.1
     rw [List.drop_of_length_le (by omega)] at hst
     have hst' : E = (l', s', 0) := hst
     have hFl := Lib.hid (fun W hD => Disk.flush_any g fp' s' W hD (by have := hid.out.2.2; omega))
     have hst2 := Lib.hid (show R = (l', Disk.flush s') by rw [HU.out, hst', if_pos (show (l', s', (0 : Int)).2.2 = 0 from rfl)])
     clear hst hst'
     go_wp2_with (go_at_call 75; refine (hFl.out _ HB'.disk).mono ?_; rintro e w5 D5; obtain ⟨rfl, T5⟩ := Turn.ofDid HB' D5)
     go_ret
     rw [hst2.out]
     exact ⟨rfl, Turn.trans K F T5⟩
end Go.Proofs.YtchcmklelmlbgaaGreat.Snap
namespace Go.Proofs.YtchcmklelmlbgaaGreat.Ch
open Go.RowKit
set_option linter.unusedVariables false
def SeqOk {α : Type} (n : Nat) (P : Program) (g : Nat) (lb : Array Value) (encs : α -> Array Value) (Ok : World -> α -> Prop) (Kp : World -> World -> Prop) (S Sp : List α -> Prop) (N : Nat) (w : World) : Prop :=
 ∀ (l : Nat) (J Jx : List α -> World -> Prop) (W : World), Below w.heap.size w W -> AbidesFrom W.heap.size J -> AbidesFrom W.heap.size Jx ->
   (∀ pre x W1, J pre W1 -> Ok W1 x -> pre.length < N -> YieldAt Fence.wide (n - 1) P l (encs x) W1 fun e W' =>
     (e = .returned (.bool true) /\ J (pre ++ [x]) W' /\ Kp W1 W') \/ (e = .returned (.bool false) /\ Jx (pre ++ [x]) W')) ->
   J [] W -> CallsIn Fence.wide n P g (#[.func (.yield l) #[] #[]] ++ lb) W fun e W' => (∃ v, e = .returned v) /\ ((∃ xs, S xs /\ J xs W') \/ (∃ pre, Sp pre /\ Jx pre W'))
def Own2 (l D : Nat) (r : Loop) (W : World) : Prop := W.heap[l]? = some (.loop r) /\ W.heap[D]? = some (.deferred (some []))
theorem Own2.lt {l D : Nat} {r : Loop} {W : World} (h : Own2 l D r W) : l < W.heap.size := (Array.getElem?_eq_some_iff.1 h.1).1
theorem Own2.put {l D : Nat} {r : Loop} {W : World} (h : Own2 l D r W) (hne : l ≠ D) (r' : Loop) : Own2 l D r' (W.putObj l (.loop r')) := ⟨World.putObj_heap_same h.lt, (World.putObj_heap_other (Ne.symm hne)).trans h.2⟩
theorem Own2.keeps {l D : Nat} {r : Loop} {W W' : World} (h : Own2 l D r W) (k : KeepsOthers W W') : Own2 l D r W' := ⟨k.same _ _ h.1 rfl, k.same _ _ h.2 rfl⟩
theorem Own2.grown {l D : Nat} {r : Loop} {W W' : World} {row : Option Nat} (h : Own2 l D r W) (hg : W.grownBy W' row) (hr : ∀ j, row = some j -> ∃ o : Obj, W.heap[j]? = some o /\ o.isWalk = true) : Own2 l D r W' := by
 have hl : ∀ j, row = some j -> l ≠ j /\ D ≠ j := fun j e => by
   obtain ⟨o, ho, hw⟩ := hr j e
   refine ⟨fun h1 => ?_, fun h1 => ?_⟩ <;> subst h1
   · rw [h.1] at ho; cases ho; cases hw
   · rw [h.2] at ho; cases ho; cases hw
 exact ⟨(hg.block l h.lt (fun e => (hl l e.symm).1 rfl)).trans h.1, (hg.block D (Array.getElem?_eq_some_iff.1 h.2).1 (fun e => (hl D e.symm).2 rfl)).trans h.2⟩
theorem range_ok {α : Type} {P : Program} {n : Nat} {g : Operand} {ps : Array Tmp} {assign body : Code} {Q : Exit -> Act -> World -> Prop} {a : Act} {w : World}
   (h1 : 1 <= n) {gf : Nat} {lb : Array Value} (hg : a.eval g = .func (.func gf) #[] lb) (eg : ∀ args w, (callFunc gf args).run P w = .ok (.enter gf args) w)
   {encs : α -> Array Value} {Ok : World -> α -> Prop} {Kp : World -> World -> Prop} {S Sp : List α -> Prop} {N : Nat} {w0 : World} (hseq : SeqOk (n - 1) P gf lb encs Ok Kp S Sp N w0)
   (hKt : ∀ {A B C : World}, Kp A B -> Kp B C -> Kp A C) (hKb : ∀ (W : World) (l : Nat) (o o' : Obj), w.heap.size <= l -> W.heap[l]? = some o -> o.isCells = false -> o.isWalk = false -> Kp W (W.putObj l o'))
   (hb0 : Below w0.heap.size w0 w) (hps : ∀ x, (encs x).size = ps.size)
   (I : List α -> World -> Prop) (Ix : Code -> List α -> World -> Prop) (hI : OwnFrom w.heap.size I) (hIx : ∀ c, OwnFrom w.heap.size (Ix c)) (h0 : I [] w) (M : List α -> α -> Act -> World -> Prop) (hM : ∀ pre x a (W : World) (l : Nat) (o o' : Obj), w.heap.size <= l -> W.heap[l]? = some o -> o.isCells = false -> M pre x a W -> M pre x a (W.putObj l o'))
   (hassign : ∀ (l : Nat) (pre : List α) (x : α) (W : World), I pre W -> Ok W x -> pre.length < N ->
     assign.wpIn (Fence.wide.inRound l) (n - 1 - 1) P (Exit.then (fun a' W' => KeepsOthers W W' /\ Kp W W' /\ M pre x a' W') (fun _ _ _ => False)) { tmps := (ps.zip (encs x)).foldl (fun t (p, v) => t.setIfInBounds p v) a.tmps, defers := [] } W)
   (hbody : ∀ (l : Nat) (pre : List α) (x : α) (a' : Act) (W : World), M pre x a' W -> pre.length < N -> body.wpIn (Fence.wide.inRound l) (n - 1 - 1) P (ownPostK Kp I Ix (pre ++ [x]) W) a' W)
   (hdone : ∀ (D : Nat) (xs : List α) (W : World), w.heap.size <= D -> S xs -> I xs W -> W.heap[D]? = some (.deferred (some [])) -> Q .normal { a with defers := { target := .collected D, args := #[] } :: a.defers } W)
   (hstop : ∀ (D : Nat) (c : Code) (pre : List α) (W : World), w.heap.size <= D -> Sp pre -> Ix c pre W -> W.heap[D]? = some (.deferred (some [])) -> c.wpIn Fence.wide n P Q { a with defers := { target := .collected D, args := #[] } :: a.defers } W) :
   (Code.rangeFunc g ps assign body).wpIn Fence.wide n P Q a w := by
 refine wpIn_rangeFunc fun fn hfn => ?_
 obtain ⟨D, hD⟩ : ∃ D, D = w.heap.size := ⟨_, rfl⟩
 obtain ⟨L, hL⟩ : ∃ L, L = w.heap.size + 1 := ⟨_, rfl⟩
 obtain ⟨rec, hrec⟩ : ∃ rec : LoopState -> Option Code -> Loop, ∀ st pe, rec st pe = { state := st, pending := pe, fn, tmps := a.tmps, params := ps, assign, body, defers := w.heap.size } := ⟨fun st pe => _, fun st pe => rfl⟩
 obtain ⟨W1, hW1⟩ : ∃ W1, W1 = (w.alloc (.deferred (some []))).alloc (.loop (rec .ready none)) := ⟨_, rfl⟩
 have hne : L ≠ D := by omega
 have hO1 : Own2 L D (rec .ready none) W1 := by
   rw [hW1, hL, hD]
   refine ⟨?_, (Below.heap_alloc _ _ _ (by simp)).trans (World.alloc_heap_new w _)⟩
   have := World.alloc_heap_new (w.alloc (.deferred (some []))) (.loop (rec .ready none))
   rwa [World.size_alloc] at this
 have hB1 : Below w0.heap.size w0 W1 := by rw [hW1]; exact bt hb0 (b2alloc w _ _)
 have hI1 : I [] W1 := by rw [hW1]; exact hI.alloc _ (hI.alloc _ h0)
 have hsz1 : w.heap.size <= W1.heap.size := by have := hO1.lt; omega
 refine ⟨L, [{ target := .collected D, args := #[] }], W1, { target := .fn (.func gf) lb, args := #[.func (.yield L) #[] #[]] }, W1, gf, #[.func (.yield L) #[] #[]] ++ lb, W1, ?_, ?_, ?_, ?_, fun _ => h1, ?_⟩
 · rw [hW1, hL, hD, hrec]; exact run_enterLoop_outer _ _ _ _ _
 · simp only [resolve, hg]; simp [go_sem, hL]
 · intro f' hf'; trivial
 · simp [invoke, go_sem, eg]
 have hturn : ∀ {A : World} {row : Option Nat}, (∀ r, row = some r -> W1.heap.size <= r /\ ∃ o : Obj, A.heap[r]? = some o /\ o.isWalk = true) -> ∀ r, row = some r -> w.heap.size <= r /\ ∃ o : Obj, A.heap[r]? = some o /\ o.isCells = false :=
   fun hr r e => by obtain ⟨hb, o, ho, hw⟩ := hr r e; exact ⟨by omega, o, ho, Obj.not_cells_of_walk hw⟩
 refine (hseq L (fun pre W => I pre W /\ Own2 L D (rec .ready none) W) (fun pre W => ∃ c, Ix c pre W /\ Own2 L D (rec .done (some c)) W) W1 hB1
   (fun s A B row hs hgr hr => ⟨hI s A B row hs.1 hgr (hturn hr), hs.2.grown hgr (fun j e => (hr j e).2)⟩)
   (fun s A B row hs hgr hr => by obtain ⟨c, h2, h3⟩ := hs; exact ⟨c, hIx c s A B row h2 hgr (hturn hr), h3.grown hgr (fun j e => (hr j e).2)⟩) ?_ ⟨hI1, hO1⟩).mono ?_
 · rintro pre x W ⟨hi, ho⟩ hok hlen
   have hy := run_yield (P := P) (args := encs x) ho.1 (by rw [hrec]; exact hps x)
   rw [hrec] at hy
   refine ⟨fn, _, assign, body, hy, roundIn_of_wpIn hfn (wpIn_mono (hassign L pre x W hi hok hlen) ?_)⟩
   rintro e0 a2 W2 hp0
   cases e0 <;> first | exact hp0.elim | skip
   obtain ⟨hk0, hkp0, hm0⟩ := hp0
   have ho0 := ho.keeps hk0
   refine ⟨_, run_beginRound (P := P) ho0.1 (by rw [hrec]), ?_⟩
   have ho2 := ho0.put hne { rec .ready none with state := .busy }
   have hk2 : Kp W (W2.putObj L (.loop { rec .ready none with state := .busy })) := hKt hkp0 (hKb _ _ _ _ (by omega) ho0.1 rfl rfl)
   have hm2 : M pre x a2 (W2.putObj L (.loop { rec .ready none with state := .busy })) := hM _ _ _ _ _ _ _ (by omega) ho0.1 rfl hm0
   refine wpIn_mono (hbody L pre x a2 _ hm2 hlen) ?_
   have leave : ∀ (c : Code) (W3 : World), KeepsOthers (W2.putObj L (.loop { rec .ready none with state := .busy })) W3 -> Ix c (pre ++ [x]) W3 ->
       ∃ v w', (Instr.endRound L (some c)).run P W3 = .ok v w' /\ ((Ending.returned v = .returned (.bool true) /\ (I (pre ++ [x]) w' /\ Own2 L D (rec .ready none) w') /\ Kp W w') \/ (Ending.returned v = .returned (.bool false) /\ ∃ c, Ix c (pre ++ [x]) w' /\ Own2 L D (rec .done (some c)) w')) := by
     intro c W3 hk3 hx3
     have ho3 := ho2.keeps hk3
     refine ⟨_, _, run_endRound (P := P) (some c) ho3.1, .inr ⟨rfl, c, (hIx c).putObj _ hx3 (by omega) ho3.1 rfl, ?_⟩⟩
     have := ho3.put hne { rec .ready none with state := .done, pending := some c }
     rw [hrec] at this ⊢
     rw [hrec]
     exact this
   rintro e a3 W3 hp
   cases e with
   | normal =>
     obtain ⟨hk3, hkp3, hi3⟩ := hp
     have ho3 := ho2.keeps hk3
     refine ⟨_, _, run_endRound (P := P) none ho3.1, .inl ⟨rfl, ⟨hI.putObj _ hi3 (by omega) ho3.1 rfl, ?_⟩, hKt (hKt hk2 hkp3) (hKb _ _ _ _ (by omega) ho3.1 rfl rfl)⟩⟩
     have := ho3.put hne (rec .ready none)
     rw [hrec] at this ⊢
     exact this
   | ret => exact leave _ _ hp.1 hp.2
   | exit id => exact leave _ _ hp.1 hp.2
   | goto t => exact leave _ _ hp.1 hp.2
   | panic ch => exact hp.elim
   | outgrown => exact hp.elim
 · rintro e W2 ⟨⟨v, rfl⟩, h2⟩
   rcases h2 with ⟨xs, hS, hi, ho⟩ | ⟨pre, hSp, c, hi, ho⟩
   · have hr := run_endLoop (P := P) ho.1 (by rw [hrec]; simp)
     rw [hrec] at hr
     refine ⟨none, _, hr, ?_⟩
     rw [hD]
     rw [hD] at ho
     exact hdone _ xs _ (Nat.le_refl _) hS (hI.putObj _ hi (by omega) ho.1 rfl) ((World.putObj_heap_other (by omega)).trans ho.2)
   · have hr := run_endLoop (P := P) ho.1 (by rw [hrec]; simp)
     rw [hrec] at hr
     refine ⟨some c, _, hr, ?_⟩
     rw [hD]
     rw [hD] at ho
     exact hstop _ c pre _ (Nat.le_refl _) hSp ((hIx c).putObj _ hi (by omega) ho.1 rfl) ((World.putObj_heap_other (by omega)).trans ho.2)
end Go.Proofs.YtchcmklelmlbgaaGreat.Ch
namespace Go.Proofs.YtchcmklelmlbgaaGreat
open Go.RowKit
set_option linter.unusedVariables false
section
variable {P : Program} {Q Q' : Exit -> Act -> World -> Prop} {r n : Nat}
def noDefer (l : List Oper) : Bool := l.all fun o => match o.op with | .defer _ => false | _ => true
theorem noDefer_spec {l : List Oper} (h : noDefer l = true) : ∀ (j : Nat) (o : Oper), l.toArray[j]? = some o -> ∀ c : Call, o.op ≠ Op.defer c := by
 intro j o ho c hc
 have := List.all_eq_true.1 h o (by rw [List.getElem?_toArray] at ho; exact List.mem_of_getElem? ho)
 rw [hc] at this
 cases this
end
theorem step_app {P : Program} (w : World) {ops : Array Oper} {o : Oper} {a : Act} {K : Act -> World -> Prop} {Q : Exit -> Act -> World -> Prop} {E : Prop} (hgd : o.guard = none) (s x : Operand) (t : TypeId)
   (ho : o.op = .call { callee := .builtin .append, args := #[s, x], argTypes := #[t, t] })
   (base : Nat) (e : TypeId) (i : TypeInfo) (z : Value) (size bytes : Nat) (ht : P.underlying t = some (.slice e)) (hi : P.info? e = some i) (hz : i.zero = some z)
   (hsize : i.size = size) (hby : i.bytes = bytes) (hzs : z.cells.size = size) (hsz : 0 < size)
   (v : Value) (n : Nat) (xs : List Value) (hs : a.eval s = v) (hown : w.ownsRow base e size v n xs)
   (A : Option Addr) (m c : Nat) (news : List Value) (hx : a.eval x = .slice A m c) (hl : news.length = m * size) (hr : Rd w w.heap.size A news) (h1 : ∀ u ∈ news, u.oneCell' = true)
   (h63 : n + m <= maxLen) (hbytes : (n + m) * bytes <= 140737488355328) (hbase : base <= w.heap.size)
   (h : ∀ v' w', w'.ownsRow base e size v' (n + m) (xs ++ news) -> w.grownBy w' v.ownBlock -> K (a.put o.dst v') w') :
   if Region.wanted o (yielded ops a.tmps) = true then Oper.wp P o a w K Q else E := by
 have hw : Region.wanted o (yielded ops a.tmps) = true := by simp [Region.wanted, hgd]
 rw [if_pos hw]
 exact wp_append_rd w s x t ho base e i z size bytes ht hi hz hsize hby hzs hsz v n xs hs hown w.heap.size A m c news hx hl hr h1 h63 hbytes hbase fun v' w' h2 h3 _ => h v' w' h2 h3
end Go.Proofs.YtchcmklelmlbgaaGreat
namespace Go.Proofs.YtchcmklelmlbgaaGreat
open Go.RowKit
set_option linter.unusedVariables false
section
variable {P : Program} {ops : Array Oper} {md : Region.Mode} {C : World -> Prop} {n : Nat}
theorem oper_wide {o : Oper} {a : Act} {w : World} {K K' : Act -> World -> Prop} {Q : Exit -> Act -> World -> Prop} (hd : ∀ c, o.op ≠ .defer c) (hk : ∀ a w, K a w -> K' a w) (h : o.wp P a w K (fun _ _ _ => False)) :
   o.wpIn Fence.wide n P a w K' Q := by
 refine ⟨fun f _ => trivial, ?_⟩
 rw [Oper.semAt_plain _ _ _ hd]
 unfold Oper.wp at h
 generalize (execOp a.eval o).run P w = x at *
 cases x with
 | halt hx w' =>
   cases hx <;> exact h.elim
 | ok nx w' =>
   cases nx with
   | value v => exact hk _ _ h
   | skip => exact hk _ _ h
   | defer d => exact hk _ _ h
   | enter f args =>
     refine ⟨fun h => by simp [Fence.wide] at h, (callsIn_wide.2 h).mono ?_⟩
     intro e w2 he
     cases e with
     | returned v => exact hk _ _ he
     | panicked c => exact he.elim
     | outgrown => obtain ⟨_, _, h⟩ := he; exact h.elim
   | row row args =>
     refine ⟨fun h => by simp [Fence.wide] at h, fun c cs _ => ?_⟩
     obtain ⟨v, w2, hv, hs⟩ := h c cs
     exact ⟨v, w2, hk _ _ hv, stepsIn_wide.2 hs⟩
   | _ => exact h.elim
theorem head_wide {k g : Nat} {L : Array Bool -> Act -> Prop} {Q' : Exit -> Act -> World -> Prop} (hd : ∀ (j : Nat) (o : Oper), ops[j]? = some o -> ∀ c : Call, o.op ≠ Op.defer c) (hL : ∀ listed a w, C w -> L listed a -> wpAnyIn Fence.wide n P md ops Q' g listed a w) :
   ∀ (f : Nat) (listed : Array Bool) (a : Act) (w : World), C w -> headQ P md ops C k L f listed a -> wpAnyIn Fence.wide n P md ops Q' (f + g) listed a w
 | 0, listed, a, w, hw, h => by rw [Nat.zero_add]; exact hL _ _ _ hw h
 | f + 1, listed, a, w, hw, h => by
   rw [show f + 1 + g = (f + g) + 1 by omega]
   refine ⟨fun h0 => absurd h0 h.1, fun i hi => ?_⟩
   have h1 : wpOp P ops (fun _ _ _ => False) i (wpAnyIn Fence.wide n P md ops Q' (f + g) (listed.setIfInBounds i true)) a w := wpOp_of_qOp hw (fun a' w' hw' h' => head_wide hd hL f _ a' w' hw' h') (h.2 i hi).2
   unfold wpOp at h1
   unfold wpOpIn
   cases ho : ops[i]? with
   | none => rw [ho] at h1; exact h1
   | some o =>
     rw [ho] at h1
     simp only at h1 ⊢
     split
     · rename_i hw2
       rw [if_pos hw2] at h1
       rcases h1 with h1 | h1
       · exact oper_wide (hd i o ho) (fun a w h => h) h1
       · obtain ⟨_, _, h⟩ := h1.2; exact h.elim
     · rename_i hw2
       rw [if_neg hw2] at h1
       exact ⟨fun f _ => trivial, h1⟩
theorem anyIn_of_seq {Q' : Exit -> Act -> World -> Prop} : ∀ (l : List Oper) (k : Nat) (listed : Array Bool) (a : Act) (w : World), (∀ j, l[j]? = ops[k + j]?) ->
   Region.seqB md ops l.length k listed = true -> wpListIn Fence.wide n P ops Q' l a w -> wpAnyIn Fence.wide n P md ops Q' l.length listed a w
 | [], _, _, _, _, _, hB, h => ⟨by simpa [Region.seqB] using hB, h⟩
 | o :: l, k, listed, a, w, hl, hB, h => by
   have h0 : ops[k]? = some o := by simpa using (hl 0).symm
   simp only [List.length_cons, Region.seqB, Bool.and_eq_true, decide_eq_true_eq] at hB
   have next : ∀ a' w', wpListIn Fence.wide n P ops Q' l a' w' -> wpAnyIn Fence.wide n P md ops Q' l.length (listed.setIfInBounds k true) a' w' := fun a' w' h' =>
     anyIn_of_seq l (k + 1) _ a' w' (fun j => by have := hl (j + 1); simpa [Nat.add_assoc, Nat.add_comm 1 j] using this) hB.2 h'
   refine wpAnyIn_ready hB.1 (by simp) (AllReadyIn.cons h0 (fun K' hK => ?_) AllReadyIn.nil)
   have h' : (if Region.wanted o (yielded ops a.tmps) then o.wpIn Fence.wide n P a w (wpListIn Fence.wide n P ops Q' l) Q' else (∀ f, o.about P w a.eval = some f -> Fence.wide.fn f) /\ wpListIn Fence.wide n P ops Q' l (a.put o.dst undef) w) := h
   split
   · rename_i hw
     rw [if_pos hw] at h'
     exact Oper.wpIn_mono (fun a w h => hK _ _ (next a w h)) h'
   · rename_i hw
     rw [if_neg hw] at h'
     exact ⟨h'.1, hK _ _ (next _ _ h'.2)⟩
theorem region_inb_tail_wide {id : Nat} {Q : Exit -> Act -> World -> Prop} {a : Act} {w : World} {l : List Oper} (k : Nat) (hm : P.follows .mixedOrders = true) (hB : Region.lexTailB .any l.toArray k = true) (hdf : noDefer l = true)
   (h : wpQuiet P l.toArray (InB w) (fun a' => ∀ w', InB w w' -> wpListIn Fence.wide n P l.toArray Q (l.drop k) a' w') (l.take k) a) : (Code.region id l.toArray true).wpIn Fence.wide n P Q a w := by
 simp only [Region.lexTailB, Bool.and_eq_true, decide_eq_true_eq] at hB
 obtain ⟨⟨⟨⟨hsel, hn⟩, hs⟩, hc⟩, hlex⟩ := hB
 have htl : (l.take k).length = k := by
   have : k < l.length := by simpa using hn
   simp; omega
 have hdl : (l.drop k).length = l.toArray.size - k := by simp
 have inv0 : HeadInv .any l.toArray k (Array.replicate l.toArray.size false) :=
   ⟨by simp, fun j oj _ hl => (by rw [getD_replicate_false] at hl; cases hl), fun t _ ht => getD_in (by simpa using ht) (getD_replicate_false _ _)⟩
 have H := headQ_lex (md := .any) (g := l.toArray.size - k) hsel hs hc hn (l.take k) 0 _ a (fun j hj => by
   have hj' : j < k := by rw [htl] at hj; exact hj
   simp [hj']) (by simpa using htl) inv0 (by rw [htl]; exact hlex) h
 refine wpIn_region_any hm ?_
 have := head_wide (n := n) (Q' := Q) (g := l.toArray.size - k) (noDefer_spec hdf) (fun listed a' w' hw' hL => by
   have := anyIn_of_seq (md := .any) (Q' := Q) (n := n) (l.drop k) k listed a' w' (fun j => by simp [List.getElem?_drop]) (by rw [hdl]; exact hL.1) (hL.2 w' hw')
   rwa [hdl] at this) _ _ _ _ (InB.start w) H
 rw [htl, show k + (l.toArray.size - k) = l.toArray.size by omega] at this
 exact this
end
end Go.Proofs.YtchcmklelmlbgaaGreat
namespace Go.Proofs.YtchcmklelmlbgaaGreat
open Go.RowKit
set_option linter.unusedVariables false
def KpK (B n : Nat) (W W' : World) : Prop := W'.os = W.os /\ W'.tape = W.tape /\ W'.output = W.output /\ W.heap.size <= W'.heap.size /\ ∀ j, j < n -> j ≠ B -> W'.heap[j]? = W.heap[j]?
theorem KpK.refl (B n : Nat) (W : World) : KpK B n W W := ⟨rfl, rfl, rfl, Nat.le_refl _, fun _ _ _ => rfl⟩
theorem KpK.trans {B n : Nat} {X Y Z : World} (h : KpK B n X Y) (k : KpK B n Y Z) : KpK B n X Z := ⟨k.1.trans h.1, k.2.1.trans h.2.1, k.2.2.1.trans h.2.2.1, Nat.le_trans h.2.2.2.1 k.2.2.2.1, fun j hj hn => (k.2.2.2.2 j hj hn).trans (h.2.2.2.2 j hj hn)⟩
theorem KpK.size {B n : Nat} {W W' : World} (h : KpK B n W W') : W.heap.size <= W'.heap.size := h.2.2.2.1
theorem KpK.block {B n : Nat} {W W' : World} (h : KpK B n W W') {j : Nat} (hj : j < n) (hn : j ≠ B) : W'.heap[j]? = W.heap[j]? := h.2.2.2.2 j hj hn
theorem KpK.turn {B n : Nat} (W : World) (l : Nat) (o' : Obj) (hl : n <= l) : KpK B n W (W.putObj l o') := ⟨rfl, rfl, rfl, (grownBy_putObj' W l o').size, fun j hj _ => World.putObj_heap_other (by omega)⟩
theorem KpK.of_below {B n : Nat} {W W' : World} (h : Below W.heap.size W W') (hn : n <= W.heap.size) : KpK B n W W' := ⟨h.os, h.tape, h.output, h.size, fun j hj _ => h.block j (by omega)⟩
theorem KpK.set {B n : Nat} {W W' : World} (h : KpK B n W W') (v : Value) : KpK B n W (W'.setCell ⟨B, 0, none⟩ v) :=
 ⟨h.1, h.2.1, h.2.2.1, by simpa [World.setCell] using h.size, fun j hj hn => (Below.heap_setCell W' ⟨B, 0, none⟩ v j (fun e => hn e)).trans (h.block hj hn)⟩
def hiB (B n : Nat) (W : World) : List Nat := B :: (List.range W.heap.size).filter (fun j => decide (n <= j))
theorem KpK.keep {B n : Nat} {W W' : World} (h : KpK B n W W') : Keep (hiB B n W) W W' :=
 ⟨h.1, h.2.1, h.2.2.1, h.size, fun j hj hn => h.block (Nat.lt_of_not_le fun e => hn (by simp [hiB, hj, e])) (fun e => hn (by simp [hiB, e]))⟩
theorem not_hiB {B n : Nat} {W : World} {j : Nat} (hj : j < n) (hn : j ≠ B) : j ∉ hiB B n W := by
 unfold hiB
 intro h
 rcases List.mem_cons.1 h with h | h
 · exact hn h
 · rw [List.mem_filter] at h
   have := of_decide_eq_true h.2
   omega
theorem Both.kpk {W W' : World} {B n g : Nat} {fp : List Nat} {s : Disk.St} {gS bS : Nat} {l : List (List UInt8)} (h : Both W g fp s gS bS l) (k : KpK B n W W') (hf : ∀ j ∈ bS :: gS :: fp, j < n /\ j ≠ B) : Both W' g fp s gS bS l :=
 ⟨h.disk.keep k.keep (fun j hj => not_hiB (hf j (by simp [hj])).1 (hf j (by simp [hj])).2), h.sym.keepK k.keep (not_hiB (hf gS (by simp)).1 (hf gS (by simp)).2) (not_hiB (hf bS (by simp)).1 (hf bS (by simp)).2), h.nS, h.nB⟩
theorem Blk.kpk {W W' : World} {B n g : Nat} {xs : List Value} (h : Blk W g xs) (k : KpK B n W W') (hg : g < n) (hn : g ≠ B) : Blk W' g xs := h.elim fun t hh => ⟨t, (k.block hg hn).trans hh⟩
theorem Box.kpk {W W' : World} {B n g : Nat} {v : Value} (h : Box W g v) (k : KpK B n W W') (hg : g < n) (hn : g ≠ B) : Box W' g v := h.elim fun t hh => ⟨t, (k.block hg hn).trans hh⟩
end Go.Proofs.YtchcmklelmlbgaaGreat
namespace Go.Proofs.YtchcmklelmlbgaaGreat.Snap
open Go.RowKit Go.Shelf
open Go.Proofs.YtchcmklelmlbgaaGreat.Geom
open Go.Proofs.YtchcmklelmlbgaaGreat.Ch (SeqOk)
open Go.Proofs.YtchcmklelmlbgaaGreat.Sup (Gb gv gcell srightF gthree)
open Go.Proofs.YtchcmklelmlbgaaGreat.Disk (St DAt Did New8 Told8 read_any)
open Go.Proofs.YtchcmklelmlbgaaGreat.Sec (X SymAt text sumOf sumAfter ckS blankB rightF encode_sym decode_sym right_0 right_2 xv RetX X0 five5x)
attribute [local go_sem] Oper.semAt_some
set_option linter.unusedVariables false
set_option maxRecDepth 100000
def isX (life : UInt64) (k : Nat) (x : X) : Bool := decide (x.kind = 3) && decide (x.life = life) && decide (x.seq = (k : Int)) && decide (x.gen = 0)
def rdAt (l : List (List UInt8)) (s : St) (ga gd gl : Int) (life : UInt64) (k : Nat) : X × Int := Enc.rd l s (areaAt ga gd gl life.toNat k)
def isPg (l : List (List UInt8)) (s : St) (ga gd gl : Int) (life : UInt64) (k : Nat) : Bool := decide ((rdAt l s ga gd gl life k).2 = 0) && isX life k (rdAt l s ga gd gl life k).1
structure It where
 k : Nat
 A : Option Addr
 c : Nat
 body : List UInt8
 is : Bool
def It.enc (x : It) : Array Value := #[.int .i64 (x.k : Int), .agg #[.slice x.A x.body.length x.c, .bool x.is]]
def It.Ok (n0 : Nat) (W : World) (x : It) : Prop := W.ownsRow n0 5 1 (.slice x.A x.body.length x.c) x.body.length (x.body.map e8) /\ x.body.length <= 1000
def It.f (x : It) : Nat × Bool × List UInt8 := (x.k, x.is, x.body)
def want (l : List (List UInt8)) (s : St) (ga gd gl : Int) (life : UInt64) (k : Nat) : Nat × Bool × List UInt8 := (k, isPg l s ga gd gl life k, (rdAt l s ga gd gl life k).1.body)
set_option maxHeartbeats 1000000 in
theorem there_any (x : X) (A : Option Addr) (c : Nat) (k Ba : Nat) (v1 v2 : Value) (ga gd gl : Int) (life : UInt64) (w : World) (h : Blk w Ba (acell v1 v2 ga gd gl life)) :
   Calls Tryz.prog 114 #[.int .i64 (k : Int), .agg #[.int .i64 x.kind, .int .u64 (x.life.toNat : Int), .int .i64 x.seq, .int .u64 (x.gen.toNat : Int), .slice A x.body.length c], .pointer (some ⟨Ba, 0, none⟩)] w fun e w' => e = .returned (.bool (isX life k x)) /\ Below w.heap.size w w' := by
 have b0 := b1alloc w (.cells ([.int .i64 x.kind, .int .u64 (x.life.toNat : Int), .int .i64 x.seq, .int .u64 (x.gen.toNat : Int), .slice A x.body.length c] : List Value).toArray 157)
 have hX := Blk.new w [.int .i64 x.kind, .int .u64 (x.life.toNat : Int), .int .i64 x.seq, .int .u64 (x.gen.toNat : Int), .slice A x.body.length c] 157
 obtain ⟨x0, x1, x2, x3, x4⟩ := five5x hX
 obtain ⟨z0, z1, z2, z3, z4, z5⟩ := six6 (h.on b0)
 by_cases e1 : x.kind = 3
 rotate_left
 · have hn := Lib.hid (show isX life k x = false by simp [isX, e1])
   have t1 := beq_no e1
   clear e1
   go_enter Tryz.func114, Tryz.ntmps114
   go_wp2
   go_ret
   exact ⟨ret_bool hn.out.symm, b0⟩
 have t1 := beq_yes e1
 by_cases e2 : x.life = life
 rotate_left
 · have hn := Lib.hid (show isX life k x = false by simp [isX, e2])
   have t2 := beq_no (show (x.life.toNat : Int) ≠ (life.toNat : Int) from fun e => e2 (UInt64.toNat_inj.1 (by omega)))
   clear e1 e2
   go_enter Tryz.func114, Tryz.ntmps114
   go_wp2
   go_ret
   exact ⟨ret_bool hn.out.symm, b0⟩
 have t2 := beq_yes (show (x.life.toNat : Int) = (life.toNat : Int) by rw [e2])
 by_cases e3 : x.seq = (k : Int)
 rotate_left
 · have hn := Lib.hid (show isX life k x = false by simp [isX, e3])
   have t3 := beq_no e3
   clear e1 e2 e3
   go_enter Tryz.func114, Tryz.ntmps114
   go_wp2
   go_ret
   exact ⟨ret_bool hn.out.symm, b0⟩
 have t3 := beq_yes e3
 by_cases e4 : x.gen = 0
 · have hn := Lib.hid (show isX life k x = true by simp [isX, e1, e2, e3, e4])
   have t4 := beq_yes (show (x.gen.toNat : Int) = 0 by rw [e4]; rfl)
   clear e1 e2 e3 e4
   go_enter Tryz.func114, Tryz.ntmps114
   go_wp2
   go_ret
   exact ⟨ret_bool hn.out.symm, b0⟩
 · have hn := Lib.hid (show isX life k x = false by simp [isX, e4])
   have t4 := beq_no (show (x.gen.toNat : Int) ≠ 0 from fun e => e4 (UInt64.toNat_inj.1 (by rw [show (0 : UInt64).toNat = 0 from rfl]; omega)))
   clear e1 e2 e3 e4
   go_enter Tryz.func114, Tryz.ntmps114
   go_wp2
   go_ret
   exact ⟨ret_bool hn.out.symm, b0⟩
structure PgsAt (w : World) (Ba Bf Bt F : Nat) (v1 v2 : Value) (ga gd gl : Int) (life : UInt64) : Prop where
 area : Blk w Ba (acell v1 v2 ga gd gl life)
 fault : Box w Bf (.pointer (some ⟨F, 0, none⟩))
 there : Box w Bt (.func (.func 114) #[] #[.pointer (some ⟨Ba, 0, none⟩)])
theorem pages_any (g gS F : Nat) (ga gd gl : Int) (life : UInt64) (w : World) :
   Calls Tryz.prog 91 #[av (.pointer (some ⟨g, 0, none⟩)) (.pointer (some ⟨gS, 0, none⟩)) ga gd gl life, .pointer (some ⟨F, 0, none⟩)] w fun e w' => e = .returned (.func (.func 115) #[] #[.pointer (some ⟨w.heap.size, 0, none⟩), .pointer (some ⟨w.heap.size + 1, 0, none⟩), .pointer (some ⟨w.heap.size + 2, 0, none⟩)]) /\
     PgsAt w' w.heap.size (w.heap.size + 1) (w.heap.size + 2) F (.pointer (some ⟨g, 0, none⟩)) (.pointer (some ⟨gS, 0, none⟩)) ga gd gl life /\ Below w.heap.size w w' := by
 have hs : ∀ (W : World) (p : Addr) (f : Nat) (cs : Array Value), W.cell? p = some .nilFunc -> W.frozen? p = false -> Sem.run Tryz.prog (store p (.func (.func f) #[] cs)) W = .ok () (W.setCell p (.func (.func f) #[] cs)) := by
   intro W p f cs h1 h2
   rw [run_store _ _ _ _ _ rfl, h1]
   simp [h2]
 have c1 := Box.new ((w.alloc (.cells (acell (.pointer (some ⟨g, 0, none⟩)) (.pointer (some ⟨gS, 0, none⟩)) ga gd gl life).toArray 143)).alloc (.cells #[.pointer (some ⟨F, 0, none⟩)] 147)) 158 .nilFunc
 have c2 := c1.cell
 have c3 := c1.free
 simp at c2 c3
 go_enter Tryz.func91, Tryz.ntmps91
 go_wp2
 go_ret
 refine ⟨rfl, ⟨?_, ?_, ?_⟩, b3alloc _ _ _ _⟩
 · exact ((Blk.new w (acell (.pointer (some ⟨g, 0, none⟩)) (.pointer (some ⟨gS, 0, none⟩)) ga gd gl life) 143).alloc _).alloc _
 · have := Box.new (w.alloc (.cells (acell (.pointer (some ⟨g, 0, none⟩)) (.pointer (some ⟨gS, 0, none⟩)) ga gd gl life).toArray 143)) 147 (.pointer (some ⟨F, 0, none⟩))
   simp at this
   exact this.alloc _
 · have := Box.new ((w.alloc (.cells (acell (.pointer (some ⟨g, 0, none⟩)) (.pointer (some ⟨gS, 0, none⟩)) ga gd gl life).toArray 143)).alloc (.cells #[.pointer (some ⟨F, 0, none⟩)] 147)) 158 (.func (.func 114) #[] #[.pointer (some ⟨w.heap.size, 0, none⟩)])
   simp at this
   exact this
theorem dec_body_len (ck : Bool) (p : Int) {b : List UInt8} (hb : b.length = 512) : (Sec.decode ck p b).1.body.length <= 1000 := by
 unfold Sec.decode
 split
 · simp [X0]
 · split
   · simp [X0]
   · split
     · rename_i x hr
       split
       · unfold Sec.reads at hr
         split at hr
         · rename_i h3
           injection hr with hr
           subst hr
           have := (Sec.right_of h3.2.1).2.2.2.2.2.2
           exact Nat.le_trans this (by omega)
         · cases hr
       · simp [X0]
     · simp [X0]
theorem wrap_up {k : Nat} (h : k <= 1000000000) : wrap64 ((k : Int) + 1) = (k : Int) + 1 := by unfold wrap64; omega
theorem range_up (W : Nat -> Nat × Bool × List UInt8) (k : Nat) (pre : List It) (x : It) (h : pre.map It.f = (List.range k).map W) (hx : x.f = W k) : (pre ++ [x]).map It.f = (List.range (k + 1)).map W := by
 rw [List.range_succ, List.map_append, List.map_append, h, List.map_cons, List.map_nil, List.map_cons, List.map_nil, hx]
set_option maxHeartbeats 2000000 in
theorem pages2_in (n : Nat) (hn : 1 <= n) (lp B Ba Bf Bt F g : Nat) (fp : List Nat) (s : St) (gS bS : Nat) (l : List (List UInt8)) (ga gd gl : Int) (life : UInt64) (N : Nat) (hG : Gb ga gd gl) (hN : (N : Int) = pagesOf ga gd gl) (hl : l.length <= 1000000) (hs : s.sz <= 90000000) (hd : s.down = false) (hsz : (s.size : Int) = Geom.sizeOf ga gd gl)
   (w : World) (hP : PgsAt w Ba Bf Bt F (.pointer (some ⟨g, 0, none⟩)) (.pointer (some ⟨gS, 0, none⟩)) ga gd gl life) (hB : Both w g fp s gS bS l) (hne : ∀ j ∈ bS :: gS :: fp, j ≠ B) (hneA : Ba ≠ B) (hneT : Bt ≠ B)
   (J Jx : List It -> World -> Prop)
   (hY : ∀ pre x W, J pre W -> It.Ok w.heap.size W x -> pre.length < N -> YieldAt Fence.wide (n - 1) Tryz.prog lp x.enc W fun e W' =>
     (e = .returned (.bool true) /\ J (pre ++ [x]) W' /\ KpK B w.heap.size W W') \/ (e = .returned (.bool false) /\ Jx (pre ++ [x]) W'))
   (W : World) (hW : Below w.heap.size w W) (hJb : ∀ pre (W W' : World), J pre W -> Below W.heap.size W W' -> J pre W') (h0 : J [] W) :
   CallsIn Fence.wide n Tryz.prog 115 #[.func (.yield lp) #[] #[], .pointer (some ⟨Ba, 0, none⟩), .pointer (some ⟨Bf, 0, none⟩), .pointer (some ⟨Bt, 0, none⟩)] W fun e W' => (∃ v, e = .returned v) /\
     ((∃ ys, ys.map It.f = (List.range N).map (want l s ga gd gl life) /\ J ys W') \/ (∃ pre, (∃ k, k <= N /\ pre.map It.f = (List.range k).map (want l s ga gd gl life)) /\ Jx pre W')) := by
 have HP := Lib.hid (fun W => Geom.pages_any ga gd gl W hG.a0 hG.a1 hG.d0 hG.d1 hG.g0 hG.g1)
 rw [<- hN] at HP
 have hall : ∀ j ∈ bS :: gS :: fp, j < w.heap.size /\ j ≠ B := by
   intro j hj
   refine ⟨?_, hne j hj⟩
   rcases List.mem_cons.1 hj with e | e
   · rw [e]; exact hB.sym.lt.2
   rcases List.mem_cons.1 e with e | e
   · rw [e]; exact hB.sym.lt.1
   · exact hB.disk.lt _ e
 have hPA := hP.area
 have hPT := hP.there
 have hLA := hPA.lt
 have hLT := hPT.lt
 have facts : ∀ X, KpK B w.heap.size w X -> Blk X Ba (acell (.pointer (some ⟨g, 0, none⟩)) (.pointer (some ⟨gS, 0, none⟩)) ga gd gl life) /\ Box X Bt (.func (.func 114) #[] #[.pointer (some ⟨Ba, 0, none⟩)]) /\ Both X g fp s gS bS l := fun X k => ⟨hPA.kpk k hLA hneA, hPT.kpk k hLT hneT, hB.kpk k hall⟩
 have HF := Lib.hid facts
 have hAr := Lib.hid (fun (k : Nat) (hk : k < N) W => Geom.area_any ga gd gl life _ (by rfl) (k : Int) W hG.a0 hG.a1 hG.d0 hG.d1 hG.g0 hG.g1 (show Geom.lo <= (k : Int) by unfold Geom.lo; omega) (show (k : Int) <= Geom.hi by unfold Geom.hi; have := pagesOf_bd ga gd gl; omega))
 have har := Lib.hid (fun (k : Nat) (hk : k < N) => area_ok (ga := ga) (gd := gd) (gl := gl) (life := life) (k := k) (by omega))
 have hW0 : KpK B w.heap.size w W := KpK.of_below hW (Nat.le_refl _)
 obtain ⟨hA0, _, _⟩ := facts W hW0
 obtain ⟨z0, z1, z2, z3, z4, z5⟩ := six6 hA0
 have HS := Lib.hid (And.intro hsz hd)
 have hN85 : N <= 85 := by have := pagesOf_bd ga gd gl; omega
 have HN := Lib.hid hN
 clear facts hall hPA hPT hLA hLT hW hP hB hsz hN hA0
 refine callsIn_of_wp Tryz.func115 rfl trivial ?_ rfl
 simp only [Tryz.ntmps115, List.size_toArray, List.length_cons, List.length_nil, Nat.reduceAdd, Nat.reduceSub, Array.replicate_succ, Array.replicate_zero, List.push_toArray, List.append_toArray, List.nil_append, List.cons_append]
 gi_wp2_with fail
 refine ⟨trivial, (callsIn_wide.2 (HP.out _)).mono ?_⟩
 rintro e1 w1 ⟨rfl, b1⟩
 have k1 := hW0.trans (KpK.of_below b1 hW0.size)
 have h1 := hJb _ _ _ h0 b1
 clear z0 z1 z2 z3 z4 z5 h0
 gi_wp2_with fail
 gi_loopw [14] (fun i wr => ∃ k : Nat, k <= N /\ i = .int .i64 (k : Int) /\ KpK B w.heap.size w wr /\ ∃ pre : List It, Hid (pre.map It.f = (List.range k).map (want l s ga gd gl life)) /\ J pre wr) (fun i _ => N - (intOf i).toNat)
 case atStart => exact ⟨0, by omega, rfl, k1, [], Lib.hid rfl, h1⟩
 case round =>
   obtain ⟨k, hk, rfl, kp, pre, hpre, hJ⟩ := hrel
   clear h1 k1
   have hwk := wrap_up (k := k) (by omega)
   obtain ⟨hA, hT, hBo⟩ := HF.out wr kp
   by_cases hlt : k < N
   · have hp0 := (har.out k hlt).1
     have hp1 := (har.out k hlt).2.1
     have hp2 := (har.out k hlt).2.2
     have hArk := hAr.out k hlt
     have hri : rdAt l s ga gd gl life k = Sec.decode (ckS l (Disk.read s (areaAt ga gd gl life.toNat k)).1) (areaAt ga gd gl life.toNat k) (Disk.read s (areaAt ga gd gl life.toNat k)).1 := rfl
     have hpg : isPg l s ga gd gl life k = (decide ((rdAt l s ga gd gl life k).2 = 0) && isX life k (rdAt l s ga gd gl life k).1) := rfl
     have hwt : want l s ga gd gl life k = (k, isPg l s ga gd gl life k, (rdAt l s ga gd gl life k).1.body) := rfl
     obtain ⟨p, hp⟩ : ∃ p, p = areaAt ga gd gl life.toNat k := ⟨_, rfl⟩
     rw [<- hp] at hArk hp0 hp1 hp2 hri
     have hrd : (Disk.read s p).2 = 0 := by unfold Disk.read; rw [if_neg (by rw [HS.out.2]; simp), if_neg (by have := HS.out.1; omega)]
     have hbl : (Disk.read s p).1.length = 512 := by unfold Disk.read; rw [if_neg (by rw [HS.out.2]; simp), if_neg (by have := HS.out.1; omega)]; exact Disk.kept_len (n := s.size) (fun x hx => (List.mem_append.1 hx).elim (hBo.disk.ok.all x) (hBo.disk.ok.pend x)) _
     have hR := fun W (h : DAt W g fp s) => read_any g fp s p W h (by omega)
     obtain ⟨r, hr⟩ : ∃ r, r = Disk.read s p := ⟨_, rfl⟩
     rw [<- hr] at hR hbl hri hrd
     obtain ⟨b, f⟩ := r
     simp only at hrd hbl hri
     subst hrd
     have hD := fun W (hS : SymAt W gS bS l) A c hr hc hcm => decode_sym p gS bS l A b b.length c W hS hl (by omega) (by omega) rfl hr (by omega) hc hcm
     rw [<- hri] at hD
     have hlen : (rdAt l s ga gd gl life k).1.body.length <= 1000 := by rw [hri]; exact dec_body_len _ _ hbl
     obtain ⟨d, hd'⟩ : ∃ d, d = rdAt l s ga gd gl life k := ⟨_, rfl⟩
     rw [<- hd'] at hD hpg hwt hlen
     have HArk := Lib.hid hArk
     have HR := Lib.hid hR
     have HD := Lib.hid hD
     have Hwt := Lib.hid hwt
     have Hlen := Lib.hid hlen
     clear hArk hR hD hwt hp hr hbl hri hd' hp0 hp1 hp2 hlen
     obtain ⟨z0, z1, z2, z3, z4, z5⟩ := six6 hA
     gi_wp2_with fail
     refine ⟨trivial, (callsIn_wide.2 (HArk.out _)).mono ?_⟩
     rintro e2 w2 ⟨rfl, b2⟩
     have k2 := kp.trans (KpK.of_below b2 kp.size)
     obtain ⟨hA2, hT2, hBo2⟩ := HF.out w2 k2
     clear z0 z1 z2 z3 z4 z5
     obtain ⟨z0, z1, z2, z3, z4, z5⟩ := six6 hA2
     gi_wp2_with fail
     refine ⟨trivial, (callsIn_wide.2 (HR.out _ hBo2.disk)).mono ?_⟩
     rintro e3 w3 ⟨v, rfl, hN3, b3⟩
     obtain ⟨A1, c1, rfl, hc1, hm1, rd1⟩ := hN3.rdN (fp := []) (by simp)
     have k3 := k2.trans (KpK.of_below b3 k2.size)
     obtain ⟨hA3, hT3, hBo3⟩ := HF.out w3 k3
     clear z0 z1 z2 z3 z4 z5
     obtain ⟨z0, z1, z2, z3, z4, z5⟩ := six6 hA3
     gi_wp2_with fail
     refine ⟨trivial, (callsIn_wide.2 (HD.out _ hBo3.sym A1 c1 rd1.rd hc1 hm1)).mono ?_⟩
     rintro e4 w4 ⟨⟨A4, c4, rfl, own4⟩, b4⟩
     unfold xv
     have k4 := k3.trans (KpK.of_below b4 k3.size)
     clear z0 z1 z2 z3 z4 z5
     have Own4 := Lib.hid own4
     clear own4
     have t0 : True := trivial
     cases hd0 : decide (d.2 = 0) with
     | true =>
       have e0 := beq_yes (of_decide_eq_true hd0)
       rw [hd0, Bool.true_and] at hpg
       have Hpg := Lib.hid hpg
       clear hpg hd0
       gi_wp2_with fail
       have hx5 := Blk.new w4 [.int .i64 d.1.kind, .int .u64 (d.1.life.toNat : Int), .int .i64 d.1.seq, .int .u64 (d.1.gen.toNat : Int), .slice A4 d.1.body.length c4] 157
       have b5 := b1alloc w4 (.cells ([.int .i64 d.1.kind, .int .u64 (d.1.life.toNat : Int), .int .i64 d.1.seq, .int .u64 (d.1.gen.toNat : Int), .slice A4 d.1.body.length c4] : List Value).toArray 157)
       obtain ⟨w5, hw5⟩ : ∃ q, q = w4.alloc (.cells ([.int .i64 d.1.kind, .int .u64 (d.1.life.toNat : Int), .int .i64 d.1.seq, .int .u64 (d.1.gen.toNat : Int), .slice A4 d.1.body.length c4] : List Value).toArray 157) := ⟨_, rfl⟩
       rw [<- hw5] at hx5 b5
       have e5 : (w4.alloc (.cells #[.int .i64 d.1.kind, .int .u64 (d.1.life.toNat : Int), .int .i64 d.1.seq, .int .u64 (d.1.gen.toNat : Int), .slice A4 d.1.body.length c4] 157)) = w5 := hw5.symm
       rw [e5]
       have k5 := k4.trans (KpK.of_below b5 k4.size)
       obtain ⟨hA5, hT5, _⟩ := HF.out w5 k5
       have hT5c := hT5.cell
       have hlx := hx5.lt
       have hlT := hT5.lt
       obtain ⟨x0, x1, x2, x3, x4⟩ := five5x hx5
       have J5 := hJb _ _ _ hJ (bt (bt (bt b2 b3) b4) b5)
       have hmf : ∀ (x : Array Value) (w : World), Sem.run Tryz.prog (callFunc 114 x) w = .ok (.enter 114 x) w := by intro x w; simp [go_sem]
       clear hw5 e5 hx5
       refine region_inb_tail_wide 13 (by kernel_rfl) (by kernel_rfl) (by kernel_rfl) ?_
       simp only [List.take_succ_cons, List.take_zero, List.drop_succ_cons, List.drop_zero]
       have inbNe := InB.some
       have inbW := @wrap_small
       have inbU := IntKind.wrap_u8'
       repeat (refine wpQuiet_step (fun K hK => ?_); go_simp; first | (refine hK _ ?_; clear hK K) | (apply Exists.intro; refine ⟨?_, hK _ ?_⟩; (· (intro w' hw'; first | (go_at_call 114; refine (there_any d.1 A4 c4 k Ba _ _ ga gd gl life _ (hA5.on hw'.below)).mono ?_; rintro e w6 ⟨rfl, b6⟩; exact ⟨rfl, hw'.on b6⟩) | (have hcw := hw'.cell; go_simp; exact rfl))); clear hK K))
       refine wpQuiet_nil ?_
       intro wq hq
       clear inbNe inbW inbU
       have J6 := hJb _ _ _ J5 hq.below
       have own6 := own_on (own_on Own4.out b5) hq.below
       have ok6 : It.Ok w.heap.size wq ⟨k, A4, c4, d.1.body, isX life k d.1⟩ := ⟨own_base own6 k3.size, Hlen.out⟩
       obtain ⟨fn, tmps, assign, body, hy, hRr⟩ := hY pre ⟨k, A4, c4, d.1.body, isX life k d.1⟩ wq J6 ok6 (by have := congrArg List.length hpre.out; simp at this; omega)
       unfold It.enc at hy
       simp only at hy
       clear ok6 J6 own6
       gi_wp2_with fail
       refine hRr.mono ?_
       rintro e7 w7 (⟨rfl, hJ7, hk7⟩ | ⟨rfl, hJx7⟩)
       · gi_wp2_with fail
         go_roundw
         case rel => exact ⟨k + 1, by omega, by go_num, (k5.trans (KpK.of_below hq.below k5.size)).trans hk7, _, Lib.hid (range_up _ k pre _ hpre.out (by rw [Hwt.out, Hpg.out]; rfl)), hJ7⟩
         case measure => simp only [intOf]; omega
       · gi_wp2_with fail
         refine bodyPost_ret (results_none rfl _ _ _) rfl ?_
         exact ⟨⟨_, rfl⟩, .inr ⟨_, ⟨k + 1, by omega, range_up _ k pre _ hpre.out (by rw [Hwt.out, Hpg.out]; rfl)⟩, hJx7⟩⟩
     | false =>
       have e0 := beq_no (of_decide_eq_false hd0)
       rw [hd0, Bool.false_and] at hpg
       have Hpg := Lib.hid hpg
       clear hpg hd0
       gi_wp2_with fail
       have hx5 := Blk.new w4 [.int .i64 d.1.kind, .int .u64 (d.1.life.toNat : Int), .int .i64 d.1.seq, .int .u64 (d.1.gen.toNat : Int), .slice A4 d.1.body.length c4] 157
       have b5 := b1alloc w4 (.cells ([.int .i64 d.1.kind, .int .u64 (d.1.life.toNat : Int), .int .i64 d.1.seq, .int .u64 (d.1.gen.toNat : Int), .slice A4 d.1.body.length c4] : List Value).toArray 157)
       obtain ⟨w5, hw5⟩ : ∃ q, q = w4.alloc (.cells ([.int .i64 d.1.kind, .int .u64 (d.1.life.toNat : Int), .int .i64 d.1.seq, .int .u64 (d.1.gen.toNat : Int), .slice A4 d.1.body.length c4] : List Value).toArray 157) := ⟨_, rfl⟩
       rw [<- hw5] at hx5 b5
       have e5 : (w4.alloc (.cells #[.int .i64 d.1.kind, .int .u64 (d.1.life.toNat : Int), .int .i64 d.1.seq, .int .u64 (d.1.gen.toNat : Int), .slice A4 d.1.body.length c4] 157)) = w5 := hw5.symm
       rw [e5]
       have k5 := k4.trans (KpK.of_below b5 k4.size)
       obtain ⟨hA5, hT5, _⟩ := HF.out w5 k5
       have hT5c := hT5.cell
       have hlx := hx5.lt
       have hlT := hT5.lt
       obtain ⟨x0, x1, x2, x3, x4⟩ := five5x hx5
       have J5 := hJb _ _ _ hJ (bt (bt (bt b2 b3) b4) b5)
       have hmf : ∀ (x : Array Value) (w : World), Sem.run Tryz.prog (callFunc 114 x) w = .ok (.enter 114 x) w := by intro x w; simp [go_sem]
       clear hw5 e5 hx5
       refine region_inb_tail_wide 13 (by kernel_rfl) (by kernel_rfl) (by kernel_rfl) ?_
       simp only [List.take_succ_cons, List.take_zero, List.drop_succ_cons, List.drop_zero]
       have inbNe := InB.some
       have inbW := @wrap_small
       have inbU := IntKind.wrap_u8'
       repeat (refine wpQuiet_step (fun K hK => ?_); go_simp; first | (refine hK _ ?_; clear hK K) | (apply Exists.intro; refine ⟨?_, hK _ ?_⟩; (· (intro w' hw'; first | (have hcw := hw'.cell; go_simp; exact rfl))); clear hK K))
       refine wpQuiet_nil ?_
       intro wq hq
       clear inbNe inbW inbU
       have J6 := hJb _ _ _ J5 hq.below
       have own6 := own_on (own_on Own4.out b5) hq.below
       have ok6 : It.Ok w.heap.size wq ⟨k, A4, c4, d.1.body, false⟩ := ⟨own_base own6 k3.size, Hlen.out⟩
       obtain ⟨fn, tmps, assign, body, hy, hRr⟩ := hY pre ⟨k, A4, c4, d.1.body, false⟩ wq J6 ok6 (by have := congrArg List.length hpre.out; simp at this; omega)
       unfold It.enc at hy
       simp only at hy
       clear ok6 J6 own6
       gi_wp2_with fail
       refine hRr.mono ?_
       rintro e7 w7 (⟨rfl, hJ7, hk7⟩ | ⟨rfl, hJx7⟩)
       · gi_wp2_with fail
         go_roundw
         case rel => exact ⟨k + 1, by omega, by go_num, (k5.trans (KpK.of_below hq.below k5.size)).trans hk7, _, Lib.hid (range_up _ k pre _ hpre.out (by rw [Hwt.out, Hpg.out]; rfl)), hJ7⟩
         case measure => simp only [intOf]; omega
       · gi_wp2_with fail
         refine bodyPost_ret (results_none rfl _ _ _) rfl ?_
         exact ⟨⟨_, rfl⟩, .inr ⟨_, ⟨k + 1, by omega, range_up _ k pre _ hpre.out (by rw [Hwt.out, Hpg.out]; rfl)⟩, hJx7⟩⟩
   · have hkN : k = N := by omega
     have Hk := Lib.hid hkN
     have hkn : ¬ (k : Int) < (N : Int) := by omega
     clear hkN
     gi_wp2
     go_end0
     exact ⟨⟨_, rfl⟩, .inl ⟨pre, by rw [<- Hk.out]; exact hpre.out, hJ⟩⟩
theorem pages2_ok (n : Nat) (hn : 1 <= n) (B Ba Bf Bt F g : Nat) (fp : List Nat) (s : St) (gS bS : Nat) (l : List (List UInt8)) (ga gd gl : Int) (life : UInt64) (N : Nat) (hG : Gb ga gd gl) (hN : (N : Int) = pagesOf ga gd gl) (hl : l.length <= 1000000) (hs : s.sz <= 90000000) (hd : s.down = false) (hsz : (s.size : Int) = Geom.sizeOf ga gd gl)
   (w : World) (hP : PgsAt w Ba Bf Bt F (.pointer (some ⟨g, 0, none⟩)) (.pointer (some ⟨gS, 0, none⟩)) ga gd gl life) (hB : Both w g fp s gS bS l) (hne : ∀ j ∈ bS :: gS :: fp, j ≠ B) (hneA : Ba ≠ B) (hneT : Bt ≠ B) :
   SeqOk n Tryz.prog 115 #[.pointer (some ⟨Ba, 0, none⟩), .pointer (some ⟨Bf, 0, none⟩), .pointer (some ⟨Bt, 0, none⟩)] It.enc (It.Ok w.heap.size) (KpK B w.heap.size) (fun ys => ys.map It.f = (List.range N).map (want l s ga gd gl life))
     (fun pre => ∃ k, k <= N /\ pre.map It.f = (List.range k).map (want l s ga gd gl life)) N w := fun lp J Jx W hW hJ hJx hY h0 =>
 pages2_in n hn lp B Ba Bf Bt F g fp s gS bS l ga gd gl life N hG hN hl hs hd hsz w hP hB hne hneA hneT J Jx hY W hW (fun pre W W' h b => hJ pre W W' none h (below_grown b none) (fun r e => by cases e)) h0
end Go.Proofs.YtchcmklelmlbgaaGreat.Snap
namespace Go.Proofs.YtchcmklelmlbgaaGreat
open Go.RowKit
set_option linter.unusedVariables false
theorem ownU {W W' : World} {base : Nat} {e : TypeId} {n : Nat} {v : Value} {xs : List Value} (h : W.ownsRow base e 1 v n xs) (hk : ∀ (j : Nat) (cs : Array Value), W.heap[j]? = some (Obj.cells cs e (0, 0)) -> W'.heap[j]? = W.heap[j]?) : W'.ownsRow base e 1 v n xs := by
 refine ⟨h.1, ?_⟩
 rcases h.2 with h | ⟨g, cap, cur, rfl, hg, hh, r⟩
 · exact .inl h
 · exact .inr ⟨g, cap, cur, rfl, hg, (hk g cur hh).trans hh, r⟩
theorem box_app {W Wq w1 : World} {n0 B : Nat} {t e : TypeId} {v v' : Value} {k m : Nat} {xs ys : List Value}
   (hv : Boxed W B t v) (hte : t ≠ e) (hrow : W.ownsRow n0 e 1 v k xs) (hn0 : n0 <= W.heap.size) (hb : B < n0) (bq : Below W.heap.size W Wq)
   (hown : w1.ownsRow n0 e 1 v' m ys) (hg : Wq.grownBy w1 v.ownBlock) :
   Boxed w1 B t v /\ Boxed (w1.setCell ⟨B, 0, none⟩ v') B t v' /\ (w1.setCell ⟨B, 0, none⟩ v').ownsRow n0 e 1 v' m ys /\ KeepsOthers W (w1.setCell ⟨B, 0, none⟩ v') /\ KpK B n0 W (w1.setCell ⟨B, 0, none⟩ v') /\
     (∀ n1, n1 <= B -> Below n1 W (w1.setCell ⟨B, 0, none⟩ v')) /\ ∀ u, u ≠ t -> u ≠ e -> ∀ (j : Nat) (cs : Array Value), W.heap[j]? = some (Obj.cells cs u (0, 0)) -> (w1.setCell ⟨B, 0, none⟩ v').heap[j]? = W.heap[j]? := by
 have hvq : Boxed Wq B t v := (bq.block B hv.lt).trans hv
 have hrowq : Wq.ownsRow n0 e 1 v k xs := own_on hrow bq
 have hv1 : Boxed w1 B t v := hvq.kept hg (hvq.not_row hte hrowq)
 have hob : ∀ g, v.ownBlock = some g -> n0 <= g := fun g hg => own_block hrow hg
 have hs := grownBy_setCell' w1 B v'
 have hsz := bq.size
 refine ⟨hv1, hv1.set v', hown.kept hs (.inr (hv1.not_row hte hown).symm), ?_, ?_, ?_, ?_⟩
 · refine (Ch.keeps_below bq).trans ((KeepsOthers.of_grownBy hg fun j o ej hj => ?_).trans (KeepsOthers.setCell _ _ _))
   rcases hrowq.2 with ⟨rfl, _⟩ | ⟨g, cap, cur, rfl, _, hgb, _⟩
   · simp [Value.ownBlock] at ej
   · obtain rfl : g = j := by simpa [Value.ownBlock] using ej
     rw [hgb] at hj; cases hj; rfl
 · refine (show KpK B n0 W w1 from ⟨hg.os.trans bq.os, hg.tape.trans bq.tape, hg.output.trans bq.output, Nat.le_trans hsz hg.size, fun j hj hn => ?_⟩).set v'
   rw [hg.block j (by omega) (fun e => by have := hob j e.symm; omega), bq.block j (by omega)]
 · intro n1 hn1
   have b1 : Below n1 W Wq := bq.mono (by omega)
   have b3 := b1.grown hg (by omega) (fun g hg => by have := hob g hg; omega)
   exact b3.setCell (p := ⟨B, 0, none⟩) hn1 v'
 · intro u hut hue j cs hj
   have hjl : j < W.heap.size := lt_of_block hj
   have hjB : j ≠ B := fun e => by
     subst e
     have := hv
     unfold Boxed at this
     rw [hj] at this; injection this with this; injection this with _ h2 _; exact hut h2
   have hjv : some j ≠ v.ownBlock := fun e => by
     rcases hrow.2 with ⟨rfl, _⟩ | ⟨g, cap, cur, rfl, _, hgb, _⟩
     · simp [Value.ownBlock] at e
     · obtain rfl : g = j := by simpa [Value.ownBlock] using e.symm
       rw [hj] at hgb; injection hgb with h1; injection h1 with _ h2 _; exact hue h2
   rw [Below.heap_setCell w1 ⟨B, 0, none⟩ v' j hjB, hg.block j (by omega) hjv, bq.block j hjl]
theorem kpK_grown {B n : Nat} {w W W' : World} {row : Option Nat} (h : KpK B n w W) (hg : W.grownBy W' row) (hr : ∀ r, row = some r -> n <= r) (hn : n <= w.heap.size) : KpK B n w W' :=
 ⟨hg.os.trans h.1, hg.tape.trans h.2.1, hg.output.trans h.2.2.1, Nat.le_trans h.size hg.size, fun j hj hB => (hg.block j (by have := h.size; omega) (fun e => by have := hr j e.symm; omega)).trans (h.block hj hB)⟩
end Go.Proofs.YtchcmklelmlbgaaGreat
namespace Go.Proofs.YtchcmklelmlbgaaGreat.Snap
open Go.RowKit Go.Shelf
open Go.Proofs.YtchcmklelmlbgaaGreat.Geom
open Go.Proofs.YtchcmklelmlbgaaGreat.Ch (SeqOk range_ok)
open Go.Proofs.YtchcmklelmlbgaaGreat.Sup (Gb gv gcell srightF gthree)
open Go.Proofs.YtchcmklelmlbgaaGreat.Disk (St DAt Did New8 Told8 read_any)
open Go.Proofs.YtchcmklelmlbgaaGreat.Sec (X SymAt text sumOf sumAfter ckS blankB rightF encode_sym decode_sym right_0 right_2 xv RetX X0 five5x)
attribute [local go_sem] Oper.semAt_some
set_option linter.unusedVariables false
set_option maxRecDepth 100000
theorem It.Ok.keepU {n0 : Nat} {W W' : World} {x : It} (h : It.Ok n0 W x) (hk : ∀ (j : Nat) (cs : Array Value), W.heap[j]? = some (Obj.cells cs 5 (0, 0)) -> W'.heap[j]? = W.heap[j]?) : It.Ok n0 W' x := ⟨ownU h.1 hk, h.2⟩
theorem It.Ok.grown {n0 : Nat} {W W' : World} {x : It} {row : Option Nat} (h : It.Ok n0 W x) (hg : W.grownBy W' row) (hr : ∀ r, row = some r -> ∃ o : Obj, W.heap[r]? = some o /\ o.isCells = false) : It.Ok n0 W' x :=
 h.keepU fun j cs hj => hg.block j (lt_of_block hj) fun e => by
   obtain ⟨o, ho, hc⟩ := hr j e.symm
   rw [hj] at ho; cases ho; cases hc
theorem It.Ok.on {n0 : Nat} {W W' : World} {x : It} (h : It.Ok n0 W x) (b : Below W.heap.size W W') : It.Ok n0 W' x := h.keepU fun j cs hj => b.block j (lt_of_block hj)
def It.sl (x : It) : Value := .slice x.A x.body.length x.c
def allPg (l : List (List UInt8)) (s : St) (ga gd gl : Int) (life : UInt64) (N : Nat) : Bool := (List.range N).all (isPg l s ga gd gl life)
def bodies (l : List (List UInt8)) (s : St) (ga gd gl : Int) (life : UInt64) (N : Nat) : List (List UInt8) := (List.range N).map fun k => (rdAt l s ga gd gl life k).1.body
def snapR (l : List (List UInt8)) (s : St) (ga gd gl : Int) (life : UInt64) (N : Nat) : Option (List (List UInt8)) := if allPg l s ga gd gl life N = true then some (bodies l s ga gd gl life N) else none
def OwnRows (w : World) (base : Nat) (v : Value) (l : List (List UInt8)) : Prop := ∃ its : List It, w.ownsRow base 51 1 v its.length (its.map It.sl) /\ its.map It.body = l /\ ∀ x ∈ its, It.Ok base w x
def RetRows (w : World) (o : Option (List (List UInt8))) (e : Ending) (w' : World) : Prop :=
 match o with
 | none => e = .returned (.tuple #[.slice none 0 0, .int .i64 11])
 | some l => ∃ A c, e = .returned (.tuple #[.slice A l.length c, .int .i64 0]) /\ OwnRows w' w.heap.size (.slice A l.length c) l
theorem all_want {l : List (List UInt8)} {s : St} {ga gd gl : Int} {life : UInt64} {N : Nat} {xs : List It} (h : xs.map It.f = (List.range N).map (want l s ga gd gl life)) (ha : ∀ x ∈ xs, x.is = true) :
   xs.length = N /\ snapR l s ga gd gl life N = some (xs.map It.body) := by
 have hl : xs.length = N := by simpa using congrArg List.length h
 have hk : ∀ k (hk : k < N), isPg l s ga gd gl life k = true /\ (rdAt l s ga gd gl life k).1.body = (xs[k]'(by omega)).body := by
   intro k hk
   have h1 : (xs.map It.f)[k]? = ((List.range N).map (want l s ga gd gl life))[k]? := by rw [h]
   rw [List.getElem?_map, List.getElem?_map, List.getElem?_eq_getElem (by omega), List.getElem?_range hk] at h1
   simp only [Option.map_some, Option.some.injEq] at h1
   unfold It.f want at h1
   injection h1 with h1 h2
   injection h2 with h2 h3
   exact ⟨by rw [<- h2]; exact ha _ (List.getElem_mem _), h3.symm⟩
 refine ⟨hl, ?_⟩
 unfold snapR
 rw [if_pos (by unfold allPg; rw [List.all_eq_true]; intro k hkm; exact (hk k (List.mem_range.1 hkm)).1)]
 congr 1
 unfold bodies
 apply List.ext_getElem
 · simp [hl]
 · intro i h1 h2
   simp only [List.getElem_map, List.getElem_range]
   exact (hk i (by simpa using h1)).2
theorem not_want {l : List (List UInt8)} {s : St} {ga gd gl : Int} {life : UInt64} {N k : Nat} {pre : List It} {x : It} (hk : k <= N) (h : (pre ++ [x]).map It.f = (List.range k).map (want l s ga gd gl life)) (hx : x.is = false) :
   snapR l s ga gd gl life N = none := by
 have hl : pre.length + 1 = k := by simpa using congrArg List.length h
 have h1 : ((pre ++ [x]).map It.f)[pre.length]? = ((List.range k).map (want l s ga gd gl life))[pre.length]? := by rw [h]
 rw [List.getElem?_map, List.getElem?_map, List.getElem?_append_right (Nat.le_refl _), List.getElem?_range (by omega)] at h1
 simp only [Nat.sub_self, List.getElem?_cons_zero, Option.map_some, Option.some.injEq] at h1
 unfold It.f want at h1
 injection h1 with h1 h2
 injection h2 with h2 h3
 unfold snapR
 rw [if_neg]
 intro hc
 unfold allPg at hc
 rw [List.all_eq_true] at hc
 have := hc pre.length (List.mem_range.2 (by omega))
 rw [<- h2, hx] at this
 cases this
def RInv (w w4 : World) (pre : List It) (X : World) : Prop := ((∃ v, Boxed X (w.heap.size + 1) 47 v /\ X.ownsRow w4.heap.size 51 1 v pre.length (pre.map It.sl) /\ True) /\ Boxed X (w.heap.size + 1 + 1) 29 (.int .i64 0) /\ KpK (w.heap.size + 1) w4.heap.size w4 X /\ Below w.heap.size w X) /\ ∀ x ∈ pre, It.Ok w4.heap.size X x /\ x.is = true
theorem RInv.own {w w4 : World} (h1 : w.heap.size + 1 + 1 < w4.heap.size) : OwnFrom w4.heap.size (RInv w w4) := by
 intro pre X X' row hI hg hr
 refine ⟨⟨holdsRow_own w4.heap.size (w.heap.size + 1) 47 51 1 (fun pre : List It => pre.length) (fun pre => pre.map It.sl) (fun _ _ => True) pre X X' row hI.1.1 hg (fun g e => (hr g e).2), ?_, kpK_grown hI.1.2.2.1 hg (fun r e => (hr r e).1) (Nat.le_refl _), hI.1.2.2.2.grown hg (by have := hI.1.2.2.2.size; omega) (fun r e => by have := (hr r e).1; omega)⟩, fun x hx => ⟨(hI.2 x hx).1.grown hg (fun r e => (hr r e).2), (hI.2 x hx).2⟩⟩
 exact hI.1.2.1.kept hg (fun e => by have := (hr _ e.symm).1; omega)
set_option maxHeartbeats 2000000 in
theorem read_any (g : Nat) (fp : List Nat) (s : St) (gS bS : Nat) (l : List (List UInt8)) (ga gd gl : Int) (life : UInt64) (w : World) (hG : Gb ga gd gl) (h : Both w g fp s gS bS l) (hl : l.length <= 1000000) (hs : s.sz <= 90000000) (hf : srightF s ga gd gl = 0) (hd : s.down = false) (N : Nat) (hN : (N : Int) = pagesOf ga gd gl) :
   Calls Tryz.prog 53 #[.pointer (some ⟨g, 0, none⟩), .pointer (some ⟨gS, 0, none⟩), gv ga gd gl, .int .u64 (life.toNat : Int)] w fun e w' => RetRows w (snapR l s ga gd gl life N) e w' /\ Below w.heap.size w w' := by
 have FG := Blk.new w (gcell ga gd gl) 23
 obtain ⟨z0, z1, z2⟩ := gthree FG
 have HR := Lib.hid (fun W (bW : Below w.heap.size w W) => right_any g fp s gS ga gd gl life W hG (h.disk.on bW))
 rw [hf] at HR
 have hsz : (s.size : Int) = Geom.sizeOf ga gd gl := by
   unfold srightF at hf
   split at hf
   · rename_i h; exact h.2
   · cases hf
 refine (callsIn_wide (n := 8)).1 ?_
 refine callsIn_of_wp_marks Tryz.func53 rfl trivial ?_ rfl
 simp only [Tryz.ntmps53, List.size_toArray, List.length_cons, List.length_nil, Nat.reduceAdd, Nat.reduceSub, Array.replicate_succ, Array.replicate_zero, List.push_toArray, List.append_toArray, List.nil_append, List.cons_append]
 gi_wp2_with fail
 have hb3 : ∃ w0, w0 = (((w.alloc (.cells (gcell ga gd gl).toArray 23)).alloc (.cells #[.slice none 0 0] 47)).alloc (.cells #[.int .i64 0] 29)).alloc (.cells (acell (.pointer (some ⟨g, 0, none⟩)) (.pointer (some ⟨gS, 0, none⟩)) ga gd gl life).toArray 143) := ⟨_, rfl⟩
 obtain ⟨w0, hw0⟩ := hb3
 have bx8 : Boxed w0 (w.heap.size + 1) 47 (.slice none 0 0) := by
   have := Boxed.new (w.alloc (.cells (gcell ga gd gl).toArray 23)) 47 (.slice none 0 0)
   simp at this
   rw [hw0]
   exact (Below.heap_alloc _ _ _ (by simp)).trans ((Below.heap_alloc _ _ _ (by simp)).trans this)
 have bx9 : Boxed w0 (w.heap.size + 1 + 1) 29 (.int .i64 0) := by
   have := Boxed.new ((w.alloc (.cells (gcell ga gd gl).toArray 23)).alloc (.cells #[.slice none 0 0] 47)) 29 (.int .i64 0)
   simp at this
   rw [hw0]
   exact (Below.heap_alloc _ _ _ (by simp)).trans this
 have ba : Blk w0 (w.heap.size + 1 + 1 + 1) (acell (.pointer (some ⟨g, 0, none⟩)) (.pointer (some ⟨gS, 0, none⟩)) ga gd gl life) := by
   rw [hw0]
   have := Blk.new (((w.alloc (.cells (gcell ga gd gl).toArray 23)).alloc (.cells #[.slice none 0 0] 47)).alloc (.cells #[.int .i64 0] 29)) (acell (.pointer (some ⟨g, 0, none⟩)) (.pointer (some ⟨gS, 0, none⟩)) ga gd gl life) 143
   simpa using this
 have b0 : Below w.heap.size w w0 := by rw [hw0]; exact bt (b3alloc _ _ _ _) (b1alloc _ _)
 rw [show (((w.alloc (.cells #[.int .i64 ga, .int .i64 gd, .int .i64 gl] 23)).alloc (.cells #[.slice none 0 0] 47)).alloc (.cells #[.int .i64 0] 29)).alloc (.cells #[.pointer (some ⟨g, 0, none⟩), .pointer (some ⟨gS, 0, none⟩), .int .i64 ga, .int .i64 gd, .int .i64 gl, .int .u64 (life.toNat : Int)] 143) = w0 from hw0.symm]
 clear hw0 z0 z1 z2 FG
 refine ⟨trivial, (callsIn_wide.2 (HR.out _ b0)).mono ?_⟩
 rintro e1 w1 ⟨rfl, b1⟩
 have b01 := bt b0 b1
 have hba1 := (ba.on b1).lt
 obtain ⟨z0, z1, z2, z3, z4, z5⟩ := six6 (ba.on b1)
 gi_wp2_with fail
 refine ⟨trivial, (callsIn_wide.2 (pages_any g gS (w.heap.size + 1 + 1) ga gd gl life w1)).mono ?_⟩
 rintro e4 w4 ⟨rfl, hP4, b4⟩
 have b04 := bt b01 b4
 have bb4 := bt b1 b4
 have bx84 : Boxed w4 (w.heap.size + 1) 47 (.slice none 0 0) := (bb4.block _ bx8.lt).trans bx8
 have bx94 : Boxed w4 (w.heap.size + 1 + 1) 29 (.int .i64 0) := (bb4.block _ bx9.lt).trans bx9
 clear z0 z1 z2 z3 z4 z5 bx8 bx9 ba bb4 b0 b1 b01
 gi_wp2_with fail
 obtain ⟨i0, hi0, hz0, hz1, hz2⟩ := info_parts infoS
 have hs1 : w.heap.size + 3 < w1.heap.size := by have := hba1; omega
 have hs4 : w1.heap.size + 2 < w4.heap.size := hP4.there.lt
 have hB4 := h.on b04
 have hne : ∀ j ∈ bS :: gS :: fp, j ≠ w.heap.size + 1 := by
   intro j hj
   rcases List.mem_cons.1 hj with e | e
   · have := h.sym.lt.2; omega
   rcases List.mem_cons.1 e with e | e
   · have := h.sym.lt.1; omega
   · have := h.disk.lt _ e; omega
 have hN85 : N <= 85 := by have := pagesOf_bd ga gd gl; omega
 have hI : OwnFrom w4.heap.size (RInv w w4) := RInv.own (by omega)
 refine range_ok (n := 8) (by omega) (gf := 115) (lb := #[.pointer (some ⟨w1.heap.size, 0, none⟩), .pointer (some ⟨w1.heap.size + 1, 0, none⟩), .pointer (some ⟨w1.heap.size + 2, 0, none⟩)]) rfl (enters_of Tryz.func115 (by kernel_rfl) rfl)
   (pages2_ok 7 (by omega) (w.heap.size + 1) w1.heap.size (w1.heap.size + 1) (w1.heap.size + 2) (w.heap.size + 1 + 1) g fp s gS bS l ga gd gl life N hG hN hl hs hd hsz w4 hP4 hB4 hne (by omega) (by omega))
   (fun h k => h.trans k) (fun W l o o' hl h _ _ => KpK.turn W l o' hl) (Below.refl _ _) (fun _ => rfl)
   (RInv w w4)
   (fun c (pre' : List It) X => (∃ (pre : List It) (x : It), pre' = pre ++ [x] /\ c = .ret /\ x.is = false) /\ Boxed X (w.heap.size + 1) 47 (.slice none 0 0) /\ Boxed X (w.heap.size + 1 + 1) 29 (.int .i64 11) /\ Below w.heap.size w X)
   hI
   (fun c pre X X' row hI hg hr => ⟨hI.1, hI.2.1.kept hg (fun e => by have := (hr _ e.symm).1; omega), hI.2.2.1.kept hg (fun e => by have := (hr _ e.symm).1; omega), hI.2.2.2.grown hg (by have := hI.2.2.2.size; omega) (fun r e => by have := (hr r e).1; omega)⟩)
   ⟨⟨⟨_, bx84, own_nil _ _ _ _, trivial⟩, bx94, KpK.refl _ _ _, b04⟩, fun x hx => by cases hx⟩
   (fun pre x a' X => ∃ pb, a' = { tmps := #[.pointer (some ⟨g, 0, none⟩), .pointer (some ⟨gS, 0, none⟩), gv ga gd gl, .int .u64 (life.toNat : Int), undef, undef, .pointer (some ⟨w.heap.size, 0, none⟩), undef, .pointer (some ⟨w.heap.size + 1, 0, none⟩), .pointer (some ⟨w.heap.size + 1 + 1, 0, none⟩), .pointer (some ⟨w.heap.size + 1 + 1 + 1, 0, none⟩), .int .i64 0, undef, .pointer (some ⟨pb, 0, none⟩), .pointer (some ⟨g, 0, none⟩), .pointer (some ⟨gS, 0, none⟩), (gv ga gd gl), .int .u64 (life.toNat : Int), (av (.pointer (some ⟨g, 0, none⟩)) (.pointer (some ⟨gS, 0, none⟩)) ga gd gl life), (av (.pointer (some ⟨g, 0, none⟩)) (.pointer (some ⟨gS, 0, none⟩)) ga gd gl life), .int .i64 0, .int .i64 0, .bool false, undef, (av (.pointer (some ⟨g, 0, none⟩)) (.pointer (some ⟨gS, 0, none⟩)) ga gd gl life), .func (.func 115) #[] #[.pointer (some ⟨w1.heap.size, 0, none⟩), .pointer (some ⟨w1.heap.size + 1, 0, none⟩), .pointer (some ⟨w1.heap.size + 2, 0, none⟩)], .int .i64 (x.k : Int), .agg #[.slice x.A x.body.length x.c, .bool x.is], undef, undef, undef, undef, undef, undef, undef, undef, undef, undef, undef, undef], defers := [] } /\ Blk X pb [.slice x.A x.body.length x.c, .bool x.is] /\ w4.heap.size <= pb /\ It.Ok w4.heap.size X x /\ RInv w w4 pre X)
   ?_ ?assign ?body ?done ?stop
 · rintro pre x a' X lp o o' hl ho hc ⟨pb, rfl, hpb, hpl, hok, hIx⟩
   have hg := grownBy_putObj' X lp o'
   refine ⟨pb, rfl, ?_, hpl, hok.grown hg (fun r e => by cases e; exact ⟨o, ho, hc⟩), hI pre X _ (some lp) hIx hg (fun r e => by cases e; exact ⟨hl, o, ho, hc⟩)⟩
   obtain ⟨t, ht⟩ := hpb
   refine ⟨t, (hg.block pb (lt_of_block ht) (fun e => ?_)).trans ht⟩
   injection e with e
   subst e
   rw [ht] at ho; cases ho; cases hc
 case assign =>
   intro lp pre x X hIx hok hlen
   unfold It.enc
   simp [List.zip_toArray, List.setIfInBounds_toArray]
   gi_wp2
   refine ⟨KeepsOthers.alloc _ _, KpK.of_below (b1alloc _ _) hIx.1.2.2.1.size, X.heap.size, rfl, Blk.new X _ _, hIx.1.2.2.1.size, hok.on (b1alloc _ _), hI.alloc _ hIx⟩
 case body =>
   rintro lp pre x a' X ⟨pb, rfl, hpb, hpl, hok, hI'⟩ hlen
   obtain ⟨⟨⟨v, hv, hrow, _⟩, hv9, hkp, hB⟩, hall⟩ := hI'
   have pc0 := hpb.cell (k := 0) (by simp)
   have pc1 := hpb.cell (k := 1) (by simp)
   simp only [List.getElem_cons_zero, List.getElem_cons_succ] at pc0 pc1
   have hvc := hv.cell
   have hvf := hv.frozen
   have hlx : w.heap.size + 1 < X.heap.size := hv.lt
   have hszX : w4.heap.size <= X.heap.size := hkp.size
   obtain ⟨xk, xA, xc, xb, xi⟩ := x
   cases xi with
   | false =>
     have hvc9 := hv9.cell
     have hvf9 := hv9.frozen
     have hlx9 : w.heap.size + 1 + 1 < X.heap.size := hv9.lt
     gi_wp2
     have v1 := hv.set (.slice none 0 0)
     have v9 := hv9.kept (grownBy_setCell' X (w.heap.size + 1) (.slice none 0 0)) (fun e => by injection e with e; omega)
     exact ⟨(KeepsOthers.setCell _ _ _).trans (KeepsOthers.setCell _ _ _), ⟨pre, _, rfl, rfl, rfl⟩, v1.kept (grownBy_setCell' _ (w.heap.size + 1 + 1) (.int .i64 11)) (fun e => by injection e with e; omega), v9.set (.int .i64 11), bset (bset hB (by omega) _) (by omega) _⟩
   | true =>
     have bX1 := b1alloc X (.cells #[.slice xA xb.length xc] 51)
     gi_wp2_with (refine Ch.wpListIn_append_rd _ rfl _ _ _ rfl w4.heap.size 51 i0 _ 1 24 Tryz.underlying47 hi0 hz0 hz1 hz2 rfl (by omega) v pre.length _ rfl (hrow.alloc _) _ _ 1 1 [It.sl ⟨xk, xA, xc, xb, true⟩] rfl rfl (Rd.lit X _ _ _ (X.heap.size + 1) rfl (by omega)) (by intro u hu; simp [It.sl] at hu; subst hu; rfl) (by simp only [maxLen]; omega) (by omega) (by simp; omega) ?_; intro v1 w3 hown3 hg3 hat3; obtain ⟨g3, c3, rfl⟩ := ownsRow_succ hown3; have hbx := Lib.hid (box_app hv (by decide) hrow hszX (by omega) bX1 hown3 hg3); have hc3 := hbx.out.1.cell; have hf3 := hbx.out.1.frozen)
     obtain ⟨_, h1, h2, h3, h4, h5, h6⟩ := hbx.out
     have hU := fun (y : It) (hy : It.Ok w4.heap.size X y) => hy.keepU (h6 5 (by decide) (by decide))
     refine ⟨h3, h4, ⟨⟨_, h1, ?_, trivial⟩, ?_, hkp.trans h4, hB.trans (h5 _ (by omega))⟩, fun y hy => ?_⟩
     · simpa using h2
     · exact (h6 29 (by decide) (by decide) _ _ hv9).trans hv9
     · rcases List.mem_append.1 hy with hy | hy
       · exact ⟨hU y (hall y hy).1, (hall y hy).2⟩
       · rw [List.mem_singleton] at hy
         subst hy
         exact ⟨hU _ hok, rfl⟩
 case done =>
   rintro D xs X hD hxs ⟨⟨⟨v, hv, hrow, _⟩, hv9, hkp, hB⟩, hall⟩ hKD
   obtain ⟨hxl, hres⟩ := all_want hxs (fun x hx => (hall x hx).2)
   have Hres := Lib.hid hres
   have hxl2 := hxl
   rw [hxl] at hrow
   have Hxl := Lib.hid hxl
   clear hxs hres hxl hxl2
   obtain ⟨A2, c2, rfl⟩ := own_form hrow
   have hvc := hv.cell
   have hvf := hv.frozen
   have hvl := hv.lt
   have hvc9 := hv9.cell
   have hvf9 := hv9.frozen
   have hvl9 := hv9.lt
   have hv8 := (hv.set (.slice A2 N c2)).kept (grownBy_setCell' _ (w.heap.size + 1 + 1) (.int .i64 0)) (fun e => by injection e with e; omega)
   have hv99 := (hv9.kept (grownBy_setCell' X (w.heap.size + 1) (.slice A2 N c2)) (fun e => by injection e with e; omega)).set (.int .i64 0)
   have hrow8 := (hrow.kept (grownBy_setCell' X (w.heap.size + 1) (.slice A2 N c2)) (.inr (hv.not_row (by decide) hrow).symm)).kept (grownBy_setCell' _ (w.heap.size + 1 + 1) (.int .i64 0)) (.inr (fun e => by have := own_block hrow e; omega))
   have hDl : D < X.heap.size := (Array.getElem?_eq_some_iff.1 hKD).1
   gi_wp2_with fail
   have hD2 : ((X.setCell ⟨w.heap.size + 1, 0, none⟩ (.slice A2 N c2)).setCell ⟨w.heap.size + 1 + 1, 0, none⟩ (.int .i64 0)).heap[D]? = some (.deferred (some [])) :=
     ((grownBy_setCell' _ (w.heap.size + 1 + 1) (.int .i64 0)).block D (by simp [World.setCell]; omega) (fun e => by injection e with e; omega)).trans (((grownBy_setCell' X (w.heap.size + 1) (.slice A2 N c2)).block D hDl (fun e => by injection e with e; omega)).trans hKD)
   obtain ⟨Z, hZ⟩ : ∃ Z, Z = (X.setCell ⟨w.heap.size + 1, 0, none⟩ (.slice A2 N c2)).setCell ⟨w.heap.size + 1 + 1, 0, none⟩ (.int .i64 0) := ⟨_, rfl⟩
   have hoks : ∀ x ∈ xs, It.Ok w4.heap.size Z x := fun x hx => (hall x hx).1.keepU fun j cs hj => by
     rw [hZ]
     have h1 : j ≠ w.heap.size + 1 := fun e => by subst e; have := hv; unfold Boxed at this; rw [hj] at this; injection this with this; injection this with _ h2 _; exact absurd h2 (by decide)
     have h2 : j ≠ w.heap.size + 1 + 1 := fun e => by subst e; have := hv9; unfold Boxed at this; rw [hj] at this; injection this with this; injection this with _ h2 _; exact absurd h2 (by decide)
     exact (Below.heap_setCell _ _ _ j (fun e => h2 e)).trans (Below.heap_setCell _ _ _ j (fun e => h1 e))
   have hBZ : Below w.heap.size w Z := by rw [hZ]; exact bset (bset hB (by omega) _) (by omega) _
   rw [<- hZ] at hD2 hv8 hv99 hrow8 ⊢
   have g0 := grownBy_putObj' Z D (.deferred none)
   have v8 := (hv8.kept g0 (fun e => by injection e with e; omega)).cell
   have v9 := (hv99.kept g0 (fun e => by injection e with e; omega)).cell
   clear hZ
   refine ⟨by simp, .inl ⟨_, _, rfl, run_takeDeferred hD2, ?_⟩⟩
   refine ⟨.tuple #[.slice A2 N c2, .int .i64 0], (by simp [results, Tryz.results53, go_sem, v8, v9]), ?_⟩
   rw [Hres.out]
   refine ⟨⟨A2, c2, by simp [Hxl.out], xs, ?_, rfl, fun x hx => ?_⟩, ?_⟩
   · rw [List.length_map, Hxl.out]
     exact own_base (ownsRow_putObj hrow8 _ hD2 rfl) b04.size
   · have := (hoks x hx).grown g0 (fun r e => by cases e; exact ⟨_, hD2, rfl⟩)
     exact ⟨own_base this.1 b04.size, this.2⟩
   · exact hBZ.trans (belowK_b (w := w) (Nat.le_refl _) _ D _ _ (by have := b04.size; omega) hD2 rfl rfl)
 case stop =>
   rintro D c pre' X hD ⟨k, hk, hpre⟩ ⟨⟨pre, x, rfl, rfl, hx⟩, hv, hv9, hB⟩ hKD
   have Hres := Lib.hid (not_want hk hpre hx)
   clear hpre
   gi_wp2_with fail
   have g0 := grownBy_putObj' X D (.deferred none)
   have v8 := (hv.kept g0 (fun e => by injection e with e; omega)).cell
   have v9 := (hv9.kept g0 (fun e => by injection e with e; omega)).cell
   refine ⟨by simp, .inl ⟨_, _, rfl, run_takeDeferred hKD, ?_⟩⟩
   refine ⟨.tuple #[.slice none 0 0, .int .i64 11], (by simp [results, Tryz.results53, go_sem, v8, v9]), ?_⟩
   rw [Hres.out]
   exact ⟨rfl, hB.trans (belowK_b (w := w) (Nat.le_refl _) _ D _ _ (by have := b04.size; omega) hKD rfl rfl)⟩
end Go.Proofs.YtchcmklelmlbgaaGreat.Snap
namespace Go.Proofs.YtchcmklelmlbgaaGreat.Snap
open Go.RowKit Go.Shelf
open Go.Proofs.YtchcmklelmlbgaaGreat.Geom
open Go.Proofs.YtchcmklelmlbgaaGreat.Ch (SeqOk range_ok)
open Go.Proofs.YtchcmklelmlbgaaGreat.Sup (Gb gv gcell srightF gthree)
open Go.Proofs.YtchcmklelmlbgaaGreat.Disk (St DAt Did New8 Told8 read_any)
open Go.Proofs.YtchcmklelmlbgaaGreat.Sec (X SymAt text sumOf sumAfter ckS blankB rightF encode_sym decode_sym right_0 right_2 xv RetX X0 five5x)
attribute [local go_sem] Oper.semAt_some
set_option linter.unusedVariables false
set_option maxRecDepth 100000
def badL (l : List (List UInt8)) (s : St) (ga gd gl : Int) (life : UInt64) (N : Nat) : List Int := ((List.range N).filter (fun k => !isPg l s ga gd gl life k)).map (fun k : Nat => (k : Int))
end Go.Proofs.YtchcmklelmlbgaaGreat.Snap
namespace Go.Proofs.YtchcmklelmlbgaaGreat.Snap
open Go.RowKit
open Go.Proofs.YtchcmklelmlbgaaGreat.Geom
open Go.Proofs.YtchcmklelmlbgaaGreat.Disk (St Wr write flush read kept burn restart fates fate keptAt new zero512 arm)
open Go.Proofs.YtchcmklelmlbgaaGreat.Sec (X text text_len sumOf sumOf_len sumAfter ckS rightF X0 place_of)
open Go.Proofs.YtchcmklelmlbgaaGreat.Sup (UpN text_inj)
open Go.Proofs.YtchcmklelmlbgaaGreat.Enc (Itm Enf enf enf_of More kept_of rd rd_good rd_sound restart_up)
set_option linter.unusedVariables false
theorem pItems_get (ga gd gl : Int) (life : UInt64) : ∀ (bs : List (List UInt8)) (n k : Nat) (h : k < (pItems ga gd gl life n bs).length) (h' : k < bs.length), (pItems ga gd gl life n bs)[k] = (areaAt ga gd gl life.toNat ((n + k : Nat) : Int), px life (n + k) bs[k])
 | [], n, k, h, h' => absurd h' (by simp)
 | b :: r, n, 0, h, h' => rfl
 | b :: r, n, k + 1, h, h' => by
   have := pItems_get ga gd gl life r (n + 1) k (by rw [pItems_len]; simpa using h') (by simpa using h')
   rw [show n + (k + 1) = n + 1 + k by omega]
   exact this
structure PagesOk (ga gd gl : Int) (n : Nat) (pages : List (List UInt8)) : Prop where
 size : (n : Int) = Geom.sizeOf ga gd gl
 len : (pages.length : Int) = pagesOf ga gd gl
 short : ∀ j (hj : j < pages.length), pages[j].length <= 479
theorem PagesOk.small {ga gd gl : Int} {n : Nat} {pages : List (List UInt8)} (h : PagesOk ga gd gl n pages) : pages.length <= 85 /\ n <= 238 := by
 have := pagesOf_bd ga gd gl
 have := size_bd ga gd gl
 have := h.size
 have := h.len
 omega
theorem PagesOk.place {ga gd gl : Int} {n : Nat} {pages : List (List UInt8)} (h : PagesOk ga gd gl n pages) (life : UInt64) {k : Nat} (hk : k < pages.length) : 0 <= areaAt ga gd gl life.toNat k /\ areaAt ga gd gl life.toNat k < n /\ areaAt ga gd gl life.toNat k <= 1023 := by
 have := area_ok (ga := ga) (gd := gd) (gl := gl) (life := life) (k := k) (by have := h.len; omega)
 rw [h.size]; exact this
theorem area_eq {ga gd gl : Int} {m k : Nat} (h : (k : Int) < pagesOf ga gd gl) : areaAt ga gd gl m k = 4 + gl + (m : Int) % 2 * pagesOf ga gd gl + k := by unfold areaAt; rw [if_pos ⟨by omega, h⟩]
theorem area_inj {ga gd gl : Int} {m k j : Nat} (hk : (k : Int) < pagesOf ga gd gl) (hj : (j : Int) < pagesOf ga gd gl) (h : areaAt ga gd gl m k = areaAt ga gd gl m j) : k = j := by
 rw [area_eq hk, area_eq hj] at h; omega
theorem area_apart {ga gd gl : Int} {m m' k j : Nat} (hm : m % 2 ≠ m' % 2) (hk : (k : Int) < pagesOf ga gd gl) (hj : (j : Int) < pagesOf ga gd gl) : areaAt ga gd gl m k ≠ areaAt ga gd gl m' j := by
 rw [area_eq hk, area_eq hj]
 rcases (show ((m : Int) % 2 = 0 /\ (m' : Int) % 2 = 1) \/ ((m : Int) % 2 = 1 /\ (m' : Int) % 2 = 0) by omega) with ⟨h1, h2⟩ | ⟨h1, h2⟩ <;> rw [h1, h2] <;> omega
theorem PagesOk.items {ga gd gl : Int} {n : Nat} {pages : List (List UInt8)} (h : PagesOk ga gd gl n pages) (life : UInt64) : ∀ i ∈ pItems ga gd gl life 0 pages, ∃ k, ∃ hk : k < pages.length, i = (areaAt ga gd gl life.toNat k, px life k pages[k]) := by
 intro i hi
 obtain ⟨k, hk, rfl⟩ := List.mem_iff_getElem.1 hi
 rw [pItems_len] at hk
 exact ⟨k, hk, by rw [pItems_get _ _ _ _ _ _ _ _ hk]; simp⟩
theorem PagesOk.pright {ga gd gl : Int} {n : Nat} {pages : List (List UInt8)} (h : PagesOk ga gd gl n pages) (life : UInt64) {k : Nat} (hk : k < pages.length) : rightF (areaAt ga gd gl life.toNat k) (px life k pages[k]) = 0 :=
 px_right (h.place life hk).1 (h.place life hk).2.2 (by have := h.small.1; omega) (h.short k hk)
theorem PagesOk.okI {ga gd gl : Int} {n : Nat} {pages : List (List UInt8)} (h : PagesOk ga gd gl n pages) (life : UInt64) : ∀ i ∈ pItems ga gd gl life 0 pages, rightF i.1 i.2 = 0 /\ 0 <= i.1 /\ i.1 < n := by
 intro i hi
 obtain ⟨k, hk, rfl⟩ := h.items life i hi
 exact ⟨h.pright life hk, (h.place life hk).1, (h.place life hk).2.1⟩
theorem PagesOk.run {ga gd gl : Int} {n : Nat} {pages : List (List UInt8)} (h : PagesOk ga gd gl n pages) (life : UInt64) (l : List (List UInt8)) {s : St} (h2 : s.size = n) (hd : s.down = false) : ∃ m, Enf n (pItems ga gd gl life 0 pages) l s (snapF ga gd gl life pages l s) m :=
 enf_of _ l s h2 hd (h.okI life)
theorem PagesOk.at_ {ga gd gl : Int} {n : Nat} {pages : List (List UInt8)} (h : PagesOk ga gd gl n pages) {life : UInt64} {l : List (List UInt8)} {s : St} {q : List (List UInt8) × St × Int} {m : List Wr} (e : Enf n (pItems ga gd gl life 0 pages) l s q m) :
   m.length <= pages.length /\ ∀ k (hk : k < m.length) (hk' : k < pages.length), m[k].1 = (areaAt ga gd gl life.toNat k).toNat /\ Sup.Good q.1 (areaAt ga gd gl life.toNat k) (px life k pages[k]) m[k].2 := by
 have hl := e.len
 rw [pItems_len] at hl
 refine ⟨hl, fun k hk hk' => ?_⟩
 have := e.at_ k hk (by rw [pItems_len]; exact hk')
 rw [pItems_get _ _ _ _ _ _ _ _ hk'] at this
 simpa using this
theorem PagesOk.good {ga gd gl : Int} {n : Nat} {pages : List (List UInt8)} (h : PagesOk ga gd gl n pages) {life : UInt64} {l : List (List UInt8)} {s : St} {q : List (List UInt8) × St × Int} {m : List Wr} (e : Enf n (pItems ga gd gl life 0 pages) l s q m) (hm : m.length = (pItems ga gd gl life 0 pages).length) (all : List Wr) {k : Nat} (hk : k < pages.length) :
   Sup.Good q.1 (areaAt ga gd gl life.toNat k) (px life k pages[k]) (kept (all ++ m) (areaAt ga gd gl life.toNat k).toNat) := by
 rw [pItems_len] at hm
 obtain ⟨_, hat⟩ := h.at_ e
 obtain ⟨h1, h2⟩ := hat k (by omega) hk
 rw [<- h1, kept_of all m k (by omega) (fun a b ha hb hab => ?_)]
 · exact h2
 · rw [(hat a ha (by omega)).1, (hat b hb (by omega)).1] at hab
   have p1 := h.place life (k := a) (by omega)
   have p2 := h.place life (k := b) (by omega)
   have hl := h.len
   exact area_inj (m := life.toNat) (k := a) (j := b) (by omega) (by omega) (show areaAt ga gd gl life.toNat a = areaAt ga gd gl life.toNat b by omega)
theorem PagesOk.beside {ga gd gl : Int} {n : Nat} {pages : List (List UInt8)} (h : PagesOk ga gd gl n pages) {life : UInt64} {l : List (List UInt8)} {s : St} {q : List (List UInt8) × St × Int} {m : List Wr} (e : Enf n (pItems ga gd gl life 0 pages) l s q m) {p : Nat} (hp : ∀ k, k < pages.length -> p ≠ (areaAt ga gd gl life.toNat k).toNat) : ∀ w ∈ m, w.1 ≠ p := by
 intro w hw he
 obtain ⟨hl, hat⟩ := h.at_ e
 obtain ⟨k, hk, rfl⟩ := List.mem_iff_getElem.1 hw
 rw [(hat k hk (by omega)).1] at he
 exact hp k (by omega) he.symm
theorem isX_own (life : UInt64) (k : Nat) (b : List UInt8) : isX life k (px life k b) = true := by simp [isX, px]
theorem snapR_some {l : List (List UInt8)} {s : St} {ga gd gl : Int} {life : UInt64} {pages : List (List UInt8)} (h : ∀ k (hk : k < pages.length), rdAt l s ga gd gl life k = (px life k pages[k], 0)) :
   snapR l s ga gd gl life pages.length = some pages /\ badL l s ga gd gl life pages.length = [] := by
 have hp : ∀ k, k < pages.length -> isPg l s ga gd gl life k = true := fun k hk => by
   unfold isPg
   rw [h k hk]
   simp [isX_own]
 constructor
 · unfold snapR
   rw [if_pos (by unfold allPg; rw [List.all_eq_true]; intro k hk; exact hp k (List.mem_range.1 hk))]
   congr 1
   unfold bodies
   apply List.ext_getElem
   · simp
   · intro i h1 h2
     simp only [List.getElem_map, List.getElem_range]
     rw [h i h2]; rfl
 · unfold badL
   rw [List.filter_eq_nil_iff.2 (fun k hk => by rw [hp k (List.mem_range.1 hk)]; simp)]
   rfl
theorem rdAt_good {s : St} {n : Nat} (hu : UpN s n) {l : List (List UInt8)} {ga gd gl : Int} {life : UInt64} {pages : List (List UInt8)} (h : PagesOk ga gd gl n pages) {k : Nat} (hk : k < pages.length) (hg : Sup.Good l (areaAt ga gd gl life.toNat k) (px life k pages[k]) (kept s.all (areaAt ga gd gl life.toNat k).toNat)) : rdAt l s ga gd gl life k = (px life k pages[k], 0) :=
 rd_good hu (h.place life hk).1 (h.place life hk).2.1 hg
theorem PagesOk.up {ga gd gl : Int} {n : Nat} {pages : List (List UInt8)} (h : PagesOk ga gd gl n pages) (life : UInt64) (l : List (List UInt8)) {s : St} (hu : UpN s n) :
   (snapF ga gd gl life pages l s).2.2 = 0 /\ UpN (snapF ga gd gl life pages l s).2.1 n /\ More l (snapF ga gd gl life pages l s).1 /\
     (∀ k (hk : k < pages.length), Sup.Good (snapF ga gd gl life pages l s).1 (areaAt ga gd gl life.toNat k) (px life k pages[k]) (kept (snapF ga gd gl life pages l s).2.1.all (areaAt ga gd gl life.toNat k).toNat)) /\
     (∀ p, (∀ k, k < pages.length -> p ≠ (areaAt ga gd gl life.toNat k).toNat) -> kept (snapF ga gd gl life pages l s).2.1.all p = kept s.all p) /\
     ∀ T ∈ (snapF ga gd gl life pages l s).1, T ∈ l \/ ∃ k, ∃ hk : k < pages.length, T = text (areaAt ga gd gl life.toNat k) (px life k pages[k]) := by
 obtain ⟨m, e⟩ := h.run life l hu.size hu.down
 obtain ⟨q, hq⟩ : ∃ q, q = snapF ga gd gl life pages l s := ⟨_, rfl⟩
 rw [<- hq] at e ⊢
 rcases e.res with ⟨_, _, _, _, h5⟩ | ⟨h1, h2, h3, h4, h5, h6⟩
 · exact absurd hu.fuse h5
 · rw [hu.pend, List.nil_append] at h3
   refine ⟨h1, ⟨e.size, h4, h2, h6 hu.fuse⟩, e.more, fun k hk => by rw [h3]; exact h.good e h5 s.all hk, fun p hp => by rw [h3]; exact Disk.kept_append _ _ _ (h.beside e hp), fun T hT => (e.text T hT).imp id ?_⟩
   rintro ⟨i, hi, rfl⟩
   obtain ⟨k, hk, rfl⟩ := h.items life i hi
   exact ⟨k, hk, rfl⟩
theorem next_odd {life : UInt64} (h : life.toNat ≠ 18446744073709551615) : life.toNat % 2 ≠ (life + 1).toNat % 2 := by
 have h1 : (life + 1).toNat = (life.toNat + 1) % 18446744073709551616 := by simp [UInt64.toNat_add]
 have h2 : life.toNat < 18446744073709551616 := life.toNat_lt
 have h3 := Nat.mod_eq_of_lt (show life.toNat + 1 < 18446744073709551616 by omega)
 rw [h1, h3]; omega
end Go.Proofs.YtchcmklelmlbgaaGreat.Snap
namespace Go.Proofs.YtchcmklelmlbgaaGreat.Wal
open Go.RowKit
open Go.Proofs.YtchcmklelmlbgaaGreat.Geom
open Go.Proofs.YtchcmklelmlbgaaGreat.Sup (Gb gv gcell gthree)
open Go.Proofs.YtchcmklelmlbgaaGreat.Disk (St DAt Did New8 Told8)
set_option linter.unusedVariables false
set_option maxRecDepth 100000
abbrev rcell (d s : Value) (ga gd gl : Int) (life : UInt64) (base : Int) : List Value := [d, s, .int .i64 ga, .int .i64 gd, .int .i64 gl, .int .u64 (life.toNat : Int), .int .i64 base]
abbrev rv (d s : Value) (ga gd gl : Int) (life : UInt64) (base : Int) : Value := .agg #[d, s, .int .i64 ga, .int .i64 gd, .int .i64 gl, .int .u64 (life.toNat : Int), .int .i64 base]
abbrev lcell (d s : Value) (ga gd gl : Int) (life : UInt64) (base seq : Int) : List Value := [d, s, .int .i64 ga, .int .i64 gd, .int .i64 gl, .int .u64 (life.toNat : Int), .int .i64 base, .int .i64 seq]
theorem seven7 {w : World} {g : Nat} {v0 v1 v2 v3 v4 v5 v6 : Value} (h : Blk w g [v0, v1, v2, v3, v4, v5, v6]) : w.cell? ⟨g, 0, none⟩ = some v0 /\ w.cell? ⟨g, 1, none⟩ = some v1 /\ w.cell? ⟨g, 2, none⟩ = some v2 /\ w.cell? ⟨g, 3, none⟩ = some v3 /\ w.cell? ⟨g, 4, none⟩ = some v4 /\ w.cell? ⟨g, 5, none⟩ = some v5 /\ w.cell? ⟨g, 6, none⟩ = some v6 :=
 ⟨h.cell (k := 0) (by simp), h.cell (k := 1) (by simp), h.cell (k := 2) (by simp), h.cell (k := 3) (by simp), h.cell (k := 4) (by simp), h.cell (k := 5) (by simp), h.cell (k := 6) (by simp)⟩
theorem eight8 {w : World} {g : Nat} {v0 v1 v2 v3 v4 v5 v6 v7 : Value} (h : Blk w g [v0, v1, v2, v3, v4, v5, v6, v7]) : w.cell? ⟨g, 0, none⟩ = some v0 /\ w.cell? ⟨g, 1, none⟩ = some v1 /\ w.cell? ⟨g, 2, none⟩ = some v2 /\ w.cell? ⟨g, 3, none⟩ = some v3 /\ w.cell? ⟨g, 4, none⟩ = some v4 /\ w.cell? ⟨g, 5, none⟩ = some v5 /\ w.cell? ⟨g, 6, none⟩ = some v6 /\ w.cell? ⟨g, 7, none⟩ = some v7 :=
 ⟨h.cell (k := 0) (by simp), h.cell (k := 1) (by simp), h.cell (k := 2) (by simp), h.cell (k := 3) (by simp), h.cell (k := 4) (by simp), h.cell (k := 5) (by simp), h.cell (k := 6) (by simp), h.cell (k := 7) (by simp)⟩
def wrightF (s : St) (ga gd gl base : Int) : Int := if right ga gd gl = true /\ (s.size : Int) = Geom.sizeOf ga gd gl /\ 0 <= base /\ base <= 1073741824 then 0 else 2
set_option maxHeartbeats 2000000 in
theorem right_any (g : Nat) (fp : List Nat) (s : St) (gS : Nat) (ga gd gl : Int) (life : UInt64) (base : Int) (w : World) (hG : Gb ga gd gl) (h : DAt w g fp s) : Calls Tryz.prog 92 #[rv (.pointer (some ⟨g, 0, none⟩)) (.pointer (some ⟨gS, 0, none⟩)) ga gd gl life base] w fun e w' => e = .returned (.int .i64 (wrightF s ga gd gl base)) /\ Below w.heap.size w w' := by
 have F := Blk.new w (rcell (.pointer (some ⟨g, 0, none⟩)) (.pointer (some ⟨gS, 0, none⟩)) ga gd gl life base) 133
 have b0 := b1alloc w (.cells (rcell (.pointer (some ⟨g, 0, none⟩)) (.pointer (some ⟨gS, 0, none⟩)) ga gd gl life base).toArray 133)
 obtain ⟨z0, z1, z2, z3, z4, z5, z6⟩ := seven7 F
 have HR := Lib.hid (fun W => Geom.right_any ga gd gl W hG.a0 hG.a1 hG.d0 hG.d1 hG.g0 hG.g1)
 have HZ := Lib.hid (fun W => Geom.size_any ga gd gl W hG.a0 hG.a1 hG.d0 hG.d1 hG.g0 hG.g1)
 have HD := Lib.hid (fun W (bW : Below w.heap.size w W) => Disk.size_any g fp s W (h.on bW))
 have hW : wrightF s ga gd gl base = if right ga gd gl = true /\ (s.size : Int) = Geom.sizeOf ga gd gl /\ 0 <= base /\ base <= 1073741824 then 0 else 2 := rfl
 obtain ⟨F, hF⟩ : ∃ F, F = wrightF s ga gd gl base := ⟨_, rfl⟩
 rw [<- hF] at hW ⊢
 obtain ⟨q, hq⟩ : ∃ q, q = right ga gd gl := ⟨_, rfl⟩
 obtain ⟨z, hz⟩ : ∃ z, z = Geom.sizeOf ga gd gl := ⟨_, rfl⟩
 rw [<- hq] at HR hW
 rw [<- hz] at HZ hW
 clear hq hz hF
 cases q with
 | false =>
   rw [if_neg (by simp)] at hW
   subst hW
   go_enter Tryz.func92, Tryz.ntmps92
   go_wp2_with fail
   refine region_inb (by kernel_rfl) (by kernel_rfl) ?_
   have inbNe := InB.some
   have inbW := @wrap_small
   have inbU := IntKind.wrap_u8'
   repeat (refine wpQuiet_step (fun K hK => ?_); go_simp; first | (refine hK _ ?_; clear hK K) | (apply Exists.intro; refine ⟨?_, hK _ ?_⟩; (· (intro w' hw'; first | (go_at_call 67; refine (HR.out _).mono ?_; rintro e w1 ⟨rfl, b1⟩; exact ⟨rfl, hw'.on b1⟩) | (have hcw := hw'.cell; go_simp; exact rfl))); clear hK K))
   refine wpQuiet_nil ?_
   intro wq hq
   clear inbNe inbW inbU
   go_wp2
   go_ret
   exact ⟨rfl, bt b0 hq.below⟩
 | true =>
   by_cases hs : (s.size : Int) = z
   rotate_left
   · rw [if_neg (fun e => hs e.2.1)] at hW
     subst hW
     have t0 := bne_yes hs
     clear hs
     go_enter Tryz.func92, Tryz.ntmps92
     go_wp2_with fail
     refine region_inb (by kernel_rfl) (by kernel_rfl) ?_
     have inbNe := InB.some
     have inbW := @wrap_small
     have inbU := IntKind.wrap_u8'
     repeat (refine wpQuiet_step (fun K hK => ?_); go_simp; first | (refine hK _ ?_; clear hK K) | (apply Exists.intro; refine ⟨?_, hK _ ?_⟩; (· (intro w' hw'; first | (go_at_call 67; refine (HR.out _).mono ?_; rintro e w1 ⟨rfl, b1⟩; exact ⟨rfl, hw'.on b1⟩) | (go_at_call 68; refine (HD.out _ (bt b0 hw'.below)).mono ?_; rintro e w1 ⟨rfl, rfl⟩; exact ⟨rfl, hw'⟩) | (go_at_call 69; refine (HZ.out _).mono ?_; rintro e w1 ⟨rfl, b1⟩; exact ⟨rfl, hw'.on b1⟩) | (have hcw := hw'.cell; go_simp; exact rfl))); clear hK K))
     refine wpQuiet_nil ?_
     intro wq hq
     clear inbNe inbW inbU
     go_wp2
     go_ret
     exact ⟨rfl, bt b0 hq.below⟩
   have t0 := bne_no hs
   by_cases hb0 : base < 0
   · rw [if_neg (fun e => by have := e.2.2.1; omega)] at hW
     subst hW
     clear hs
     go_enter Tryz.func92, Tryz.ntmps92
     go_wp2_with fail
     refine region_inb (by kernel_rfl) (by kernel_rfl) ?_
     have inbNe := InB.some
     have inbW := @wrap_small
     have inbU := IntKind.wrap_u8'
     repeat (refine wpQuiet_step (fun K hK => ?_); go_simp; first | (refine hK _ ?_; clear hK K) | (apply Exists.intro; refine ⟨?_, hK _ ?_⟩; (· (intro w' hw'; first | (go_at_call 67; refine (HR.out _).mono ?_; rintro e w1 ⟨rfl, b1⟩; exact ⟨rfl, hw'.on b1⟩) | (go_at_call 68; refine (HD.out _ (bt b0 hw'.below)).mono ?_; rintro e w1 ⟨rfl, rfl⟩; exact ⟨rfl, hw'⟩) | (go_at_call 69; refine (HZ.out _).mono ?_; rintro e w1 ⟨rfl, b1⟩; exact ⟨rfl, hw'.on b1⟩) | (have hcw := hw'.cell; go_simp; exact rfl))); clear hK K))
     refine wpQuiet_nil ?_
     intro wq hq
     clear inbNe inbW inbU
     go_wp2
     go_ret
     exact ⟨rfl, bt b0 hq.below⟩
   by_cases hb1 : 1073741824 < base
   · rw [if_neg (fun e => by have := e.2.2.2; omega)] at hW
     subst hW
     clear hs
     go_enter Tryz.func92, Tryz.ntmps92
     go_wp2_with fail
     refine region_inb (by kernel_rfl) (by kernel_rfl) ?_
     have inbNe := InB.some
     have inbW := @wrap_small
     have inbU := IntKind.wrap_u8'
     repeat (refine wpQuiet_step (fun K hK => ?_); go_simp; first | (refine hK _ ?_; clear hK K) | (apply Exists.intro; refine ⟨?_, hK _ ?_⟩; (· (intro w' hw'; first | (go_at_call 67; refine (HR.out _).mono ?_; rintro e w1 ⟨rfl, b1⟩; exact ⟨rfl, hw'.on b1⟩) | (go_at_call 68; refine (HD.out _ (bt b0 hw'.below)).mono ?_; rintro e w1 ⟨rfl, rfl⟩; exact ⟨rfl, hw'⟩) | (go_at_call 69; refine (HZ.out _).mono ?_; rintro e w1 ⟨rfl, b1⟩; exact ⟨rfl, hw'.on b1⟩) | (have hcw := hw'.cell; go_simp; exact rfl))); clear hK K))
     refine wpQuiet_nil ?_
     intro wq hq
     clear inbNe inbW inbU
     go_wp2
     go_ret
     exact ⟨rfl, bt b0 hq.below⟩
   · rw [if_pos ⟨rfl, hs, by omega, by omega⟩] at hW
     subst hW
     clear hs
     go_enter Tryz.func92, Tryz.ntmps92
     go_wp2_with fail
     refine region_inb (by kernel_rfl) (by kernel_rfl) ?_
     have inbNe := InB.some
     have inbW := @wrap_small
     have inbU := IntKind.wrap_u8'
     repeat (refine wpQuiet_step (fun K hK => ?_); go_simp; first | (refine hK _ ?_; clear hK K) | (apply Exists.intro; refine ⟨?_, hK _ ?_⟩; (· (intro w' hw'; first | (go_at_call 67; refine (HR.out _).mono ?_; rintro e w1 ⟨rfl, b1⟩; exact ⟨rfl, hw'.on b1⟩) | (go_at_call 68; refine (HD.out _ (bt b0 hw'.below)).mono ?_; rintro e w1 ⟨rfl, rfl⟩; exact ⟨rfl, hw'⟩) | (go_at_call 69; refine (HZ.out _).mono ?_; rintro e w1 ⟨rfl, b1⟩; exact ⟨rfl, hw'.on b1⟩) | (have hcw := hw'.cell; go_simp; exact rfl))); clear hK K))
     refine wpQuiet_nil ?_
     intro wq hq
     clear inbNe inbW inbU
     go_wp2
     go_ret
     exact ⟨rfl, bt b0 hq.below⟩
theorem place_any (v1 v2 : Value) (ga gd gl : Int) (life : UInt64) (base i : Int) (w : World) (g1 g2 : Nat) (e1 : v1 = .pointer (some ⟨g1, 0, none⟩)) (e2 : v2 = .pointer (some ⟨g2, 0, none⟩)) (hG : Gb ga gd gl) (h0 : 0 <= base) (h1 : base <= 1073741824) (h2 : 0 <= i) (h3 : i <= 1000) :
   Calls Tryz.prog 109 #[rv v1 v2 ga gd gl life base, .int .i64 i] w fun e w' => e = .returned (.int .i64 (logAt ga gd gl (base + i))) /\ Below w.heap.size w w' := by
 subst e1 e2
 have F := Blk.new w (rcell (.pointer (some ⟨g1, 0, none⟩)) (.pointer (some ⟨g2, 0, none⟩)) ga gd gl life base) 133
 have b0 := b1alloc w (.cells (rcell (.pointer (some ⟨g1, 0, none⟩)) (.pointer (some ⟨g2, 0, none⟩)) ga gd gl life base).toArray 133)
 obtain ⟨z0, z1, z2, z3, z4, z5, z6⟩ := seven7 F
 have HL := Lib.hid (fun W => Geom.log_any ga gd gl (base + i) W hG.a0 hG.a1 hG.d0 hG.d1 hG.g0 hG.g1 (by unfold Geom.lo; omega) (by unfold Geom.hi; omega))
 have hw64 : wrap64 (base + i) = base + i := by unfold wrap64; omega
 go_enter Tryz.func109, Tryz.ntmps109
 go_wp2_with (go_at_call 76; refine (HL.out _).mono ?_; rintro e w1 ⟨rfl, b1⟩)
 go_ret
 exact ⟨rfl, bt b0 b1⟩
end Go.Proofs.YtchcmklelmlbgaaGreat.Wal
namespace Go.Proofs.YtchcmklelmlbgaaGreat.Wal
open Go.RowKit
open Go.Proofs.YtchcmklelmlbgaaGreat.Geom
open Go.Proofs.YtchcmklelmlbgaaGreat.Sup (Gb gv gcell gthree)
open Go.Proofs.YtchcmklelmlbgaaGreat.Disk (St DAt Did New8 Told8)
set_option linter.unusedVariables false
set_option maxRecDepth 100000
abbrev LAt (w : World) (L g gS : Nat) (ga gd gl : Int) (life : UInt64) (base : Int) (seq : Nat) : Prop := Blk w L (lcell (.pointer (some ⟨g, 0, none⟩)) (.pointer (some ⟨gS, 0, none⟩)) ga gd gl life base (seq : Int))
theorem new_any (g : Nat) (fp : List Nat) (s : St) (gS : Nat) (ga gd gl : Int) (life : UInt64) (base : Int) (w : World) (hG : Gb ga gd gl) (h : DAt w g fp s) (hf : wrightF s ga gd gl base = 0) :
   Calls Tryz.prog 82 #[.pointer (some ⟨g, 0, none⟩), .pointer (some ⟨gS, 0, none⟩), gv ga gd gl, .int .u64 (life.toNat : Int), .int .i64 base] w fun e w' => e = .returned (.tuple #[.pointer (some ⟨w.heap.size + 1, 0, none⟩), .int .i64 0]) /\ LAt w' (w.heap.size + 1) g gS ga gd gl life base 0 /\ Below w.heap.size w w' := by
 obtain ⟨z0, z1, z2⟩ := gthree (Blk.new w (gcell ga gd gl) 23)
 have b0 := b2alloc w (.cells (gcell ga gd gl).toArray 23) (.cells (lcell (.pointer (some ⟨g, 0, none⟩)) (.pointer (some ⟨gS, 0, none⟩)) ga gd gl life base 0).toArray 135)
 have hL : Blk ((w.alloc (.cells (gcell ga gd gl).toArray 23)).alloc (.cells (lcell (.pointer (some ⟨g, 0, none⟩)) (.pointer (some ⟨gS, 0, none⟩)) ga gd gl life base 0).toArray 135)) (w.heap.size + 1) (lcell (.pointer (some ⟨g, 0, none⟩)) (.pointer (some ⟨gS, 0, none⟩)) ga gd gl life base 0) := by simpa using Blk.new (w.alloc (.cells (gcell ga gd gl).toArray 23)) (lcell (.pointer (some ⟨g, 0, none⟩)) (.pointer (some ⟨gS, 0, none⟩)) ga gd gl life base 0) 135
 have HB := Lib.hid (fun W (bW : Below w.heap.size w W) => right_any g fp s gS ga gd gl life base W hG (h.on bW))
 rw [hf] at HB
 have HL := Lib.hid hL
 clear hL
 go_enter Tryz.func82, Tryz.ntmps82
 go_wp2_with (go_at_call 92; refine (HB.out _ b0).mono ?_; rintro e w1 ⟨rfl, b1⟩)
 go_ret2
 exact ⟨rfl, HL.out.on b1, bt b0 b1⟩
theorem room_any (L g gS : Nat) (ga gd gl : Int) (life : UInt64) (base : Int) (seq : Nat) (w : World) (h : LAt w L g gS ga gd gl life base seq) (hs : seq <= 100000) (hg : 0 <= gl) (hg1 : gl <= 100000) :
   Calls Tryz.prog 64 #[.pointer (some ⟨L, 0, none⟩)] w fun e w' => e = .returned (.int .i64 (gl - seq)) /\ Below w.heap.size w w' := by
 obtain ⟨z0, z1, z2, z3, z4, z5, z6, z7⟩ := eight8 h
 have hw : IntKind.i64.wrap (gl - (seq : Int)) = gl - seq := wrap_small (by omega) (by omega)
 have hlL := h.lt
 go_enter Tryz.func64, Tryz.ntmps64
 go_wp2_with fail
 refine region_inb (by kernel_rfl) (by kernel_rfl) ?_
 have inbNe := InB.some
 have inbW := @wrap_small
 have inbU := IntKind.wrap_u8'
 repeat (refine wpQuiet_step (fun K hK => ?_); go_simp; first | (refine hK _ ?_; clear hK K) | (apply Exists.intro; refine ⟨?_, hK _ ?_⟩; (· (intro w' hw'; first | fail | (have hcw := hw'.cell; go_simp; exact rfl))); clear hK K))
 refine wpQuiet_nil ?_
 intro wq hq
 clear inbNe inbW inbU
 go_wp2
 go_ret
 exact ⟨rfl, hq.below⟩
theorem next_any (L g gS : Nat) (ga gd gl : Int) (life : UInt64) (base : Int) (seq : Nat) (w : World) (h : LAt w L g gS ga gd gl life base seq) (hs : seq <= 100000) (h0 : 0 <= base) (h1 : base <= 1073741824) (hg : 1 <= gl) (hg1 : gl <= 100000) :
   Calls Tryz.prog 49 #[.pointer (some ⟨L, 0, none⟩)] w fun e w' => e = .returned (.int .i64 ((base + seq) % gl)) /\ Below w.heap.size w w' := by
 obtain ⟨z0, z1, z2, z3, z4, z5, z6, z7⟩ := eight8 h
 have hr := Int.emod_nonneg (base + seq) (show gl ≠ 0 by omega)
 have hr2 := Int.emod_lt_of_pos (base + seq) (show 0 < gl by omega)
 have hlL := h.lt
 have hw : IntKind.i64.wrap (base + (seq : Int)) = base + seq := wrap_small (by omega) (by omega)
 have ht : (base + (seq : Int)).tmod gl = (base + seq) % gl := Int.tmod_eq_emod_of_nonneg (by omega)
 have hw2 : IntKind.i64.wrap ((base + (seq : Int)) % gl) = (base + seq) % gl := wrap_small (by omega) (by omega)
 have hne : ¬ gl = 0 := by omega
 go_enter Tryz.func49, Tryz.ntmps49
 go_wp2_with fail
 refine region_inb (by kernel_rfl) (by kernel_rfl) ?_
 have inbNe := InB.some
 have inbW := @wrap_small
 have inbU := IntKind.wrap_u8'
 repeat (refine wpQuiet_step (fun K hK => ?_); go_simp; first | (refine hK _ ?_; clear hK K) | (apply Exists.intro; refine ⟨?_, hK _ ?_⟩; (· (intro w' hw'; first | fail | (have hcw := hw'.cell; go_simp; exact rfl))); clear hK K))
 refine wpQuiet_nil ?_
 intro wq hq
 clear inbNe inbW inbU
 go_wp2
 go_ret
 exact ⟨rfl, hq.below⟩
def fitsB (ga gd gl : Int) (n : Int) : Bool := right ga gd gl && (decide (0 <= n) && decide (n < gl))
theorem fits_any (ga gd gl n : Int) (w : World) (hG : Gb ga gd gl) : Calls Tryz.prog 85 #[gv ga gd gl, .int .i64 n] w fun e w' => e = .returned (.bool (fitsB ga gd gl n)) /\ Below w.heap.size w w' := by
 have F := Blk.new w (gcell ga gd gl) 23
 obtain ⟨z0, z1, z2⟩ := gthree F
 have b0 := b1alloc w (.cells (gcell ga gd gl).toArray 23)
 have HR := Lib.hid (fun W => Geom.right_any ga gd gl W hG.a0 hG.a1 hG.d0 hG.d1 hG.g0 hG.g1)
 have HF := Lib.hid F
 unfold fitsB
 cases hq : right ga gd gl with
 | false =>
   rw [hq] at HR
   rw [Bool.false_and]
   go_enter Tryz.func85, Tryz.ntmps85
   go_wp2_with (go_at_call 67; refine (HR.out _).mono ?_; rintro e w' ⟨rfl, b1⟩)
   go_ret
   exact ⟨rfl, bt b0 b1⟩
 | true =>
   rw [hq] at HR
   rw [Bool.true_and]
   by_cases h0 : 0 <= n
   · by_cases h1 : n < gl
     · rw [decide_eq_true h0, decide_eq_true h1]
       go_enter Tryz.func85, Tryz.ntmps85
       go_wp2_with (go_at_call 67; refine (HR.out _).mono ?_; rintro e w1 ⟨rfl, b1⟩; obtain ⟨y0, y1, y2⟩ := gthree (HF.out.on b1))
       go_ret
       exact ⟨by first | rfl | simp [h1], bt b0 b1⟩
     · rw [decide_eq_true h0, decide_eq_false h1]
       go_enter Tryz.func85, Tryz.ntmps85
       go_wp2_with (go_at_call 67; refine (HR.out _).mono ?_; rintro e w1 ⟨rfl, b1⟩; obtain ⟨y0, y1, y2⟩ := gthree (HF.out.on b1))
       go_ret
       exact ⟨by first | rfl | simp [h1], bt b0 b1⟩
   · rw [decide_eq_false h0, Bool.false_and]
     go_enter Tryz.func85, Tryz.ntmps85
     go_wp2_with (go_at_call 67; refine (HR.out _).mono ?_; rintro e w1 ⟨rfl, b1⟩; obtain ⟨y0, y1, y2⟩ := gthree (HF.out.on b1))
     go_ret
     exact ⟨by first | rfl | simp [h0], bt b0 b1⟩
theorem rfits_any (ga gd gl n : Int) (w : World) (hG : Gb ga gd gl) : Calls Tryz.prog 62 #[gv ga gd gl, .int .i64 n] w fun e w' => e = .returned (.bool (fitsB ga gd gl n)) /\ Below w.heap.size w w' := by
 have F := Blk.new w (gcell ga gd gl) 23
 obtain ⟨z0, z1, z2⟩ := gthree F
 have b0 := b1alloc w (.cells (gcell ga gd gl).toArray 23)
 have HR := Lib.hid (fun W => Geom.rright_any ga gd gl W hG.a0 hG.a1 hG.d0 hG.d1 hG.g0 hG.g1)
 have HF := Lib.hid F
 unfold fitsB
 cases hq : right ga gd gl with
 | false =>
   rw [hq] at HR
   rw [Bool.false_and]
   go_enter Tryz.func62, Tryz.ntmps62
   go_wp2_with (go_at_call 9; refine (HR.out _).mono ?_; rintro e w' ⟨rfl, b1⟩)
   go_ret
   exact ⟨rfl, bt b0 b1⟩
 | true =>
   rw [hq] at HR
   rw [Bool.true_and]
   by_cases h0 : 0 <= n
   · by_cases h1 : n < gl
     · rw [decide_eq_true h0, decide_eq_true h1]
       go_enter Tryz.func62, Tryz.ntmps62
       go_wp2_with (go_at_call 9; refine (HR.out _).mono ?_; rintro e w1 ⟨rfl, b1⟩; obtain ⟨y0, y1, y2⟩ := gthree (HF.out.on b1))
       go_ret
       exact ⟨by first | rfl | simp [h1], bt b0 b1⟩
     · rw [decide_eq_true h0, decide_eq_false h1]
       go_enter Tryz.func62, Tryz.ntmps62
       go_wp2_with (go_at_call 9; refine (HR.out _).mono ?_; rintro e w1 ⟨rfl, b1⟩; obtain ⟨y0, y1, y2⟩ := gthree (HF.out.on b1))
       go_ret
       exact ⟨by first | rfl | simp [h1], bt b0 b1⟩
   · rw [decide_eq_false h0, Bool.false_and]
     go_enter Tryz.func62, Tryz.ntmps62
     go_wp2_with (go_at_call 9; refine (HR.out _).mono ?_; rintro e w1 ⟨rfl, b1⟩; obtain ⟨y0, y1, y2⟩ := gthree (HF.out.on b1))
     go_ret
     exact ⟨by first | rfl | simp [h0], bt b0 b1⟩
end Go.Proofs.YtchcmklelmlbgaaGreat.Wal
namespace Go.Proofs.YtchcmklelmlbgaaGreat.Wal
open Go.RowKit
open Go.Proofs.YtchcmklelmlbgaaGreat.Geom
open Go.Proofs.YtchcmklelmlbgaaGreat.Sup (Gb gv gcell gthree)
open Go.Proofs.YtchcmklelmlbgaaGreat.Disk (St DAt Did New8 Told8)
open Go.Proofs.YtchcmklelmlbgaaGreat.Num (putL putL_len)
open Go.Proofs.YtchcmklelmlbgaaGreat.Sec (X SymAt text sumOf sumAfter rightF encode_sym right_0)
open Go.Proofs.YtchcmklelmlbgaaGreat.Enc (xB)
set_option linter.unusedVariables false
set_option maxRecDepth 100000
def dX (kind : Int) (life : UInt64) (seq i : Nat) (gen : UInt64) (n : Nat) (body : List UInt8) : X := ⟨kind, life, ((seq + i : Nat) : Int), gen, putL seq 4 ++ putL n 2 ++ body⟩
theorem dX_right {p : Int} {kind : Int} {life : UInt64} {seq i : Nat} {gen : UInt64} {n : Nat} {body : List UInt8} (h0 : 0 <= p) (h1 : p <= 1023) (hk : 1 <= kind /\ kind <= 5) (hs : seq + i <= 1000) (hb : body.length <= 473) : rightF p (dX kind life seq i gen n body) = 0 := by
 apply right_0
 · unfold dX; simp only []; omega
 · unfold dX; simp only [List.length_append, putL_len]; omega
theorem info8 : (Tryz.prog.info? 5).map (fun i => (i.zero, i.size, i.bytes)) = some (some (.int .u8 0), 1, 1) := by kernel_rfl
set_option maxHeartbeats 4000000 in
theorem put_any (g : Nat) (fp : List Nat) (s : St) (gS bS : Nat) (l : List (List UInt8)) (L : Nat) (ga gd gl : Int) (life : UInt64) (base : Int) (seq i : Nat) (kind : Int) (gen : UInt64) (n : Nat) (body : List UInt8) (A : Option Addr) (c : Nat) (w : World) (hG : Gb ga gd gl) (h : Both w g fp s gS bS l) (hL : LAt w L g gS ga gd gl life base seq) (hLn : L ∉ bS :: fp) (hl : l.length <= 1000000) (hs : s.sz <= 90000000)
   (hb0 : 0 <= base) (hb1 : base <= 1073741824) (hsi : seq + i <= 1000) (hn : n <= 65535) (hbl : body.length <= 1000) (p : Int) (hp : p = logAt ga gd gl (base + ((seq + i : Nat) : Int))) (hp1 : p <= 1023) (hx : rightF p (dX kind life seq i gen n body) = 0) (hr : Rd w w.heap.size A (body.map e8)) :
   Calls Tryz.prog 86 #[.pointer (some ⟨L, 0, none⟩), .int .i64 (i : Int), .int .i64 kind, .int .u64 (gen.toNat : Int), .int .i64 (n : Int), .slice A body.length c] w fun e w' =>
     e = .returned (.int .i64 (Disk.write s p (xB l p (dX kind life seq i gen n body))).2) /\ Turn w g fp gS bS (Disk.write s p (xB l p (dX kind life seq i gen n body))).1 (sumAfter l (text p (dX kind life seq i gen n body))) w' := by
 obtain ⟨i0, hi0, hz0, hz1, hz2⟩ := info_parts info8
 obtain ⟨z0, z1, z2, z3, z4, z5, z6, z7⟩ := eight8 hL
 have hlL := hL.lt
 have hu : ∀ k : Nat, k <= 100000 -> ((UInt64.ofNat k).toNat = k) := fun k hk => by rw [UInt64.toNat_ofNat']; exact Nat.mod_eq_of_lt (by omega)
 have hP4 := fun W => Num.put_any (UInt64.ofNat seq) (seq : Int) (by rw [hu seq (by omega)]) 4 4 rfl (by omega) (by omega) W
 have hP2 := fun W => Num.put_any (UInt64.ofNat n) (n : Int) (by rw [hu n (by omega)]) 2 2 rfl (by omega) (by omega) W
 rw [hu seq (by omega)] at hP4
 rw [hu n (by omega)] at hP2
 have hc4 : IntKind.u64.wrap (seq : Int) = (seq : Int) := IntWalk.u64_in _ (by omega)
 have hc2 : IntKind.u64.wrap (n : Int) = (n : Int) := IntWalk.u64_in _ (by omega)
 have hadd : IntKind.i64.wrap ((seq : Int) + (i : Int)) = ((seq + i : Nat) : Int) := by rw [wrap_small (by omega) (by omega)]; omega
 have hl4 := putL_len seq 4
 have hl2 := putL_len n 2
 have hPl := fun W => place_any (.pointer (some ⟨g, 0, none⟩)) (.pointer (some ⟨gS, 0, none⟩)) ga gd gl life base ((seq + i : Nat) : Int) W g gS rfl rfl hG hb0 hb1 (by omega) (by omega)
 rw [<- hp] at hPl
 have hE : ∀ (A : Option Addr) (m c : Nat) (W : World), m = (dX kind life seq i gen n body).body.length -> SymAt W gS bS l -> Rd W W.heap.size A ((dX kind life seq i gen n body).body.map e8) -> Calls Tryz.prog 105 #[.pointer (some ⟨gS, 0, none⟩), .int .i64 p, .agg #[.int .i64 kind, .int .u64 (life.toNat : Int), .int .i64 ((seq + i : Nat) : Int), .int .u64 (gen.toNat : Int), .slice A m c]] W fun e w' =>
     ∃ A' c', e = .returned (.tuple #[.slice A' 512 c', .int .i64 0]) /\ w'.ownsRow W.heap.size 5 1 (.slice A' 512 c') 512 ((xB l p (dX kind life seq i gen n body)).map e8) /\ Keep [bS] W w' /\ SymAt w' gS bS (sumAfter l (text p (dX kind life seq i gen n body))) := by
   intro A m c W hm hS hr
   subst hm
   exact encode_sym p gS bS l (dX kind life seq i gen n body) A c W hS hl hr hx
 have hW := fun A c W hD hr' => Disk.write_any g fp s p A 512 c (xB l p (dX kind life seq i gen n body)) W hD (by omega) (Enc.xB_len l p _).symm hr'
 rw [show (dX kind life seq i gen n body).body = putL seq 4 ++ putL n 2 ++ body from rfl] at hE
 obtain ⟨V, hV⟩ : ∃ V, V = Disk.write s p (xB l p (dX kind life seq i gen n body)) := ⟨_, rfl⟩
 obtain ⟨bb, hbb⟩ : ∃ V, V = xB l p (dX kind life seq i gen n body) := ⟨_, rfl⟩
 obtain ⟨l', hl'⟩ : ∃ V, V = sumAfter l (text p (dX kind life seq i gen n body)) := ⟨_, rfl⟩
 rw [<- hV] at hW ⊢
 rw [<- hbb] at hW hE
 rw [<- hl'] at hE ⊢
 obtain ⟨P4, hP4e⟩ : ∃ V, V = putL seq 4 := ⟨_, rfl⟩
 obtain ⟨P2, hP2e⟩ : ∃ V, V = putL n 2 := ⟨_, rfl⟩
 rw [<- hP4e] at hP4 hl4 hE
 rw [<- hP2e] at hP2 hl2 hE
 have H4 := Lib.hid hP4
 have H2 := Lib.hid hP2
 have HPl := Lib.hid hPl
 have HE := Lib.hid hE
 have HW := Lib.hid hW
 have Hl4 := Lib.hid hl4
 have Hl2 := Lib.hid hl2
 have HL := Lib.hid hL
 have n1 : P4.length + P2.length <= maxLen := by unfold maxLen; omega
 have n2 : (P4.length + P2.length) * 1 <= 140737488355328 := by omega
 have n3 : P4.length + P2.length + body.length <= maxLen := by unfold maxLen; omega
 have n4 : (P4.length + P2.length + body.length) * 1 <= 140737488355328 := by omega
 have tP : True := trivial
 clear hP4 hP2 hPl hE hW hV hbb hl' hP4e hP2e hl4 hl2 hL hx hp hu hsi hn hbl hb0 hb1
 go_enter Tryz.func86, Tryz.ntmps86
 go_wp2_with (first
   | (go_at_call 108; have _t := tP; refine (H4.out _).mono ?_; rintro e w1 ⟨A1, c1, rfl, own1, b1⟩; have L1 := HL.out.on b1; clear tP)
   | (go_at_call 108; refine (H2.out _).mono ?_; rintro e w2 ⟨A2, c2, rfl, own2, b2⟩; have own1' := own_on own1 b2; have b12 := bt b1 b2)
   | (refine wpList_append_rd _ rfl _ _ _ rfl w.heap.size 5 i0 _ 1 1 Tryz.underlying51 hi0 hz0 hz1 hz2 rfl Nat.zero_lt_one _ P4.length _ rfl own1' w2.heap.size A2 P2.length c2 (P2.map e8) rfl (by simp) (Rd.own own2) (e8_one _) n1 n2 b12.size ?_; intro v3 w3 own3 hg3 hat3))
 have bw3 : Below w.heap.size w w3 := b12.grown hg3 b12.size (fun g hg => own_block own1' hg)
 obtain ⟨A3, c3, rfl⟩ := own_form own3
 have L3 := HL.out.on bw3
 have H3 := h.on bw3
 have lt3 := L3.lt
 clear z0 z1 z2 z3 z4 z5 z6 z7 hg3 hat3
 obtain ⟨z0, z1, z2, z3, z4, z5, z6, z7⟩ := eight8 L3
 refine region_inb (by kernel_rfl) (by kernel_rfl) ?_
 have inbNe := InB.some
 have inbW := @wrap_small
 have inbU := IntKind.wrap_u8'
 repeat (refine wpQuiet_step (fun K hK => ?_); go_simp; first | (refine hK _ ?_; clear hK K) | (apply Exists.intro; refine ⟨?_, hK _ ?_⟩; (· (intro w' hw'; first | (go_at_call 109; refine (HPl.out _).mono ?_; rintro e w4 ⟨rfl, b4⟩; exact ⟨rfl, hw'.on b4⟩) | (have hcw := hw'.cell; go_simp; exact rfl))); clear hK K))
 refine wpQuiet_nil ?_
 intro wq hq
 clear inbNe inbW inbU
 have bw4 := bt bw3 hq.below
 have own4 := own_on own3 hq.below
 have L4 := HL.out.on bw4
 have H4 := h.on bw4
 have lt4 := L4.lt
 clear z0 z1 z2 z3 z4 z5 z6 z7 H3
 obtain ⟨z0, z1, z2, z3, z4, z5, z6, z7⟩ := eight8 L4
 go_wp2_with fail
 have nL1 : L ∉ [bS] := fun e => hLn (by rw [List.mem_singleton] at e; rw [e]; simp)
 have cz : Below wq.heap.size wq wq.drew := (Below.refl _ _).drew
 have ownz := own_on own4 cz
 have bwz := bt bw4 cz
 have hrz := hr.on bwz
 go_region_held3 (fun w' => w'.cell? ⟨L, 0, none⟩ = some (.pointer (some ⟨g, 0, none⟩)) /\ w'.cell? ⟨L, 1, none⟩ = some (.pointer (some ⟨gS, 0, none⟩)) /\ w'.cell? ⟨L, 2, none⟩ = some (.int .i64 ga) /\ w'.cell? ⟨L, 3, none⟩ = some (.int .i64 gd) /\ w'.cell? ⟨L, 4, none⟩ = some (.int .i64 gl) /\ w'.cell? ⟨L, 5, none⟩ = some (.int .u64 (life.toNat : Int)) /\ w'.cell? ⟨L, 6, none⟩ = some (.int .i64 base) /\ w'.cell? ⟨L, 7, none⟩ = some (.int .i64 (seq : Int))) (first | with_reducible exact eight8 (L4.on cz) | with_reducible exact eight8 (HL.out.on bw5) | with_reducible exact eight8 (L5.keepK k6 nL1)) (first
   | ((refine step_app _ (by rfl) _ _ _ (by rfl) w.heap.size 5 i0 _ 1 1 Tryz.underlying51 hi0 hz0 hz1 hz2 rfl Nat.zero_lt_one _ (P4.length + P2.length) (P4.map e8 ++ P2.map e8) (by rfl) ?_ A body.length c (body.map e8) (by rfl) (by simp) ?_ (e8_one _) n3 n4 ?_ ?_); (· exact ownz); (· exact hrz); (· exact bwz.size); intro v5 w5 own5 hg5; have bw5 : Below w.heap.size w w5 := bwz.grown hg5 bwz.size (fun g hg => own_block ownz hg); obtain ⟨A5, c5, rfl⟩ := own_form own5; have L5 := HL.out.on bw5; have rd5 : Rd w5 w5.heap.size A5 ((P4 ++ P2 ++ body).map e8) := by rw [List.map_append, List.map_append]; exact Rd.own own5)
   | (go_at_call 105; refine (HE.out A5 _ c5 _ (by rw [List.length_append, List.length_append]) (h.on bw5).sym rd5).mono ?_; rintro e w6 ⟨A6, c6, rfl, own6, k6, s6⟩))
 have H6 := (h.on bw5).summed s6 k6
 have L6 := L5.keepK k6 nL1
 have K6 := keepT (fp := fp) (Keep.of_below bw5 (bS :: fp)) (Fresh.refl _ _) (keepB k6)
 clear z0 z1 z2 z3 z4 z5 z6 z7
 obtain ⟨z0, z1, z2, z3, z4, z5, z6, z7⟩ := eight8 L6
 go_wp2_with (go_at_call 73; refine (HW.out A6 c6 _ H6.disk (RdN.own own6 (fun j hj => (h.on bw5).disk.lt j hj))).mono ?_; rintro e w7 ⟨rfl, fp7, hD7, k7, f7⟩; have H7 := H6.did hD7 k7 f7)
 go_ret
 have hz6 := K6.size
 exact ⟨rfl, fp7, H7, keepT K6 (Fresh.refl _ _) (keepF k7), fun j hj => (f7 j hj).imp id (fun e => by omega)⟩
end Go.Proofs.YtchcmklelmlbgaaGreat.Wal
namespace Go.Proofs.YtchcmklelmlbgaaGreat
open Go.RowKit
set_option linter.unusedVariables false
structure Pg where
 n : Int
 body : List UInt8
structure PgAt (w : World) (Q : Nat -> Prop) (b o : Nat) (x : Pg) (Ai : Option Addr) (ci : Nat) : Prop where
 c0 : w.cell? ⟨b, o, none⟩ = some (.int .i64 x.n)
 c1 : w.cell? ⟨b, o + 1, none⟩ = some (.slice Ai x.body.length ci)
 rd : RdQ w Q Ai (x.body.map e8)
 cap : x.body.length <= ci
 max : ci <= maxLen
 lo : -9223372036854775808 <= x.n
 hi : x.n <= 9223372036854775807
def Pgs (w : World) (Q : Nat -> Prop) (A : Option Addr) (l : List Pg) : Prop :=
 l ≠ [] -> ∃ b off, A = some ⟨b, off, none⟩ /\ b < w.heap.size /\ Q b /\ ∀ i (h : i < l.length), ∃ Ai ci, PgAt w Q b (off + i * 2) l[i] Ai ci
theorem Pgs.nil (w : World) (Q : Nat -> Prop) (A : Option Addr) : Pgs w Q A [] := fun h => absurd rfl h
theorem Pgs.get {w : World} {Q : Nat -> Prop} {A : Option Addr} {l : List Pg} (h : Pgs w Q A l) {i : Nat} (hi : i < l.length) :
   ∃ b off Ai ci, A = some ⟨b, off, none⟩ /\ b < w.heap.size /\ PgAt w Q b (off + i * 2) l[i] Ai ci := by
 obtain ⟨b, off, rfl, hb, _, hc⟩ := h (by intro e; rw [e] at hi; exact absurd hi (by simp))
 obtain ⟨Ai, ci, h1⟩ := hc i hi
 exact ⟨b, off, Ai, ci, rfl, hb, h1⟩
theorem PgAt.keep {w w' : World} {Q : Nat -> Prop} {b o : Nat} {x : Pg} {Ai : Option Addr} {ci : Nat} {fp : List Nat} (h : PgAt w Q b o x Ai ci) (k : Keep fp w w') (hf : ∀ j, Q j -> j < w.heap.size -> j ∉ fp) (hb : b < w.heap.size) (hq : Q b) : PgAt w' Q b o x Ai ci :=
 ⟨(World.cell?_of_block (k.block hb (hf b hq hb))).trans h.c0, (World.cell?_of_block (k.block hb (hf b hq hb))).trans h.c1, h.rd.keep k hf, h.cap, h.max, h.lo, h.hi⟩
theorem Pgs.keep {w w' : World} {Q : Nat -> Prop} {A : Option Addr} {l : List Pg} {fp : List Nat} (h : Pgs w Q A l) (k : Keep fp w w') (hf : ∀ j, Q j -> j < w.heap.size -> j ∉ fp) : Pgs w' Q A l := fun hne => by
 obtain ⟨b, off, rfl, hb, hq, hc⟩ := h hne
 refine ⟨b, off, rfl, Nat.lt_of_lt_of_le hb k.size, hq, fun i hi => ?_⟩
 obtain ⟨Ai, ci, h1⟩ := hc i hi
 exact ⟨Ai, ci, h1.keep k hf hb hq⟩
theorem Pgs.on {w w' : World} {Q : Nat -> Prop} {A : Option Addr} {l : List Pg} (h : Pgs w Q A l) (b : Below w.heap.size w w') : Pgs w' Q A l := h.keep (Keep.of_below b []) (fun j _ _ => by simp)
theorem Pgs.imp {w : World} {Q Q' : Nat -> Prop} {A : Option Addr} {l : List Pg} (h : Pgs w Q A l) (hq : ∀ j, j < w.heap.size -> Q j -> Q' j) : Pgs w Q' A l := fun hne => by
 obtain ⟨b, off, rfl, hb, h1, hc⟩ := h hne
 refine ⟨b, off, rfl, hb, hq b hb h1, fun i hi => ?_⟩
 obtain ⟨Ai, ci, h⟩ := hc i hi
 exact ⟨Ai, ci, h.c0, h.c1, h.rd.imp hq, h.cap, h.max, h.lo, h.hi⟩
end Go.Proofs.YtchcmklelmlbgaaGreat
namespace Go.Proofs.YtchcmklelmlbgaaGreat.Wal
open Go.RowKit
open Go.Proofs.YtchcmklelmlbgaaGreat.Geom
open Go.Proofs.YtchcmklelmlbgaaGreat.Sup (Gb gv gcell gthree)
set_option linter.unusedVariables false
set_option maxRecDepth 100000
attribute [local irreducible] wpQuiet
def wrongB (ga gd gl : Int) (p : Pg) : Bool := decide (p.n < 0) || (decide (pagesOf ga gd gl <= p.n) || decide (473 < p.body.length))
def badB (ga gd gl : Int) (l : List Pg) : Bool := l.any (wrongB ga gd gl)
theorem badB_no {ga gd gl : Int} {l : List Pg} (h : ∀ j (hj : j < l.length), wrongB ga gd gl l[j] = false) : badB ga gd gl l = false := by
 unfold badB
 rw [List.any_eq_false]
 intro b hb
 obtain ⟨j, hj, rfl⟩ := List.mem_iff_getElem.1 hb
 rw [h j hj]; simp
theorem badB_yes {ga gd gl : Int} {l : List Pg} {j : Nat} (hj : j < l.length) (h : wrongB ga gd gl l[j] = true) : badB ga gd gl l = true := by
 unfold badB
 rw [List.any_eq_true]
 exact ⟨l[j], List.getElem_mem hj, h⟩
theorem badB_of {ga gd gl : Int} {l : List Pg} (h : badB ga gd gl l = false) {j : Nat} (hj : j < l.length) : 0 <= l[j].n /\ l[j].n < pagesOf ga gd gl /\ l[j].body.length <= 473 := by
 unfold badB at h
 rw [List.any_eq_false] at h
 have := h _ (List.getElem_mem hj)
 simp [wrongB] at this
 omega
set_option maxHeartbeats 1000000 in
theorem wrong_any (L g gS Bx : Nat) (ga gd gl : Int) (life : UInt64) (base : Int) (seq : Nat) (x : Pg) (A : Option Addr) (c : Nat) (w : World) (hG : Gb ga gd gl) (hL : LAt w L g gS ga gd gl life base seq) (hB : Box w Bx (.pointer (some ⟨L, 0, none⟩))) :
   Calls Tryz.prog 83 #[.agg #[.int .i64 x.n, .slice A x.body.length c], .pointer (some ⟨Bx, 0, none⟩)] w fun e w' => e = .returned (.bool (wrongB ga gd gl x)) /\ Below w.heap.size w w' := by
 obtain ⟨xn, xb⟩ := x
 obtain ⟨m, hm⟩ : ∃ m : Nat, m = xb.length := ⟨_, rfl⟩
 obtain ⟨w0, hw0⟩ : ∃ q, q = w.alloc (.cells #[.int .i64 xn, .slice A m c] 53) := ⟨_, rfl⟩
 have FX : Blk w0 w.heap.size [.int .i64 xn, .slice A m c] := by rw [hw0]; exact Blk.new w [.int .i64 xn, .slice A m c] 53
 have b0 : Below w.heap.size w w0 := by rw [hw0]; exact b1alloc w _
 have E0 := Lib.hid hw0.symm
 have HFX := Lib.hid FX
 have HL0 := Lib.hid (hL.on b0)
 have HB0 := Lib.hid (hB.on' b0)
 have HP := Lib.hid (fun W => Geom.pages_any ga gd gl W hG.a0 hG.a1 hG.d0 hG.d1 hG.g0 hG.g1)
 have hW : wrongB ga gd gl ⟨xn, xb⟩ = (decide (xn < 0) || (decide (pagesOf ga gd gl <= xn) || decide (473 < xb.length))) := rfl
 obtain ⟨R, hR⟩ : ∃ R, R = wrongB ga gd gl ⟨xn, xb⟩ := ⟨_, rfl⟩
 rw [<- hR] at hW ⊢
 obtain ⟨q, hq⟩ : ∃ q, q = pagesOf ga gd gl := ⟨_, rfl⟩
 rw [<- hq] at HP hW
 rw [<- hm] at hW ⊢
 clear hR hq FX hL hB hw0 hm
 by_cases h0 : xn < 0
 · rw [decide_eq_true h0, Bool.true_or] at hW
   have HW := Lib.hid hW
   clear hW
   go_enter Tryz.func83, Tryz.ntmps83
   go_wp2_with fail
   rw [E0.out]
   have lX := HFX.out.lt
   have lL := HL0.out.lt
   have lB := HB0.out.lt
   have y0 := HB0.out.cell
   have x0 := HFX.out.cell (k := 0) (by simp)
   have x1 := HFX.out.cell (k := 1) (by simp)
   simp only [List.getElem_cons_zero, List.getElem_cons_succ] at x0 x1
   obtain ⟨_, _, z2, z3, z4, _, _, _⟩ := eight8 HL0.out
   refine region_inb (by kernel_rfl) (by kernel_rfl) ?_
   have inbNe := InB.some
   have inbW := @wrap_small
   have inbU := IntKind.wrap_u8'
   repeat (refine wpQuiet_step (fun K hK => ?_); go_simp; first | (refine hK _ ?_; clear hK K) | (apply Exists.intro; refine ⟨?_, hK _ ?_⟩; (· (intro w' hw'; first | fail | (have hcw := hw'.cell; go_simp; exact rfl))); clear hK K))
   refine wpQuiet_nil ?_
   intro wq hq
   clear inbNe inbW inbU
   go_wp2
   go_ret
   exact ⟨ret_bool HW.out.symm, bt b0 hq.below⟩
 rw [decide_eq_false h0, Bool.false_or] at hW
 by_cases h1 : q <= xn
 · rw [decide_eq_true h1, Bool.true_or] at hW
   have HW := Lib.hid hW
   clear hW
   go_enter Tryz.func83, Tryz.ntmps83
   go_wp2_with fail
   rw [E0.out]
   have lX := HFX.out.lt
   have lL := HL0.out.lt
   have lB := HB0.out.lt
   have y0 := HB0.out.cell
   have x0 := HFX.out.cell (k := 0) (by simp)
   have x1 := HFX.out.cell (k := 1) (by simp)
   simp only [List.getElem_cons_zero, List.getElem_cons_succ] at x0 x1
   obtain ⟨_, _, z2, z3, z4, _, _, _⟩ := eight8 HL0.out
   refine region_inb (by kernel_rfl) (by kernel_rfl) ?_
   have inbNe := InB.some
   have inbW := @wrap_small
   have inbU := IntKind.wrap_u8'
   repeat (refine wpQuiet_step (fun K hK => ?_); go_simp; first | (refine hK _ ?_; clear hK K) | (apply Exists.intro; refine ⟨?_, hK _ ?_⟩; (· (intro w' hw'; first | (go_at_call 70; refine (HP.out _).mono ?_; rintro e w1 ⟨rfl, b1⟩; exact ⟨rfl, hw'.on b1⟩) | (have hcw := hw'.cell; go_simp; exact rfl))); clear hK K))
   refine wpQuiet_nil ?_
   intro wq hq
   clear inbNe inbW inbU
   go_wp2
   go_ret
   exact ⟨ret_bool HW.out.symm, bt b0 hq.below⟩
 rw [decide_eq_false h1, Bool.false_or] at hW
 by_cases h2 : 473 < m
 · rw [decide_eq_true h2] at hW
   have HW := Lib.hid hW
   have h2' : (473 : Int) < (m : Int) := by omega
   clear hW h2
   go_enter Tryz.func83, Tryz.ntmps83
   go_wp2_with fail
   rw [E0.out]
   have lX := HFX.out.lt
   have lL := HL0.out.lt
   have lB := HB0.out.lt
   have y0 := HB0.out.cell
   have x0 := HFX.out.cell (k := 0) (by simp)
   have x1 := HFX.out.cell (k := 1) (by simp)
   simp only [List.getElem_cons_zero, List.getElem_cons_succ] at x0 x1
   obtain ⟨_, _, z2, z3, z4, _, _, _⟩ := eight8 HL0.out
   refine region_inb (by kernel_rfl) (by kernel_rfl) ?_
   have inbNe := InB.some
   have inbW := @wrap_small
   have inbU := IntKind.wrap_u8'
   repeat (refine wpQuiet_step (fun K hK => ?_); go_simp; first | (refine hK _ ?_; clear hK K) | (apply Exists.intro; refine ⟨?_, hK _ ?_⟩; (· (intro w' hw'; first | (go_at_call 70; refine (HP.out _).mono ?_; rintro e w1 ⟨rfl, b1⟩; exact ⟨rfl, hw'.on b1⟩) | (have hcw := hw'.cell; go_simp; exact rfl))); clear hK K))
   refine wpQuiet_nil ?_
   intro wq hq
   clear inbNe inbW inbU
   go_wp2
   go_ret
   exact ⟨ret_bool HW.out.symm, bt b0 hq.below⟩
 · rw [decide_eq_false h2] at hW
   have HW := Lib.hid hW
   have h2' : ¬ (473 : Int) < (m : Int) := by omega
   clear hW h2
   go_enter Tryz.func83, Tryz.ntmps83
   go_wp2_with fail
   rw [E0.out]
   have lX := HFX.out.lt
   have lL := HL0.out.lt
   have lB := HB0.out.lt
   have y0 := HB0.out.cell
   have x0 := HFX.out.cell (k := 0) (by simp)
   have x1 := HFX.out.cell (k := 1) (by simp)
   simp only [List.getElem_cons_zero, List.getElem_cons_succ] at x0 x1
   obtain ⟨_, _, z2, z3, z4, _, _, _⟩ := eight8 HL0.out
   refine region_inb (by kernel_rfl) (by kernel_rfl) ?_
   have inbNe := InB.some
   have inbW := @wrap_small
   have inbU := IntKind.wrap_u8'
   repeat (refine wpQuiet_step (fun K hK => ?_); go_simp; first | (refine hK _ ?_; clear hK K) | (apply Exists.intro; refine ⟨?_, hK _ ?_⟩; (· (intro w' hw'; first | (go_at_call 70; refine (HP.out _).mono ?_; rintro e w1 ⟨rfl, b1⟩; exact ⟨rfl, hw'.on b1⟩) | (have hcw := hw'.cell; go_simp; exact rfl))); clear hK K))
   refine wpQuiet_nil ?_
   intro wq hq
   clear inbNe inbW inbU
   go_wp2
   go_ret
   exact ⟨ret_bool (by rw [HW.out]; simp; omega), bt b0 hq.below⟩
set_option maxHeartbeats 1000000 in
theorem index_any (L g gS Bx : Nat) (ga gd gl : Int) (life : UInt64) (base : Int) (seq : Nat) (Q : Nat -> Prop) (A : Option Addr) (l : List Pg) (c : Nat) (w : World) (hG : Gb ga gd gl) (hL : LAt w L g gS ga gd gl life base seq) (hB : Box w Bx (.pointer (some ⟨L, 0, none⟩))) (hr : Pgs w Q A l) (hcl : l.length <= 1000000) :
   Calls Tryz.prog 107 #[.slice A l.length c, .func (.func 83) #[] #[.pointer (some ⟨Bx, 0, none⟩)]] w fun e w' => (∃ k : Int, e = .returned (.int .i64 k) /\ decide (0 <= k) = badB ga gd gl l) /\ Below w.heap.size w w' := by
 have hm1 : ∀ (x : Array Value) (w : World), Sem.run Tryz.prog (callFunc 83 x) w = .ok (.enter 83 x) w := by intro x w; simp [go_sem]
 go_enter Tryz.func107, Tryz.ntmps107
 go_wp2_with fail
 go_loopw [8] (fun i wr => ∃ k : Nat, k <= l.length /\ i = .int .i64 (k : Int) /\ Below w.heap.size w wr /\ Hid (∀ j (hj : j < l.length), j < k -> wrongB ga gd gl l[j] = false)) (fun i _ => l.length - (intOf i).toNat)
 case atStart => exact ⟨0, by omega, rfl, Below.refl _ _, Lib.hid (fun j hj h => by omega)⟩
 case round =>
   obtain ⟨k, hk, rfl, bel, hall⟩ := hrel
   by_cases hlt : k < l.length
   · have hkn : (k : Int) < (l.length : Int) := Int.ofNat_lt.2 hlt
     have hk1 : k + 1 <= l.length := hlt
     have hms : l.length - (k + 1) < l.length - k := by omega
     have hk9 : k <= 1000000000 := by omega
     obtain ⟨b, off, Ai, ci, rfl, hb, hp⟩ := (hr.on bel).get hlt
     have p0 := hp.c0
     have p1 := hp.c1
     have HWr := Lib.hid (wrong_any L g gS Bx ga gd gl life base seq l[k] Ai ci wr hG (hL.on bel) (hB.on' bel))
     obtain ⟨x, hx⟩ : ∃ x, x = l[k] := ⟨_, rfl⟩
     rw [<- hx] at p0 p1 HWr
     have Hx := Lib.hid hx
     clear hx hp
     cases hw : wrongB ga gd gl x with
     | true =>
       rw [hw] at HWr
       have hy := Lib.hid (badB_yes hlt (by rw [<- Hx.out]; exact hw))
       clear hw
       go_wp2_with (go_at_call 83; refine HWr.out.mono ?_; rintro e w1 ⟨rfl, b1⟩)
       go_ret
       exact ⟨⟨(k : Int), rfl, by rw [hy.out]; exact decide_eq_true (by omega)⟩, bt bel b1⟩
     | false =>
       rw [hw] at HWr
       have hall' := Lib.hid (show ∀ j (hj : j < l.length), j < k + 1 -> wrongB ga gd gl l[j] = false from fun j hj h => by
         rcases (show j < k \/ j = k by omega) with h1 | h1
         · exact hall.out j hj h1
         · subst h1; rw [<- Hx.out]; exact hw)
       clear hw
       go_wp2_with (go_at_call 83; refine HWr.out.mono ?_; rintro e w1 ⟨rfl, b1⟩)
       case roundEnd => exact ⟨⟨k + 1, hk1, by first | rfl | (rw [wrap_up hk9]; rfl), bt bel b1, hall'⟩, by first | exact hms | (rw [wrap_up hk9]; exact hms)⟩
   · have hkn : ¬ (k : Int) < (l.length : Int) := fun h => hlt (Int.ofNat_lt.1 h)
     have hn := Lib.hid (badB_no (ga := ga) (gd := gd) (gl := gl) (l := l) (fun j hj => hall.out j hj (by omega)))
     go_wp2
     go_ret
     exact ⟨⟨-1, rfl, by rw [hn.out]; rfl⟩, bel⟩
theorem contains_any (L g gS Bx : Nat) (ga gd gl : Int) (life : UInt64) (base : Int) (seq : Nat) (Q : Nat -> Prop) (A : Option Addr) (l : List Pg) (c : Nat) (w : World) (hG : Gb ga gd gl) (hL : LAt w L g gS ga gd gl life base seq) (hB : Box w Bx (.pointer (some ⟨L, 0, none⟩))) (hr : Pgs w Q A l) (hcl : l.length <= 1000000) :
   Calls Tryz.prog 84 #[.slice A l.length c, .func (.func 83) #[] #[.pointer (some ⟨Bx, 0, none⟩)]] w fun e w' => e = .returned (.bool (badB ga gd gl l)) /\ Below w.heap.size w w' := by
 go_enter Tryz.func84, Tryz.ntmps84
 go_wp2_with (go_at_call 107; refine (index_any L g gS Bx ga gd gl life base seq Q A l c _ hG hL hB hr hcl).mono ?_; rintro e w1 ⟨⟨k, rfl, hk⟩, b1⟩)
 go_ret
 exact ⟨by first | rfl | exact ret_bool hk, b1⟩
end Go.Proofs.YtchcmklelmlbgaaGreat.Wal
namespace Go.Proofs.YtchcmklelmlbgaaGreat.Wal
open Go.RowKit
open Go.Proofs.YtchcmklelmlbgaaGreat.Geom
open Go.Proofs.YtchcmklelmlbgaaGreat.Sup (Gb gv gcell gthree)
open Go.Proofs.YtchcmklelmlbgaaGreat.Disk (St DAt Did New8 Told8)
open Go.Proofs.YtchcmklelmlbgaaGreat.Sec (X SymAt text sumOf sumAfter)
open Go.Proofs.YtchcmklelmlbgaaGreat.Enc (Itm xB encs enf)
set_option linter.unusedVariables false
set_option maxRecDepth 100000
def dItems (ga gd gl base : Int) (life : UInt64) (seq : Nat) (gen : UInt64) : Nat -> List Pg -> List Itm
 | _, [] => []
 | i, x :: r => (logAt ga gd gl (base + ((seq + i : Nat) : Int)), dX 4 life seq i gen x.n.toNat x.body) :: dItems ga gd gl base life seq gen (i + 1) r
theorem dItems_drop {ga gd gl base : Int} {life : UInt64} {seq : Nat} {gen : UInt64} {l : List Pg} {k : Nat} (h : k < l.length) : dItems ga gd gl base life seq gen k (l.drop k) = (logAt ga gd gl (base + ((seq + k : Nat) : Int)), dX 4 life seq k gen l[k].n.toNat l[k].body) :: dItems ga gd gl base life seq gen (k + 1) (l.drop (k + 1)) := by
 rw [List.drop_eq_getElem_cons h]; rfl
def putF (ga gd gl base : Int) (life : UInt64) (seq : Nat) (gen : UInt64) (pages : List Pg) (l : List (List UInt8)) (s : St) : List (List UInt8) × St × Int :=
 if (enf (dItems ga gd gl base life seq gen 0 pages) l s).2.2 = 0 then enf [(logAt ga gd gl (base + ((seq + pages.length : Nat) : Int)), dX 5 life seq pages.length gen pages.length [])] (enf (dItems ga gd gl base life seq gen 0 pages) l s).1 (enf (dItems ga gd gl base life seq gen 0 pages) l s).2.1
 else enf (dItems ga gd gl base life seq gen 0 pages) l s
theorem append_nil (A : Option Addr) (n c : Nat) (gen : UInt64) (w : World) : Calls Tryz.prog 45 #[.pointer none, .slice A n c, .int .u64 (gen.toNat : Int)] w fun e w' => e = .returned (.int .i64 1) /\ Below w.heap.size w w' := by
 have b0 := b1alloc w (.cells #[.pointer none] 91)
 go_enter Tryz.func45, Tryz.ntmps45
 go_wp2
 go_ret
 exact ⟨rfl, b0⟩
set_option maxHeartbeats 1000000 in
theorem append_bad (L g gS : Nat) (ga gd gl : Int) (life : UInt64) (base : Int) (seq : Nat) (Q : Nat -> Prop) (A : Option Addr) (l : List Pg) (c : Nat) (gen : UInt64) (w : World) (hG : Gb ga gd gl) (hL : LAt w L g gS ga gd gl life base seq) (hr : Pgs w Q A l) (hcl : l.length <= 1000000) (hb : badB ga gd gl l = true) :
   Calls Tryz.prog 45 #[.pointer (some ⟨L, 0, none⟩), .slice A l.length c, .int .u64 (gen.toNat : Int)] w fun e w' => e = .returned (.int .i64 2) /\ Below w.heap.size w w' := by
 have b0 := b1alloc w (.cells #[.pointer (some ⟨L, 0, none⟩)] 91)
 have HC := Lib.hid (fun W (bW : Below w.heap.size w W) (hB : Box W w.heap.size (.pointer (some ⟨L, 0, none⟩))) => contains_any L g gS w.heap.size ga gd gl life base seq Q A l c W hG (hL.on bW) hB (hr.on bW) hcl)
 rw [hb] at HC
 go_enter Tryz.func45, Tryz.ntmps45
 go_wp2_with (go_at_call 84; refine (HC.out _ b0 (Box.new w _ _)).mono ?_; rintro e w1 ⟨rfl, b1⟩)
 go_ret
 exact ⟨rfl, bt b0 b1⟩
set_option maxHeartbeats 1000000 in
theorem append_big (L g gS : Nat) (ga gd gl : Int) (life : UInt64) (base : Int) (seq : Nat) (Q : Nat -> Prop) (A : Option Addr) (l : List Pg) (c : Nat) (gen : UInt64) (w : World) (hG : Gb ga gd gl) (hL : LAt w L g gS ga gd gl life base seq) (hr : Pgs w Q A l) (hcl : l.length <= 1000000) (hb : badB ga gd gl l = false) (hf : fitsB ga gd gl l.length = false) :
   Calls Tryz.prog 45 #[.pointer (some ⟨L, 0, none⟩), .slice A l.length c, .int .u64 (gen.toNat : Int)] w fun e w' => e = .returned (.int .i64 6) /\ Below w.heap.size w w' := by
 have b0 := b1alloc w (.cells #[.pointer (some ⟨L, 0, none⟩)] 91)
 have HC := Lib.hid (fun W (bW : Below w.heap.size w W) (hB : Box W w.heap.size (.pointer (some ⟨L, 0, none⟩))) => contains_any L g gS w.heap.size ga gd gl life base seq Q A l c W hG (hL.on bW) hB (hr.on bW) hcl)
 rw [hb] at HC
 have HF := Lib.hid (fun W => fits_any ga gd gl l.length W hG)
 rw [hf] at HF
 have HL := Lib.hid hL
 have HX := Lib.hid (Box.new w 91 (.pointer (some ⟨L, 0, none⟩)))
 clear hL
 go_enter Tryz.func45, Tryz.ntmps45
 go_wp2_with (first
   | (go_at_call 84; refine (HC.out _ b0 HX.out).mono ?_; rintro e w1 ⟨rfl, b1⟩; have b2 := bt b0 b1; obtain ⟨z0, z1, z2, z3, z4, z5, z6, z7⟩ := eight8 (HL.out.on b2); have y0 := (HX.out.on' b1).cell)
   | (go_at_call 85; refine (HF.out _).mono ?_; rintro e w2 ⟨rfl, b3⟩))
 go_ret
 exact ⟨rfl, bt b2 b3⟩
set_option maxHeartbeats 1000000 in
theorem append_full (L g gS : Nat) (ga gd gl : Int) (life : UInt64) (base : Int) (seq : Nat) (Q : Nat -> Prop) (A : Option Addr) (l : List Pg) (c : Nat) (gen : UInt64) (w : World) (hG : Gb ga gd gl) (hL : LAt w L g gS ga gd gl life base seq) (hr : Pgs w Q A l) (hcl : l.length <= 1000000) (hb : badB ga gd gl l = false) (hf : fitsB ga gd gl l.length = true) (hs : seq <= 100000) (hg : 0 <= gl) (hg1 : gl <= 100000) (hn : gl - (seq : Int) <= (l.length : Int)) :
   Calls Tryz.prog 45 #[.pointer (some ⟨L, 0, none⟩), .slice A l.length c, .int .u64 (gen.toNat : Int)] w fun e w' => e = .returned (.int .i64 5) /\ Below w.heap.size w w' := by
 have b0 := b1alloc w (.cells #[.pointer (some ⟨L, 0, none⟩)] 91)
 have HC := Lib.hid (fun W (bW : Below w.heap.size w W) (hB : Box W w.heap.size (.pointer (some ⟨L, 0, none⟩))) => contains_any L g gS w.heap.size ga gd gl life base seq Q A l c W hG (hL.on bW) hB (hr.on bW) hcl)
 rw [hb] at HC
 have HF := Lib.hid (fun W => fits_any ga gd gl l.length W hG)
 rw [hf] at HF
 have HR := Lib.hid (fun W (bW : Below w.heap.size w W) => room_any L g gS ga gd gl life base seq W (hL.on bW) hs hg hg1)
 have HL := Lib.hid hL
 have HX := Lib.hid (Box.new w 91 (.pointer (some ⟨L, 0, none⟩)))
 clear hL
 go_enter Tryz.func45, Tryz.ntmps45
 go_wp2_with (first
   | (go_at_call 84; refine (HC.out _ b0 HX.out).mono ?_; rintro e w1 ⟨rfl, b1⟩; have b2 := bt b0 b1; obtain ⟨z0, z1, z2, z3, z4, z5, z6, z7⟩ := eight8 (HL.out.on b2); have y0 := (HX.out.on' b1).cell)
   | (go_at_call 85; refine (HF.out _).mono ?_; rintro e w2 ⟨rfl, b3⟩; have b4 := bt b2 b3; have y1 := ((HX.out.on' b1).on' b3).cell)
   | (go_at_call 64; refine (HR.out _ b4).mono ?_; rintro e w3 ⟨rfl, b5⟩))
 go_ret
 exact ⟨rfl, bt b4 b5⟩
end Go.Proofs.YtchcmklelmlbgaaGreat.Wal
namespace Go.Proofs.YtchcmklelmlbgaaGreat.Wal
open Go.RowKit
open Go.Proofs.YtchcmklelmlbgaaGreat.Geom
open Go.Proofs.YtchcmklelmlbgaaGreat.Sup (Gb gv gcell gthree)
open Go.Proofs.YtchcmklelmlbgaaGreat.Disk (St DAt Did New8 Told8)
open Go.Proofs.YtchcmklelmlbgaaGreat.Sec (X SymAt text sumOf sumAfter)
open Go.Proofs.YtchcmklelmlbgaaGreat.Enc (Itm xB encs enf encs_go encs_stop)
set_option linter.unusedVariables false
set_option maxRecDepth 100000
theorem enf_one (i : Itm) (l : List (List UInt8)) (s : St) : enf [i] l s = if (Disk.write s i.1 (xB l i.1 i.2)).2 = 0 then (sumAfter l (text i.1 i.2), Disk.flush (Disk.write s i.1 (xB l i.1 i.2)).1) else (sumAfter l (text i.1 i.2), Disk.write s i.1 (xB l i.1 i.2)) := by
 unfold enf
 by_cases h : (Disk.write s i.1 (xB l i.1 i.2)).2 = 0
 · rw [encs_go h, Enc.encs_nil, if_pos rfl, if_pos h]
 · rw [encs_stop h, if_neg h]
theorem log_bd {ga gd gl i : Int} (h : right ga gd gl = true) (hi : 0 <= i) : 0 <= logAt ga gd gl i /\ logAt ga gd gl i <= 1023 /\ logAt ga gd gl i < 4 + gl := by
 obtain ⟨h1, h2, h3, h4, h5, h6⟩ := right_yes h
 unfold logAt
 rw [if_pos ⟨h, hi⟩]
 have := Int.emod_nonneg i (show gl ≠ 0 by omega)
 have := Int.emod_lt_of_pos i (show 0 < gl by omega)
 omega
theorem fits_yes {ga gd gl n : Int} (h : fitsB ga gd gl n = true) : right ga gd gl = true /\ 0 <= n /\ n < gl := by
 unfold fitsB at h
 simp only [Bool.and_eq_true, decide_eq_true_eq] at h
 exact ⟨h.1, h.2.1, h.2.2⟩
theorem Both.keep1 {W W' : World} {L g : Nat} {fp : List Nat} {s : St} {gS bS : Nat} {l : List (List UInt8)} (h : Both W g fp s gS bS l) (k : Keep [L] W W') (hn : L ∉ bS :: gS :: fp) : Both W' g fp s gS bS l := by
 have hm : ∀ j, j ∈ bS :: gS :: fp -> j ∉ [L] := fun j hj e => hn (by rw [List.mem_singleton] at e; rw [<- e]; exact hj)
 exact ⟨h.disk.keep k (fun j hj => hm j (by simp [hj])), h.sym.keepK k (hm gS (by simp)) (hm bS (by simp)), h.nS, h.nB⟩
def WTurn (w : World) (g : Nat) (fp : List Nat) (gS bS L : Nat) (ga gd gl : Int) (life : UInt64) (base : Int) (s' : St) (l' : List (List UInt8)) (seq' : Nat) (w' : World) : Prop :=
 ∃ fp', Both w' g fp' s' gS bS l' /\ Keep (L :: bS :: fp) w w' /\ Fresh w fp fp' /\ LAt w' L g gS ga gd gl life base seq'
set_option maxHeartbeats 2000000 in
theorem append_any (g : Nat) (fp : List Nat) (s : St) (gS bS : Nat) (l : List (List UInt8)) (L : Nat) (ga gd gl : Int) (life : UInt64) (base : Int) (seq : Nat) (Q : Nat -> Prop) (A : Option Addr) (pages : List Pg) (c : Nat) (gen : UInt64) (w : World) (hG : Gb ga gd gl) (h : Both w g fp s gS bS l) (hL : LAt w L g gS ga gd gl life base seq) (hLn : L ∉ bS :: gS :: fp) (hl : l.length <= 900000) (hs : s.sz <= 80000000)
   (hb0 : 0 <= base) (hb1 : base <= 1073741824) (hr : Pgs w Q A pages) (hQ : ∀ j, Q j -> j < w.heap.size -> j ∉ L :: bS :: fp) (hb : badB ga gd gl pages = false) (hf : fitsB ga gd gl pages.length = true) (hn : (seq : Int) + pages.length < gl) :
   Calls Tryz.prog 45 #[.pointer (some ⟨L, 0, none⟩), .slice A pages.length c, .int .u64 (gen.toNat : Int)] w fun e w' => e = .returned (.int .i64 (putF ga gd gl base life seq gen pages l s).2.2) /\
     WTurn w g fp gS bS L ga gd gl life base (putF ga gd gl base life seq gen pages l s).2.1 (putF ga gd gl base life seq gen pages l s).1 (if (putF ga gd gl base life seq gen pages l s).2.2 = 0 then seq + (pages.length + 1) else seq) w' := by
 obtain ⟨hR, _, hn1⟩ := fits_yes hf
 have hRy := right_yes hR
 have b0 := b1alloc w (.cells #[.pointer (some ⟨L, 0, none⟩)] 91)
 have HC := Lib.hid (fun W (bW : Below w.heap.size w W) (hB : Box W w.heap.size (.pointer (some ⟨L, 0, none⟩))) => contains_any L g gS w.heap.size ga gd gl life base seq Q A pages c W hG (hL.on bW) hB (hr.on bW) (by omega))
 rw [hb] at HC
 have HF := Lib.hid (fun W => fits_any ga gd gl pages.length W hG)
 rw [hf] at HF
 have HR := Lib.hid (fun W (bW : Below w.heap.size w W) => room_any L g gS ga gd gl life base seq W (hL.on bW) (by omega) (by omega) (by omega))
 have HX := Lib.hid (Box.new w 91 (.pointer (some ⟨L, 0, none⟩)))
 have hnr : ¬ (gl - (seq : Int) <= (pages.length : Int)) := by omega
 have hN64 : pages.length <= 64 := by omega
 have hS64 : seq + pages.length <= 64 := by omega
 have hbd := Lib.hid (fun (k : Nat) => log_bd (i := base + ((seq + k : Nat) : Int)) hR (by omega))
 have hpg := Lib.hid (fun (k : Nat) (hk : k < pages.length) => badB_of hb hk)
 have HL := Lib.hid hL
 obtain ⟨E, hE⟩ : ∃ E, E = encs (dItems ga gd gl base life seq gen 0 pages) l s := ⟨_, rfl⟩
 have HE := Lib.hid hE
 have HD0 : enf (dItems ga gd gl base life seq gen 0 pages) l s = if E.2.2 = 0 then (E.1, Disk.flush E.2.1) else E := by rw [hE]; rfl
 obtain ⟨D, hD⟩ : ∃ D, D = enf (dItems ga gd gl base life seq gen 0 pages) l s := ⟨_, rfl⟩
 rw [<- hD] at HD0
 have HRR : putF ga gd gl base life seq gen pages l s = if D.2.2 = 0 then enf [(logAt ga gd gl (base + ((seq + pages.length : Nat) : Int)), dX 5 life seq pages.length gen pages.length [])] D.1 D.2.1 else D := by rw [hD]; rfl
 obtain ⟨R, hRe⟩ : ∃ R, R = putF ga gd gl base life seq gen pages l s := ⟨_, rfl⟩
 rw [<- hRe] at HRR ⊢
 obtain ⟨sq, hsq⟩ : ∃ q, q = if R.2.2 = 0 then seq + (pages.length + 1) else seq := ⟨_, rfl⟩
 rw [<- hsq]
 have Hsq := Lib.hid hsq
 clear hsq
 have HDh := Lib.hid HD0
 have HRh := Lib.hid HRR
 clear hRe HRR HD0 hD
 have H0 := Lib.hid h
 have HG := Lib.hid hG
 have lL := hL.lt
 clear hL hE hf hb hR hRy hn1
 go_enter Tryz.func45, Tryz.ntmps45
 go_wp2_with (first
   | (go_at_call 84; refine (HC.out _ b0 HX.out).mono ?_; rintro e w1 ⟨rfl, b1⟩; have b2 := bt b0 b1; obtain ⟨z0, z1, z2, z3, z4, z5, z6, z7⟩ := eight8 (HL.out.on b2); have y0 := (HX.out.on' b1).cell)
   | (go_at_call 85; refine (HF.out _).mono ?_; rintro e w2 ⟨rfl, b3⟩; have b4 := bt b2 b3; have y1 := ((HX.out.on' b1).on' b3).cell)
   | (go_at_call 64; refine (HR.out _ b4).mono ?_; rintro e w3 ⟨rfl, b5⟩; have b6 := bt b4 b5; have hX3 := ((HX.out.on' b1).on' b3).on' b5; have L3 := HL.out.on b6; have H3 := H0.out.on b6; clear z0 z1 z2 z3 z4 z5 z6 z7 y0 y1))
 have nX : w.heap.size ∉ bS :: fp := fun e => by
   rcases List.mem_cons.1 e with e | e
   · have := H0.out.sym.lt.2; omega
   · have := H0.out.disk.lt _ e; omega
 go_loopw [40] (fun i wr => ∃ k : Nat, k <= pages.length /\ i = .int .i64 k /\ ∃ fp' s' l', Both wr g fp' s' gS bS l' /\ Keep (bS :: fp) w wr /\ Fresh w fp fp' /\ LAt wr L g gS ga gd gl life base seq /\ Box wr w.heap.size (.pointer (some ⟨L, 0, none⟩)) /\ L ∉ bS :: gS :: fp' /\ w.heap.size ∉ bS :: fp' /\ Hid (E = encs (dItems ga gd gl base life seq gen k (pages.drop k)) l' s' /\ l'.length <= l.length + k /\ s'.sz <= s.sz + 2 * k)) (fun i _ => pages.length - (intOf i).toNat)
 case atStart => exact ⟨0, by omega, rfl, fp, s, l, H3, Keep.of_below b6 _, Fresh.refl _ _, L3, hX3, hLn, nX, Lib.hid ⟨by rw [List.drop_zero]; exact HE.out, by omega, by omega⟩⟩
 case round =>
   obtain ⟨k, hk, rfl, fp', s', l', HB', K, F, HA, hX', hLn', nX', hid⟩ := hrel
   clear H3 hX3 L3
   obtain ⟨z0, z1, z2, z3, z4, z5, z6, z7⟩ := eight8 HA
   have y0 := hX'.cell
   have lX := hX'.lt
   by_cases hlt : k < pages.length
   · have hL1 : l'.length <= 1000000 := Nat.le_trans hid.out.2.1 (by omega)
     have hS1 : s'.sz <= 90000000 := Nat.le_trans hid.out.2.2 (by omega)
     have hkn : (k : Int) < (pages.length : Int) := by omega
     obtain ⟨b, off, Ai, ci, rfl, hbl, hp⟩ := (hr.keep K (fun j hj hh e => hQ j hj hh (List.mem_cons_of_mem _ e))).get hlt
     have p0 := hp.c0
     have p1 := hp.c1
     have hst := hid.out.1
     rw [dItems_drop hlt] at hst
     have hgg := hpg.out k hlt
     obtain ⟨x, hx⟩ : ∃ x, x = pages[k] := ⟨_, rfl⟩
     rw [<- hx] at p0 p1 hp hst hgg
     obtain ⟨xn, xb⟩ := x
     obtain ⟨m, rfl⟩ : ∃ m : Nat, xn = (m : Int) := ⟨_, (Int.toNat_of_nonneg hgg.1).symm⟩
     simp only [Int.toNat_natCast] at hst p0 p1 hgg
     have hm : m <= 1000 := by have := pagesOf_bd ga gd gl; omega
     obtain ⟨pl, hpl⟩ : ∃ q, q = logAt ga gd gl (base + ((seq + k : Nat) : Int)) := ⟨_, rfl⟩
     have hbk := hbd.out k
     rw [<- hpl] at hst hbk
     have HPut := Lib.hid (fun W (bW : Below wr.heap.size wr W) => put_any g fp' s' gS bS l' L ga gd gl life base seq k 4 gen m xb Ai ci W hG (HB'.on bW) (HA.on bW) (fun e => hLn' (by rcases List.mem_cons.1 e with e | e; (· rw [e]; simp); (· simp [e]))) hL1 hS1 hb0 hb1 (by omega) (by omega) (by omega) pl hpl hbk.2.1 (dX_right hbk.1 hbk.2.1 (by decide) (by omega) hgg.2.2) ((hp.rd.keep (Keep.of_below bW []) (fun j _ _ => by simp)).rd))
     clear hpl
     obtain ⟨V, hV⟩ : ∃ V, V = Disk.write s' pl (xB l' pl (dX 4 life seq k gen m xb)) := ⟨_, rfl⟩
     obtain ⟨S, hS⟩ : ∃ S, S = sumAfter l' (text pl (dX 4 life seq k gen m xb)) := ⟨_, rfl⟩
     have hl2 : S.length <= l.length + (k + 1) := by have := Enc.sumAfter_len l' (text pl (dX 4 life seq k gen m xb)); have := hid.out.2.1; rw [hS]; omega
     have hs2 : V.1.sz <= s.sz + 2 * (k + 1) := by have := Disk.sz_write s' pl (xB l' pl (dX 4 life seq k gen m xb)); have := hid.out.2.2; rw [hV]; omega
     have hgo : V.2 = 0 -> E = encs (dItems ga gd gl base life seq gen (k + 1) (pages.drop (k + 1))) S V.1 := fun e => by rw [hst, hS, hV]; rw [hV] at e; exact encs_go e
     have hstop : V.2 ≠ 0 -> E = (S, V) := fun e => by rw [hst, hS, hV]; rw [hV] at e; exact encs_stop e
     rw [<- hV, <- hS] at HPut
     have Hlm := Lib.hid (And.intro hl2 hs2)
     clear hst hV hS hl2 hs2 hp hx hgg hbk
     by_cases h0 : V.2 = 0
     · have t1 := bne_no h0
       have hgo' := Lib.hid (hgo h0)
       rw [h0] at HPut
       clear hgo hstop h0
       go_wp2_with (go_at_call 86; refine (HPut.out _ (b1alloc _ _)).mono ?_; rintro e w5 ⟨rfl, T5⟩)
       case roundEnd =>
         obtain ⟨fp5, H5, K5, F5⟩ := T5
         have Kz := keepT (Keep.of_below (b1alloc wr _) (bS :: fp')) (Fresh.refl wr fp') K5
         have Fz := (Fresh.refl wr fp').trans (b1alloc wr _).size F5
         have nL : L ∉ bS :: fp' := fun e => hLn' (by rcases List.mem_cons.1 e with e | e; (· rw [e]; simp); (· simp [e]))
         have nL5 : L ∉ bS :: gS :: fp5 := fun e => by
           rcases List.mem_cons.1 e with e | e
           · exact hLn' (by rw [e]; simp)
           · rcases List.mem_cons.1 e with e | e
             · exact hLn' (by rw [e]; simp)
             · exact Fz.out HA.lt (fun e => nL (List.mem_cons_of_mem _ e)) e
         have nX5 : w.heap.size ∉ bS :: fp5 := fun e => by
           rcases List.mem_cons.1 e with e | e
           · exact nX' (by rw [e]; simp)
           · exact Fz.out hX'.lt (fun e => nX' (List.mem_cons_of_mem _ e)) e
         exact ⟨⟨k + 1, by omega, by go_num, fp5, V.1, S, H5, keepT K F Kz, F.trans K.size Fz, HA.keepK Kz nL, hX'.keep Kz nX', nL5, nX5, Lib.hid ⟨hgo'.out, Hlm.out.1, Hlm.out.2⟩⟩, by simp only [intOf]; omega⟩
     · have t1 := bne_yes h0
       have hD' := Lib.hid (show D = (S, V) by rw [HDh.out, if_neg (by rw [hstop h0]; exact h0)]; exact hstop h0)
       have hstop' := Lib.hid (show R = (S, V) by rw [HRh.out, if_neg (by rw [hD'.out]; exact h0)]; exact hD'.out)
       have Hn0 := Lib.hid h0
       clear hgo hstop h0
       go_wp2_with (go_at_call 86; refine (HPut.out _ (b1alloc _ _)).mono ?_; rintro e w5 ⟨rfl, T5⟩)
       go_ret
       have hq : sq = seq := by rw [Hsq.out, hstop'.out, if_neg Hn0.out]
       rw [hstop'.out, hq]
       obtain ⟨fp5, H5, K5, F5⟩ := T5
       have Kz := keepT (Keep.of_below (b1alloc wr _) (bS :: fp')) (Fresh.refl wr fp') K5
       have Fz := (Fresh.refl wr fp').trans (b1alloc wr _).size F5
       have nL : L ∉ bS :: fp' := fun e => hLn' (by rcases List.mem_cons.1 e with e | e; (· rw [e]; simp); (· simp [e]))
       refine ⟨rfl, fp5, H5, (keepT K F Kz).more (fun j hj => List.mem_cons_of_mem _ hj), F.trans K.size Fz, HA.keepK Kz nL⟩
   · have hkn : ¬ (k : Int) < (pages.length : Int) := by omega
     have hst := hid.out.1
     rw [List.drop_of_length_le (by omega)] at hst
     have hst' : E = (l', s', 0) := hst
     have hD' : D = (l', Disk.flush s') := by rw [HDh.out, hst', if_pos (show (l', s', (0 : Int)).2.2 = 0 from rfl)]
     have hR1 := HRh.out
     rw [hD'] at hR1
     have hFl := Lib.hid (fun W hD => Disk.flush_any g fp' s' W hD (by have := hid.out.2.2; omega))
     have hsz := Disk.sz_flush s'
     obtain ⟨F1, hF1⟩ : ∃ F, F = Disk.flush s' := ⟨_, rfl⟩
     rw [<- hF1] at hFl hR1 hsz
     clear hst hst' hD' hF1
     have nL : L ∉ bS :: fp' := fun e => hLn' (by rcases List.mem_cons.1 e with e | e; (· rw [e]; simp); (· simp [e]))
     by_cases h0 : F1.2 = 0
     · have t1 := bne_no h0
       have hR2 := hR1
       rw [if_pos h0, enf_one] at hR2
       clear hR1
       obtain ⟨pl, hpl⟩ : ∃ q, q = logAt ga gd gl (base + ((seq + pages.length : Nat) : Int)) := ⟨_, rfl⟩
       have hbk := hbd.out pages.length
       rw [<- hpl] at hR2 hbk
       have HPut := Lib.hid (fun W fp5 (H5 : Both W g fp5 F1.1 gS bS l') (L5 : LAt W L g gS ga gd gl life base seq) (n5 : L ∉ bS :: fp5) => put_any g fp5 F1.1 gS bS l' L ga gd gl life base seq pages.length 5 gen pages.length [] none 0 W hG H5 L5 n5 (by have := hid.out.2.1; omega) (by have := hid.out.2.2; omega) hb0 hb1 (by omega) (by omega) (by decide) pl hpl hbk.2.1 (dX_right hbk.1 hbk.2.1 (by decide) (by omega) (by decide)) (Rd.nil _ _ _))
       have hsz2 := Disk.sz_write F1.1 pl (xB l' pl (dX 5 life seq pages.length gen pages.length []))
       obtain ⟨V, hV⟩ : ∃ V, V = Disk.write F1.1 pl (xB l' pl (dX 5 life seq pages.length gen pages.length [])) := ⟨_, rfl⟩
       obtain ⟨S, hS⟩ : ∃ S, S = sumAfter l' (text pl (dX 5 life seq pages.length gen pages.length [])) := ⟨_, rfl⟩
       simp only [] at hR2
       rw [<- hV] at HPut hR2 hsz2
       rw [<- hS] at HPut hR2
       have hFl2 := Lib.hid (fun fp7 W hD => Disk.flush_any g fp7 V.1 W hD (by have := hid.out.2.2; omega))
       clear hpl hV hS hbk h0
       by_cases hv : V.2 = 0
       · have t2 := bne_no hv
         rw [if_pos hv] at hR2
         have HR2 := Lib.hid hR2
         rw [hv] at HPut
         clear hR2 hv
         have hF2 := Disk.sz_flush V.1
         obtain ⟨F2, hF2⟩ : ∃ F, F = Disk.flush V.1 := ⟨_, rfl⟩
         rw [<- hF2] at hFl2 HR2
         clear hF2
         have hadd : IntKind.i64.wrap ((pages.length : Int) + 1) = (pages.length : Int) + 1 := wrap_small (by omega) (by omega)
         have hadd2 : IntKind.i64.wrap ((seq : Int) + ((pages.length : Int) + 1)) = ((seq + (pages.length + 1) : Nat) : Int) := by rw [wrap_small (by omega) (by omega)]; omega
         by_cases hf2 : F2.2 = 0
         · have t3 := bne_no hf2
           have hq : sq = seq + (pages.length + 1) := by rw [Hsq.out, HR2.out, if_pos hf2]
           have Hq := Lib.hid hq
           have Hf2 := Lib.hid hf2
           clear hq hf2
           have tA : True := trivial
           go_wp2_with (first
             | (go_at_call 75; have _t := tA; refine (hFl.out _ HB'.disk).mono ?_; rintro e w5 D5; obtain ⟨rfl, T5⟩ := Turn.ofDid HB' D5; obtain ⟨fp5, H5, K5, F5⟩ := T5; have L5 := HA.keepK K5 nL; have X5 := hX'.keep K5 nX'; have n5 : L ∉ bS :: fp5 := (fun e => by rcases List.mem_cons.1 e with e | e; (· exact nL (by rw [e]; simp)); (· exact F5.out HA.lt (fun e => nL (List.mem_cons_of_mem _ e)) e)); have x5 : w.heap.size ∉ bS :: fp5 := (fun e => by rcases List.mem_cons.1 e with e | e; (· exact nX' (by rw [e]; simp)); (· exact F5.out hX'.lt (fun e => nX' (List.mem_cons_of_mem _ e)) e)); clear z0 z1 z2 z3 z4 z5 z6 z7 y0 tA; have y0 := X5.cell)
             | (go_at_call 86; refine (HPut.out _ fp5 H5 L5 n5).mono ?_; rintro e w7 ⟨rfl, T7⟩; obtain ⟨fp7, H7, K7, F7⟩ := T7; have L7 := L5.keepK K7 n5; have X7 := X5.keep K7 x5; have n7 : L ∉ bS :: fp7 := (fun e => by rcases List.mem_cons.1 e with e | e; (· exact n5 (by rw [e]; simp)); (· exact F7.out L5.lt (fun e => n5 (List.mem_cons_of_mem _ e)) e)); have x7 : w.heap.size ∉ bS :: fp7 := (fun e => by rcases List.mem_cons.1 e with e | e; (· exact x5 (by rw [e]; simp)); (· exact F7.out X5.lt (fun e => x5 (List.mem_cons_of_mem _ e)) e)); clear y0; have y0 := X7.cell; obtain ⟨z0, z1, z2, z3, z4, z5, z6, z7⟩ := eight8 L7)
             | (go_at_call 75; refine (hFl2.out _ _ H7.disk).mono ?_; rintro e w9 D9; obtain ⟨rfl, T9⟩ := Turn.ofDid H7 D9; obtain ⟨fp9, H9, K9, F9⟩ := T9; have L9 := L7.keepK K9 n7; have X9 := X7.keep K9 x7; clear z0 z1 z2 z3 z4 z5 z6 z7 y0; have y0 := X9.cell; obtain ⟨z0, z1, z2, z3, z4, z5, z6, z7⟩ := eight8 L9; have fL := L9.free 7; have lL9 := L9.lt))
           go_ret
           have K57 := keepT (keepT K F K5) (F.trans K.size F5) K7
           have F57 := (F.trans K.size F5).trans (keepT K F K5).size F7
           have K59 := keepT K57 F57 K9
           have F59 := F57.trans K57.size F9
           have n9 : L ∉ bS :: gS :: fp9 := fun e => by
             rcases List.mem_cons.1 e with e | e
             · exact nL (by rw [e]; simp)
             · rcases List.mem_cons.1 e with e | e
               · exact hLn (by rw [e]; simp)
               · exact F9.out L7.lt (fun e => n7 (List.mem_cons_of_mem _ e)) e
           have K60 : Keep (L :: bS :: fp) w w9 := K59.more (fun j hj => List.mem_cons_of_mem _ hj)
           rw [Hq.out, HR2.out]
           exact ⟨ret_int Hf2.out.symm, fp9, Both.keep1 H9 ((Keep.refl _ _).set (.inl (by simp)) _) n9, K60.set (.inl (by simp)) _, F59, L9.set (k := 7) _⟩
         · have t3 := bne_yes hf2
           have hq : sq = seq := by rw [Hsq.out, HR2.out, if_neg hf2]
           have Hq := Lib.hid hq
           clear hq hf2
           have tA : True := trivial
           go_wp2_with (first
             | (go_at_call 75; have _t := tA; refine (hFl.out _ HB'.disk).mono ?_; rintro e w5 D5; obtain ⟨rfl, T5⟩ := Turn.ofDid HB' D5; obtain ⟨fp5, H5, K5, F5⟩ := T5; have L5 := HA.keepK K5 nL; have X5 := hX'.keep K5 nX'; have n5 : L ∉ bS :: fp5 := (fun e => by rcases List.mem_cons.1 e with e | e; (· exact nL (by rw [e]; simp)); (· exact F5.out HA.lt (fun e => nL (List.mem_cons_of_mem _ e)) e)); have x5 : w.heap.size ∉ bS :: fp5 := (fun e => by rcases List.mem_cons.1 e with e | e; (· exact nX' (by rw [e]; simp)); (· exact F5.out hX'.lt (fun e => nX' (List.mem_cons_of_mem _ e)) e)); clear z0 z1 z2 z3 z4 z5 z6 z7 y0 tA; have y0 := X5.cell)
             | (go_at_call 86; refine (HPut.out _ fp5 H5 L5 n5).mono ?_; rintro e w7 ⟨rfl, T7⟩; obtain ⟨fp7, H7, K7, F7⟩ := T7; have L7 := L5.keepK K7 n5; have X7 := X5.keep K7 x5; have n7 : L ∉ bS :: fp7 := (fun e => by rcases List.mem_cons.1 e with e | e; (· exact n5 (by rw [e]; simp)); (· exact F7.out L5.lt (fun e => n5 (List.mem_cons_of_mem _ e)) e)); have x7 : w.heap.size ∉ bS :: fp7 := (fun e => by rcases List.mem_cons.1 e with e | e; (· exact x5 (by rw [e]; simp)); (· exact F7.out X5.lt (fun e => x5 (List.mem_cons_of_mem _ e)) e)); clear y0; have y0 := X7.cell; obtain ⟨z0, z1, z2, z3, z4, z5, z6, z7⟩ := eight8 L7)
             | (go_at_call 75; refine (hFl2.out _ _ H7.disk).mono ?_; rintro e w9 D9; obtain ⟨rfl, T9⟩ := Turn.ofDid H7 D9; obtain ⟨fp9, H9, K9, F9⟩ := T9; have L9 := L7.keepK K9 n7; have X9 := X7.keep K9 x7; clear z0 z1 z2 z3 z4 z5 z6 z7 y0; have y0 := X9.cell; obtain ⟨z0, z1, z2, z3, z4, z5, z6, z7⟩ := eight8 L9; have fL := L9.free 7; have lL9 := L9.lt))
           go_ret
           have K57 := keepT (keepT K F K5) (F.trans K.size F5) K7
           have F57 := (F.trans K.size F5).trans (keepT K F K5).size F7
           have K59 := keepT K57 F57 K9
           have F59 := F57.trans K57.size F9
           rw [Hq.out, HR2.out]
           exact ⟨rfl, fp9, H9, K59.more (fun j hj => List.mem_cons_of_mem _ hj), F59, L9⟩
       · have t2 := bne_yes hv
         have HR2 := Lib.hid (show R = (S, V) by rw [hR2, if_neg hv])
         have Hn0 := Lib.hid hv
         clear hR2 hv
         go_wp2_with (first
           | (go_at_call 75; refine (hFl.out _ HB'.disk).mono ?_; rintro e w5 D5; obtain ⟨rfl, T5⟩ := Turn.ofDid HB' D5; obtain ⟨fp5, H5, K5, F5⟩ := T5; have L5 := HA.keepK K5 nL; have X5 := hX'.keep K5 nX'; have n5 : L ∉ bS :: fp5 := (fun e => by rcases List.mem_cons.1 e with e | e; (· exact nL (by rw [e]; simp)); (· exact F5.out HA.lt (fun e => nL (List.mem_cons_of_mem _ e)) e)); clear z0 z1 z2 z3 z4 z5 z6 z7 y0; have y0 := X5.cell)
           | (go_at_call 86; refine (HPut.out _ fp5 H5 L5 n5).mono ?_; rintro e w7 ⟨rfl, T7⟩))
         go_ret
         have hq : sq = seq := by rw [Hsq.out, HR2.out, if_neg Hn0.out]
         rw [HR2.out, hq]
         obtain ⟨fp7, H7, K7, F7⟩ := T7
         exact ⟨rfl, fp7, H7, (keepT (keepT K F K5) (F.trans K.size F5) K7).more (fun j hj => List.mem_cons_of_mem _ hj), (F.trans K.size F5).trans (keepT K F K5).size F7, L5.keepK K7 n5⟩
     · have t1 := bne_yes h0
       have hR2 := Lib.hid (show R = (l', F1) by rw [hR1, if_neg h0])
       have Hn0 := Lib.hid h0
       clear hR1 h0
       go_wp2_with (go_at_call 75; refine (hFl.out _ HB'.disk).mono ?_; rintro e w5 D5; obtain ⟨rfl, T5⟩ := Turn.ofDid HB' D5)
       go_ret
       have hq : sq = seq := by rw [Hsq.out, hR2.out, if_neg Hn0.out]
       rw [hR2.out, hq]
       obtain ⟨fp5, H5, K5, F5⟩ := T5
       exact ⟨rfl, fp5, H5, (keepT K F K5).more (fun j hj => List.mem_cons_of_mem _ hj), F.trans K.size F5, HA.keepK K5 nL⟩
end Go.Proofs.YtchcmklelmlbgaaGreat.Wal
namespace Go.Proofs.YtchcmklelmlbgaaGreat.Wal
open Go.RowKit
open Go.Proofs.YtchcmklelmlbgaaGreat.Geom
open Go.Proofs.YtchcmklelmlbgaaGreat.Disk (St read)
open Go.Proofs.YtchcmklelmlbgaaGreat.Sec (X)
set_option linter.unusedVariables false
structure Tx where
 pages : List Pg
 gen : UInt64
structure Rg where
 all : List Tx
 now : List Pg
 gen : UInt64
 frm : Nat
def fstN (b : List UInt8) : Nat := Num.getN (b.take 4)
def sndN (b : List UInt8) : Nat := Num.getN ((b.drop 4).take 2)
def takeF (np : Int) (r : Rg) (i : Nat) (x : X) : Rg × Bool :=
 if x.body.length < 6 \/ (r.now ≠ [] /\ x.gen ≠ r.gen) then (r, false)
 else if fstN x.body ≠ r.frm then (r, false)
 else if x.kind = 4 /\ (sndN x.body : Int) < np then ({ r with gen := x.gen, now := r.now ++ [⟨(sndN x.body : Int), x.body.drop 6⟩] }, true)
 else if x.kind = 5 /\ sndN x.body = r.now.length /\ x.body.length = 6 then (⟨r.all ++ [⟨r.now, x.gen⟩], [], 0, i + 1⟩, true)
 else ({ r with gen := x.gen }, false)
end Go.Proofs.YtchcmklelmlbgaaGreat.Wal
namespace Go.Proofs.YtchcmklelmlbgaaGreat.Wal
open Go.RowKit
open Go.Proofs.YtchcmklelmlbgaaGreat.Geom
open Go.Proofs.YtchcmklelmlbgaaGreat.Disk (St read)
open Go.Proofs.YtchcmklelmlbgaaGreat.Sec (X)
set_option linter.unusedVariables false
set_option maxRecDepth 100000
structure SecsAt (w : World) (Br Bf F : Nat) (v1 v2 : Value) (ga gd gl : Int) (life : UInt64) (base : Int) : Prop where
 ring : Blk w Br (rcell v1 v2 ga gd gl life base)
 fault : Box w Bf (.pointer (some ⟨F, 0, none⟩))
theorem sectors_any (g gS F : Nat) (ga gd gl : Int) (life : UInt64) (base : Int) (w : World) :
   Calls Tryz.prog 93 #[rv (.pointer (some ⟨g, 0, none⟩)) (.pointer (some ⟨gS, 0, none⟩)) ga gd gl life base, .pointer (some ⟨F, 0, none⟩)] w fun e w' => e = .returned (.func (.func 117) #[] #[.pointer (some ⟨w.heap.size, 0, none⟩), .pointer (some ⟨w.heap.size + 1, 0, none⟩)]) /\
     SecsAt w' w.heap.size (w.heap.size + 1) F (.pointer (some ⟨g, 0, none⟩)) (.pointer (some ⟨gS, 0, none⟩)) ga gd gl life base /\ Below w.heap.size w w' := by
 go_enter Tryz.func93, Tryz.ntmps93
 go_wp2
 go_ret
 refine ⟨rfl, ⟨?_, ?_⟩, b2alloc _ _ _⟩
 · exact (Blk.new w (rcell (.pointer (some ⟨g, 0, none⟩)) (.pointer (some ⟨gS, 0, none⟩)) ga gd gl life base) 133).alloc _
 · have := Box.new (w.alloc (.cells (rcell (.pointer (some ⟨g, 0, none⟩)) (.pointer (some ⟨gS, 0, none⟩)) ga gd gl life base).toArray 133)) 147 (.pointer (some ⟨F, 0, none⟩))
   simp at this
   exact this
end Go.Proofs.YtchcmklelmlbgaaGreat.Wal
namespace Go.Proofs.YtchcmklelmlbgaaGreat.Wal
open Go.RowKit
open Go.Proofs.YtchcmklelmlbgaaGreat.Sec (X)
set_option linter.unusedVariables false
structure Pr where
 n : Int
 A : Option Addr
 c : Nat
 body : List UInt8
def Pr.cells (p : Pr) : List Value := [.int .i64 p.n, .slice p.A p.body.length p.c]
def Pr.pg (p : Pr) : Pg := ⟨p.n, p.body⟩
structure Tr where
 A : Option Addr
 c : Nat
 ps : List Pr
 gen : UInt64
def Tr.sl (t : Tr) : Value := .slice t.A t.ps.length t.c
def Tr.cells (t : Tr) : List Value := [t.sl, .int .u64 (t.gen.toNat : Int)]
def Tr.tx (t : Tr) : Tx := ⟨t.ps.map Pr.pg, t.gen⟩
structure PrOk (w : World) (n0 : Nat) (p : Pr) : Prop where
 rd : p.body ≠ [] -> ∃ g off cs, p.A = some ⟨g, off, none⟩ /\ n0 <= g /\ w.heap[g]? = some (Obj.cells cs 5 (0, 0)) /\ ∀ i (h : i < p.body.length), cs[off + i]? = some (e8 p.body[i])
 cap : p.body.length <= p.c
 max : p.c <= maxLen
 lo : 0 <= p.n
 hi : p.n <= 1000
 len : p.body.length <= 1000
theorem PrOk.keepU {w w' : World} {n0 : Nat} {p : Pr} (h : PrOk w n0 p) (hk : ∀ (j : Nat) (cs : Array Value), n0 <= j -> w.heap[j]? = some (Obj.cells cs 5 (0, 0)) -> w'.heap[j]? = w.heap[j]?) : PrOk w' n0 p :=
 ⟨fun hne => by obtain ⟨g, off, cs, e, hg, hh, hc⟩ := h.rd hne; exact ⟨g, off, cs, e, hg, (hk g cs hg hh).trans hh, hc⟩, h.cap, h.max, h.lo, h.hi, h.len⟩
theorem PrOk.tail {w : World} {n0 g c k off : Nat} {m : Int} {l : List UInt8} (h : w.ownsRow n0 5 1 (.slice (some ⟨g, 0, none⟩) l.length c) l.length (l.map e8)) (ho : off = k \/ l.length <= k) (hl : l.length <= 1000) (h0 : 0 <= m) (h1 : m <= 1000) : PrOk w n0 ⟨m, some ⟨g, off, none⟩, c - k, l.drop k⟩ := by
 have hc := Disk.own_caps h
 refine ⟨fun hne => ?_, by simp; omega, by have := hc.2; simp; omega, h0, h1, by simp; omega⟩
 rcases h.2 with ⟨hv, _⟩ | ⟨g', cap, cur, hv, hg, hh, hnc, hcm, hcs, ht⟩
 · cases hv
 · injection hv with e1 e2 e3
   injection e1 with e1
   injection e1 with e1 _ _
   subst e1 e3
   refine ⟨g, off, cur, rfl, hg, hh, fun i hi => ?_⟩
   simp only [List.length_drop] at hi
   obtain rfl : off = k := by rcases ho with h | h <;> omega
   have h2 : (cur.toList.take (l.length * 1))[off + i]? = (l.map e8)[off + i]? := by rw [ht]
   rw [List.getElem?_take_of_lt (by omega), List.getElem?_map, List.getElem?_eq_getElem (show off + i < l.length by omega)] at h2
   simpa using h2
structure TrOk (w : World) (n0 : Nat) (now : Option Nat) (t : Tr) : Prop where
 row : w.ownsRow n0 53 2 t.sl t.ps.length (t.ps.flatMap Pr.cells)
 ne : ∀ g, t.sl.ownBlock = some g -> now ≠ some g
 pages : ∀ p ∈ t.ps, PrOk w n0 p
theorem own_keep {w w' : World} {base : Nat} {e : TypeId} {z n : Nat} {v : Value} {xs : List Value} (h : w.ownsRow base e z v n xs) (hk : ∀ (j : Nat) (cs : Array Value), v.ownBlock = some j -> base <= j -> w.heap[j]? = some (Obj.cells cs e (0, 0)) -> w'.heap[j]? = w.heap[j]?) : w'.ownsRow base e z v n xs := by
 refine ⟨h.1, ?_⟩
 rcases h.2 with h | ⟨g, cap, cur, rfl, hg, hh, r⟩
 · exact .inl h
 · exact .inr ⟨g, cap, cur, rfl, hg, (hk g cur rfl hg hh).trans hh, r⟩
theorem TrOk.keep {w w' : World} {n0 : Nat} {now now' : Option Nat} {t : Tr} (h : TrOk w n0 now t) (hu : ∀ (j : Nat) (cs : Array Value), n0 <= j -> w.heap[j]? = some (Obj.cells cs 5 (0, 0)) -> w'.heap[j]? = w.heap[j]?)
   (hp : ∀ (j : Nat) (cs : Array Value), now ≠ some j -> n0 <= j -> w.heap[j]? = some (Obj.cells cs 53 (0, 0)) -> w'.heap[j]? = w.heap[j]?) (hn : ∀ g, t.sl.ownBlock = some g -> now' ≠ some g) : TrOk w' n0 now' t :=
 ⟨own_keep h.row (fun j cs e hb hh => hp j cs (h.ne j e) hb hh), hn, fun p hpm => (h.pages p hpm).keepU hu⟩
structure RdAt (w : World) (n0 T : Nat) (np : Int) (r : Rg) (allv nowv : Value) (trs : List Tr) (prs : List Pr) : Prop where
 blk : Blk w T [allv, nowv, .int .u64 (r.gen.toNat : Int), .int .u64 (r.frm : Int), .int .i64 np]
 all : w.ownsRow n0 106 2 allv trs.length (trs.flatMap Tr.cells)
 now : w.ownsRow n0 53 2 nowv prs.length (prs.flatMap Pr.cells)
 okA : ∀ t ∈ trs, TrOk w n0 nowv.ownBlock t
 okN : ∀ p ∈ prs, PrOk w n0 p
 eA : r.all = trs.map Tr.tx
 eN : r.now = prs.map Pr.pg
 lT : T < n0
 lN : n0 <= w.heap.size
 bd : trs.length <= 100000 /\ prs.length <= 100000
theorem own_bt {w : World} {base : Nat} {e t : TypeId} {z n j : Nat} {v : Value} {xs : List Value} {cs : Array Value} (h : w.ownsRow base e z v n xs) (hj : w.heap[j]? = some (Obj.cells cs t (0, 0))) (hne : t ≠ e) : some j ≠ v.ownBlock := fun e' => by
 rcases h.2 with ⟨rfl, _⟩ | ⟨g, cap, cur, rfl, _, hgb, _⟩
 · simp [Value.ownBlock] at e'
 · obtain rfl : g = j := by simpa [Value.ownBlock] using e'.symm
   rw [hj] at hgb; injection hgb with h1; injection h1 with _ h2 _; exact hne h2
theorem RdAt.move {w w' : World} {n0 T : Nat} {np : Int} {r : Rg} {allv nowv : Value} {trs : List Tr} {prs : List Pr} (h : RdAt w n0 T np r allv nowv trs prs) (hk : ∀ j, n0 <= j -> j < w.heap.size -> w'.heap[j]? = w.heap[j]?) (hs : w.heap.size <= w'.heap.size) (r' : Rg)
   (hb : Blk w' T [allv, nowv, .int .u64 (r'.gen.toNat : Int), .int .u64 (r'.frm : Int), .int .i64 np]) (h1 : r'.all = r.all) (h2 : r'.now = r.now) : RdAt w' n0 T np r' allv nowv trs prs :=
 ⟨hb, own_keep h.all (fun j cs _ hj hh => hk j hj (lt_of_block hh)), own_keep h.now (fun j cs _ hj hh => hk j hj (lt_of_block hh)),
   fun t ht => (h.okA t ht).keep (fun j cs hj hh => hk j hj (lt_of_block hh)) (fun j cs _ hj hh => hk j hj (lt_of_block hh)) (h.okA t ht).ne,
   fun p hp => (h.okN p hp).keepU (fun j cs hj hh => hk j hj (lt_of_block hh)), h1.trans h.eA, h2.trans h.eN, h.lT, Nat.le_trans h.lN hs, h.bd⟩
theorem RdAt.on {w w' : World} {n0 T : Nat} {np : Int} {r : Rg} {allv nowv : Value} {trs : List Tr} {prs : List Pr} (h : RdAt w n0 T np r allv nowv trs prs) (b : Below w.heap.size w w') : RdAt w' n0 T np r allv nowv trs prs :=
 h.move (fun j _ hj => b.block j hj) b.size r (h.blk.on b) rfl rfl
theorem RdAt.own {w w' : World} {n0 T : Nat} {np : Int} {r : Rg} {allv nowv : Value} {trs : List Tr} {prs : List Pr} {row : Option Nat} (h : RdAt w n0 T np r allv nowv trs prs) (hg : w.grownBy w' row) (hr : ∀ j, row = some j -> n0 <= j /\ ∃ o : Obj, w.heap[j]? = some o /\ o.isCells = false) : RdAt w' n0 T np r allv nowv trs prs := by
 have hne : ∀ (j : Nat) (cs : Array Value) (t : TypeId), w.heap[j]? = some (Obj.cells cs t (0, 0)) -> w'.heap[j]? = w.heap[j]? := fun j cs t hj => hg.block j (lt_of_block hj) fun e => by
   obtain ⟨_, o, ho, hc⟩ := hr j e.symm
   rw [hj] at ho; cases ho; cases hc
 exact ⟨h.blk.grown hg (fun e => by have := (hr _ e.symm).1; have := h.lT; omega), own_keep h.all (fun j cs _ _ hh => hne j cs _ hh), own_keep h.now (fun j cs _ _ hh => hne j cs _ hh),
   fun t ht => (h.okA t ht).keep (fun j cs _ hh => hne j cs _ hh) (fun j cs _ _ hh => hne j cs _ hh) (h.okA t ht).ne,
   fun p hp => (h.okN p hp).keepU (fun j cs _ hh => hne j cs _ hh), h.eA, h.eN, h.lT, Nat.le_trans h.lN hg.size, h.bd⟩
theorem RdAt.data {w w1 w2 : World} {n0 T : Nat} {np : Int} {r : Rg} {allv nowv v' : Value} {trs : List Tr} {prs : List Pr} (h : RdAt w n0 T np r allv nowv trs prs) (p : Pr) (hp : PrOk w n0 p) (b1 : Below w.heap.size w w1) (hg : w1.grownBy w2 nowv.ownBlock)
   (own : w2.ownsRow n0 53 2 v' (prs.length + 1) (prs.flatMap Pr.cells ++ p.cells)) (hat : v'.ownBlock = nowv.ownBlock \/ v'.ownBlock = some w1.heap.size) (hl : prs.length < 100000) :
   RdAt (w2.setCell ⟨T, 1, none⟩ v') n0 T np { r with now := r.now ++ [p.pg] } allv v' trs (prs ++ [p]) /\ KeepsOthers w (w2.setCell ⟨T, 1, none⟩ v') /\ KpK T n0 w (w2.setCell ⟨T, 1, none⟩ v') := by
 have hsz := b1.size
 have hob : ∀ j, nowv.ownBlock = some j -> n0 <= j /\ j < w.heap.size := fun j e => h.now.lt j e
 have hT : T < w.heap.size := h.blk.lt
 have hk2 : ∀ j, j < w.heap.size -> some j ≠ nowv.ownBlock -> w2.heap[j]? = w.heap[j]? := fun j hj hn => (hg.block j (by omega) hn).trans (b1.block j hj)
 have hk : ∀ j, j < w.heap.size -> j ≠ T -> some j ≠ nowv.ownBlock -> (w2.setCell ⟨T, 1, none⟩ v').heap[j]? = w.heap[j]? := fun j hj hn hr => (Below.heap_setCell w2 ⟨T, 1, none⟩ v' j (fun e => hn e)).trans (hk2 j hj hr)
 have hsT : ∀ j, j ≠ T -> (w2.setCell ⟨T, 1, none⟩ v').heap[j]? = w2.heap[j]? := fun j hn => Below.heap_setCell w2 ⟨T, 1, none⟩ v' j (fun e => hn e)
 have hlT := h.lT
 have hku : ∀ (j : Nat) (cs : Array Value), n0 <= j -> w.heap[j]? = some (Obj.cells cs 5 (0, 0)) -> (w2.setCell ⟨T, 1, none⟩ v').heap[j]? = w.heap[j]? := fun j cs hj hh => hk j (lt_of_block hh) (by omega) (own_bt h.now hh (by decide))
 have hkp : ∀ (j : Nat) (cs : Array Value), nowv.ownBlock ≠ some j -> n0 <= j -> w.heap[j]? = some (Obj.cells cs 53 (0, 0)) -> (w2.setCell ⟨T, 1, none⟩ v').heap[j]? = w.heap[j]? := fun j cs hn hj hh => hk j (lt_of_block hh) (by omega) (fun e => hn e.symm)
 have hb2 : Blk w2 T [allv, nowv, .int .u64 (r.gen.toNat : Int), .int .u64 (r.frm : Int), .int .i64 np] := h.blk.elim fun t ht => ⟨t, (hk2 T hT (fun e => by have := (hob T e.symm).1; omega)).trans ht⟩
 have hss : (w2.setCell ⟨T, 1, none⟩ v').heap.size = w2.heap.size := by simp [World.setCell]
 refine ⟨⟨hb2.set (k := 1) v', own_keep h.all (fun j cs e hj hh => hk j (lt_of_block hh) (by omega) (own_bt h.now hh (by decide))), ?_, fun t ht => (h.okA t ht).keep hku hkp (fun g e => ?_), fun q hq => ?_, h.eA, ?_, h.lT, by rw [hss]; have := hg.size; have := h.lN; omega, by have := h.bd; simp; omega⟩, ?_, ?_⟩
 · have e1 : (prs ++ [p]).flatMap Pr.cells = prs.flatMap Pr.cells ++ p.cells := by simp
   rw [e1, List.length_append, List.length_singleton]
   exact own_keep own (fun j cs _ hj _ => hsT j (by omega))
 · rcases hat with hat | hat
   · rw [hat]; exact (h.okA t ht).ne g e
   · rw [hat]; intro e2; injection e2 with e2
     have := ((h.okA t ht).row.lt g e).2
     omega
 · rcases List.mem_append.1 hq with hq | hq
   · exact (h.okN q hq).keepU hku
   · rw [List.mem_singleton] at hq; rw [hq]; exact hp.keepU hku
 · show r.now ++ [p.pg] = (prs ++ [p]).map Pr.pg
   rw [h.eN]; simp
 · refine (Ch.keeps_below b1).trans ((KeepsOthers.of_grownBy hg fun j o ej hj => ?_).trans (KeepsOthers.setCell _ _ _))
   rcases h.now.2 with ⟨e, _⟩ | ⟨g, cap, cur, e, _, hgb, _⟩
   · rw [e] at ej; simp [Value.ownBlock] at ej
   · rw [e] at ej
     obtain rfl : g = j := by simpa [Value.ownBlock] using ej
     have := (b1.block g (lt_of_block hgb)).trans hgb
     rw [hj] at this; cases this; rfl
 · exact ⟨hg.os.trans b1.os, hg.tape.trans b1.tape, hg.output.trans b1.output, by rw [hss]; have := hg.size; omega, fun j hj hn => hk j (by have := h.lN; omega) hn (fun e => by have := (hob j e.symm).1; omega)⟩
theorem RdAt.commit {w w1 w2 w3 : World} {n0 T : Nat} {np : Int} {r : Rg} {allv v' : Value} {An : Option Addr} {cn : Nat} {trs : List Tr} {prs : List Pr} (h : RdAt w n0 T np r allv (.slice An prs.length cn) trs prs) (b1 : Below w.heap.size w w1) (hg : w1.grownBy w2 allv.ownBlock)
   (own : w2.ownsRow n0 106 2 v' (trs.length + 1) (trs.flatMap Tr.cells ++ [.slice An prs.length cn, .int .u64 (r.gen.toNat : Int)])) (hl : trs.length < 100000) (frm : Nat)
   (hk3 : KeepsOthers w2 w3) (hB : Blk w3 T [v', .slice none 0 0, .int .u64 0, .int .u64 (frm : Int), .int .i64 np]) (h3 : ∀ j, j ≠ T -> w3.heap[j]? = w2.heap[j]?) (ho3 : w3.os = w2.os /\ w3.tape = w2.tape /\ w3.output = w2.output /\ w2.heap.size <= w3.heap.size) :
   RdAt w3 n0 T np ⟨r.all ++ [⟨r.now, r.gen⟩], [], 0, frm⟩ v' (.slice none 0 0) (trs ++ [⟨An, cn, prs, r.gen⟩]) [] /\ KeepsOthers w w3 /\ KpK T n0 w w3 := by
 have hsz := b1.size
 have hsg := hg.size
 have hlT := h.lT
 have hob : ∀ j, allv.ownBlock = some j -> n0 <= j /\ j < w.heap.size := fun j e => h.all.lt j e
 have hk : ∀ j, j < w.heap.size -> j ≠ T -> some j ≠ allv.ownBlock -> w3.heap[j]? = w.heap[j]? := fun j hj hn hr => (h3 j hn).trans ((hg.block j (by omega) hr).trans (b1.block j hj))
 have hku : ∀ (j : Nat) (cs : Array Value), n0 <= j -> w.heap[j]? = some (Obj.cells cs 5 (0, 0)) -> w3.heap[j]? = w.heap[j]? := fun j cs hj hh => hk j (lt_of_block hh) (by omega) (own_bt h.all hh (by decide))
 have hkp : ∀ (j : Nat) (cs : Array Value), n0 <= j -> w.heap[j]? = some (Obj.cells cs 53 (0, 0)) -> w3.heap[j]? = w.heap[j]? := fun j cs hj hh => hk j (lt_of_block hh) (by omega) (own_bt h.all hh (by decide))
 refine ⟨⟨hB, ?_, own_nil _ _ _ _, fun t ht => ?_, fun q hq => (by cases hq), ?_, rfl, h.lT, by have := h.lN; omega, by have := h.bd; simp; omega⟩, ?_, ?_⟩
 · have e1 : (trs ++ [(⟨An, cn, prs, r.gen⟩ : Tr)]).flatMap Tr.cells = trs.flatMap Tr.cells ++ [.slice An prs.length cn, .int .u64 (r.gen.toNat : Int)] := by simp [Tr.cells, Tr.sl]
   rw [e1, List.length_append, List.length_singleton]
   exact own_keep own (fun j cs _ hj _ => h3 j (by omega))
 · rcases List.mem_append.1 ht with ht | ht
   · exact (h.okA t ht).keep hku (fun j cs _ hj hh => hkp j cs hj hh) (fun g _ e => by simp [Value.ownBlock] at e)
   · rw [List.mem_singleton] at ht
     subst ht
     exact ⟨own_keep h.now (fun j cs _ hj hh => hkp j cs hj hh), fun g _ e => (by simp [Value.ownBlock] at e), fun q hq => (h.okN q hq).keepU hku⟩
 · show r.all ++ [⟨r.now, r.gen⟩] = (trs ++ [_]).map Tr.tx
   rw [h.eA, h.eN]; simp [Tr.tx]
 · refine (Ch.keeps_below b1).trans ((KeepsOthers.of_grownBy hg fun j o ej hj => ?_).trans hk3)
   rcases h.all.2 with ⟨e, _⟩ | ⟨g, cap, cur, e, _, hgb, _⟩
   · rw [e] at ej; simp [Value.ownBlock] at ej
   · rw [e] at ej
     obtain rfl : g = j := by simpa [Value.ownBlock] using ej
     have := (b1.block g (lt_of_block hgb)).trans hgb
     rw [hj] at this; cases this; rfl
 · exact ⟨ho3.1.trans (hg.os.trans b1.os), ho3.2.1.trans (hg.tape.trans b1.tape), ho3.2.2.1.trans (hg.output.trans b1.output), by omega, fun j hj hn => hk j (by have := h.lN; omega) hn (fun e => by have := (hob j e.symm).1; omega)⟩
end Go.Proofs.YtchcmklelmlbgaaGreat.Wal
namespace Go.Proofs.YtchcmklelmlbgaaGreat.Wal
open Go.RowKit
open Go.Proofs.YtchcmklelmlbgaaGreat.Sec (X five5x)
set_option linter.unusedVariables false
set_option maxRecDepth 100000
attribute [local irreducible] wpQuiet
theorem five5r {w : World} {g : Nat} {v0 v1 v2 v3 v4 : Value} (h : Blk w g [v0, v1, v2, v3, v4]) : w.cell? ⟨g, 0, none⟩ = some v0 /\ w.cell? ⟨g, 1, none⟩ = some v1 /\ w.cell? ⟨g, 2, none⟩ = some v2 /\ w.cell? ⟨g, 3, none⟩ = some v3 /\ w.cell? ⟨g, 4, none⟩ = some v4 :=
 ⟨h.cell (k := 0) (by simp), h.cell (k := 1) (by simp), h.cell (k := 2) (by simp), h.cell (k := 3) (by simp), h.cell (k := 4) (by simp)⟩
theorem infoPg : (Tryz.prog.info? 53).map (fun i => (i.zero, i.size, i.bytes)) = some (some (.agg #[.int .i64 0, .slice none 0 0]), 2, 32) := by kernel_rfl
theorem infoTx : (Tryz.prog.info? 106).map (fun i => (i.zero, i.size, i.bytes)) = some (some (.agg #[.slice none 0 0, .int .u64 0]), 2, 32) := by kernel_rfl
theorem alloc_drew (w : World) (o : Obj) : Below w.heap.size w (w.alloc o).drew := ⟨(b1alloc w o).os, (b1alloc w o).tape, (b1alloc w o).output, (b1alloc w o).size, (b1alloc w o).block⟩
theorem four_set {w : World} {T : Nat} {v0 v1 v2 v3 v4 : Value} (hb : Blk w T [v0, v1, v2, v3, v4]) (a b c d : Value) :
   Blk ((((w.setCell ⟨T, 0, none⟩ a).setCell ⟨T, 1, none⟩ b).setCell ⟨T, 2, none⟩ c).setCell ⟨T, 3, none⟩ d) T [a, b, c, d, v4] /\ KeepsOthers w ((((w.setCell ⟨T, 0, none⟩ a).setCell ⟨T, 1, none⟩ b).setCell ⟨T, 2, none⟩ c).setCell ⟨T, 3, none⟩ d) /\
     (∀ j, j ≠ T -> ((((w.setCell ⟨T, 0, none⟩ a).setCell ⟨T, 1, none⟩ b).setCell ⟨T, 2, none⟩ c).setCell ⟨T, 3, none⟩ d).heap[j]? = w.heap[j]?) /\ w.heap.size <= ((((w.setCell ⟨T, 0, none⟩ a).setCell ⟨T, 1, none⟩ b).setCell ⟨T, 2, none⟩ c).setCell ⟨T, 3, none⟩ d).heap.size := by
 refine ⟨(((hb.set (k := 0) a).set (k := 1) b).set (k := 2) c).set (k := 3) d, (((KeepsOthers.setCell _ _ _).trans (KeepsOthers.setCell _ _ _)).trans (KeepsOthers.setCell _ _ _)).trans (KeepsOthers.setCell _ _ _), fun j hj => ?_, by simp [World.setCell]⟩
 have h : ∀ (W : World) (k : Nat) (v : Value), (W.setCell ⟨T, k, none⟩ v).heap[j]? = W.heap[j]? := fun W k v => Below.heap_setCell W ⟨T, k, none⟩ v j (fun e => hj e)
 exact (h _ _ _).trans ((h _ _ _).trans ((h _ _ _).trans (h _ _ _)))
theorem wrap_u64s {i : Nat} (h : i <= 1000) : IntKind.u64.wrap ((i : Int) + 1) = ((i + 1 : Nat) : Int) := by
 simp [IntKind.wrap, IntKind.bits]; omega
def Took (w : World) (n0 T : Nat) (np : Int) (q : Rg × Bool) (e : Ending) (w' : World) : Prop :=
 e = .returned (.bool q.2) /\ (∃ allv nowv trs prs, RdAt w' n0 T np q.1 allv nowv trs prs) /\ KeepsOthers w w' /\ KpK T n0 w w'
set_option maxHeartbeats 2000000 in
theorem take_any (n0 T : Nat) (np : Int) (r : Rg) (allv nowv : Value) (trs : List Tr) (prs : List Pr) (i : Nat) (x : X) (A : Option Addr) (c : Nat) (w : World) (h : RdAt w n0 T np r allv nowv trs prs)
   (hok : w.ownsRow n0 5 1 (.slice A x.body.length c) x.body.length (x.body.map e8)) (hbl : x.body.length <= 1000) (hi : i <= 1000) (hn0 : 0 <= np) (hn1 : np <= 100) (hlt : trs.length < 100000) (hlp : prs.length < 100000) :
   Calls Tryz.prog 94 #[.pointer (some ⟨T, 0, none⟩), .int .i64 (i : Int), .agg #[.int .i64 x.kind, .int .u64 (x.life.toNat : Int), .int .i64 x.seq, .int .u64 (x.gen.toNat : Int), .slice A x.body.length c]] w fun e w' => Took w n0 T np (takeF np r i x) e w' := by
 obtain ⟨W0, hW0⟩ : ∃ W, W = w.alloc (.cells #[.int .i64 x.kind, .int .u64 (x.life.toNat : Int), .int .i64 x.seq, .int .u64 (x.gen.toNat : Int), .slice A x.body.length c] 157) := ⟨_, rfl⟩
 have hX : Blk W0 w.heap.size [.int .i64 x.kind, .int .u64 (x.life.toNat : Int), .int .i64 x.seq, .int .u64 (x.gen.toNat : Int), .slice A x.body.length c] := by rw [hW0]; exact Blk.new w _ _
 have b0 : Below w.heap.size w W0 := by rw [hW0]; exact b1alloc _ _
 obtain ⟨x0, x1, x2, x3, x4⟩ := five5r hX
 obtain ⟨y0, y1, y2, y3, y4⟩ := five5r (h.on b0).blk
 obtain ⟨B, hB⟩ : ∃ B, B = (decide (x.body.length < 6) || (decide (0 < prs.length) && decide (x.gen ≠ r.gen))) := ⟨_, rfl⟩
 have Hx := Lib.hid hX
 have Hh := Lib.hid h
 have HBB := Lib.hid hB
 have Hok := Lib.hid hok
 obtain ⟨An, cn, rfl⟩ := own_form h.now
 have hlT : T < W0.heap.size := (h.on b0).blk.lt
 have hlX : w.heap.size < W0.heap.size := hX.lt
 have HW0 := Lib.hid hW0
 clear h hX hB hok
 obtain ⟨Q, hQ0⟩ : ∃ Q, Q = takeF np r i x := ⟨_, rfl⟩
 rw [<- hQ0]
 have HQ := Lib.hid hQ0
 clear hQ0
 go_enter Tryz.func94, Tryz.ntmps94
 go_upto_region 1 with (fail)
 rw [show w.alloc (.cells #[.int .i64 x.kind, .int .u64 (x.life.toNat : Int), .int .i64 x.seq, .int .u64 (x.gen.toNat : Int), .slice A x.body.length c] 157) = W0 from hW0.symm]
 clear hW0
 go_cut [33] (fun v wx => v = .bool B /\ InB W0 wx)
 case first =>
   by_cases e1 : x.body.length < 6
   · have hb : B = true := by rw [HBB.out, decide_eq_true e1]; rfl
     subst hb
     have t1 : (x.body.length : Int) < 6 := by omega
     clear e1
     refine region_inb (by kernel_rfl) (by kernel_rfl) ?_
     have inbNe := InB.some
     have inbW := @wrap_small
     have inbU := IntKind.wrap_u8'
     repeat (refine wpQuiet_step (fun K hK => ?_); go_simp; first | (refine hK _ ?_; clear hK K) | (apply Exists.intro; refine ⟨?_, hK _ ?_⟩; (· (intro w' hw'; first | fail | (have hcw := hw'.cell; go_simp; exact rfl))); clear hK K))
     refine wpQuiet_nil ?_
     intro wq hq
     clear inbNe inbW inbU
     go_wp2_with fail
     go_meet
     case rel => exact ⟨rfl, hq⟩
   · have t1 : ¬ (x.body.length : Int) < 6 := by omega
     by_cases e2 : 0 < prs.length
     · have t2 := decide_eq_true e2
       by_cases e3 : x.gen = r.gen
       · have hb : B = false := by rw [HBB.out, decide_eq_false e1, decide_eq_true e2, decide_eq_false (by simp [e3])]; rfl
         subst hb
         have t3 := bne_no (show (x.gen.toNat : Int) = r.gen.toNat by rw [e3])
         clear e1 e2 e3
         refine region_inb (by kernel_rfl) (by kernel_rfl) ?_
         have inbNe := InB.some
         have inbW := @wrap_small
         have inbU := IntKind.wrap_u8'
         repeat (refine wpQuiet_step (fun K hK => ?_); go_simp; first | (refine hK _ ?_; clear hK K) | (apply Exists.intro; refine ⟨?_, hK _ ?_⟩; (· (intro w' hw'; first | fail | (have hcw := hw'.cell; go_simp; exact rfl))); clear hK K))
         refine wpQuiet_nil ?_
         intro wq hq
         clear inbNe inbW inbU
         go_wp2_with fail
         go_meet
         case rel => exact ⟨rfl, hq⟩
       · have hb : B = true := by rw [HBB.out, decide_eq_false e1, decide_eq_true e2, decide_eq_true e3]; rfl
         subst hb
         have t3 := bne_yes (show (x.gen.toNat : Int) ≠ r.gen.toNat from fun e => e3 (UInt64.toNat_inj.1 (by omega)))
         clear e1 e2 e3
         refine region_inb (by kernel_rfl) (by kernel_rfl) ?_
         have inbNe := InB.some
         have inbW := @wrap_small
         have inbU := IntKind.wrap_u8'
         repeat (refine wpQuiet_step (fun K hK => ?_); go_simp; first | (refine hK _ ?_; clear hK K) | (apply Exists.intro; refine ⟨?_, hK _ ?_⟩; (· (intro w' hw'; first | fail | (have hcw := hw'.cell; go_simp; exact rfl))); clear hK K))
         refine wpQuiet_nil ?_
         intro wq hq
         clear inbNe inbW inbU
         go_wp2_with fail
         go_meet
         case rel => exact ⟨rfl, hq⟩
     · have t2 := decide_eq_false e2
       have hb : B = false := by rw [HBB.out, decide_eq_false e1, decide_eq_false e2]; rfl
       subst hb
       clear e1 e2
       refine region_inb (by kernel_rfl) (by kernel_rfl) ?_
       have inbNe := InB.some
       have inbW := @wrap_small
       have inbU := IntKind.wrap_u8'
       repeat (refine wpQuiet_step (fun K hK => ?_); go_simp; first | (refine hK _ ?_; clear hK K) | (apply Exists.intro; refine ⟨?_, hK _ ?_⟩; (· (intro w' hw'; first | fail | (have hcw := hw'.cell; go_simp; exact rfl))); clear hK K))
       refine wpQuiet_nil ?_
       intro wq hq
       clear inbNe inbW inbU
       go_wp2_with fail
       go_meet
       case rel => exact ⟨rfl, hq⟩
 case rest =>
   obtain ⟨rfl, hqc⟩ := hcut
   have bc := hqc.below
   have b0c := bt b0 bc
   have hAc := (Hh.out.on b0c)
   obtain ⟨x0', x1', x2', x3', x4'⟩ := five5r (Hx.out.on bc)
   obtain ⟨y0', y1', y2', y3', y4'⟩ := five5r hAc.blk
   have hlTc := hAc.blk.lt
   have hlXc := (Hx.out.on bc).lt
   have kB0 : KeepsOthers w wc /\ KpK T n0 w wc := ⟨Ch.keeps_below b0c, KpK.of_below b0c Hh.out.lN⟩
   clear x0 x1 x2 x3 x4 y0 y1 y2 y3 y4 hlT hlX
   have hnow : r.now ≠ [] ↔ 0 < prs.length := by rw [Hh.out.eN]; simp [List.length_pos_iff]
   cases B with
   | true =>
     have hc : x.body.length < 6 \/ (r.now ≠ [] /\ x.gen ≠ r.gen) := by
       have := HBB.out
       rw [eq_comm, Bool.or_eq_true, Bool.and_eq_true, decide_eq_true_eq, decide_eq_true_eq, decide_eq_true_eq] at this
       exact this.imp id (fun h => ⟨hnow.2 h.1, h.2⟩)
     have hT : Q = (r, false) := by rw [HQ.out]; unfold takeF; rw [if_pos hc]
     subst hT
     clear hc hnow
     go_wp2
     go_ret
     exact ⟨rfl, ⟨_, _, _, _, hAc⟩, kB0.1, kB0.2⟩
   | false =>
     have hc : ¬ (x.body.length < 6 \/ (r.now ≠ [] /\ x.gen ≠ r.gen)) := by
       have := HBB.out
       intro h
       rw [eq_comm, Bool.or_eq_false_iff, Bool.and_eq_false_iff, decide_eq_false_iff_not, decide_eq_false_iff_not, decide_eq_false_iff_not] at this
       rcases h with h | h
       · exact this.1 h
       · exact this.2.elim (fun e => e (hnow.1 h.1)) (fun e => e h.2)
     have h6 : 6 <= x.body.length := Nat.le_of_not_lt fun e => hc (.inl e)
     have hT : Q = if fstN x.body ≠ r.frm then (r, false)
       else if x.kind = 4 /\ (sndN x.body : Int) < np then ({ r with gen := x.gen, now := r.now ++ [⟨(sndN x.body : Int), x.body.drop 6⟩] }, true)
       else if x.kind = 5 /\ sndN x.body = r.now.length /\ x.body.length = 6 then (⟨r.all ++ [⟨r.now, x.gen⟩], [], 0, i + 1⟩, true)
       else ({ r with gen := x.gen }, false) := by rw [HQ.out]; unfold takeF; rw [if_neg hc]
     have hnl : r.now.length = prs.length := by rw [Hh.out.eN]; simp
     rw [hnl] at hT
     have HT := Lib.hid hT
     clear hT hc hnow hnl
     obtain ⟨g, c', eA, hg⟩ := own_some Hok.out (by omega)
     injection eA with eA1 eA2 eA3
     subst eA1 eA3
     have hcap := Disk.own_caps Hok.out
     have okc := own_on Hok.out b0c
     obtain ⟨cs, hcs⟩ := Disk.own_blk okc
     have hrdB : Rd wc wc.heap.size (some ⟨g, 0, none⟩) (x.body.map e8) := Rd.own okc
     have hG1 := fun W (b : Below wc.heap.size wc W) => Num.get_any (some ⟨g, 0, none⟩) (x.body.take 4) 4 c W.heap.size W (by simp; omega) (by rw [List.map_take]; exact (Rd.own (own_on okc b)).take 4) (by simp; omega) (by simp; omega)
     have hG2 := fun W (b : Below wc.heap.size wc W) => Num.get_any (some ⟨g, 4, none⟩) ((x.body.drop 4).take 2) 2 (c - 4) W.heap.size W (by simp; omega) (by rw [List.map_take, List.map_drop]; exact ((Rd.own (own_on okc b)).drop 4).take 2) (by simp; omega) (by simp; omega)
     have hF : ∀ l, Num.getN (l.take 4) = fstN l := fun _ => rfl
     have hS : ∀ l, Num.getN ((l.drop 4).take 2) = sndN l := fun _ => rfl
     rw [hF] at hG1
     rw [hS] at hG2
     have hs16 : sndN x.body < 65536 := by have := Num.getN_lt ((x.body.drop 4).take 2) _ (Nat.le_refl _); rw [List.take_length] at this; exact Nat.lt_of_lt_of_le this (by rw [show (65536 : Nat) = 256 ^ 2 from rfl]; exact Nat.pow_le_pow_right (by omega) (by rw [List.length_take]; omega))
     obtain ⟨f, hf⟩ : ∃ f, f = fstN x.body := ⟨_, rfl⟩
     obtain ⟨m, hm⟩ : ∃ m, m = sndN x.body := ⟨_, rfl⟩
     rw [<- hf] at HT hG1
     rw [<- hm] at HT hG2 hs16
     have HG1 := Lib.hid hG1
     have HG2 := Lib.hid hG2
     clear hF hS hG1 hG2 hf hm
     by_cases e1 : f = r.frm
     rotate_left
     · have hTe : Q = (r, false) := by rw [HT.out, if_pos e1]
       subst hTe
       have t1 := bne_yes (show (f : Int) ≠ (r.frm : Int) by omega)
       clear e1
       go_wp2_with (first
         | (go_at_call 118; (with_reducible show Calls _ _ #[.slice (some ⟨g, 0, none⟩) 4 _] _ _); refine (HG1.out _ (Below.refl _ _)).mono ?_; rintro e w1 ⟨rfl, rfl⟩)
         | (go_at_call 118; (with_reducible show Calls _ _ #[.slice (some ⟨g, 4, none⟩) 2 _] _ _); refine (HG2.out _ (Below.refl _ _)).mono ?_; rintro e w1 ⟨rfl, rfl⟩))
       go_ret
       exact ⟨rfl, ⟨_, _, _, _, hAc⟩, kB0.1, kB0.2⟩
     rw [if_neg (fun h => h e1)] at HT
     have t1 := bne_no (show (f : Int) = (r.frm : Int) by omega)
     have hm1 : IntKind.i64.wrap (m : Int) = (m : Int) := wrap_small (by omega) (by omega)
     have hAg := hAc.move (w' := wc.setCell ⟨T, 2, none⟩ (.int .u64 (x.gen.toNat : Int))) (fun j hj _ => Below.heap_setCell wc ⟨T, 2, none⟩ _ j (fun e => by have := hAc.lT; simp at e; omega)) (by simp [World.setCell]) { r with gen := x.gen } (hAc.blk.set (k := 2) _) rfl rfl
     have kBg : KeepsOthers w (wc.setCell ⟨T, 2, none⟩ (.int .u64 (x.gen.toNat : Int))) /\ KpK T n0 w (wc.setCell ⟨T, 2, none⟩ (.int .u64 (x.gen.toNat : Int))) := ⟨kB0.1.trans (KeepsOthers.setCell _ _ _), by
       refine ⟨kB0.2.1, kB0.2.2.1, kB0.2.2.2.1, by have := kB0.2.2.2.2.1; simpa [World.setCell] using this, fun j hj hn => (Below.heap_setCell wc ⟨T, 2, none⟩ _ j (fun e => hn (by simpa using e))).trans (kB0.2.2.2.2.2 j hj hn)⟩⟩
     have hXg := (Hx.out.on bc).other (.int .u64 (x.gen.toNat : Int)) (k := 2) (b := T) (fun e => by have := hAc.lT; have := Hh.out.lN; omega)
     have okg : (wc.setCell ⟨T, 2, none⟩ (.int .u64 (x.gen.toNat : Int))).ownsRow n0 5 1 (.slice (some ⟨g, 0, none⟩) x.body.length c) x.body.length (x.body.map e8) := own_keep okc (fun j cs _ hj _ => Below.heap_setCell wc ⟨T, 2, none⟩ _ j (fun e => by have := hAc.lT; simp at e; omega))
     have c4 : ¬ c = 4 := by omega
     have hfr := hAc.blk.free 2
     have c4' : ¬ (c : Int) = 4 := by omega
     go_upto_region 8 with (first
       | (go_at_call 118; (with_reducible show Calls _ _ #[.slice (some ⟨g, 0, none⟩) 4 _] _ _); refine (HG1.out _ (Below.refl _ _)).mono ?_; rintro e w1 ⟨rfl, rfl⟩)
       | (go_at_call 118; (with_reducible show Calls _ _ #[.slice (some ⟨g, 4, none⟩) 2 _] _ _); refine (HG2.out _ (Below.refl _ _)).mono ?_; rintro e w1 ⟨rfl, rfl⟩))
     obtain ⟨wg, hwg⟩ : ∃ q, q = wc.setCell ⟨T, 2, none⟩ (.int .u64 (x.gen.toNat : Int)) := ⟨_, rfl⟩
     rw [<- hwg] at hAg kBg hXg okg ⊢
     obtain ⟨x0, x1, x2, x3, x4⟩ := five5r hXg
     obtain ⟨y0, y1, y2, y3, y4⟩ := five5r hAg.blk
     have lXg := hXg.lt
     have lTg := hAg.blk.lt
     have HAg := Lib.hid hAg
     have HkB := Lib.hid kBg
     have Hokg := Lib.hid okg
     have HXg := Lib.hid hXg
     clear hfr x0' x1' x2' x3' x4' y0' y1' y2' y3' y4' hAc hqc bc b0c hlTc hlXc kB0 hrdB okc hcs hwg t1 e1 hAg kBg okg hXg
     by_cases k4 : x.kind = 4
     · have s4 := beq_yes k4
       have k5 : ¬ x.kind = 5 := by omega
       by_cases hmn : (m : Int) < np
       · rw [if_pos ⟨k4, hmn⟩] at HT
         have hQ := HT.out
         subst hQ
         have smn := decide_eq_true hmn
         clear k4 k5
         have h6i : (6 : Int) <= (x.body.length : Int) := by omega
         obtain ⟨i0, hi0, hz0, hz1, hz2⟩ := info_parts infoPg
         have hnb : some T ≠ (Value.slice An prs.length cn).ownBlock := fun e => by have := (HAg.out.now.lt T e.symm).1; have := HAg.out.lT; omega
         obtain ⟨tb, htb⟩ := HAg.out.blk
         have hPr : PrOk wg n0 ⟨(m : Int), if c = 6 then some ⟨g, 0, none⟩ else some ⟨g, 6, none⟩, c - 6, x.body.drop 6⟩ := by
           by_cases c6 : c = 6
           · rw [if_pos c6]; exact PrOk.tail Hokg.out (.inr (by omega)) hbl (by omega) (by omega)
           · rw [if_neg c6]; exact PrOk.tail Hokg.out (.inl rfl) hbl (by omega) (by omega)
         have HPr := Lib.hid hPr
         clear hPr
         go_upto_region 9 with (fail)
         go_region_law ((refine Disk.step_append_rd _ (by rfl) _ _ _ (by rfl) n0 53 i0 _ 2 32 Tryz.underlying38 hi0 hz0 hz1 hz2 rfl (by omega) (.slice An prs.length cn) prs.length (prs.flatMap Pr.cells) (by rfl) ?_ _ 1 1 [.int .i64 (m : Int), .slice (if c = 6 then some ⟨g, 0, none⟩ else some ⟨g, 6, none⟩) (x.body.length - 6) (c - 6)] (by rfl) (by rfl) ?_ (by simp [Value.oneCell']) (by have := HAg.out.bd; simp only [maxLen]; omega) (by have := HAg.out.bd; omega) (by have := HAg.out.lN; simp; omega) ?_); (· exact HAg.out.now.alloc _); (· exact Rd.lit _ _ _ _ _ rfl (by simp)); intro v3 w3 own3 hg3 hat3; have e3 := (hg3.block T (by simp; omega) hnb).trans ((Below.heap_alloc _ _ T lTg).trans htb); obtain ⟨d0, d1, d2, d3, d4⟩ := five5r ⟨_, e3⟩; have d8 := Blk.free (⟨_, e3⟩ : Blk w3 T _) 1; obtain ⟨A3, c3, rfl⟩ := own_form own3)
         all_goals
           have fin := Lib.hid (HAg.out.data _ HPr.out (alloc_drew wg _) hg3 (by simpa [Pr.cells] using own3) hat3 hlp)
           clear own3 hat3 hg3
           go_wp2 <;> (go_ret; exact ⟨rfl, ⟨_, _, _, _, fin.out.1⟩, HkB.out.1.trans fin.out.2.1, HkB.out.2.trans fin.out.2.2⟩)
       · rw [if_neg (fun h => hmn h.2), if_neg (fun h => k5 h.1)] at HT
         have hQ := HT.out
         subst hQ
         have s5 := beq_no k5
         have smn := decide_eq_false hmn
         clear k4 k5
         go_wp2
         go_ret
         exact ⟨rfl, ⟨_, _, _, _, HAg.out⟩, HkB.out.1, HkB.out.2⟩
     · have s4 := beq_no k4
       rw [if_neg (fun h => k4 h.1)] at HT
       by_cases k5 : x.kind = 5
       rotate_left
       · rw [if_neg (fun h => k5 h.1)] at HT
         have hQ := HT.out
         subst hQ
         have s5 := beq_no k5
         clear k4 k5
         go_wp2
         go_ret
         exact ⟨rfl, ⟨_, _, _, _, HAg.out⟩, HkB.out.1, HkB.out.2⟩
       have s5 := beq_yes k5
       by_cases em : m = prs.length
       rotate_left
       · rw [if_neg (fun h => em h.2.1)] at HT
         have hQ := HT.out
         subst hQ
         have s6 := beq_no (show (m : Int) ≠ (prs.length : Int) by omega)
         clear k4 k5 em
         go_wp2
         go_ret
         exact ⟨rfl, ⟨_, _, _, _, HAg.out⟩, HkB.out.1, HkB.out.2⟩
       have s6 := beq_yes (show (m : Int) = (prs.length : Int) by omega)
       by_cases el : x.body.length = 6
       rotate_left
       · rw [if_neg (fun h => el h.2.2)] at HT
         have hQ := HT.out
         subst hQ
         have s7 := beq_no (show (x.body.length : Int) ≠ 6 by omega)
         clear k4 k5 em el
         go_wp2
         go_ret
         exact ⟨rfl, ⟨_, _, _, _, HAg.out⟩, HkB.out.1, HkB.out.2⟩
       rw [if_pos ⟨k5, em, el⟩] at HT
       have hQ := HT.out
       subst hQ
       have s7 := beq_yes (show (x.body.length : Int) = 6 by omega)
       clear k4 k5 em el
       obtain ⟨i0, hi0, hz0, hz1, hz2⟩ := info_parts infoTx
       have hnb : some T ≠ allv.ownBlock := fun e => by have := (HAg.out.all.lt T e.symm).1; have := HAg.out.lT; omega
       obtain ⟨tb, htb⟩ := HAg.out.blk
       obtain ⟨Aa, ca, rfl⟩ := own_form HAg.out.all
       have hw1 : IntKind.i64.wrap ((i : Int) + 1) = ((i + 1 : Nat) : Int) := by rw [wrap_small (by omega) (by omega)]; omega
       have hw2 := wrap_u64s hi
       go_upto_region 12 with (fail)
       go_region_law ((refine Disk.step_append_rd _ (by rfl) _ _ _ (by rfl) n0 106 i0 _ 2 32 Tryz.underlying99 hi0 hz0 hz1 hz2 rfl (by omega) (.slice Aa trs.length ca) trs.length (trs.flatMap Tr.cells) (by rfl) ?_ _ 1 1 [.slice An prs.length cn, .int .u64 (x.gen.toNat : Int)] (by rfl) (by rfl) ?_ (by simp [Value.oneCell']) (by have := HAg.out.bd; simp only [maxLen]; omega) (by have := HAg.out.bd; omega) (by have := HAg.out.lN; simp; omega) ?_); (· exact HAg.out.all.alloc _); (· exact Rd.lit _ _ _ _ _ rfl (by simp)); intro v3 w3 own3 hg3 hat3; have e3 := (hg3.block T (by simp; omega) hnb).trans ((Below.heap_alloc _ _ T lTg).trans htb); obtain ⟨d0, d1, d2, d3, d4⟩ := five5r ⟨_, e3⟩; have d8 := Blk.free (⟨_, e3⟩ : Blk w3 T _); have d80 := d8 0; have d81 := d8 1; have d82 := d8 2; have d83 := d8 3; obtain ⟨A3, c3, rfl⟩ := own_form own3)
       all_goals
         obtain ⟨f1, f2, f3, f4⟩ := four_set ⟨_, e3⟩ (.slice A3 (trs.length + 1) c3) (.slice none 0 0) (.int .u64 0) (.int .u64 ((i : Int) + 1))
         have fin := Lib.hid (HAg.out.commit (alloc_drew wg _) hg3 own3 hlt (i + 1) f2 (show Blk _ T [_, _, _, .int .u64 ((i + 1 : Nat) : Int), _] from f1) f3 ⟨rfl, rfl, rfl, f4⟩)
         clear f1 f2 f3 f4
         go_wp2
         go_ret
         exact ⟨rfl, ⟨_, _, _, _, fin.out.1⟩, HkB.out.1.trans fin.out.2.1, HkB.out.2.trans fin.out.2.2⟩
end Go.Proofs.YtchcmklelmlbgaaGreat.Wal
namespace Go.Proofs.YtchcmklelmlbgaaGreat.Wal
open Go.RowKit Go.Shelf
open Go.Proofs.YtchcmklelmlbgaaGreat.Geom
open Go.Proofs.YtchcmklelmlbgaaGreat.Ch (SeqOk)
open Go.Proofs.YtchcmklelmlbgaaGreat.Sup (Gb gv gcell gthree)
open Go.Proofs.YtchcmklelmlbgaaGreat.Disk (St DAt read_any)
open Go.Proofs.YtchcmklelmlbgaaGreat.Sec (X SymAt decode_sym xv five5x)
attribute [local go_sem] Oper.semAt_some
set_option linter.unusedVariables false
set_option maxRecDepth 100000
structure It where
 k : Nat
 x : X
 A : Option Addr
 c : Nat
def It.enc (t : It) : Array Value := #[.int .i64 (t.k : Int), .agg #[.int .i64 t.x.kind, .int .u64 (t.x.life.toNat : Int), .int .i64 t.x.seq, .int .u64 (t.x.gen.toNat : Int), .slice t.A t.x.body.length t.c]]
def It.Ok (n0 : Nat) (W : World) (t : It) : Prop := W.ownsRow n0 5 1 (.slice t.A t.x.body.length t.c) t.x.body.length (t.x.body.map e8) /\ t.x.body.length <= 1000 /\ t.k <= 1000
def It.f (t : It) : Nat × X := (t.k, t.x)
def rdL (l : List (List UInt8)) (s : St) (ga gd gl base : Int) (k : Nat) : X × Int := Enc.rd l s (logAt ga gd gl (base + (k : Int)))
def goodL (l : List (List UInt8)) (s : St) (ga gd gl base : Int) (life : UInt64) (k : Nat) : Bool := decide ((rdL l s ga gd gl base k).2 = 0) && (decide ((rdL l s ga gd gl base k).1.life = life) && decide ((rdL l s ga gd gl base k).1.seq = (k : Int)))
def want (l : List (List UInt8)) (s : St) (ga gd gl base : Int) (k : Nat) : Nat × X := (k, (rdL l s ga gd gl base k).1)
def Given (l : List (List UInt8)) (s : St) (ga gd gl base : Int) (life : UInt64) (N k : Nat) (pre : List It) : Prop := k <= N /\ pre.map It.f = (List.range k).map (want l s ga gd gl base) /\ ∀ j, j < k -> goodL l s ga gd gl base life j = true
theorem Given.snoc {l : List (List UInt8)} {s : St} {ga gd gl base : Int} {life : UInt64} {N k : Nat} {pre : List It} {t : It} (h : Given l s ga gd gl base life N k pre) (hk : k < N) (ht : t.f = want l s ga gd gl base k) (hg : goodL l s ga gd gl base life k = true) : Given l s ga gd gl base life N (k + 1) (pre ++ [t]) := by
 refine ⟨hk, ?_, fun j hj => ?_⟩
 · rw [List.range_succ, List.map_append, List.map_append, h.2.1, List.map_cons, List.map_nil, List.map_cons, List.map_nil, ht]
 · rcases Nat.lt_succ_iff_lt_or_eq.1 hj with e | e
   · exact h.2.2 j e
   · rw [e]; exact hg
theorem log_size {ga gd gl : Int} (h : right ga gd gl = true) : 4 + gl <= Geom.sizeOf ga gd gl := by
 unfold Geom.sizeOf; rw [if_pos h]; have := pagesOf_bd ga gd gl; omega
set_option maxHeartbeats 2000000 in
theorem secs1_in (n : Nat) (hn : 1 <= n) (lp B Br Bf F g : Nat) (fp : List Nat) (s : St) (gS bS : Nat) (l : List (List UInt8)) (ga gd gl : Int) (life : UInt64) (base : Int) (N : Nat) (hG : Gb ga gd gl) (hN : (N : Int) = gl) (hr : right ga gd gl = true) (hb0 : 0 <= base) (hb1 : base <= 1073741824) (hl : l.length <= 1000000) (hs : s.sz <= 90000000) (hd : s.down = false) (hsz : (s.size : Int) = Geom.sizeOf ga gd gl)
   (w : World) (hP : SecsAt w Br Bf F (.pointer (some ⟨g, 0, none⟩)) (.pointer (some ⟨gS, 0, none⟩)) ga gd gl life base) (hB : Both w g fp s gS bS l) (hne : ∀ j ∈ bS :: gS :: fp, j ≠ B) (hneA : Br ≠ B)
   (J Jx : List It -> World -> Prop)
   (hY : ∀ pre x W, J pre W -> It.Ok w.heap.size W x -> pre.length < N -> YieldAt Fence.wide (n - 1) Tryz.prog lp x.enc W fun e W' =>
     (e = .returned (.bool true) /\ J (pre ++ [x]) W' /\ KpK B w.heap.size W W') \/ (e = .returned (.bool false) /\ Jx (pre ++ [x]) W'))
   (W : World) (hW : Below w.heap.size w W) (hJb : ∀ pre (W W' : World), J pre W -> Below W.heap.size W W' -> J pre W') (h0 : J [] W) :
   CallsIn Fence.wide n Tryz.prog 117 #[.func (.yield lp) #[] #[], .pointer (some ⟨Br, 0, none⟩), .pointer (some ⟨Bf, 0, none⟩)] W fun e W' => (∃ v, e = .returned v) /\
     ((∃ ys, (∃ k, Given l s ga gd gl base life N k ys /\ (k = N \/ goodL l s ga gd gl base life k = false)) /\ J ys W') \/ (∃ pre, (∃ k, Given l s ga gd gl base life N k pre) /\ Jx pre W')) := by
 have hall : ∀ j ∈ bS :: gS :: fp, j < w.heap.size /\ j ≠ B := by
   intro j hj
   refine ⟨?_, hne j hj⟩
   rcases List.mem_cons.1 hj with e | e
   · rw [e]; exact hB.sym.lt.2
   rcases List.mem_cons.1 e with e | e
   · rw [e]; exact hB.sym.lt.1
   · exact hB.disk.lt _ e
 have hPA := hP.ring
 have hLA := hPA.lt
 have facts : ∀ X, KpK B w.heap.size w X -> Blk X Br (rcell (.pointer (some ⟨g, 0, none⟩)) (.pointer (some ⟨gS, 0, none⟩)) ga gd gl life base) /\ Both X g fp s gS bS l := fun X k => ⟨hPA.kpk k hLA hneA, hB.kpk k hall⟩
 have HF := Lib.hid facts
 have hry := right_yes hr
 have hAr := Lib.hid (fun (k : Nat) (hk : k < N) W => place_any (.pointer (some ⟨g, 0, none⟩)) (.pointer (some ⟨gS, 0, none⟩)) ga gd gl life base (k : Int) W g gS rfl rfl hG hb0 hb1 (by omega) (by omega))
 have har := Lib.hid (fun (k : Nat) (hk : k < N) => log_bd (i := base + (k : Int)) hr (by omega))
 have hW0 : KpK B w.heap.size w W := KpK.of_below hW (Nat.le_refl _)
 obtain ⟨hA0, _⟩ := facts W hW0
 obtain ⟨z0, z1, z2, z3, z4, z5, z6⟩ := seven7 hA0
 have HS := Lib.hid (And.intro hsz hd)
 have HZ := Lib.hid (log_size hr)
 have hN64 : N <= 64 := by omega
 subst hN
 have HN := Lib.hid hb1
 clear facts hall hPA hLA hW hP hB hsz hA0 hry hr hb1
 refine callsIn_of_wp Tryz.func117 rfl trivial ?_ rfl
 simp only [Tryz.ntmps117, List.size_toArray, List.length_cons, List.length_nil, Nat.reduceAdd, Nat.reduceSub, Array.replicate_succ, Array.replicate_zero, List.push_toArray, List.append_toArray, List.nil_append, List.cons_append]
 gi_wp2_with fail
 gi_loopw [13] (fun i wr => ∃ k : Nat, k <= N /\ i = .int .i64 (k : Int) /\ KpK B w.heap.size w wr /\ ∃ pre : List It, Hid (Given l s ga gd N base life N k pre) /\ J pre wr) (fun i _ => N - (intOf i).toNat)
 case atStart => exact ⟨0, by omega, rfl, hW0, [], Lib.hid ⟨Nat.zero_le _, rfl, fun j hj => absurd hj (Nat.not_lt_zero j)⟩, h0⟩
 case round =>
   obtain ⟨k, hk, rfl, kp, pre, hpre, hJ⟩ := hrel
   clear z0 z1 z2 z3 z4 z5 z6 h0 hW0
   have hwk := Snap.wrap_up (k := k) (by omega)
   obtain ⟨hA, hBo⟩ := HF.out wr kp
   by_cases hlt : k < N
   · obtain ⟨hp0, hp2, hp1⟩ := har.out k hlt
     have hArk := hAr.out k hlt
     have hri : rdL l s ga gd N base k = Sec.decode (Sec.ckS l (Disk.read s (logAt ga gd N (base + (k : Int)))).1) (logAt ga gd N (base + (k : Int))) (Disk.read s (logAt ga gd N (base + (k : Int)))).1 := rfl
     have hpg : goodL l s ga gd N base life k = (decide ((rdL l s ga gd N base k).2 = 0) && (decide ((rdL l s ga gd N base k).1.life = life) && decide ((rdL l s ga gd N base k).1.seq = (k : Int)))) := rfl
     have hwt : want l s ga gd N base k = (k, (rdL l s ga gd N base k).1) := rfl
     obtain ⟨p, hp⟩ : ∃ p, p = logAt ga gd N (base + (k : Int)) := ⟨_, rfl⟩
     rw [<- hp] at hArk hp0 hp1 hp2 hri
     have hps : p < (s.size : Int) := by have := HS.out.1; have := HZ.out; omega
     have hrd : (Disk.read s p).2 = 0 := by unfold Disk.read; rw [if_neg (by rw [HS.out.2]; simp), if_neg (by omega)]
     have hbl : (Disk.read s p).1.length = 512 := by unfold Disk.read; rw [if_neg (by rw [HS.out.2]; simp), if_neg (by omega)]; exact Disk.kept_len (n := s.size) (fun x hx => (List.mem_append.1 hx).elim (hBo.disk.ok.all x) (hBo.disk.ok.pend x)) _
     have hR := fun W (h : DAt W g fp s) => read_any g fp s p W h (by omega)
     obtain ⟨r, hr⟩ : ∃ r, r = Disk.read s p := ⟨_, rfl⟩
     rw [<- hr] at hR hbl hri hrd
     obtain ⟨b, f⟩ := r
     simp only at hrd hbl hri
     subst hrd
     have hD := fun W (hS : SymAt W gS bS l) A c hr hc hcm => decode_sym p gS bS l A b b.length c W hS hl (by omega) (by omega) rfl hr (by omega) hc hcm
     rw [<- hri] at hD
     have hlen : (rdL l s ga gd N base k).1.body.length <= 1000 := by rw [hri]; exact Snap.dec_body_len _ _ hbl
     obtain ⟨d, hd'⟩ : ∃ d, d = rdL l s ga gd N base k := ⟨_, rfl⟩
     rw [<- hd'] at hD hpg hwt hlen
     have HArk := Lib.hid hArk
     have HR := Lib.hid hR
     have HD := Lib.hid hD
     have Hwt := Lib.hid hwt
     have Hlen := Lib.hid hlen
     clear hArk hR hD hwt hp hr hbl hri hd' hp0 hp1 hp2 hlen hps
     obtain ⟨z0, z1, z2, z3, z4, z5, z6⟩ := seven7 hA
     gi_wp2_with fail
     refine ⟨trivial, (callsIn_wide.2 (HArk.out _)).mono ?_⟩
     rintro e2 w2 ⟨rfl, b2⟩
     have k2 := kp.trans (KpK.of_below b2 kp.size)
     obtain ⟨hA2, hBo2⟩ := HF.out w2 k2
     clear z0 z1 z2 z3 z4 z5 z6
     obtain ⟨z0, z1, z2, z3, z4, z5, z6⟩ := seven7 hA2
     gi_wp2_with fail
     refine ⟨trivial, (callsIn_wide.2 (HR.out _ hBo2.disk)).mono ?_⟩
     rintro e3 w3 ⟨v, rfl, hN3, b3⟩
     obtain ⟨A1, c1, rfl, hc1, hm1, rd1⟩ := hN3.rdN (fp := []) (by simp)
     have k3 := k2.trans (KpK.of_below b3 k2.size)
     obtain ⟨hA3, hBo3⟩ := HF.out w3 k3
     clear z0 z1 z2 z3 z4 z5 z6
     obtain ⟨z0, z1, z2, z3, z4, z5, z6⟩ := seven7 hA3
     gi_wp2_with fail
     refine ⟨trivial, (callsIn_wide.2 (HD.out _ hBo3.sym A1 c1 rd1.rd hc1 hm1)).mono ?_⟩
     rintro e4 w4 ⟨⟨A4, c4, rfl, own4⟩, b4⟩
     unfold xv
     have k4 := k3.trans (KpK.of_below b4 k3.size)
     clear z0 z1 z2 z3 z4 z5 z6
     have hx5 : Blk (w4.alloc (.cells #[.int .i64 d.1.kind, .int .u64 (d.1.life.toNat : Int), .int .i64 d.1.seq, .int .u64 (d.1.gen.toNat : Int), .slice A4 d.1.body.length c4] 157)) w4.heap.size [.int .i64 d.1.kind, .int .u64 (d.1.life.toNat : Int), .int .i64 d.1.seq, .int .u64 (d.1.gen.toNat : Int), .slice A4 d.1.body.length c4] := Blk.new w4 _ _
     have b5 : Below w4.heap.size w4 (w4.alloc (.cells #[.int .i64 d.1.kind, .int .u64 (d.1.life.toNat : Int), .int .i64 d.1.seq, .int .u64 (d.1.gen.toNat : Int), .slice A4 d.1.body.length c4] 157)) := b1alloc w4 _
     have k5 := k4.trans (KpK.of_below b5 k4.size)
     obtain ⟨hA5, _⟩ := HF.out _ k5
     obtain ⟨x0, x1, x2, x3, x4⟩ := five5x hx5
     obtain ⟨z0, z1, z2, z3, z4, z5, z6⟩ := seven7 (HF.out w4 k4).1
     obtain ⟨q0, q1, q2, q3, q4, q5, q6⟩ := seven7 hA5
     have J5 := hJb _ _ _ hJ (bt (bt (bt b2 b3) b4) b5)
     have ok5 : It.Ok w.heap.size (w4.alloc (.cells #[.int .i64 d.1.kind, .int .u64 (d.1.life.toNat : Int), .int .i64 d.1.seq, .int .u64 (d.1.gen.toNat : Int), .slice A4 d.1.body.length c4] 157)) ⟨k, d.1, A4, c4⟩ := ⟨own_base (own_on own4 b5) k3.size, Hlen.out, (show k <= 1000 by omega)⟩
     have hYk := hY pre ⟨k, d.1, A4, c4⟩ (w4.alloc (.cells #[.int .i64 d.1.kind, .int .u64 (d.1.life.toNat : Int), .int .i64 d.1.seq, .int .u64 (d.1.gen.toNat : Int), .slice A4 d.1.body.length c4] 157)) J5 ok5 (by have := congrArg List.length hpre.out.2.1; simp at this; omega)
     clear hx5 own4 hA5 ok5
     by_cases c0 : d.2 = 0
     rotate_left
     · have Hpg := Lib.hid (show goodL l s ga gd N base life k = false by rw [hpg, decide_eq_false c0]; rfl)
       have e0 := bne_yes c0
       clear c0
       clear hpg
       gi_wp2_with fail
       refine ⟨fun _ h => (by cases h), ?_⟩
       gi_wp2_with fail
       refine bodyPost_ret (results_none rfl _ _ _) rfl ?_
       exact ⟨⟨_, rfl⟩, .inl ⟨pre, ⟨k, hpre.out, .inr Hpg.out⟩, J5⟩⟩
     have e0 := bne_no c0
     by_cases c1' : d.1.life = life
     rotate_left
     · have Hpg := Lib.hid (show goodL l s ga gd N base life k = false by rw [hpg, decide_eq_false c1']; simp)
       have e1 := bne_yes (show (d.1.life.toNat : Int) ≠ (life.toNat : Int) from fun e => c1' (UInt64.toNat_inj.1 (by omega)))
       clear c0 c1'
       clear hpg
       gi_wp2_with fail
       refine ⟨fun _ h => (by cases h), ?_⟩
       gi_wp2_with fail
       refine bodyPost_ret (results_none rfl _ _ _) rfl ?_
       exact ⟨⟨_, rfl⟩, .inl ⟨pre, ⟨k, hpre.out, .inr Hpg.out⟩, J5⟩⟩
     have e1 := bne_no (show (d.1.life.toNat : Int) = (life.toNat : Int) by rw [c1'])
     by_cases c2' : d.1.seq = (k : Int)
     rotate_left
     · have Hpg := Lib.hid (show goodL l s ga gd N base life k = false by rw [hpg, decide_eq_false c2']; simp)
       have e2 := bne_yes c2'
       clear c0 c1' c2'
       clear hpg
       gi_wp2_with fail
       refine ⟨fun _ h => (by cases h), ?_⟩
       gi_wp2_with fail
       refine bodyPost_ret (results_none rfl _ _ _) rfl ?_
       exact ⟨⟨_, rfl⟩, .inl ⟨pre, ⟨k, hpre.out, .inr Hpg.out⟩, J5⟩⟩
     have e2 := bne_no c2'
     have Hpg := Lib.hid (show goodL l s ga gd N base life k = true by rw [hpg, decide_eq_true c0, decide_eq_true c1', decide_eq_true c2']; rfl)
     clear hpg c0 c1' c2'
     obtain ⟨fn, tmps, assign, body, hy, hRr⟩ := hYk
     unfold It.enc at hy
     simp only at hy
     have Hgo := Lib.hid (hpre.out.snoc (t := ⟨k, d.1, A4, c4⟩) hlt (by rw [Hwt.out]; rfl) Hpg.out)
     gi_wp2_with fail
     refine hRr.mono ?_
     rintro e7 w7 (⟨rfl, hJ7, hk7⟩ | ⟨rfl, hJx7⟩)
     · gi_wp2_with fail
       go_roundw
       case rel => exact ⟨k + 1, by omega, by go_num, k5.trans hk7, _, Lib.hid Hgo.out, hJ7⟩
       case measure => simp only [intOf]; omega
     · gi_wp2_with fail
       refine bodyPost_ret (results_none rfl _ _ _) rfl ?_
       exact ⟨⟨_, rfl⟩, .inr ⟨_, ⟨k + 1, Hgo.out⟩, hJx7⟩⟩
   · have hkN : k = N := by omega
     have Hk := Lib.hid hkN
     have hkn : ¬ (k : Int) < (N : Int) := by omega
     clear hkN
     gi_wp2
     go_end0
     exact ⟨⟨_, rfl⟩, .inl ⟨pre, ⟨k, hpre.out, .inl Hk.out⟩, hJ⟩⟩
theorem secs1_ok (n : Nat) (hn : 1 <= n) (B Br Bf F g : Nat) (fp : List Nat) (s : St) (gS bS : Nat) (l : List (List UInt8)) (ga gd gl : Int) (life : UInt64) (base : Int) (N : Nat) (hG : Gb ga gd gl) (hN : (N : Int) = gl) (hr : right ga gd gl = true) (hb0 : 0 <= base) (hb1 : base <= 1073741824) (hl : l.length <= 1000000) (hs : s.sz <= 90000000) (hd : s.down = false) (hsz : (s.size : Int) = Geom.sizeOf ga gd gl)
   (w : World) (hP : SecsAt w Br Bf F (.pointer (some ⟨g, 0, none⟩)) (.pointer (some ⟨gS, 0, none⟩)) ga gd gl life base) (hB : Both w g fp s gS bS l) (hne : ∀ j ∈ bS :: gS :: fp, j ≠ B) (hneA : Br ≠ B) :
   SeqOk n Tryz.prog 117 #[.pointer (some ⟨Br, 0, none⟩), .pointer (some ⟨Bf, 0, none⟩)] It.enc (It.Ok w.heap.size) (KpK B w.heap.size) (fun ys => ∃ k, Given l s ga gd gl base life N k ys /\ (k = N \/ goodL l s ga gd gl base life k = false))
     (fun pre => ∃ k, Given l s ga gd gl base life N k pre) N w := fun lp J Jx W hW hJ hJx hY h0 =>
 secs1_in n hn lp B Br Bf F g fp s gS bS l ga gd gl life base N hG hN hr hb0 hb1 hl hs hd hsz w hP hB hne hneA J Jx hY W hW (fun pre W W' h b => hJ pre W W' none h (below_grown b none) (fun r e => by cases e)) h0
end Go.Proofs.YtchcmklelmlbgaaGreat.Wal
namespace Go.Proofs.YtchcmklelmlbgaaGreat.Wal
open Go.RowKit
open Go.Proofs.YtchcmklelmlbgaaGreat.Sec (X)
set_option linter.unusedVariables false
def r00 : Rg := ⟨[], [], 0, 0⟩
def scanH (np : Int) (rd : Nat -> X) (good : Nat -> Bool) : Nat -> Nat -> Rg -> Rg
 | 0, _, r => r
 | n + 1, i, r => if good i = true then (if (takeF np r i (rd i)).2 = true then scanH np rd good n (i + 1) (takeF np r i (rd i)).1 else (takeF np r i (rd i)).1) else r
def foldR (np : Int) (l : List (Nat × X)) : Rg := l.foldl (fun r t => (takeF np r t.1 t.2).1) r00
theorem foldR_snoc (np : Int) (l : List (Nat × X)) (t : Nat × X) : foldR np (l ++ [t]) = (takeF np (foldR np l) t.1 t.2).1 := by simp [foldR]
def okR (np : Int) (l : List (Nat × X)) : Prop := ∀ q t q', l = q ++ t :: q' -> (takeF np (foldR np q) t.1 t.2).2 = true
theorem okR_nil (np : Int) : okR np [] := fun q t q' h => by cases q <;> cases h
theorem okR_snoc {np : Int} {l : List (Nat × X)} {t : Nat × X} (h : okR np l) (ht : (takeF np (foldR np l) t.1 t.2).2 = true) : okR np (l ++ [t]) := fun q u q' e => by
 rcases List.eq_nil_or_concat q' with rfl | ⟨q2, v, rfl⟩
 · have := List.append_inj' e rfl
   obtain ⟨rfl, e2⟩ := this
   injection e2 with e2
   subst e2
   exact ht
 · have e' : l ++ [t] = (q ++ u :: q2) ++ [v] := by rw [e]; simp
   exact h q u q2 (List.append_inj' e' rfl).1
theorem takeF_len (np : Int) (r : Rg) (i : Nat) (x : X) : (takeF np r i x).1.all.length + (takeF np r i x).1.now.length <= r.all.length + r.now.length + 1 := by
 unfold takeF
 split
 · simp only; omega
 · split
   · simp only; omega
   · split
     · simp; omega
     · split
       · simp
       · simp only; omega
theorem foldR_len (np : Int) : ∀ (n : Nat) (l : List (Nat × X)), l.length = n -> (foldR np l).all.length + (foldR np l).now.length <= n
 | 0, l, h => by
   obtain rfl := List.eq_nil_of_length_eq_zero h
   simp [foldR, r00]
 | n + 1, l, h => by
   rcases List.eq_nil_or_concat l with rfl | ⟨q, t, rfl⟩
   · cases h
   · have ih := foldR_len np n q (by simpa using h)
     rw [List.concat_eq_append, foldR_snoc]
     have := takeF_len np (foldR np q) t.1 t.2
     omega
theorem scanH_go {np : Int} {rd : Nat -> X} {good : Nat -> Bool} (N : Nat) : ∀ (k : Nat), k <= N -> (∀ j, j < k -> good j = true) -> okR np ((List.range k).map fun j => (j, rd j)) ->
   scanH np rd good N 0 r00 = scanH np rd good (N - k) k (foldR np ((List.range k).map fun j => (j, rd j)))
 | 0, _, _, _ => by simp [foldR]
 | k + 1, hk, hg, ho => by
   have e : (List.range (k + 1)).map (fun j => (j, rd j)) = (List.range k).map (fun j => (j, rd j)) ++ [(k, rd k)] := by rw [List.range_succ, List.map_append]; rfl
   have ho' : okR np ((List.range k).map fun j => (j, rd j)) := fun q t q' h => ho q t (q' ++ [(k, rd k)]) (by rw [e, h]; simp)
   have ht := ho ((List.range k).map fun j => (j, rd j)) (k, rd k) [] e
   rw [scanH_go N k (by omega) (fun j hj => hg j (by omega)) ho', e, foldR_snoc]
   obtain ⟨m, hm⟩ : ∃ m, N - k = m + 1 := ⟨N - k - 1, by omega⟩
   rw [hm, show N - (k + 1) = m by omega]
   show (if _ then _ else _) = _
   rw [if_pos (hg k (by omega)), if_pos ht]
theorem scanH_done {np : Int} {rd : Nat -> X} {good : Nat -> Bool} {N k : Nat} (hk : k <= N) (hg : ∀ j, j < k -> good j = true) (ho : okR np ((List.range k).map fun j => (j, rd j))) (he : k = N \/ good k = false) : scanH np rd good N 0 r00 = foldR np ((List.range k).map fun j => (j, rd j)) := by
 rw [scanH_go N k hk hg ho]
 rcases he with rfl | he
 · rw [Nat.sub_self]; rfl
 · cases hm : N - k with
   | zero => rfl
   | succ m => show (if _ then _ else _) = _; rw [if_neg (by rw [he]; simp)]
theorem scanH_stop {np : Int} {rd : Nat -> X} {good : Nat -> Bool} {N k : Nat} (hk : k + 1 <= N) (hg : ∀ j, j < k + 1 -> good j = true) (ho : okR np ((List.range k).map fun j => (j, rd j))) (ht : (takeF np (foldR np ((List.range k).map fun j => (j, rd j))) k (rd k)).2 = false) :
   scanH np rd good N 0 r00 = foldR np ((List.range (k + 1)).map fun j => (j, rd j)) := by
 have e : (List.range (k + 1)).map (fun j => (j, rd j)) = (List.range k).map (fun j => (j, rd j)) ++ [(k, rd k)] := by rw [List.range_succ, List.map_append]; rfl
 rw [scanH_go N k (by omega) (fun j hj => hg j (by omega)) ho, e, foldR_snoc]
 obtain ⟨m, hm⟩ : ∃ m, N - k = m + 1 := ⟨N - k - 1, by omega⟩
 rw [hm]
 show (if _ then _ else _) = _
 rw [if_pos (hg k (by omega)), if_neg (by rw [ht]; simp)]
end Go.Proofs.YtchcmklelmlbgaaGreat.Wal
