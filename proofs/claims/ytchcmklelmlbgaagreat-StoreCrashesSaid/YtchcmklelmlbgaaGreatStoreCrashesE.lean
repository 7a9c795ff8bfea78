/- Texts of this claim, joined: Sto4Q, Sto5Q, Sto8Q, Sto9Q, Sto10Q, Sto11Q, Sto12Q, Sto13Q, Sto14Q, Sto15Q, Sto16Q, Sto17Q, Sto18Q, StoL1Q, StoL2Q, StoR1Q, StoR2Q, StoR3Q, StoR4Q, StoR5Q, StoL3Q, StoA2Q, StoA3Q, StoB1Q. -/
import Derived.Test.YtchcmklelmlbgaaGreatStoreCrashesD
import Derived.Deep.DeepCutAuto
import Derived.Deep.RegionHeld3
import Derived.Deep.RegionWith
import Derived.Test.YtchcmklelmlbgaaGreatStoreCrashesA
import Derived.Test.YtchcmklelmlbgaaGreatStoreCrashesC
namespace Go.Proofs.YtchcmklelmlbgaaGreat.Sto
open Go.RowKit
open Go.Proofs.YtchcmklelmlbgaaGreat.Geom
open Go.Proofs.YtchcmklelmlbgaaGreat.Disk (St DAt Did)
open Go.Proofs.YtchcmklelmlbgaaGreat.Sup (Gb gv gcell gthree srightF splace sB sL wf sv scell)
open Go.Proofs.YtchcmklelmlbgaaGreat.Snap (snapF)
open Go.Proofs.YtchcmklelmlbgaaGreat.Wal (LAt lcell wrightF)
set_option linter.unusedVariables false
set_option maxRecDepth 100000
theorem SAt.begun {w wc w1 : World} {X R L L' g : Nat} {fp : List Nat} {gS bS : Nat} {ga gd gl : Int} {z : Z} {s : St} {l : List (List UInt8)} {life : UInt64} {base : Int} {gen : UInt64} {lv : Value} {c : Nat} (h : SAt w X R L g fp gS bS ga gd gl z s l) (h3 : SRow w R c z.pages (Off X R L bS gS fp)) (kc : Keep [X] w wc) (fc : Blk wc X (xc g gS ga gd gl (z.begun life base gen) lv (.slice (some ⟨R, 0, none⟩) z.pages.length c)))
   (b1 : Below wc.heap.size wc w1) (hL : LAt w1 L' g gS ga gd gl life base 0) (hL' : wc.heap.size <= L') :
   SAt (w1.setCell ⟨X, 8, none⟩ (.pointer (some ⟨L', 0, none⟩))) X R L' g fp gS bS ga gd gl (z.begun life base gen) s l /\ Keep [X] w (w1.setCell ⟨X, 8, none⟩ (.pointer (some ⟨L', 0, none⟩))) /\ w.heap.size <= L' := by
 obtain ⟨x1, x2, x3, x4⟩ := h.nX
 obtain ⟨r1, r2, r3, r4⟩ := h.nR
 have hX := h.ltX
 have hs := kc.size
 have hb1 : Keep [X] w w1 := kc.trans (Keep.of_below b1 [X]) (Fresh.refl _ _)
 have hk := hb1.set (p := ⟨X, 8, none⟩) (.inl (by simp)) (.pointer (some ⟨L', 0, none⟩))
 have hlt := h.both.disk.lt
 have hls := h.both.sym.lt
 have hLx : L' ≠ X := by have := hX.1; omega
 refine ⟨⟨⟨h.both.disk.keep hk (fun j hj e => x4 (by rw [List.mem_singleton] at e; exact e ▸ hj)), h.both.sym.keepK hk (by simp; exact fun e => x3 e.symm) (by simp; exact fun e => x2 e.symm), h.both.nS, h.both.nB⟩, ⟨_, c, ((fc.on b1).set (k := 8) _ : Blk _ X (xc g gS ga gd gl (z.begun life base gen) (.pointer (some ⟨L', 0, none⟩)) (.slice (some ⟨R, 0, none⟩) z.pages.length c))), fun _ => rfl, h3.move hk (by simp; exact fun e => x1 e.symm) (fun j hj hlt => ⟨by simp; exact hj.1, hj.1, hj.2.1, by omega, hj.2.2.2⟩)⟩,
   fun _ => ⟨Blk.other hL _ hLx, hLx⟩, ⟨x1, x2, x3, x4⟩, ⟨by have := hX.2; omega, r2, r3, r4⟩, ⟨by have := hls.2; omega, by have := hls.1; omega, fun e => by have := hlt _ e; omega⟩, ?_⟩, hk, by omega⟩
 have := hL.lt
 simpa [World.setCell] using this
def BMid (w : World) (X g gS : Nat) (ga gd gl : Int) (z : Z) (lv pv : Value) (wx : World) : Prop := Keep [X] w wx /\ Blk wx X (xc g gS ga gd gl z lv pv)
set_option maxHeartbeats 1000000 in
theorem begin3_any (X R L g : Nat) (fp : List Nat) (gS bS : Nat) (ga gd gl : Int) (z : Z) (s : St) (l : List (List UInt8)) (life : UInt64) (base : Int) (gen : UInt64) (bX bA : Nat) (w : World) (hG : Gb ga gd gl) (h : SAt w X R L g fp gS bS ga gd gl z s l) (hX : Box w bX (.pointer (some ⟨X, 0, none⟩))) (hA : Blk w bA (scell life base gen)) (nX : bX ≠ X) (nA : bA ≠ X) (nXA : bX ≠ bA)
   (hf : wrightF s ga gd gl base = 0) :
   Calls Tryz.prog 81 #[.pointer (some ⟨bA, 0, none⟩), .pointer (some ⟨bX, 0, none⟩)] w fun e w' => e = .returned (.int .i64 0) /\ ∃ L', SAt w' X R L' g fp gS bS ga gd gl (z.begun life base gen) s l /\ Keep [X] w w' /\ w.heap.size <= L' := by
 obtain ⟨lv, c, h1, _, h3⟩ := h.blk
 have H3 := Lib.hid h3
 obtain ⟨z0, z1, z2, z3, z4, z5, z6, z7, z8, z9, z10, z11, z12⟩ := thirteen h1
 obtain ⟨a0, a1, a2⟩ := gthree hA
 have q0 := hX.cell
 have fX := h1.free
 have hlX := h1.lt
 have hlA := hA.lt
 have hlB := hX.lt
 have HN := Lib.hid (fun W hD => Wal.new_any g fp s gS ga gd gl life base W hG hD hf)
 have HH := Lib.hid h
 have HB := Lib.hid h1
 have HX := Lib.hid hX
 have HA := Lib.hid hA
 clear h1 h3 h hX hA hf hG
 go_enter Tryz.func81, Tryz.ntmps81
 go_wp2_with fail
 have HS := Lib.hid (fun (W : World) (hW : Keep [X] w W) => show W.cell? ⟨bX, 0, none⟩ = some (.pointer (some ⟨X, 0, none⟩)) /\ W.cell? ⟨bA, 0, none⟩ = some (.int .u64 (life.toNat : Int)) /\ W.cell? ⟨bA, 1, none⟩ = some (.int .i64 base) /\ W.cell? ⟨bA, 2, none⟩ = some (.int .u64 (gen.toNat : Int)) from ⟨(HX.out.keep hW (by simpa using nX)).cell, gthree (HA.out.keepK hW (by simpa using nA))⟩)
 have k0 : Keep [X] w w := Keep.refl _ _
 have k1 := ((k0.set (p := ⟨X, 5, none⟩) (.inl (by simp)) (.int .u64 (life.toNat : Int))).set (p := ⟨X, 6, none⟩) (.inl (by simp)) (.int .i64 base)).set (p := ⟨X, 7, none⟩) (.inl (by simp)) (.int .u64 (gen.toNat : Int))
 have k2 := k0.set (p := ⟨X, 11, none⟩) (.inl (by simp)) (.bool false)
 have k3 := k1.set (p := ⟨X, 11, none⟩) (.inl (by simp)) (.bool false)
 have k4 := ((k2.set (p := ⟨X, 5, none⟩) (.inl (by simp)) (.int .u64 (life.toNat : Int))).set (p := ⟨X, 6, none⟩) (.inl (by simp)) (.int .i64 base)).set (p := ⟨X, 7, none⟩) (.inl (by simp)) (.int .u64 (gen.toNat : Int))
 clear nX nA nXA z0 z1 z2 z3 z4 z8 z9 z10 z12
 go_cut [] (fun wx => BMid w X g gS ga gd gl (z.begun life base gen) lv (.slice (some ⟨R, 0, none⟩) z.pages.length c) wx)
 case first =>
   go_region_held3 (fun w' => w'.cell? ⟨bX, 0, none⟩ = some (.pointer (some ⟨X, 0, none⟩)) /\ w'.cell? ⟨bA, 0, none⟩ = some (.int .u64 (life.toNat : Int)) /\ w'.cell? ⟨bA, 1, none⟩ = some (.int .i64 base) /\ w'.cell? ⟨bA, 2, none⟩ = some (.int .u64 (gen.toNat : Int))) (first | exact ⟨q0, a0, a1, a2⟩ | exact HS.out _ k1 | exact HS.out _ k2 | exact HS.out _ k3 | exact HS.out _ k4 | exact HS.out _ k0) (fail)
   go_wp2_with fail
   go_meet
   case rel => exact ⟨⟨k3.1, k3.2.1, k3.2.2.1, k3.2.2.2.1, k3.2.2.2.2⟩, ((((HB.out.set (k := 5) (.int .u64 (life.toNat : Int))).set (k := 6) (.int .i64 base)).set (k := 7) (.int .u64 (gen.toNat : Int))).set (k := 11) (.bool false) : Blk _ X _)⟩
 case rest =>
   clear k1 k2 k3 k4 z5 z6 z7 z11 q0 a0 a1 a2
   obtain ⟨kc, fc⟩ := hcut
   obtain ⟨q0, a0, a1, a2⟩ := HS.out wc kc
   obtain ⟨y0, y1, y2, y3, y4, y5, y6, y7, y8, y9, y10, y11, y12⟩ := thirteen fc
   have hlX := fc.lt
   have hD := Lib.hid (fun W (bW : Below wc.heap.size wc W) => show DAt W g fp s from (HH.out.both.disk.keep kc (fun j hj e => HH.out.nX.2.2.2 (by rw [List.mem_singleton] at e; exact e ▸ hj))).on bW)
   have HS2 := Lib.hid (fun W (bW : Below wc.heap.size wc W) => show W.cell? ⟨bX, 0, none⟩ = some (.pointer (some ⟨X, 0, none⟩)) /\ W.cell? ⟨bA, 0, none⟩ = some (.int .u64 (life.toNat : Int)) /\ W.cell? ⟨bA, 1, none⟩ = some (.int .i64 base) /\ W.cell? ⟨X, 0, none⟩ = some (.pointer (some ⟨g, 0, none⟩)) /\ W.cell? ⟨X, 1, none⟩ = some (.pointer (some ⟨gS, 0, none⟩)) /\ W.cell? ⟨X, 2, none⟩ = some (.int .i64 ga) /\ W.cell? ⟨X, 3, none⟩ = some (.int .i64 gd) /\ W.cell? ⟨X, 4, none⟩ = some (.int .i64 gl) from by
     obtain ⟨u0, u1, u2, _⟩ := HS.out W (kc.trans (Keep.of_below bW [X]) (Fresh.refl _ _))
     obtain ⟨v0, v1, v2, v3, v4, _⟩ := thirteen (fc.on bW)
     exact ⟨u0, u1, u2, v0, v1, v2, v3, v4⟩)
   have HS3 := Lib.hid (fun W (bW : Below wc.heap.size wc W) (v : Value) => show (W.setCell ⟨X, 8, none⟩ v).cell? ⟨bX, 0, none⟩ = some (.pointer (some ⟨X, 0, none⟩)) /\ (W.setCell ⟨X, 8, none⟩ v).cell? ⟨bA, 0, none⟩ = some (.int .u64 (life.toNat : Int)) /\ (W.setCell ⟨X, 8, none⟩ v).cell? ⟨bA, 1, none⟩ = some (.int .i64 base) /\ (W.setCell ⟨X, 8, none⟩ v).cell? ⟨X, 0, none⟩ = some (.pointer (some ⟨g, 0, none⟩)) /\ (W.setCell ⟨X, 8, none⟩ v).cell? ⟨X, 1, none⟩ = some (.pointer (some ⟨gS, 0, none⟩)) /\ (W.setCell ⟨X, 8, none⟩ v).cell? ⟨X, 2, none⟩ = some (.int .i64 ga) /\ (W.setCell ⟨X, 8, none⟩ v).cell? ⟨X, 3, none⟩ = some (.int .i64 gd) /\ (W.setCell ⟨X, 8, none⟩ v).cell? ⟨X, 4, none⟩ = some (.int .i64 gl) from by
     obtain ⟨u0, u1, u2, _⟩ := HS.out _ ((kc.trans (Keep.of_below bW [X]) (Fresh.refl _ _)).set (p := ⟨X, 8, none⟩) (.inl (by simp)) v)
     obtain ⟨v0, v1, v2, v3, v4, _⟩ := thirteen (show Blk (W.setCell ⟨X, 8, none⟩ v) X (xc g gS ga gd gl (z.begun life base gen) v (.slice (some ⟨R, 0, none⟩) z.pages.length c)) from (fc.on bW).set (k := 8) v)
     exact ⟨u0, u1, u2, v0, v1, v2, v3, v4⟩)
   have cz : Below wc.heap.size wc wc.drew := (Below.refl _ _).drew
   have fX := fc.free
   have FC := Lib.hid fc
   have KC := Lib.hid kc
   clear kc fc
   go_upto_region 2 with (fail)
   go_region_held3 (fun W => W.cell? ⟨bX, 0, none⟩ = some (.pointer (some ⟨X, 0, none⟩)) /\ W.cell? ⟨bA, 0, none⟩ = some (.int .u64 (life.toNat : Int)) /\ W.cell? ⟨bA, 1, none⟩ = some (.int .i64 base) /\ W.cell? ⟨X, 0, none⟩ = some (.pointer (some ⟨g, 0, none⟩)) /\ W.cell? ⟨X, 1, none⟩ = some (.pointer (some ⟨gS, 0, none⟩)) /\ W.cell? ⟨X, 2, none⟩ = some (.int .i64 ga) /\ W.cell? ⟨X, 3, none⟩ = some (.int .i64 gd) /\ W.cell? ⟨X, 4, none⟩ = some (.int .i64 gl)) (first | exact HS2.out _ cz | exact HS2.out _ bt1 | exact HS3.out _ bt1 _) ((go_at_call 82; refine (HN.out _ (hD.out _ cz)).mono ?_; rintro e w1 ⟨rfl, hL1, b1⟩; have bt1 := bt cz b1; have y8' := (World.cell?_of_block (bt1.block _ hlX)).trans y8; have fx8 := (World.frozen?_of_block (bt1.block _ hlX)).trans (fX 8)))
   have fin := Lib.hid (SAt.begun HH.out H3.out KC.out FC.out bt1 hL1 (by simp))
   clear y0 y1 y2 y3 y4 y5 y6 y7 y8 y9 y10 y11 y12 fX fx8 y8'
   go_wp2_with fail
   go_ret
   exact ⟨rfl, _, fin.out⟩
end Go.Proofs.YtchcmklelmlbgaaGreat.Sto
namespace Go.Proofs.YtchcmklelmlbgaaGreat.Sto
open Go.RowKit
open Go.Proofs.YtchcmklelmlbgaaGreat.Geom
open Go.Proofs.YtchcmklelmlbgaaGreat.Disk (St DAt Did)
open Go.Proofs.YtchcmklelmlbgaaGreat.Sup (Gb gv gcell gthree srightF splace sB sL wf sv scell)
open Go.Proofs.YtchcmklelmlbgaaGreat.Snap (snapF)
open Go.Proofs.YtchcmklelmlbgaaGreat.Wal (LAt lcell wrightF)
set_option linter.unusedVariables false
set_option maxRecDepth 100000
theorem begF_no {ga gd gl : Int} {life : UInt64} {base : Int} {gen : UInt64} {P : List (List UInt8)} {l : List (List UInt8)} {s : St} (h : (snapF ga gd gl life P l s).2.2 ≠ 0) : begF ga gd gl life base gen P l s = snapF ga gd gl life P l s := if_neg h
theorem begF_yes {ga gd gl : Int} {life : UInt64} {base : Int} {gen : UInt64} {P : List (List UInt8)} {l : List (List UInt8)} {s : St} (h : (snapF ga gd gl life P l s).2.2 = 0) : begF ga gd gl life base gen P l s = (sL (snapF ga gd gl life P l s).1 ga gd gl life base gen, wf (snapF ga gd gl life P l s).2.1 (splace life) (sB (snapF ga gd gl life P l s).1 ga gd gl life base gen)) := if_pos h
def BIn (w3 : World) (X R L g : Nat) (fp : List Nat) (gS bS : Nat) (ga gd gl : Int) (z' : Z) (V B : Out) : Nat -> World -> Prop
 | 0, W => W = w3
 | 1, W => V.2.2 = 0 /\ Turn w3 g fp gS bS V.2.1 V.1 W
 | 2, W => B.2.2 = 0 /\ Turn w3 g fp gS bS B.2.1 B.1 W
 | _, W => B.2.2 = 0 /\ STurn w3 X R L g fp gS bS ga gd gl z' B.2.1 B.1 W
def BOut (w3 : World) (g : Nat) (fp : List Nat) (gS bS : Nat) (B : Out) (f : Int) (W : World) : Prop := f = B.2.2 /\ Turn w3 g fp gS bS B.2.1 B.1 W
def bks : Nat -> FuncId
 | 0 => 77
 | 1 => 79
 | _ => 81
def bcs (bX bA : Nat) : Nat -> Array Value
 | 0 => #[.pointer (some ⟨bX, 0, none⟩), .pointer (some ⟨bA, 0, none⟩)]
 | 1 => #[.pointer (some ⟨bX, 0, none⟩), .pointer (some ⟨bA, 0, none⟩)]
 | _ => #[.pointer (some ⟨bA, 0, none⟩), .pointer (some ⟨bX, 0, none⟩)]
theorem _root_.Go.Proofs.YtchcmklelmlbgaaGreat.Turn.keepOf {w w' : World} {g : Nat} {fp : List Nat} {gS bS : Nat} {s : St} {l : List (List UInt8)} (h : Turn w g fp gS bS s l w') : Keep (bS :: fp) w w' := by obtain ⟨_, _, k, _⟩ := h; exact k
theorem begin_steps (X R L g : Nat) (fp : List Nat) (gS bS : Nat) (ga gd gl : Int) (z : Z) (s : St) (l : List (List UInt8)) (life : UInt64) (base : Int) (gen : UInt64) (bX bA bL : Nat) (w : World) (hG : Gb ga gd gl) (h : SAt w X R L g fp gS bS ga gd gl z s l) (hX : Box w bX (.pointer (some ⟨X, 0, none⟩))) (hA : Blk w bA (scell life base gen))
   (hF : Blk w bL [.func (.func 77) #[] (bcs bX bA 0), .func (.func 79) #[] (bcs bX bA 1), .func (.func 81) #[] (bcs bX bA 2)])
   (nX : bX ∉ X :: bS :: fp) (nA : bA ∉ X :: bS :: fp) (nXA : bX ≠ bA) (nF : bL ∉ bS :: fp)
   (hl : l.length <= 800000) (hs : s.sz <= 70000000) (hf : srightF s ga gd gl = 0) (hn : (z.pages.length : Int) = pagesOf ga gd gl) (hlong : Snap.longB z.pages = false) (hb0 : 0 <= base) (hb1 : base <= 1073741824) :
   Calls Tryz.prog 38 #[.slice (some ⟨bL, 0, none⟩) 3 3] w fun e w' => ∃ f : Int, e = .returned (.int .i64 f) /\ (f = 0 -> BIn w X R L g fp gS bS ga gd gl (z.begun life base gen) (snapF ga gd gl life z.pages l s) (begF ga gd gl life base gen z.pages l s) 3 w') /\ (f ≠ 0 -> BOut w g fp gS bS (begF ga gd gl life base gen z.pages l s) f w') := by
 have hpb := pagesOf_bd ga gd gl
 have lim : (snapF ga gd gl life z.pages l s).1.length <= l.length + z.pages.length /\ (snapF ga gd gl life z.pages l s).2.1.sz <= s.sz + 2 * z.pages.length + 1 := by
   have := Enc.enf_lim (Snap.pItems ga gd gl life 0 z.pages) l s
   rw [Snap.pItems_len] at this
   exact this
 obtain ⟨V, hV⟩ : ∃ V, V = snapF ga gd gl life z.pages l s := ⟨_, rfl⟩
 obtain ⟨B, hB⟩ : ∃ B, B = begF ga gd gl life base gen z.pages l s := ⟨_, rfl⟩
 have hBn : V.2.2 ≠ 0 -> B = V := fun e => by rw [hB, hV]; exact begF_no (by rw [<- hV]; exact e)
 have hBy : V.2.2 = 0 -> B = (sL V.1 ga gd gl life base gen, wf V.2.1 (splace life) (sB V.1 ga gd gl life base gen)) := fun e => by rw [hB, hV]; exact begF_yes (by rw [<- hV]; exact e)
 have hVs : V.2.1.size = s.size := by rw [hV]; exact snapF_size _ _ _ _ _ _ _
 have hBs : B.2.1.size = s.size := by rw [hB]; exact begF_size _ _ _ _ _ _ _ _ _
 rw [<- hV] at lim ⊢
 rw [<- hB]
 have noXb : ∀ {j : Nat}, j ∉ X :: bS :: fp -> j ∉ bS :: fp := fun hj e => hj (List.mem_cons_of_mem _ e)
 refine steps_any 3 3 bL 0 bks (fun _ => #[]) (bcs bX bA) (BIn w X R L g fp gS bS ga gd gl (z.begun life base gen) V B) (BOut w g fp gS bS B) w (by omega) rfl ?_ ?_ ?_
 · intro i hi W hI
   have hk : Keep (bS :: fp) w W := by
     match i, hI with
     | 0, hI => rw [show W = w from hI]; exact Keep.refl _ _
     | 1, hI => exact hI.2.keepOf
     | 2, hI => exact hI.2.keepOf
   have hF' := hF.keepK hk nF
   match i, hi with
   | 0, _ => exact hF'.cell (k := 0) (by simp)
   | 1, _ => exact hF'.cell (k := 1) (by simp)
   | 2, _ => exact hF'.cell (k := 2) (by simp)
 · intro i hi x W
   match i, hi with
   | 0, _ => simp [go_sem, bks]
   | 1, _ => simp [go_sem, bks]
   | 2, _ => simp [go_sem, bks]
 · intro i hi W hI
   match i, hi, hI with
   | 0, _, hI =>
     have hw : W = w := hI
     subst hw
     have hc := begin1_any X R L g fp gS bS ga gd gl z s l life base gen bX bA W hG h hX hA (by omega) (by omega) hf hn hlong
     rw [<- hV] at hc
     rw [show (#[] : Array Value) ++ bcs bX bA 0 = #[.pointer (some ⟨bX, 0, none⟩), .pointer (some ⟨bA, 0, none⟩)] from by simp [bcs]]
     refine Calls.mono hc ?_
     rintro e w' ⟨rfl, t⟩
     exact ⟨_, rfl, fun e => ⟨e, t⟩, fun e => by rw [hBn e]; exact ⟨rfl, t⟩⟩
   | 1, _, hI =>
     obtain ⟨h0, fp1, hB1, k1, f1⟩ := hI
     have hc := begin2_any X R L g fp1 gS bS ga gd gl z V.2.1 V.1 life base gen bX bA W hG (h.turned hB1 k1 f1) (hX.keep k1 (noXb nX)) (hA.keepK k1 (noXb nA)) (by omega) (by omega) (sright_of hf hVs) hb0 hb1
     rw [show (#[] : Array Value) ++ bcs bX bA 1 = #[.pointer (some ⟨bX, 0, none⟩), .pointer (some ⟨bA, 0, none⟩)] from by simp [bcs]]
     refine Calls.mono hc ?_
     rintro e w' ⟨rfl, t⟩
     have e1 := hBy h0
     have t2 : Turn w g fp gS bS B.2.1 B.1 w' := by rw [e1]; exact Turn.trans k1 f1 t
     exact ⟨_, rfl, fun e => ⟨by rw [e1]; exact e, t2⟩, fun e => ⟨by rw [e1], t2⟩⟩
   | 2, _, hI =>
     obtain ⟨h0, fp1, hB1, k1, f1⟩ := hI
     have hc := begin3_any X R L g fp1 gS bS ga gd gl z B.2.1 B.1 life base gen bX bA W hG (h.turned hB1 k1 f1) (hX.keep k1 (noXb nX)) (hA.keepK k1 (noXb nA)) (fun e => nX (by simp [e])) (fun e => nA (by simp [e])) nXA (wright_of (sright_of hf hBs) hb0 hb1)
     rw [show (#[] : Array Value) ++ bcs bX bA 2 = #[.pointer (some ⟨bA, 0, none⟩), .pointer (some ⟨bX, 0, none⟩)] from by simp [bcs]]
     refine Calls.mono hc ?_
     rintro e w' ⟨rfl, L', hs', k2, hL'⟩
     refine ⟨0, rfl, fun _ => ⟨h0, L', fp1, hs', ?_, f1, .inr (Nat.le_trans k1.size hL')⟩, fun e => absurd rfl e⟩
     · refine (k1.more (fp' := X :: R :: L :: bS :: fp) (fun j hj => by simp only [List.mem_cons] at hj ⊢; rcases hj with e | e <;> simp [e])).trans (k2.more (fp' := X :: R :: L :: bS :: fp) (fun j hj => by simp only [List.mem_cons, List.not_mem_nil, or_false] at hj ⊢; exact .inl hj)) (Fresh.refl _ _)
theorem begin_any (X R L g : Nat) (fp : List Nat) (gS bS : Nat) (ga gd gl : Int) (z : Z) (s : St) (l : List (List UInt8)) (life : UInt64) (base : Int) (gen : UInt64) (w : World) (hG : Gb ga gd gl) (h : SAt w X R L g fp gS bS ga gd gl z s l)
   (hl : l.length <= 800000) (hs : s.sz <= 70000000) (hf : srightF s ga gd gl = 0) (hn : (z.pages.length : Int) = pagesOf ga gd gl) (hlong : Snap.longB z.pages = false) (hb0 : 0 <= base) (hb1 : base <= 1073741824) :
   Calls Tryz.prog 43 #[.pointer (some ⟨X, 0, none⟩), sv life base gen] w fun e w' => e = .returned (.int .i64 (begF ga gd gl life base gen z.pages l s).2.2) /\
     STurn w X R L g fp gS bS ga gd gl (if (begF ga gd gl life base gen z.pages l s).2.2 = 0 then z.begun life base gen else z) (begF ga gd gl life base gen z.pages l s).2.1 (begF ga gd gl life base gen z.pages l s).1 w' := by
 have hlt := h.both.disk.lt
 have hls := h.both.sym.lt
 have hX := h.ltX
 obtain ⟨w3, hw3⟩ : ∃ w3, w3 = ((w.alloc (.cells #[.pointer (some ⟨X, 0, none⟩)] 35)).alloc (.cells #[.int .u64 (life.toNat : Int), .int .i64 base, .int .u64 (gen.toNat : Int)] 90)).alloc (.cells #[.func (.func 77) #[] #[.pointer (some ⟨w.heap.size, 0, none⟩), .pointer (some ⟨w.heap.size + 1, 0, none⟩)], .func (.func 79) #[] #[.pointer (some ⟨w.heap.size, 0, none⟩), .pointer (some ⟨w.heap.size + 1, 0, none⟩)], .func (.func 81) #[] #[.pointer (some ⟨w.heap.size + 1, 0, none⟩), .pointer (some ⟨w.heap.size, 0, none⟩)]] 122) := ⟨_, rfl⟩
 have b3 : Below w.heap.size w w3 := by rw [hw3]; exact b3alloc _ _ _ _
 have q0 : Box w3 w.heap.size (.pointer (some ⟨X, 0, none⟩)) := by rw [hw3]; exact ((Box.new w _ _).alloc _).alloc _
 have q1 : Blk w3 (w.heap.size + 1) (scell life base gen) := by rw [hw3]; simpa using (Blk.new (w.alloc (.cells #[.pointer (some ⟨X, 0, none⟩)] 35)) (scell life base gen) 90).alloc _
 have q2 : Blk w3 (w.heap.size + 1 + 1) [.func (.func 77) #[] (bcs w.heap.size (w.heap.size + 1) 0), .func (.func 79) #[] (bcs w.heap.size (w.heap.size + 1) 1), .func (.func 81) #[] (bcs w.heap.size (w.heap.size + 1) 2)] := by
   have e : ((w.alloc (.cells #[.pointer (some ⟨X, 0, none⟩)] 35)).alloc (.cells #[.int .u64 (life.toNat : Int), .int .i64 base, .int .u64 (gen.toNat : Int)] 90)).heap.size = w.heap.size + 1 + 1 := by simp
   rw [hw3, <- e]
   exact Blk.new _ _ _
 have nn : ∀ j, w.heap.size <= j -> j ∉ X :: bS :: fp := fun j hj e => by
   rcases List.mem_cons.1 e with e | e
   · omega
   · rcases List.mem_cons.1 e with e | e
     · omega
     · have := hlt _ e; omega
 have HS := Lib.hid (begin_steps X R L g fp gS bS ga gd gl z s l life base gen w.heap.size (w.heap.size + 1) (w.heap.size + 1 + 1) w3 hG (h.on b3) q0 q1 q2 (nn _ (Nat.le_refl _)) (nn _ (by omega)) (by omega) (fun e => nn (w.heap.size + 1 + 1) (by omega) (List.mem_cons_of_mem _ e)) hl hs hf hn hlong hb0 hb1)
 obtain ⟨V, hV⟩ : ∃ V, V = snapF ga gd gl life z.pages l s := ⟨_, rfl⟩
 obtain ⟨B, hB⟩ : ∃ B, B = begF ga gd gl life base gen z.pages l s := ⟨_, rfl⟩
 rw [<- hV, <- hB] at HS
 rw [<- hB]
 obtain ⟨z', hz'⟩ : ∃ z', z' = if B.2.2 = 0 then z.begun life base gen else z := ⟨_, rfl⟩
 rw [<- hz']
 have HZ := Lib.hid hz'
 have HH := Lib.hid h
 have HB3 := Lib.hid b3
 have HW := Lib.hid hw3
 clear hz' hV hB h q0 q1 q2 nn hl hs hf hn hlong hb0 hb1 hlt hls hX b3 hw3 hG
 go_enter Tryz.func43, Tryz.ntmps43
 go_wp2_with (go_at_call 38; rw [<- HW.out]; refine HS.out.mono ?_; rintro e w1 ⟨f, rfl, h1, h2⟩)
 go_ret
 by_cases hf : f = 0
 · obtain ⟨g1, g2⟩ := h1 hf
   subst hf
   rw [HZ.out, if_pos g1, g1]
   exact ⟨rfl, g2.first HB3.out⟩
 · obtain ⟨g1, g2⟩ := h2 hf
   subst g1
   rw [HZ.out, if_neg hf]
   obtain ⟨fp1, hB1, k1, f1⟩ := g2
   exact ⟨rfl, STurn.first HB3.out ⟨L, fp1, (HH.out.on HB3.out).turned hB1 k1 f1, k1.more (fun j hj => by simp only [List.mem_cons] at hj ⊢; rcases hj with e | e <;> simp [e]), f1, .inl rfl⟩⟩
end Go.Proofs.YtchcmklelmlbgaaGreat.Sto
namespace Go.Proofs.YtchcmklelmlbgaaGreat.Sto
open Go.RowKit
open Go.Proofs.YtchcmklelmlbgaaGreat.Geom
open Go.Proofs.YtchcmklelmlbgaaGreat.Disk (St DAt Did)
open Go.Proofs.YtchcmklelmlbgaaGreat.Sup (Gb gv gcell gthree srightF splace sB sL wf sv scell)
open Go.Proofs.YtchcmklelmlbgaaGreat.Snap (snapF PagesOk)
open Go.Proofs.YtchcmklelmlbgaaGreat.Wal (LAt lcell wrightF)
set_option linter.unusedVariables false
set_option maxRecDepth 100000
theorem Z.told_zero (z : Z) : z.told 0 = z := by
 unfold Z.told
 rw [show decide ((0 : Int) = 12) = false by decide, Bool.or_false]
theorem Z.told_twice (z : Z) (f : Int) : (z.told f).told f = z.told f := by
 unfold Z.told
 simp only [Bool.or_assoc, Bool.or_self]
theorem Z.renew_told (gl : Int) (z : Z) (f : Int) : (if f = 0 then z.begun (z.life + 1) (baseN gl z) z.gen else z).told f = z.renew gl f := by
 unfold Z.renew
 by_cases h : f = 0
 · subst h; rw [if_pos rfl, if_pos rfl, Z.told_zero]
 · rw [if_neg h, if_neg h]
theorem life_wrap {life : UInt64} (h : life.toNat < 4611686018427387904) : IntKind.u64.wrap ((life.toNat : Int) + 1) = ((life + 1).toNat : Int) := by
 have h1 : (life + 1).toNat = life.toNat + 1 := by simp [UInt64.toNat_add]; omega
 rw [h1]
 simp [IntKind.wrap, IntKind.signed, IntKind.bits]
 omega
structure ZOk (ga gd gl : Int) (z : Z) : Prop where
 len : (z.pages.length : Int) = pagesOf ga gd gl
 short : Snap.longB z.pages = false
set_option maxHeartbeats 1000000 in
theorem renew_any (X R L g : Nat) (fp : List Nat) (gS bS : Nat) (ga gd gl : Int) (z : Z) (s : St) (l : List (List UInt8)) (w : World) (hG : Gb ga gd gl) (h : SAt w X R L g fp gS bS ga gd gl z s l)
   (hl : l.length <= 800000) (hs : s.sz <= 70000000) (hf : srightF s ga gd gl = 0) (hz : ZOk ga gd gl z) (hd : z.dead = false) (hlife : z.life.toNat < 4611686018427387904) (hb : 0 <= z.base /\ z.base <= 1073741824) (hq : z.due = false -> z.seq <= 100000) (hnx : z.due = true -> 0 <= z.next /\ z.next <= 1073741824) (hh : z.due = false -> z.has = true) :
   Calls Tryz.prog 16 #[.pointer (some ⟨X, 0, none⟩)] w fun e w' => e = .returned (.int .i64 (renO ga gd gl z l s).2.2) /\ STurn w X R L g fp gS bS ga gd gl (renF ga gd gl z l s).1 (renO ga gd gl z l s).2.1 (renO ga gd gl z l s).1 w' := by
 have hy := right_yes (Sup.srightF_yes hf).1
 have hbn : 0 <= baseN gl z /\ baseN gl z <= 1073741824 := by
   unfold baseN
   split
   · rename_i h1; exact hnx h1
   · have := Int.emod_nonneg (z.base + (z.seq : Int)) (show gl ≠ 0 by omega)
     have := Int.emod_lt_of_pos (z.base + (z.seq : Int)) (show 0 < gl by omega)
     omega
 have HR := ready_any X R L g fp gS bS ga gd gl z s l w h
 rw [if_neg (by rw [hd]; simp)] at HR
 have hlw := life_wrap hlife
 have HBe := Lib.hid (fun W (bW : Below w.heap.size w W) => begin_any X R L g fp gS bS ga gd gl z s l (z.life + 1) (baseN gl z) z.gen W hG (h.on bW) hl hs hf hz.len hz.short hbn.1 hbn.2)
 obtain ⟨lv, c, h1, h2, h3⟩ := h.blk
 obtain ⟨z0, z1, z2, z3, z4, z5, z6, z7, z8, z9, z10, z11, z12⟩ := thirteen h1
 obtain ⟨B, hB⟩ : ∃ B, B = renO ga gd gl z l s := ⟨_, rfl⟩
 have hB2 : begF ga gd gl (z.life + 1) (baseN gl z) z.gen z.pages l s = B := hB.symm
 rw [hB2] at HBe
 have hF : (renF ga gd gl z l s).1 = z.renew gl B.2.2 := by rw [hB]; rfl
 rw [hF, <- hB]
 obtain ⟨zf, hzf⟩ : ∃ q, q = (if B.2.2 = 0 then z.begun (z.life + 1) (baseN gl z) z.gen else z) := ⟨_, rfl⟩
 rw [<- hzf] at HBe
 have HZ := Lib.hid (show z.renew gl B.2.2 = zf.told B.2.2 by rw [hzf, Z.renew_told])
 have HT := Lib.hid (fun W L' fp' hS => told_any X R L' g fp' gS bS ga gd gl zf B.2.1 B.1 B.2.2 W hS)
 obtain ⟨bn, hbn0⟩ : ∃ q, q = baseN gl z := ⟨_, rfl⟩
 obtain ⟨lf, hlf⟩ : ∃ q, q = z.life + 1 := ⟨_, rfl⟩
 rw [<- hbn0, <- hlf] at HBe
 rw [<- hlf] at hlw
 have hlX := h1.lt
 have hgt : decide ((4611686018427387904 : Int) <= (z.life.toNat : Int)) = false := decide_eq_false (by omega)
 obtain ⟨lz, hlz⟩ : ∃ q : Int, q = (z.life.toNat : Int) := ⟨_, rfl⟩
 rw [<- hlz] at hgt hlw z5
 rw [HZ.out]
 clear hzf hB hB2 hF HZ hlf hlz
 cases hdu : z.due with
 | true =>
   rw [hdu] at z11
   have hbe : z.next = bn := by rw [hbn0]; unfold baseN; rw [if_pos hdu]
   rw [hbe] at z9
   clear h h1 h2 h3 hbe hbn0 hdu hl hs hf hz hd hlife hb hq hnx hbn hy hG hh
   go_enter Tryz.func16, Tryz.ntmps16
   go_upto_region 9 with (go_at_call 44; refine (HR).mono ?_; rintro e w' ⟨rfl, rfl⟩)
   refine region_three [0] [1, 2, 3, 4, 5, 6, 7, 8, 9, 10, 11, 12, 13, 14] 15 (by kernel_rfl) (by kernel_rfl) (fun c d v a w h => by cases d <;> exact h) ?_
   simp only [preAct, preOne, opsAt, List.foldl_cons, List.foldl_nil, List.getElem?_cons_zero, List.getD_cons_zero, List.getD_cons_succ, List.drop_succ_cons, List.drop_zero]
   have inbNe := InB.some
   have inbW := @wrap_small
   have inbU := IntKind.wrap_u8'
   repeat (refine wpQuiet_step (fun K hK => ?_); go_simp; first | (refine hK _ ?_; clear hK K) | (apply Exists.intro; refine ⟨?_, hK _ ?_⟩; (· (intro w' hw'; first | (have hcw := hw'.cell; go_simp; exact rfl))); clear hK K))
   refine wpQuiet_nil ?_
   intro wq hq
   clear inbNe inbW inbU
   go_wp2_with (first
     | (go_at_call 43; refine (HBe.out _ hq.below).mono ?_; rintro e w1 ⟨rfl, L1, fp1, hS1, k1, f1⟩)
     | (go_at_call 47; refine (HT.out _ L1 fp1 hS1).mono ?_; rintro e w2 ⟨rfl, t2⟩))
   go_ret
   exact ⟨rfl, STurn.first hq.below (STurn.trans k1 f1 t2)⟩
 | false =>
   rw [hdu] at z11
   rw [h2 (hh hdu)] at z8
   have hbe : (z.base + (z.seq : Int)) % gl = bn := by rw [hbn0]; unfold baseN; rw [if_neg (by rw [hdu]; simp)]
   have HN := Wal.next_any L g gS ga gd gl z.life z.base z.seq w (h.log (hh hdu)).1 (hq hdu) hb.1 hb.2 (by omega) (by omega)
   rw [hbe] at HN
   have HNx := Lib.hid HN
   clear HN h h1 h2 h3 hbe hbn0 hdu hl hs hf hz hd hlife hb hq hnx hbn hy hG hh
   go_enter Tryz.func16, Tryz.ntmps16
   go_upto_region 9 with (first
     | (go_at_call 44; refine (HR).mono ?_; rintro e w' ⟨rfl, rfl⟩)
     | (go_at_call 49; refine HNx.out.mono ?_; rintro e w0 ⟨rfl, b0⟩; have y5 := (World.cell?_of_block (b0.block _ hlX)).trans z5; have y7 := (World.cell?_of_block (b0.block _ hlX)).trans z7; have hlX0 := Nat.lt_of_lt_of_le hlX b0.size))
   refine region_three [0] [1, 2, 3, 4, 5, 6, 7, 8, 9, 10, 11, 12, 13, 14] 15 (by kernel_rfl) (by kernel_rfl) (fun c d v a w h => by cases d <;> exact h) ?_
   simp only [preAct, preOne, opsAt, List.foldl_cons, List.foldl_nil, List.getElem?_cons_zero, List.getD_cons_zero, List.getD_cons_succ, List.drop_succ_cons, List.drop_zero]
   have inbNe := InB.some
   have inbW := @wrap_small
   have inbU := IntKind.wrap_u8'
   repeat (refine wpQuiet_step (fun K hK => ?_); go_simp; first | (refine hK _ ?_; clear hK K) | (apply Exists.intro; refine ⟨?_, hK _ ?_⟩; (· (intro w' hw'; first | (have hcw := hw'.cell; go_simp; exact rfl))); clear hK K))
   refine wpQuiet_nil ?_
   intro wq hq
   clear inbNe inbW inbU
   go_wp2_with (first
     | (go_at_call 43; refine (HBe.out _ (bt b0 hq.below)).mono ?_; rintro e w1 ⟨rfl, L1, fp1, hS1, k1, f1⟩)
     | (go_at_call 47; refine (HT.out _ L1 fp1 hS1).mono ?_; rintro e w2 ⟨rfl, t2⟩))
   go_ret
   exact ⟨rfl, STurn.first (bt b0 hq.below) (STurn.trans k1 f1 t2)⟩
end Go.Proofs.YtchcmklelmlbgaaGreat.Sto
namespace Go.Proofs.YtchcmklelmlbgaaGreat.Sto
open Go.RowKit
open Go.Proofs.YtchcmklelmlbgaaGreat.Geom
open Go.Proofs.YtchcmklelmlbgaaGreat.Disk (St DAt Did)
open Go.Proofs.YtchcmklelmlbgaaGreat.Sup (Gb gv gcell gthree srightF splace sB sL wf sv scell)
open Go.Proofs.YtchcmklelmlbgaaGreat.Snap (snapF PagesOk)
open Go.Proofs.YtchcmklelmlbgaaGreat.Wal (LAt lcell wrightF WTurn putF whyF whyF_zero badB fitsB)
set_option linter.unusedVariables false
set_option maxRecDepth 100000
def Z.seqUp (z : Z) (n : Nat) (f : Int) : Z := if f = 0 then { z with seq := z.seq + (n + 1) } else z
def Z.setGen (z : Z) (gen : UInt64) : Z := { z with gen := gen }
theorem Z.append_yes (z : Z) (pages : List Pg) (gen : UInt64) : ((z.seqUp pages.length 0).put pages).setGen gen = z.append pages gen 0 := rfl
theorem Z.append_no (z : Z) (pages : List Pg) (gen : UInt64) {f : Int} (hf : f ≠ 0) : (z.seqUp pages.length f).told f = z.append pages gen f := by
 unfold Z.seqUp Z.append
 rw [if_neg hf, if_neg hf]
theorem SAt.appended {w w' : World} {X R L g : Nat} {fp : List Nat} {gS bS : Nat} {ga gd gl : Int} {z : Z} {s s' : St} {l l' : List (List UInt8)} {n : Nat} {f : Int} (h : SAt w X R L g fp gS bS ga gd gl z s l) (hdu : z.has = true) (t : WTurn w g fp gS bS L ga gd gl z.life z.base s' l' (if f = 0 then z.seq + (n + 1) else z.seq) w') :
   STurn w X R L g fp gS bS ga gd gl (z.seqUp n f) s' l' w' := by
 obtain ⟨fp', hb, k, fr, hL⟩ := t
 obtain ⟨lv, c, h1, h2, h3⟩ := h.blk
 have hX := h.ltX
 obtain ⟨x1, x2, x3, x4⟩ := h.nX
 obtain ⟨r1, r2, r3, r4⟩ := h.nR
 obtain ⟨l1, l2, l3⟩ := h.nL
 have hLx := (h.log hdu).2
 have e : z.seqUp n f = { z with seq := if f = 0 then z.seq + (n + 1) else z.seq } := by
   unfold Z.seqUp
   split <;> rfl
 rw [e]
 refine ⟨L, fp', ⟨hb, ⟨lv, c, h1.keepK k (by simp only [List.mem_cons, not_or]; exact ⟨fun e => hLx e.symm, x2, x4⟩), h2, h3.move k (by simp only [List.mem_cons, not_or]; exact ⟨r1, r2, r4⟩) (fun j hj hlt => ⟨by simp only [List.mem_cons, not_or]; exact ⟨hj.2.2.1, hj.2.2.2.1, hj.2.2.2.2.2⟩, hj.fresh hlt fr⟩)⟩, fun _ => ⟨hL, hLx⟩, ⟨x1, x2, x3, fr.out hX.1 x4⟩, ⟨r1, r2, r3, fr.out hX.2 r4⟩, ⟨l1, l2, fr.out h.lt l3⟩, Nat.lt_of_lt_of_le h.lt k.size⟩,
   k.more (fun j hj => by simp only [List.mem_cons] at hj ⊢; rcases hj with e | e | e <;> simp [e]), fr, .inl rfl⟩
theorem SAt.gen {w : World} {X R L g : Nat} {fp : List Nat} {gS bS : Nat} {ga gd gl : Int} {z : Z} {s : St} {l : List (List UInt8)} (h : SAt w X R L g fp gS bS ga gd gl z s l) (gen : UInt64) : SAt (w.setCell ⟨X, 7, none⟩ (.int .u64 (gen.toNat : Int))) X R L g fp gS bS ga gd gl (z.setGen gen) s l /\ Keep [X] w (w.setCell ⟨X, 7, none⟩ (.int .u64 (gen.toNat : Int))) := by
 obtain ⟨lv, c, h1, h2, h3⟩ := h.blk
 obtain ⟨x1, x2, x3, x4⟩ := h.nX
 obtain ⟨r1, r2, r3, r4⟩ := h.nR
 have hk : Keep [X] w (w.setCell ⟨X, 7, none⟩ (.int .u64 (gen.toNat : Int))) := (Keep.refl _ _).set (.inl (by simp)) _
 refine ⟨⟨⟨h.both.disk.keep hk (fun j hj e => x4 (by rw [List.mem_singleton] at e; exact e ▸ hj)), h.both.sym.keepK hk (by simp; exact fun e => x3 e.symm) (by simp; exact fun e => x2 e.symm), h.both.nS, h.both.nB⟩, ⟨lv, c, (h1.set (k := 7) _ : Blk _ X (xc g gS ga gd gl (z.setGen gen) lv (.slice (some ⟨R, 0, none⟩) z.pages.length c))), h2, h3.move hk (by simp; exact fun e => x1 e.symm) (fun j hj hlt => ⟨by simp; exact hj.1, hj⟩)⟩,
   fun hd => ⟨Blk.other (h.log hd).1 _ (h.log hd).2, (h.log hd).2⟩, h.nX, h.nR, h.nL, Nat.lt_of_lt_of_le h.lt hk.size⟩, hk⟩
theorem app_any (X R L g : Nat) (fp : List Nat) (gS bS : Nat) (ga gd gl : Int) (z : Z) (s : St) (l : List (List UInt8)) (Q : Nat -> Prop) (A : Option Addr) (pages : List Pg) (c : Nat) (gen : UInt64) (w : World) (hG : Gb ga gd gl) (h : SAt w X R L g fp gS bS ga gd gl z s l) (hdu : z.has = true)
   (hr : Pgs w Q A pages) (hQ : ∀ j, Q j -> j < w.heap.size -> Off X R L bS gS fp j) (hw : whyF ga gd gl z.seq pages = 0) (hl : l.length <= 900000) (hs : s.sz <= 80000000) (hb : 0 <= z.base /\ z.base <= 1073741824) :
   Calls Tryz.prog 45 #[.pointer (some ⟨L, 0, none⟩), .slice A pages.length c, .int .u64 (gen.toNat : Int)] w fun e w' => e = .returned (.int .i64 (appO ga gd gl z pages gen l s).2.2) /\
     STurn w X R L g fp gS bS ga gd gl (z.seqUp pages.length (appO ga gd gl z pages gen l s).2.2) (appO ga gd gl z pages gen l s).2.1 (appO ga gd gl z pages gen l s).1 w' := by
 obtain ⟨w1, w2, w3⟩ := whyF_zero hw
 obtain ⟨l1, l2, l3⟩ := h.nL
 refine (Wal.append_any g fp s gS bS l L ga gd gl z.life z.base z.seq Q A pages c gen w hG h.both (h.log hdu).1 (by simp only [List.mem_cons, not_or]; exact ⟨l1, l2, l3⟩) hl hs hb.1 hb.2 hr (fun j hj hlt => by have := hQ j hj hlt; simp only [List.mem_cons, not_or]; exact ⟨this.2.2.1, this.2.2.2.1, this.2.2.2.2.2⟩) w1 w2 w3).mono ?_
 rintro e w' ⟨rfl, t⟩
 exact ⟨rfl, h.appended hdu t⟩
theorem app_no (X R L g : Nat) (fp : List Nat) (gS bS : Nat) (ga gd gl : Int) (z : Z) (s : St) (l : List (List UInt8)) (Q : Nat -> Prop) (A : Option Addr) (pages : List Pg) (c : Nat) (gen : UInt64) (w : World) (hG : Gb ga gd gl) (h : SAt w X R L g fp gS bS ga gd gl z s l) (hdu : z.has = true)
   (hr : Pgs w Q A pages) (hcl : pages.length <= 1000000) (hq : z.seq <= 100000) (hg : 0 <= gl) (hg1 : gl <= 100000) (hw : whyF ga gd gl z.seq pages ≠ 0) :
   Calls Tryz.prog 45 #[.pointer (some ⟨L, 0, none⟩), .slice A pages.length c, .int .u64 (gen.toNat : Int)] w fun e w' => e = .returned (.int .i64 (whyF ga gd gl z.seq pages)) /\ Below w.heap.size w w' :=
 Wal.append_no L g gS ga gd gl z.life z.base z.seq Q A pages c gen w hG (h.log hdu).1 hr hcl hq hg hg1 hw
set_option maxHeartbeats 1000000 in
theorem commit1_any (X R L g : Nat) (fp : List Nat) (gS bS : Nat) (ga gd gl : Int) (z : Z) (s : St) (l : List (List UInt8)) (Q : Nat -> Prop) (A : Option Addr) (pages : List Pg) (c : Nat) (gen : UInt64) (bX bL bG : Nat) (w : World) (hG : Gb ga gd gl) (h : SAt w X R L g fp gS bS ga gd gl z s l) (hdu : z.has = true)
   (hX : Box w bX (.pointer (some ⟨X, 0, none⟩))) (hL : Box w bL (.slice A pages.length c)) (hE : Box w bG (.int .u64 (gen.toNat : Int)))
   (hr : Pgs w Q A pages) (hQ : ∀ j, Q j -> j < w.heap.size -> Off X R L bS gS fp j) (hw : whyF ga gd gl z.seq pages = 0) (hl : l.length <= 900000) (hs : s.sz <= 80000000) (hb : 0 <= z.base /\ z.base <= 1073741824) :
   Calls Tryz.prog 46 #[.pointer (some ⟨bX, 0, none⟩), .pointer (some ⟨bL, 0, none⟩), .pointer (some ⟨bG, 0, none⟩)] w fun e w' => e = .returned (.int .i64 (appO ga gd gl z pages gen l s).2.2) /\
     STurn w X R L g fp gS bS ga gd gl (z.seqUp pages.length (appO ga gd gl z pages gen l s).2.2) (appO ga gd gl z pages gen l s).2.1 (appO ga gd gl z pages gen l s).1 w' := by
 obtain ⟨lv, c', h1, h2, h3⟩ := h.blk
 obtain ⟨z0, z1, z2, z3, z4, z5, z6, z7, z8, z9, z10, z11, z12⟩ := thirteen h1
 rw [h2 hdu] at z8
 have q0 := hX.cell
 have q1 := hL.cell
 have q2 := hE.cell
 have e0 := hX.lt
 have e1 := hL.lt
 have e2 := hE.lt
 have hlX := h1.lt
 have HA := Lib.hid (fun W (bW : Below w.heap.size w W) => app_any X R L g fp gS bS ga gd gl z s l (fun j => Q j /\ j < w.heap.size) A pages c gen W hG (h.on bW) hdu ((hr.imp (fun j hj hq => ⟨hq, hj⟩)).on bW) (fun j hj _ => hQ j hj.1 hj.2) hw hl hs hb)
 obtain ⟨V, hV⟩ : ∃ V, V = appO ga gd gl z pages gen l s := ⟨_, rfl⟩
 rw [<- hV] at HA ⊢
 obtain ⟨zf, hzf⟩ : ∃ q, q = z.seqUp pages.length V.2.2 := ⟨_, rfl⟩
 rw [<- hzf] at HA ⊢
 clear hzf hV h h1 h2 h3 hX hL hE hr hQ hw hl hs hb hG hdu
 go_enter Tryz.func46, Tryz.ntmps46
 go_wp2_with fail
 refine region_inb_tail 6 (by kernel_rfl) (by kernel_rfl) ?_
 simp only [List.take_succ_cons, List.take_zero, List.drop_succ_cons, List.drop_zero]
 have inbNe := InB.some
 have inbW := @wrap_small
 have inbU := IntKind.wrap_u8'
 repeat (refine wpQuiet_step (fun K hK => ?_); go_simp; first | (refine hK _ ?_; clear hK K) | (apply Exists.intro; refine ⟨?_, hK _ ?_⟩; (· (intro w' hw'; first | (have hcw := hw'.cell; go_simp; exact rfl))); clear hK K))
 refine wpQuiet_nil ?_
 intro wq hq
 clear inbNe inbW inbU
 go_wp2_with (go_at_call 45; refine (HA.out _ hq.below).mono ?_; rintro e w1 ⟨rfl, t1⟩)
 go_ret
 exact ⟨rfl, STurn.first hq.below t1⟩
end Go.Proofs.YtchcmklelmlbgaaGreat.Sto
namespace Go.Proofs.YtchcmklelmlbgaaGreat.Sto
open Go.RowKit
open Go.Proofs.YtchcmklelmlbgaaGreat.Geom
open Go.Proofs.YtchcmklelmlbgaaGreat.Disk (St DAt Did)
open Go.Proofs.YtchcmklelmlbgaaGreat.Sup (Gb gv gcell gthree srightF splace sB sL wf sv scell)
open Go.Proofs.YtchcmklelmlbgaaGreat.Snap (snapF PagesOk)
open Go.Proofs.YtchcmklelmlbgaaGreat.Wal (LAt lcell wrightF WTurn putF whyF whyF_zero badB fitsB)
set_option linter.unusedVariables false
set_option maxRecDepth 100000
theorem STurn.keepOf {w w' : World} {X R L g : Nat} {fp : List Nat} {gS bS : Nat} {ga gd gl : Int} {z : Z} {s : St} {l : List (List UInt8)} (h : STurn w X R L g fp gS bS ga gd gl z s l w') : Keep (X :: R :: L :: bS :: fp) w w' := by obtain ⟨_, _, _, k, _⟩ := h; exact k
def CIn (w3 : World) (X R L g : Nat) (fp : List Nat) (gS bS : Nat) (ga gd gl : Int) (z1 z2 : Z) (V B : Out) : Nat -> World -> Prop
 | 0, W => W = w3
 | 1, W => V.2.2 = 0 /\ STurn w3 X R L g fp gS bS ga gd gl z1 V.2.1 V.1 W
 | _, W => V.2.2 = 0 /\ B.2.2 = 0 /\ STurn w3 X R L g fp gS bS ga gd gl z2 B.2.1 B.1 W
def COut (w3 : World) (X R L g : Nat) (fp : List Nat) (gS bS : Nat) (ga gd gl : Int) (z1 z2 : Z) (V B : Out) (f : Int) (W : World) : Prop :=
 (f = V.2.2 /\ STurn w3 X R L g fp gS bS ga gd gl z1 V.2.1 V.1 W) \/ (V.2.2 = 0 /\ f = B.2.2 /\ STurn w3 X R L g fp gS bS ga gd gl z2 B.2.1 B.1 W)
def cks : Nat -> FuncId
 | 0 => 16
 | _ => 46
def crs (X : Nat) : Nat -> Array Value
 | 0 => #[.pointer (some ⟨X, 0, none⟩)]
 | _ => #[]
def ccs (bX bL bG : Nat) : Nat -> Array Value
 | 0 => #[]
 | _ => #[.pointer (some ⟨bX, 0, none⟩), .pointer (some ⟨bL, 0, none⟩), .pointer (some ⟨bG, 0, none⟩)]
theorem offKeep {X R L bS gS : Nat} {fp : List Nat} {j : Nat} (h : Off X R L bS gS fp j) : j ∉ X :: R :: L :: bS :: fp := by
 simp only [List.mem_cons, not_or]; exact ⟨h.1, h.2.1, h.2.2.1, h.2.2.2.1, h.2.2.2.2.2⟩
theorem offFresh {w : World} {X R L L' bS gS : Nat} {fp fp' : List Nat} {j : Nat} (h : Off X R L bS gS fp j) (hj : j < w.heap.size) (f : Fresh w (L :: fp) (L' :: fp')) : Off X R L' bS gS fp' j := by
 have h1 : j ∉ L' :: fp' := f.out hj (by simp only [List.mem_cons, not_or]; exact ⟨h.2.2.1, h.2.2.2.2.2⟩)
 simp only [List.mem_cons, not_or] at h1
 exact ⟨h.1, h.2.1, h1.1, h.2.2.2.1, h.2.2.2.2.1, h1.2⟩
theorem commit_steps (X R L g : Nat) (fp : List Nat) (gS bS : Nat) (ga gd gl : Int) (z : Z) (s : St) (l : List (List UInt8)) (Q : Nat -> Prop) (A : Option Addr) (pages : List Pg) (c : Nat) (gen : UInt64) (bX bL bG bF : Nat) (w : World) (hG : Gb ga gd gl) (h : SAt w X R L g fp gS bS ga gd gl z s l)
   (hX : Box w bX (.pointer (some ⟨X, 0, none⟩))) (hL : Box w bL (.slice A pages.length c)) (hE : Box w bG (.int .u64 (gen.toNat : Int)))
   (hF : Blk w bF [.func (.func 16) (crs X 0) #[], .func (.func 46) #[] (ccs bX bL bG 1)])
   (nX : bX ∉ X :: R :: L :: bS :: fp) (nL : bL ∉ X :: R :: L :: bS :: fp) (nG : bG ∉ X :: R :: L :: bS :: fp) (nF : bF ∉ X :: R :: L :: bS :: fp)
   (hr : Pgs w Q A pages) (hQ : ∀ j, Q j -> j < w.heap.size -> Off X R L bS gS fp j) (hw : whyF ga gd gl z.seq pages = 5)
   (hl : l.length <= 800000) (hs : s.sz <= 70000000) (hf : srightF s ga gd gl = 0) (hz : ZOk ga gd gl z) (hd : z.dead = false) (hdu : z.due = false) (hh : z.has = true) (hlife : z.life.toNat < 4611686018427387904) (hb : 0 <= z.base /\ z.base <= 1073741824) (hq : z.seq <= 100000) :
   Calls Tryz.prog 38 #[.slice (some ⟨bF, 0, none⟩) 2 2] w fun e w' => ∃ f : Int, e = .returned (.int .i64 f) /\
     (f = 0 -> CIn w X R L g fp gS bS ga gd gl (renF ga gd gl z l s).1 ((renF ga gd gl z l s).1.seqUp pages.length (appO ga gd gl (renF ga gd gl z l s).1 pages gen (renO ga gd gl z l s).1 (renO ga gd gl z l s).2.1).2.2) (renO ga gd gl z l s) (appO ga gd gl (renF ga gd gl z l s).1 pages gen (renO ga gd gl z l s).1 (renO ga gd gl z l s).2.1) 2 w') /\
     (f ≠ 0 -> COut w X R L g fp gS bS ga gd gl (renF ga gd gl z l s).1 ((renF ga gd gl z l s).1.seqUp pages.length (appO ga gd gl (renF ga gd gl z l s).1 pages gen (renO ga gd gl z l s).1 (renO ga gd gl z l s).2.1).2.2) (renO ga gd gl z l s) (appO ga gd gl (renF ga gd gl z l s).1 pages gen (renO ga gd gl z l s).1 (renO ga gd gl z l s).2.1) f w') := by
 have hpb := pagesOf_bd ga gd gl
 have hy := right_yes (Sup.srightF_yes hf).1
 have hbn : 0 <= baseN gl z /\ baseN gl z <= 1073741824 := by
   unfold baseN
   rw [if_neg (by rw [hdu]; simp)]
   have := Int.emod_nonneg (z.base + (z.seq : Int)) (show gl ≠ 0 by omega)
   have := Int.emod_lt_of_pos (z.base + (z.seq : Int)) (show 0 < gl by omega)
   omega
 have hzl := hz.len
 have lim : (renO ga gd gl z l s).1.length <= l.length + (z.pages.length + 1) /\ (renO ga gd gl z l s).2.1.sz <= s.sz + 2 * (z.pages.length + 2) := begF_lim _ _ _ _ _ _ _ _ _
 have h1 : (renO ga gd gl z l s).2.2 = 0 -> (renF ga gd gl z l s).1.has = true /\ (renF ga gd gl z l s).1.seq = 0 /\ (renF ga gd gl z l s).1.base = baseN gl z := fun e => by
   unfold renF Z.renew
   simp only
   rw [if_pos e]
   exact ⟨rfl, rfl, rfl⟩
 have hw0 := why_first hw
 have hR := fun (W : World) (hW : W = w) => by
   subst hW
   exact renew_any X R L g fp gS bS ga gd gl z s l W hG h hl hs hf hz hd hlife hb (fun _ => hq) (fun e => by rw [hdu] at e; cases e) (fun _ => hh)
 obtain ⟨V, hV⟩ : ∃ V, V = renO ga gd gl z l s := ⟨_, rfl⟩
 obtain ⟨z1, hz1⟩ : ∃ q, q = (renF ga gd gl z l s).1 := ⟨_, rfl⟩
 rw [<- hV] at lim h1 hR ⊢
 rw [<- hz1] at h1 hR ⊢
 refine steps_any 2 2 bF 0 cks (crs X) (ccs bX bL bG) (CIn w X R L g fp gS bS ga gd gl z1 _ V _) (COut w X R L g fp gS bS ga gd gl z1 _ V _) w (by omega) rfl ?_ ?_ ?_
 · intro i hi W hI
   have hk : Keep (X :: R :: L :: bS :: fp) w W := by
     match i, hi, hI with
     | 0, _, hI => rw [show W = w from hI]; exact Keep.refl _ _
     | 1, _, hI => exact hI.2.keepOf
   have hF' := hF.keepK hk nF
   match i, hi with
   | 0, _ => exact hF'.cell (k := 0) (by simp)
   | 1, _ => exact hF'.cell (k := 1) (by simp)
 · intro i hi x W
   match i, hi with
   | 0, _ => simp [go_sem, cks]
   | 1, _ => simp [go_sem, cks]
 · intro i hi W hI
   match i, hi, hI with
   | 0, _, hI =>
     rw [show crs X 0 ++ ccs bX bL bG 0 = #[.pointer (some ⟨X, 0, none⟩)] from by simp [crs, ccs]]
     have hw' : W = w := hI
     rw [hw']
     refine Calls.mono (hR w rfl) ?_
     rintro e w' ⟨rfl, t⟩
     exact ⟨_, rfl, fun e => ⟨e, t⟩, fun e => .inl ⟨rfl, t⟩⟩
   | 1, _, hI =>
     obtain ⟨h0, L1, fp1, hS1, k1, f1⟩ := hI
     obtain ⟨g1, g2, g3⟩ := h1 h0
     have hc := commit1_any X R L1 g fp1 gS bS ga gd gl z1 V.2.1 V.1 (fun j => Q j /\ j < w.heap.size) A pages c gen bX bL bG W hG hS1 g1 (hX.keep k1 nX) (hL.keep k1 nL) (hE.keep k1 nG)
       ((hr.imp (fun j hj hq => ⟨hq, hj⟩)).keep k1 (fun j hj _ => offKeep (hQ j hj.1 hj.2))) (fun j hj _ => offFresh (hQ j hj.1 hj.2) hj.2 f1.all) (by rw [g2]; exact hw0) (by omega) (by omega) (by rw [g3]; exact hbn)
     rw [show crs X 1 ++ ccs bX bL bG 1 = #[.pointer (some ⟨bX, 0, none⟩), .pointer (some ⟨bL, 0, none⟩), .pointer (some ⟨bG, 0, none⟩)] from by simp [crs, ccs]]
     refine Calls.mono hc ?_
     rintro e w' ⟨rfl, t⟩
     have t2 := STurn.trans k1 f1 t
     exact ⟨_, rfl, fun e => ⟨h0, e, t2⟩, fun e => .inr ⟨h0, rfl, t2⟩⟩
end Go.Proofs.YtchcmklelmlbgaaGreat.Sto
namespace Go.Proofs.YtchcmklelmlbgaaGreat.Sto
open Go.RowKit
open Go.Proofs.YtchcmklelmlbgaaGreat.Geom
open Go.Proofs.YtchcmklelmlbgaaGreat.Disk (St DAt Did)
open Go.Proofs.YtchcmklelmlbgaaGreat.Sup (Gb gv gcell gthree srightF splace sB sL wf sv scell)
open Go.Proofs.YtchcmklelmlbgaaGreat.Snap (snapF PagesOk)
open Go.Proofs.YtchcmklelmlbgaaGreat.Wal (LAt lcell wrightF WTurn putF whyF whyF_zero badB fitsB)
set_option linter.unusedVariables false
set_option maxRecDepth 100000
theorem write_five (s : St) (p : Int) (b : List UInt8) : (Disk.write s p b).2 ≠ 5 := by
 unfold Disk.write Disk.burn
 split
 · simp
 · split
   · simp
   · split
     · simp
     · split
       · simp
       · split <;> simp
theorem flush_five (s : St) : (Disk.flush s).2 ≠ 5 := by
 unfold Disk.flush Disk.burn
 split
 · simp
 · split
   · simp
   · split
     · simp
     · split <;> simp
theorem encs_five : ∀ (is : List Enc.Itm) (l : List (List UInt8)) (s : St), (Enc.encs is l s).2.2 ≠ 5
 | [], l, s => by rw [Enc.encs_nil]; simp
 | i :: r, l, s => by
   by_cases h : (Disk.write s i.1 (Enc.xB l i.1 i.2)).2 = 0
   · rw [Enc.encs_go h]; exact encs_five r _ _
   · rw [Enc.encs_stop h]; exact write_five _ _ _
theorem enf_five (is : List Enc.Itm) (l : List (List UInt8)) (s : St) : (Enc.enf is l s).2.2 ≠ 5 := by
 unfold Enc.enf
 split
 · exact flush_five _
 · exact encs_five is l s
theorem appO_five (ga gd gl : Int) (z : Z) (pages : List Pg) (gen : UInt64) (l : List (List UInt8)) (s : St) : (appO ga gd gl z pages gen l s).2.2 ≠ 5 := by
 unfold appO putF
 split
 · exact enf_five _ _ _
 · exact enf_five _ _ _
theorem Z.told_other (z : Z) {f : Int} (h : f ≠ 12) : z.told f = z := by
 unfold Z.told
 rw [decide_eq_false h, Bool.or_false]
theorem commit_due (X R L g : Nat) (fp : List Nat) (gS bS : Nat) (ga gd gl : Int) (z : Z) (s : St) (l : List (List UInt8)) (A : Option Addr) (n c : Nat) (gen : UInt64) (w : World) (h : SAt w X R L g fp gS bS ga gd gl z s l) (hd : z.dead = false) (hdu : z.due = true) : Calls Tryz.prog 15 #[.pointer (some ⟨X, 0, none⟩), .slice A n c, .int .u64 (gen.toNat : Int)] w fun e w' => e = .returned (.int .i64 14) /\ Below w.heap.size w w' := by
 have b3 := b3alloc w (.cells #[.pointer (some ⟨X, 0, none⟩)] 35) (.cells #[.slice A n c] 38) (.cells #[.int .u64 (gen.toNat : Int)] 39)
 have HR := Lib.hid (fun W (bW : Below w.heap.size w W) => ready_any X R L g fp gS bS ga gd gl z s l W (h.on bW))
 rw [if_neg (by rw [hd]; simp)] at HR
 obtain ⟨lv, c', h1, h2, h3⟩ := h.blk
 obtain ⟨z0, z1, z2, z3, z4, z5, z6, z7, z8, z9, z10, z11, z12⟩ := thirteen (h1.on b3)
 rw [hdu] at z11
 have hlX := h1.lt
 clear h hd h1 h2 h3 z0 z1 z2 z3 z4 z5 z6 z7 z8 z9 z10 z12
 go_enter Tryz.func15, Tryz.ntmps15
 go_wp2_with (go_at_call 44; refine (HR.out _ b3).mono ?_; rintro e w' ⟨rfl, rfl⟩)
 go_ret
 exact ⟨rfl, b3⟩
set_option maxHeartbeats 2000000 in
theorem commit_any (X R L g : Nat) (fp : List Nat) (gS bS : Nat) (ga gd gl : Int) (z : Z) (s : St) (l : List (List UInt8)) (Q : Nat -> Prop) (A : Option Addr) (pages : List Pg) (c : Nat) (gen : UInt64) (w : World) (hG : Gb ga gd gl) (h : SAt w X R L g fp gS bS ga gd gl z s l)
   (hr : Pgs w Q A pages) (hQ : ∀ j, Q j -> j < w.heap.size -> Off X R L bS gS fp j) (hcl : pages.length <= 1000)
   (hl : l.length <= 800000) (hs : s.sz <= 70000000) (hf : srightF s ga gd gl = 0) (hz : ZOk ga gd gl z) (hd : z.dead = false) (hdu : z.due = false) (hh : z.has = true) (hlife : z.life.toNat < 4611686018427387904) (hb : 0 <= z.base /\ z.base <= 1073741824) (hq : z.seq <= 100000) :
   Calls Tryz.prog 15 #[.pointer (some ⟨X, 0, none⟩), .slice A pages.length c, .int .u64 (gen.toNat : Int)] w fun e w' => e = .returned (.int .i64 (comF ga gd gl z pages gen l s).2.2.2) /\
     STurn w X R L g fp gS bS ga gd gl (comF ga gd gl z pages gen l s).1 (comF ga gd gl z pages gen l s).2.2.1 (comF ga gd gl z pages gen l s).2.1 w' := by
 have hy := right_yes (Sup.srightF_yes hf).1
 have hpb := pagesOf_bd ga gd gl
 have hzl := hz.len
 obtain ⟨w1, hw1⟩ : ∃ w1, w1 = ((w.alloc (.cells #[.pointer (some ⟨X, 0, none⟩)] 35)).alloc (.cells #[.slice A pages.length c] 38)).alloc (.cells #[.int .u64 (gen.toNat : Int)] 39) := ⟨_, rfl⟩
 have b3 : Below w.heap.size w w1 := by rw [hw1]; exact b3alloc _ _ _ _
 have q0 : Box w1 w.heap.size (.pointer (some ⟨X, 0, none⟩)) := by rw [hw1]; exact ((Box.new w _ _).alloc _).alloc _
 have q1 : Box w1 (w.heap.size + 1) (.slice A pages.length c) := by rw [hw1]; simpa using (Box.new (w.alloc (.cells #[.pointer (some ⟨X, 0, none⟩)] 35)) 38 (.slice A pages.length c)).alloc _
 have q2 : Box w1 (w.heap.size + 1 + 1) (.int .u64 (gen.toNat : Int)) := by rw [hw1]; simpa using Box.new ((w.alloc (.cells #[.pointer (some ⟨X, 0, none⟩)] 35)).alloc (.cells #[.slice A pages.length c] 38)) 39 (.int .u64 (gen.toNat : Int))
 have hlt := h.both.disk.lt
 have hls := h.both.sym.lt
 have hXR := h.ltX
 have hLl := h.lt
 have nn : ∀ j, w.heap.size <= j -> j ∉ X :: R :: L :: bS :: fp := fun j hj e => by
   simp only [List.mem_cons] at e
   rcases e with e | e | e | e | e
   · omega
   · omega
   · omega
   · omega
   · have := hlt _ e; omega
 have HR := Lib.hid (fun W (bW : Below w.heap.size w W) => ready_any X R L g fp gS bS ga gd gl z s l W (h.on bW))
 rw [if_neg (by rw [hd]; simp)] at HR
 obtain ⟨lv, c', h1, h2, h3⟩ := h.blk
 obtain ⟨z0, z1, z2, z3, z4, z5, z6, z7, z8, z9, z10, z11, z12⟩ := thirteen (h1.on b3)
 rw [hdu] at z11
 rw [h2 hh] at z8
 have hlX : X < w1.heap.size := Nat.lt_of_lt_of_le h1.lt b3.size
 have y0 := q0.cell
 have y1 := q1.cell
 have y2 := q2.cell
 have l0 := q0.lt
 have l1 := q1.lt
 have l2 := q2.lt
 have HK := Lib.hid (fun W (k : Keep (X :: R :: L :: bS :: fp) w1 W) => show W.cell? ⟨w.heap.size, 0, none⟩ = some (.pointer (some ⟨X, 0, none⟩)) /\ W.cell? ⟨w.heap.size + 1, 0, none⟩ = some (.slice A pages.length c) /\ W.cell? ⟨w.heap.size + 1 + 1, 0, none⟩ = some (.int .u64 (gen.toNat : Int)) from
   ⟨(q0.keep k (nn _ (by omega))).cell, (q1.keep k (nn _ (by omega))).cell, (q2.keep k (nn _ (by omega))).cell⟩)
 have HPg := Lib.hid (fun W (k : Keep (X :: R :: L :: bS :: fp) w1 W) => show Pgs W (fun j => Q j /\ j < w.heap.size) A pages from (((hr.imp (fun j hj hq => (⟨hq, hj⟩ : Q j /\ j < w.heap.size))).on b3).keep k (fun j hj _ => offKeep (hQ j hj.1 hj.2))))
 have HT := Lib.hid (fun W L' fp' zz s' l' f hS => told_any X R L' g fp' gS bS ga gd gl zz s' l' f W hS)
 have HW := Lib.hid hw1
 have HB := Lib.hid b3
 have HH := Lib.hid h
 have HQ := Lib.hid hQ
 have q0' := Lib.hid q0
 have q1' := Lib.hid q1
 have q2' := Lib.hid q2
 have nn' := Lib.hid nn
 have hb0 := Lib.hid hb
 have HHdu := Lib.hid hdu
 clear z0 z1 z2 z3 z4 z5 z6 z7 z9 z10 z12 hw1 h1 h2 h3 q0 q1 q2 nn hlt hls hXR hLl
 by_cases hw0 : whyF ga gd gl z.seq pages = 0
 · have hcom : comF ga gd gl z pages gen l s = appF ga gd gl z pages gen l s := if_pos hw0
   have HA := Lib.hid (fun W (bW : Below w1.heap.size w1 W) => app_any X R L g fp gS bS ga gd gl z s l (fun j => Q j /\ j < w.heap.size) A pages c gen W hG (h.on (bt b3 bW)) hh (HPg.out W (Keep.of_below bW _)) (fun j hj _ => hQ j hj.1 hj.2) hw0 (by omega) (by omega) hb)
   have hv5 := appO_five ga gd gl z pages gen l s
   obtain ⟨V, hV⟩ : ∃ V, V = appO ga gd gl z pages gen l s := ⟨_, rfl⟩
   have hcom2 : comF ga gd gl z pages gen l s = (z.append pages gen V.2.2, V) := by rw [hcom, hV]; rfl
   rw [<- hV] at HA hv5
   rw [hcom2]
   have t5 := beq_no hv5
   by_cases hv : V.2.2 = 0
   · have t0 := bne_no hv
     obtain ⟨za, hza⟩ : ∃ q, q = z.seqUp pages.length V.2.2 := ⟨_, rfl⟩
     obtain ⟨zb, hzb⟩ : ∃ q, q = z.append pages gen V.2.2 := ⟨_, rfl⟩
     have HZ := Lib.hid (show (za.put pages).setGen gen = zb by rw [hza, hzb, hv]; exact Z.append_yes z pages gen)
     have hzal : za.pages = z.pages := by rw [hza]; unfold Z.seqUp; split <;> rfl
     have hbd := (whyF_zero hw0).1
     have HP := Lib.hid (fun W L' fp' (hS : SAt W X R L' g fp' gS bS ga gd gl za V.2.1 V.1) (k : Keep (X :: R :: L :: bS :: fp) w1 W) => put_any X R L' g fp' gS bS ga gd gl za V.2.1 V.1 (fun j => Q j /\ j < w.heap.size) A pages c W hS (HPg.out W k) (fun j hj _ => (hQ j hj.1 hj.2).2.1) (by omega) (fun k hk => by rw [hzal]; have := Wal.badB_of hbd hk; exact ⟨this.1, by omega, by omega⟩) (by rw [hzal]; omega))
     rw [<- hza] at HA
     have Hv := Lib.hid hv
     simp only
     rw [<- hzb]
     clear hzal hza hzb hbd hcom hcom2 hV hw0 hdu hQ hr h b3 hz hf hl hs hcl hzl hpb hy hd hlife hb hq hv hv5
     go_enter Tryz.func15, Tryz.ntmps15
     go_upto_region 1 with (fail)
     rw [<- HW.out]
     go_upto_region 6 with (go_at_call 44; refine (HR.out _ HB.out).mono ?_; rintro e w' ⟨rfl, rfl⟩)
     refine region_inb_tail 6 (by kernel_rfl) (by kernel_rfl) ?_
     simp only [List.take_succ_cons, List.take_zero, List.drop_succ_cons, List.drop_zero]
     have inbNe := InB.some
     have inbW := @wrap_small
     have inbU := IntKind.wrap_u8'
     repeat (refine wpQuiet_step (fun K hK => ?_); go_simp; first | (refine hK _ ?_; clear hK K) | (apply Exists.intro; refine ⟨?_, hK _ ?_⟩; (· (intro w' hw'; first | (have hcw := hw'.cell; go_simp; exact rfl))); clear hK K))
     refine wpQuiet_nil ?_
     intro wq hq
     clear inbNe inbW inbU
     go_wp2_with (first
       | (go_at_call 45; refine (HA.out _ hq.below).mono ?_; rintro e w2 ⟨rfl, L1, fp1, hS1, k1, f1⟩; have K1 := Lib.hid ((Keep.of_below hq.below (X :: R :: L :: bS :: fp)).trans k1 (Fresh.refl _ _)); obtain ⟨v0, v1, v2⟩ := HK.out w2 K1.out; have k1' := Lib.hid k1; clear k1)
       | (go_at_call 48; refine (HP.out _ L1 fp1 hS1 K1.out).mono ?_; rintro e w3 ⟨rfl, hS3, k3⟩; have K3 := Lib.hid (K1.out.trans (k3.more (fp' := X :: R :: L :: bS :: fp) (fun j hj => by simp only [List.mem_cons, List.not_mem_nil, or_false] at hj ⊢; exact .inr (.inl hj))) (Fresh.refl _ _)); obtain ⟨u0, u1, u2⟩ := HK.out w3 K3.out; obtain ⟨lv3, c3, j1, _, _⟩ := hS3.blk; have x7 := j1.cell (k := 7) (by simp); have fx7 := j1.free 7; have G3 := Lib.hid (hS3.gen gen); have k3' := Lib.hid k3; clear j1 hS3 k3))
     go_ret
     obtain ⟨g1, g2⟩ := G3.out
     rw [HZ.out] at g1
     rw [Hv.out]
     refine ⟨rfl, STurn.first (bt HB.out hq.below) (STurn.trans k1'.out f1 ⟨L1, fp1, g1, ?_, FreshL.refl _ _ _⟩)⟩
     exact (k3'.out.more (fp' := X :: R :: L1 :: bS :: fp1) (fun j hj => by simp only [List.mem_cons, List.not_mem_nil, or_false] at hj ⊢; exact .inr (.inl hj))).trans (g2.more (fp' := X :: R :: L1 :: bS :: fp1) (fun j hj => by simp only [List.mem_cons, List.not_mem_nil, or_false] at hj ⊢; exact .inl hj)) (Fresh.refl _ _)
   · have t0 := bne_yes hv
     obtain ⟨za, hza⟩ : ∃ q, q = z.seqUp pages.length V.2.2 := ⟨_, rfl⟩
     obtain ⟨zb, hzb⟩ : ∃ q, q = z.append pages gen V.2.2 := ⟨_, rfl⟩
     have HZ := Lib.hid (show za.told V.2.2 = zb by rw [hza, hzb]; exact Z.append_no z pages gen hv)
     rw [<- hza] at HA
     simp only
     rw [<- hzb]
     clear hza hzb hcom hcom2 hV hw0 hdu hQ hr h b3 hz hf hl hs hcl hzl hpb hy hd hlife hb hq hv hv5
     go_enter Tryz.func15, Tryz.ntmps15
     go_upto_region 1 with (fail)
     rw [<- HW.out]
     go_upto_region 6 with (go_at_call 44; refine (HR.out _ HB.out).mono ?_; rintro e w' ⟨rfl, rfl⟩)
     refine region_inb_tail 6 (by kernel_rfl) (by kernel_rfl) ?_
     simp only [List.take_succ_cons, List.take_zero, List.drop_succ_cons, List.drop_zero]
     have inbNe := InB.some
     have inbW := @wrap_small
     have inbU := IntKind.wrap_u8'
     repeat (refine wpQuiet_step (fun K hK => ?_); go_simp; first | (refine hK _ ?_; clear hK K) | (apply Exists.intro; refine ⟨?_, hK _ ?_⟩; (· (intro w' hw'; first | (have hcw := hw'.cell; go_simp; exact rfl))); clear hK K))
     refine wpQuiet_nil ?_
     intro wq hq
     clear inbNe inbW inbU
     go_wp2_with (first
       | (go_at_call 45; refine (HA.out _ hq.below).mono ?_; rintro e w2 ⟨rfl, L1, fp1, hS1, k1, f1⟩; have K1 := Lib.hid ((Keep.of_below hq.below (X :: R :: L :: bS :: fp)).trans k1 (Fresh.refl _ _)); obtain ⟨v0, v1, v2⟩ := HK.out w2 K1.out; have k1' := Lib.hid k1; clear k1)
       | (go_at_call 47; refine (HT.out _ _ _ _ _ _ _ hS1).mono ?_; rintro e w3 ⟨rfl, t3⟩))
     go_ret
     rw [HZ.out] at t3
     exact ⟨rfl, STurn.first (bt HB.out hq.below) (STurn.trans k1'.out f1 t3)⟩
 · by_cases hw5 : whyF ga gd gl z.seq pages = 5
   · have hqA := hq
     have HA := Lib.hid (fun W (bW : Below w1.heap.size w1 W) => app_no X R L g fp gS bS ga gd gl z s l (fun j => Q j /\ j < w.heap.size) A pages c gen W hG (h.on (bt b3 bW)) hh (HPg.out W (Keep.of_below bW _)) (by omega) hq (by omega) (by omega) hw0)
     rw [hw5] at HA
     have hbd := (why_full hw5).1
     have HS := Lib.hid (fun W bF (bW : Below w1.heap.size w1 W) (hF : Blk W bF [.func (.func 16) (crs X 0) #[], .func (.func 46) #[] (ccs w.heap.size (w.heap.size + 1) (w.heap.size + 1 + 1) 1)]) (hb : w.heap.size <= bF) =>
       commit_steps X R L g fp gS bS ga gd gl z s l (fun j => Q j /\ j < w.heap.size) A pages c gen w.heap.size (w.heap.size + 1) (w.heap.size + 1 + 1) bF W hG (h.on (bt b3 bW)) (q0'.out.on' bW) (q1'.out.on' bW) (q2'.out.on' bW) hF (nn'.out _ (Nat.le_refl _)) (nn'.out _ (by omega)) (nn'.out _ (by omega)) (nn'.out _ hb) (HPg.out W (Keep.of_below bW _)) (fun j hj _ => hQ j hj.1 hj.2) hw5 hl hs hf hz hd hdu hh hlife hb0.out hqA)
     have hcom : comF ga gd gl z pages gen l s = if (renO ga gd gl z l s).2.2 = 0 then appF ga gd gl (renF ga gd gl z l s).1 pages gen (renO ga gd gl z l s).1 (renO ga gd gl z l s).2.1 else renF ga gd gl z l s := by
       unfold comF
       rw [if_neg hw0, if_pos hw5]
     have hz1 : (renO ga gd gl z l s).2.2 ≠ 0 -> (renF ga gd gl z l s).1 = z.told (renO ga gd gl z l s).2.2 := fun e => by
       unfold renF Z.renew
       simp only
       rw [if_neg e]
     have hz1p : (renF ga gd gl z l s).1.pages = z.pages := by
       unfold renF Z.renew
       simp only
       split <;> rfl
     have hrF : renF ga gd gl z l s = ((renF ga gd gl z l s).1, renO ga gd gl z l s) := rfl
     rw [hrF] at hcom
     obtain ⟨V, hV⟩ : ∃ V, V = renO ga gd gl z l s := ⟨_, rfl⟩
     obtain ⟨y, hy1⟩ : ∃ q, q = (renF ga gd gl z l s).1 := ⟨_, rfl⟩
     rw [<- hV, <- hy1] at hcom
     rw [<- hV, <- hy1] at HS
     rw [<- hV, <- hy1] at hz1
     rw [<- hy1] at hz1p
     obtain ⟨U, hU⟩ : ∃ U, U = appO ga gd gl y pages gen V.1 V.2.1 := ⟨_, rfl⟩
     have hcom3 : comF ga gd gl z pages gen l s = if V.2.2 = 0 then (y.append pages gen U.2.2, U) else (y, V) := by rw [hcom]; unfold appF; rw [<- hU]
     rw [<- hU] at HS
     obtain ⟨O, hO⟩ : ∃ O : Out, O = if V.2.2 = 0 then U else V := ⟨_, rfl⟩
     obtain ⟨zz, hzz⟩ : ∃ q, q = if V.2.2 = 0 then y.seqUp pages.length U.2.2 else y := ⟨_, rfl⟩
     have HS2 := Lib.hid (fun W bF bW hF hb => Calls.mono (HS.out W bF bW hF hb) (fun e w' (h : ∃ f : Int, _) => show e = .returned (.int .i64 O.2.2) /\ STurn W X R L g fp gS bS ga gd gl zz O.2.1 O.1 w' from by
       obtain ⟨f, rfl, r1, r2⟩ := h
       by_cases hf0 : f = 0
       · obtain ⟨c1, c2, c3⟩ := r1 hf0
         rw [hO, hzz, if_pos c1, if_pos c1]
         exact ⟨by rw [hf0, c2], c3⟩
       · rcases r2 hf0 with ⟨c1, c2⟩ | ⟨c1, c2, c3⟩
         · have : ¬ V.2.2 = 0 := fun e => hf0 (c1.trans e)
           rw [hO, hzz, if_neg this, if_neg this]
           exact ⟨by rw [c1], c2⟩
         · rw [hO, hzz, if_pos c1, if_pos c1]
           exact ⟨by rw [c2], c3⟩))
     have hc2 : (comF ga gd gl z pages gen l s).2 = O := by rw [hcom3, hO]; split <;> rfl
     obtain ⟨zc, hzc⟩ : ∃ q, q = (comF ga gd gl z pages gen l s).1 := ⟨_, rfl⟩
     rw [hc2, <- hzc]
     have hzy : O.2.2 = 0 -> (zz.put pages).setGen gen = zc := fun e => by
       have hv : V.2.2 = 0 := Classical.byContradiction fun hn => by rw [hO, if_neg hn] at e; exact hn e
       rw [hO, if_pos hv] at e
       rw [hzc, hcom3, if_pos hv, hzz, if_pos hv, e]
       exact Z.append_yes y pages gen
     have hzn : O.2.2 ≠ 0 -> zz.told O.2.2 = zc := fun e => by
       rw [hzc, hcom3, hzz]
       by_cases hv : V.2.2 = 0
       · rw [if_pos hv, if_pos hv]
         rw [hO, if_pos hv] at e ⊢
         exact Z.append_no y pages gen e
       · rw [if_neg hv, if_neg hv, hO, if_neg hv]
         show y.told V.2.2 = y
         rw [hz1 hv, Z.told_twice]
     have hzp : zz.pages = z.pages := by
       rw [hzz, <- hz1p]
       split
       · unfold Z.seqUp; split <;> rfl
       · rfl
     have b5 := beq_yes (show (5 : Int) = 5 from rfl)
     by_cases hv : O.2.2 = 0
     · have t0 := bne_no hv
       have HZ := Lib.hid (hzy hv)
       have HP := Lib.hid (fun W L' fp' (hS : SAt W X R L' g fp' gS bS ga gd gl zz O.2.1 O.1) (k : Keep (X :: R :: L :: bS :: fp) w1 W) => put_any X R L' g fp' gS bS ga gd gl zz O.2.1 O.1 (fun j => Q j /\ j < w.heap.size) A pages c W hS (HPg.out W k) (fun j hj _ => (hQ j hj.1 hj.2).2.1) (by omega) (fun k hk => by rw [hzp]; have := Wal.badB_of hbd hk; exact ⟨this.1, by omega, by omega⟩) (by rw [hzp]; omega))
       have Hv := Lib.hid hv
       clear hv hzp hzn hzy hc2 hzc hcom hcom3 hzz hO hU hV hy1 hrF hz1 hz1p HS hbd hqA hw5 hw0 hdu hQ hr h b3 hz hf hl hs hcl hzl hpb hy hd hlife hb hq
       go_enter Tryz.func15, Tryz.ntmps15
       go_upto_region 1 with (fail)
       rw [<- HW.out]
       go_upto_region 6 with (go_at_call 44; refine (HR.out _ HB.out).mono ?_; rintro e w' ⟨rfl, rfl⟩)
       refine region_inb_tail 6 (by kernel_rfl) (by kernel_rfl) ?_
       simp only [List.take_succ_cons, List.take_zero, List.drop_succ_cons, List.drop_zero]
       have inbNe := InB.some
       have inbW := @wrap_small
       have inbU := IntKind.wrap_u8'
       repeat (refine wpQuiet_step (fun K hK => ?_); go_simp; first | (refine hK _ ?_; clear hK K) | (apply Exists.intro; refine ⟨?_, hK _ ?_⟩; (· (intro w' hw'; first | (have hcw := hw'.cell; go_simp; exact rfl))); clear hK K))
       refine wpQuiet_nil ?_
       intro wq hq
       clear inbNe inbW inbU
       go_wp2_with (first
         | (go_at_call 45; refine (HA.out _ hq.below).mono ?_; rintro e w2 ⟨rfl, b2⟩; have bw2 := bt hq.below b2; obtain ⟨v0, v1, v2⟩ := HK.out w2 (Keep.of_below bw2 _))
         | (go_at_call 38; refine (HS2.out _ w2.heap.size (bt bw2 (b1alloc _ _)) (Blk.new w2 _ _) (Nat.le_trans HB.out.size bw2.size)).mono ?_; rintro e w2' ⟨rfl, L1, fp1, hS1, k1, f1⟩; have K1 := Lib.hid ((Keep.of_below (bt bw2 (b1alloc _ _)) (X :: R :: L :: bS :: fp)).trans k1 (Fresh.refl _ _)); obtain ⟨v0', v1', v2'⟩ := HK.out w2' K1.out; have k1' := Lib.hid k1; clear k1 v0 v1 v2)
         | (go_at_call 48; refine (HP.out _ L1 fp1 hS1 K1.out).mono ?_; rintro e w3 ⟨rfl, hS3, k3⟩; have K3 := Lib.hid (K1.out.trans (k3.more (fp' := X :: R :: L :: bS :: fp) (fun j hj => by simp only [List.mem_cons, List.not_mem_nil, or_false] at hj ⊢; exact .inr (.inl hj))) (Fresh.refl _ _)); obtain ⟨u0, u1, u2⟩ := HK.out w3 K3.out; obtain ⟨lv3, c3, j1, _, _⟩ := hS3.blk; have x7 := j1.cell (k := 7) (by simp); have fx7 := j1.free 7; have G3 := Lib.hid (hS3.gen gen); have k3' := Lib.hid k3; clear j1 hS3 k3))
       go_ret
       obtain ⟨g1, g2⟩ := G3.out
       rw [HZ.out] at g1
       rw [Hv.out]
       refine ⟨rfl, STurn.first (bt HB.out (bt bw2 (b1alloc _ _))) (STurn.trans k1'.out f1 ⟨L1, fp1, g1, ?_, FreshL.refl _ _ _⟩)⟩
       exact (k3'.out.more (fp' := X :: R :: L1 :: bS :: fp1) (fun j hj => by simp only [List.mem_cons, List.not_mem_nil, or_false] at hj ⊢; exact .inr (.inl hj))).trans (g2.more (fp' := X :: R :: L1 :: bS :: fp1) (fun j hj => by simp only [List.mem_cons, List.not_mem_nil, or_false] at hj ⊢; exact .inl hj)) (Fresh.refl _ _)
     · have t0 := bne_yes hv
       have HZ := Lib.hid (hzn hv)
       clear hv hzp hzn hzy hc2 hzc hcom hcom3 hzz hO hU hV hy1 hrF hz1 hz1p HS hbd hqA hw5 hw0 hdu hQ hr h b3 hz hf hl hs hcl hzl hpb hy hd hlife hb hq
       go_enter Tryz.func15, Tryz.ntmps15
       go_upto_region 1 with (fail)
       rw [<- HW.out]
       go_upto_region 6 with (go_at_call 44; refine (HR.out _ HB.out).mono ?_; rintro e w' ⟨rfl, rfl⟩)
       refine region_inb_tail 6 (by kernel_rfl) (by kernel_rfl) ?_
       simp only [List.take_succ_cons, List.take_zero, List.drop_succ_cons, List.drop_zero]
       have inbNe := InB.some
       have inbW := @wrap_small
       have inbU := IntKind.wrap_u8'
       repeat (refine wpQuiet_step (fun K hK => ?_); go_simp; first | (refine hK _ ?_; clear hK K) | (apply Exists.intro; refine ⟨?_, hK _ ?_⟩; (· (intro w' hw'; first | (have hcw := hw'.cell; go_simp; exact rfl))); clear hK K))
       refine wpQuiet_nil ?_
       intro wq hq
       clear inbNe inbW inbU
       go_wp2_with (first
         | (go_at_call 45; refine (HA.out _ hq.below).mono ?_; rintro e w2 ⟨rfl, b2⟩; have bw2 := bt hq.below b2; obtain ⟨v0, v1, v2⟩ := HK.out w2 (Keep.of_below bw2 _))
         | (go_at_call 38; refine (HS2.out _ w2.heap.size (bt bw2 (b1alloc _ _)) (Blk.new w2 _ _) (Nat.le_trans HB.out.size bw2.size)).mono ?_; rintro e w2' ⟨rfl, L1, fp1, hS1, k1, f1⟩; have K1 := Lib.hid ((Keep.of_below (bt bw2 (b1alloc _ _)) (X :: R :: L :: bS :: fp)).trans k1 (Fresh.refl _ _)); obtain ⟨v0', v1', v2'⟩ := HK.out w2' K1.out; have k1' := Lib.hid k1; clear k1 v0 v1 v2)
         | (go_at_call 47; refine (HT.out _ _ _ _ _ _ _ hS1).mono ?_; rintro e w3 ⟨rfl, t3⟩))
       go_ret
       rw [HZ.out] at t3
       exact ⟨rfl, STurn.first (bt HB.out (bt bw2 (b1alloc _ _))) (STurn.trans k1'.out f1 t3)⟩
   · have hcom : comF ga gd gl z pages gen l s = (z, l, s, whyF ga gd gl z.seq pages) := by
       unfold comF
       rw [if_neg hw0, if_neg hw5]
     have HA := Lib.hid (fun W (bW : Below w1.heap.size w1 W) => app_no X R L g fp gS bS ga gd gl z s l (fun j => Q j /\ j < w.heap.size) A pages c gen W hG (h.on (bt b3 bW)) hh (HPg.out W (Keep.of_below bW _)) (by omega) hq (by omega) (by omega) hw0)
     have h12 : whyF ga gd gl z.seq pages ≠ 12 := by
       rcases why_cases ga gd gl z.seq pages with e | e | e | e <;> rw [e] <;> decide
     have HS1 := Lib.hid (fun W (bW : Below w1.heap.size w1 W) => h.on (bt b3 bW))
     rw [hcom]
     simp only
     obtain ⟨F, hF⟩ : ∃ q, q = whyF ga gd gl z.seq pages := ⟨_, rfl⟩
     rw [<- hF] at HA h12 hw0 hw5 ⊢
     have t5 := beq_no hw5
     have t0 := bne_yes hw0
     have HZ := Lib.hid (Z.told_other z h12)
     clear hF h12 hcom hw5 hw0 hdu hQ hr h b3 hz hf hl hs hcl hzl hpb hy hd hlife hb hq
     go_enter Tryz.func15, Tryz.ntmps15
     go_upto_region 1 with (fail)
     rw [<- HW.out]
     go_upto_region 6 with (go_at_call 44; refine (HR.out _ HB.out).mono ?_; rintro e w' ⟨rfl, rfl⟩)
     refine region_inb_tail 6 (by kernel_rfl) (by kernel_rfl) ?_
     simp only [List.take_succ_cons, List.take_zero, List.drop_succ_cons, List.drop_zero]
     have inbNe := InB.some
     have inbW := @wrap_small
     have inbU := IntKind.wrap_u8'
     repeat (refine wpQuiet_step (fun K hK => ?_); go_simp; first | (refine hK _ ?_; clear hK K) | (apply Exists.intro; refine ⟨?_, hK _ ?_⟩; (· (intro w' hw'; first | (have hcw := hw'.cell; go_simp; exact rfl))); clear hK K))
     refine wpQuiet_nil ?_
     intro wq hq
     clear inbNe inbW inbU
     go_wp2_with (first
       | (go_at_call 45; refine (HA.out _ hq.below).mono ?_; rintro e w2 ⟨rfl, b2⟩; have bw2 := bt hq.below b2; obtain ⟨v0, v1, v2⟩ := HK.out w2 (Keep.of_below bw2 _))
       | (go_at_call 47; refine (HT.out _ _ _ _ _ _ _ (HS1.out _ bw2)).mono ?_; rintro e w3 ⟨rfl, t3⟩))
     go_ret
     rw [HZ.out] at t3
     exact ⟨rfl, STurn.first (bt HB.out bw2) t3⟩
end Go.Proofs.YtchcmklelmlbgaaGreat.Sto
namespace Go.Proofs.YtchcmklelmlbgaaGreat.Sto
open Go.RowKit
open Go.Proofs.YtchcmklelmlbgaaGreat.Geom
open Go.Proofs.YtchcmklelmlbgaaGreat.Disk (St DAt Did write flush zero512)
open Go.Proofs.YtchcmklelmlbgaaGreat.Sup (Gb gv gcell gthree)
set_option linter.unusedVariables false
set_option maxRecDepth 100000
theorem wipeL_append : ∀ (a b : List Int) (s : St), wipeL (a ++ b) s = if (wipeL a s).2 = 0 then wipeL b (wipeL a s).1 else wipeL a s
 | [], b, s => by simp [wipeL]
 | p :: a, b, s => by
   show (if _ then _ else _) = _
   by_cases h : (write s p zero512).2 = 0
   · have e : wipeL (p :: a) s = wipeL a (write s p zero512).1 := if_pos h
     rw [if_pos h, e, <- wipeL_append a b]; rfl
   · have e : wipeL (p :: a) s = write s p zero512 := if_neg h
     rw [if_neg h, e, if_neg h]
theorem wipeL_sz : ∀ (a : List Int) (s : St), (wipeL a s).1.sz <= s.sz + 2 * a.length
 | [], s => by simp [wipeL]
 | p :: a, s => by
   have h1 := Disk.sz_write s p zero512
   by_cases h : (write s p zero512).2 = 0
   · have e : wipeL (p :: a) s = wipeL a (write s p zero512).1 := if_pos h
     have := wipeL_sz a (write s p zero512).1
     rw [e, List.length_cons]; omega
   · have e : wipeL (p :: a) s = write s p zero512 := if_neg h
     rw [e, List.length_cons]; omega
def wpl (k : Nat) : List Int := (List.range k).map fun i : Nat => 4 + (i : Int)
theorem wpl_succ (k : Nat) : wpl (k + 1) = wpl k ++ [4 + (k : Int)] := by unfold wpl; rw [List.range_succ]; simp
theorem wpl_le (k : Nat) : (wpl k).length = k := by simp [wpl]
theorem wpl_app (k j : Nat) : ∃ b, wpl (k + j) = wpl k ++ b := by
 induction j with
 | zero => exact ⟨[], by simp⟩
 | succ j ih => obtain ⟨b, h⟩ := ih; exact ⟨b ++ [4 + ((k + j : Nat) : Int)], by rw [<- Nat.add_assoc, wpl_succ, h]; simp⟩
theorem wipe_fail {N k : Nat} {s : St} (hk : k < N) (h : (wipeL (wpl (k + 1)) s).2 ≠ 0) : wipeL (wpl N) s = wipeL (wpl (k + 1)) s := by
 obtain ⟨b, e⟩ := wpl_app (k + 1) (N - (k + 1))
 rw [show N = k + 1 + (N - (k + 1)) by omega, e, wipeL_append, if_neg h]
theorem wipe_step {k : Nat} {s : St} (h : (wipeL (wpl k) s).2 = 0) : wipeL (wpl (k + 1)) s = write (wipeL (wpl k) s).1 (4 + (k : Int)) zero512 := by
 rw [wpl_succ, wipeL_append, if_pos h]
 show (if _ then _ else _) = _
 by_cases h2 : (write (wipeL (wpl k) s).1 (4 + (k : Int)) zero512).2 = 0
 · rw [if_pos h2]; exact Prod.ext rfl h2.symm
 · rw [if_neg h2]
set_option maxHeartbeats 1000000 in
theorem wipe_any (X g : Nat) (fp : List Nat) (gS : Nat) (ga gd gl : Int) (z : Z) (lv pv : Value) (s : St) (w : World) (hG : Gb ga gd gl) (hX : Blk w X (xc g gS ga gd gl z lv pv)) (hn : X ∉ fp) (h : DAt w g fp s) (hs : s.sz <= 70000000) (hr : right ga gd gl = true) :
   Calls Tryz.prog 41 #[.pointer (some ⟨X, 0, none⟩)] w (Did w g fp (wipeF gl s)) := by
 have hy := right_yes hr
 obtain ⟨N, hN⟩ : ∃ N : Nat, gl = (N : Int) := ⟨gl.toNat, by omega⟩
 have hN64 : N <= 64 := by omega
 have HLg := Lib.hid (fun (k : Nat) (hk : k < N) W => show Calls Tryz.prog 76 #[gv ga gd gl, .int .i64 (k : Int)] W fun e w' => e = .returned (.int .i64 (4 + (k : Int))) /\ Below W.heap.size W w' from by
   have := Geom.log_any ga gd gl (k : Int) W hG.a0 hG.a1 hG.d0 hG.d1 hG.g0 hG.g1 (by unfold Geom.lo; omega) (by unfold Geom.hi; omega)
   rw [show logAt ga gd gl (k : Int) = 4 + (k : Int) from by unfold logAt; rw [if_pos ⟨hr, by omega⟩, Int.emod_eq_of_lt (by omega) (by omega)]] at this
   exact this)
 have hB := fun W => Sec.blank_any W
 have hW := fun fp s (k : Nat) A c W hD hs hr => Disk.write_any g fp s (4 + (k : Int)) A 512 c Disk.zero512 W hD hs Disk.zero512_len.symm hr
 rw [show Sec.zero512 = Disk.zero512 from rfl] at hB
 have HWf := Lib.hid (show wipeF gl s = if (wipeL (wpl N) s).2 = 0 then flush (wipeL (wpl N) s).1 else wipeL (wpl N) s from by unfold wipeF wpl; rw [hN]; simp)
 have Hst := Lib.hid (fun k (h : (wipeL (wpl k) s).2 = 0) => wipe_step h)
 have Hfl := Lib.hid (fun k (hk : k < N) (h : (wipeL (wpl (k + 1)) s).2 ≠ 0) => wipe_fail hk h)
 have Hsz := Lib.hid (fun k (hk : k <= N) => show (wipeL (wpl k) s).1.sz <= 80000000 from by have := wipeL_sz (wpl k) s; rw [wpl_le] at this; omega)
 obtain ⟨F, hF⟩ : ∃ F, F = fun k => wipeL (wpl k) s := ⟨_, rfl⟩
 have hF' : ∀ k, wipeL (wpl k) s = F k := fun k => by rw [hF]
 simp only [hF'] at HWf Hst Hfl Hsz
 have hF0 : F 0 = (s, 0) := by rw [hF]; rfl
 obtain ⟨Z5, hz⟩ : ∃ z, z = Disk.zero512 := ⟨_, rfl⟩
 have hzl : Z5.length = 512 := by rw [hz]; exact Disk.zero512_len
 simp only [<- hz] at hW hB Hst
 unfold RetB at hB
 rw [hzl] at hB
 have HB := Lib.hid hB
 have HW := Lib.hid hW
 obtain ⟨R, hR⟩ : ∃ R, R = wipeF gl s := ⟨_, rfl⟩
 rw [<- hR] at HWf ⊢
 have HX := Lib.hid hX
 have HD := Lib.hid h
 have HF0 := Lib.hid hF0
 have Hn := Lib.hid hn
 rw [hN] at HX
 clear hB hW hz hzl hR hF hF' hF0 hX h hs hr hy hG hn
 obtain ⟨z0, z1, z2, z3, z4, z5, z6, z7, z8, z9, z10, z11, z12⟩ := thirteen HX.out
 subst hN
 clear z0 z1 z2 z3 z5 z6 z7 z8 z9 z10 z11 z12
 go_enter Tryz.func41, Tryz.ntmps41
 go_wp2_with fail
 go_loopw [10] (fun i wr => ∃ k : Nat, k <= N /\ i = .int .i64 (k : Int) /\ (F k).2 = 0 /\ ∃ fp1, DAt wr g fp1 (F k).1 /\ Keep fp w wr /\ Fresh w fp fp1) (fun i _ => N - (intOf i).toNat)
 case atStart => exact ⟨0, by omega, rfl, by rw [HF0.out], fp, by rw [HF0.out]; exact HD.out, Keep.refl _ _, Fresh.refl _ _⟩
 case round =>
   obtain ⟨k, hk, rfl, h0, fp1, hD1, hK1, hF1⟩ := hrel
   by_cases hlt : k < N
   · have hkn : (k : Int) < (N : Int) := by omega
     have hXr := HX.out.keepK hK1 Hn.out
     have hn1 : X ∉ fp1 := hF1.out HX.out.lt Hn.out
     have HS := Lib.hid (fun W (kW : Keep fp1 wr W) => show W.cell? ⟨X, 0, none⟩ = some (.pointer (some ⟨g, 0, none⟩)) /\ W.cell? ⟨X, 2, none⟩ = some (.int .i64 ga) /\ W.cell? ⟨X, 3, none⟩ = some (.int .i64 gd) /\ W.cell? ⟨X, 4, none⟩ = some (.int .i64 (N : Int)) from by
       obtain ⟨u0, _, u2, u3, u4, _⟩ := thirteen (hXr.keepK kW hn1)
       exact ⟨u0, u2, u3, u4⟩)
     have HLk := Lib.hid (fun W => HLg.out k hlt W)
     have HWk := Lib.hid (fun A c W (hD : DAt W g fp1 (F k).1) hr => HW.out fp1 (F k).1 k A c W hD (by have := Hsz.out k hk; omega) hr)
     obtain ⟨V, hV⟩ : ∃ V, V = write (F k).1 (4 + (k : Int)) Z5 := ⟨_, rfl⟩
     have hFk : F (k + 1) = V := by rw [hV]; exact Hst.out k h0
     rw [<- hV] at HWk
     have HDW := Lib.hid (fun W (bW : Below wr.heap.size wr W) => hD1.on bW)
     have Hlt1 := Lib.hid hD1.lt
     have cz : Below wr.heap.size wr wr.drew := (Below.refl _ _).drew
     have HFk := Lib.hid hFk
     have HK1 := Lib.hid hK1
     have HF1 := Lib.hid hF1
     clear hV hFk hXr hn1 hD1 hK1 hF1
     by_cases hv : V.2 = 0
     · have t0 := bne_no hv
       have Hv := Lib.hid hv
       clear hv
       go_upto_region 4 with (fail)
       go_region_held3 (fun W => W.cell? ⟨X, 0, none⟩ = some (.pointer (some ⟨g, 0, none⟩)) /\ W.cell? ⟨X, 2, none⟩ = some (.int .i64 ga) /\ W.cell? ⟨X, 3, none⟩ = some (.int .i64 gd) /\ W.cell? ⟨X, 4, none⟩ = some (.int .i64 (N : Int)))
         (first | exact HS.out _ (Keep.of_below cz _) | exact HS.out _ (Keep.of_below cl _) | exact HS.out _ (Keep.of_below cb _) | exact HS.out _ k6)
         ((first
           | (go_at_call 76; refine (HLk.out _).mono ?_; rintro e q1 ⟨rfl, c1⟩; first | (have cl := bt cb c1) | (have cl := bt cz c1))
           | (go_at_call 74; refine (HB.out _).mono ?_; rintro e q2 ⟨A4, c4, rfl, own4, c2⟩; first | (have cb := bt cl c2) | (have cb := bt cz c2))
           | (go_at_call 73; first | (refine (HWk.out A4 c4 _ (HDW.out _ cl) ((RdN.own own4 (fun j hj => Nat.lt_of_lt_of_le (Hlt1.out j hj) (Nat.le_trans (Nat.le_refl _) cz.size))).on c1)).mono ?_; rintro e q3 ⟨rfl, fp5, hD5, k5, f5⟩; have k6 := (Keep.of_below cl fp1).trans k5 (Fresh.refl _ _); have f6 : Fresh wr fp1 fp5 := fun j hj => (f5 j hj).imp id (fun h => Nat.le_trans cl.size h)) | (refine (HWk.out A4 c4 _ (HDW.out _ cb) (RdN.own own4 (fun j hj => Nat.lt_of_lt_of_le (Hlt1.out j hj) cl.size))).mono ?_; rintro e q3 ⟨rfl, fp5, hD5, k5, f5⟩; have k6 := (Keep.of_below cb fp1).trans k5 (Fresh.refl _ _); have f6 : Fresh wr fp1 fp5 := fun j hj => (f5 j hj).imp id (fun h => Nat.le_trans cb.size h)))))
       have K6 := Lib.hid (HK1.out.trans k6 HF1.out)
       have F6 := Lib.hid (HF1.out.trans HK1.out.size f6)
       have D5 := Lib.hid hD5
       clear k6 f6 hD5 k5 f5
       go_wp2_with fail
       case roundEnd =>
         refine ⟨⟨k + 1, by omega, by go_num, by rw [HFk.out]; exact Hv.out, fp5, by rw [HFk.out]; exact D5.out, K6.out, F6.out⟩, by simp only [intOf]; omega⟩
     · have t0 := bne_yes hv
       have Hv := Lib.hid hv
       clear hv
       go_upto_region 4 with (fail)
       go_region_held3 (fun W => W.cell? ⟨X, 0, none⟩ = some (.pointer (some ⟨g, 0, none⟩)) /\ W.cell? ⟨X, 2, none⟩ = some (.int .i64 ga) /\ W.cell? ⟨X, 3, none⟩ = some (.int .i64 gd) /\ W.cell? ⟨X, 4, none⟩ = some (.int .i64 (N : Int)))
         (first | exact HS.out _ (Keep.of_below cz _) | exact HS.out _ (Keep.of_below cl _) | exact HS.out _ (Keep.of_below cb _) | exact HS.out _ k6)
         ((first
           | (go_at_call 76; refine (HLk.out _).mono ?_; rintro e q1 ⟨rfl, c1⟩; first | (have cl := bt cb c1) | (have cl := bt cz c1))
           | (go_at_call 74; refine (HB.out _).mono ?_; rintro e q2 ⟨A4, c4, rfl, own4, c2⟩; first | (have cb := bt cl c2) | (have cb := bt cz c2))
           | (go_at_call 73; first | (refine (HWk.out A4 c4 _ (HDW.out _ cl) ((RdN.own own4 (fun j hj => Nat.lt_of_lt_of_le (Hlt1.out j hj) (Nat.le_trans (Nat.le_refl _) cz.size))).on c1)).mono ?_; rintro e q3 ⟨rfl, fp5, hD5, k5, f5⟩; have k6 := (Keep.of_below cl fp1).trans k5 (Fresh.refl _ _); have f6 : Fresh wr fp1 fp5 := fun j hj => (f5 j hj).imp id (fun h => Nat.le_trans cl.size h)) | (refine (HWk.out A4 c4 _ (HDW.out _ cb) (RdN.own own4 (fun j hj => Nat.lt_of_lt_of_le (Hlt1.out j hj) cl.size))).mono ?_; rintro e q3 ⟨rfl, fp5, hD5, k5, f5⟩; have k6 := (Keep.of_below cb fp1).trans k5 (Fresh.refl _ _); have f6 : Fresh wr fp1 fp5 := fun j hj => (f5 j hj).imp id (fun h => Nat.le_trans cb.size h)))))
       have K6 := Lib.hid (HK1.out.trans k6 HF1.out)
       have F6 := Lib.hid (HF1.out.trans HK1.out.size f6)
       have D5 := Lib.hid hD5
       clear k6 f6 hD5 k5 f5
       go_wp2_with fail
       try rw [Exit.noGoto_ret]
       go_ret
       have hR1 : R = V := by
         rw [HWf.out]
         have e1 := Hfl.out k hlt (by rw [HFk.out]; exact Hv.out)
         rw [e1, HFk.out, if_neg Hv.out]
       rw [hR1]
       exact ⟨rfl, fp5, D5.out, K6.out, F6.out⟩
   · obtain rfl : k = N := by omega
     have hkn : ¬ (k : Int) < (k : Int) := by omega
     have hXr := (HX.out.keepK hK1 Hn.out).cell (k := 0) (by simp)
     have HFl := Lib.hid (Disk.flush_any g fp1 (F k).1 wr hD1 (by have := Hsz.out k (Nat.le_refl _); omega))
     have hR1 : R = flush (F k).1 := by rw [HWf.out, if_pos h0]
     rw [<- hR1] at HFl
     have HK1 := Lib.hid hK1
     have HF1 := Lib.hid hF1
     clear hK1 hF1 hD1 hR1 h0
     go_wp2_with (go_at_call 75; refine HFl.out.mono ?_; rintro e q1 ⟨rfl, fp5, hD5, k5, f5⟩)
     go_ret
     exact ⟨rfl, fp5, hD5, HK1.out.trans k5 HF1.out, HF1.out.trans HK1.out.size f5⟩
end Go.Proofs.YtchcmklelmlbgaaGreat.Sto
namespace Go.Proofs.YtchcmklelmlbgaaGreat.Sto
open Go.RowKit
open Go.Proofs.YtchcmklelmlbgaaGreat.Geom
open Go.Proofs.YtchcmklelmlbgaaGreat.Disk (St DAt Did write flush zero512)
open Go.Proofs.YtchcmklelmlbgaaGreat.Sup (Gb gv gcell gthree srightF splace sB sL wf sv scell)
open Go.Proofs.YtchcmklelmlbgaaGreat.Snap (snapF)
set_option linter.unusedVariables false
set_option maxRecDepth 100000
theorem pages_pos {ga gd gl : Int} (h : right ga gd gl = true) : 0 < pagesOf ga gd gl := by
 obtain ⟨h1, h2, h3, h4, h5, h6⟩ := right_yes h
 have ha : ga = 2 \/ ga = 3 \/ ga = 4 := by omega
 have hd : gd = 1 \/ gd = 2 \/ gd = 3 := by omega
 unfold pagesOf nodesOf leavesOf
 rw [if_pos h, if_pos h]
 rcases ha with rfl | rfl | rfl <;> rcases hd with rfl | rfl | rfl <;> decide
def z0 (n : Nat) : Z := ⟨0, 0, 0, 0, List.replicate n [], false, false, 0, false⟩
def FMid (w0 : World) (g gS : Nat) (ga gd gl : Int) (n : Nat) (v : Value) (wx : World) : Prop :=
 ∃ X R bx c, v = .pointer (some ⟨bx, 0, none⟩) /\ Box wx bx (.pointer (some ⟨X, 0, none⟩)) /\ Blk wx X (xc g gS ga gd gl (z0 n) (.pointer none) (.slice (some ⟨R, 0, none⟩) n c)) /\
   wx.ownsRow w0.heap.size 51 1 (.slice (some ⟨R, 0, none⟩) n c) n (List.replicate n (.slice none 0 0)) /\ Below w0.heap.size w0 wx /\ w0.heap.size <= X /\ w0.heap.size <= R /\ w0.heap.size <= bx /\ X ≠ R /\ X ≠ bx /\ R ≠ bx
theorem fmid1 {w3 w4 : World} {g gS : Nat} {ga gd gl : Int} {n c : Nat} {A : Option Addr} (o : w4.ownsRow w3.heap.size 51 1 (.slice A n c) n (List.replicate n (.slice none 0 0))) (be : Below w3.heap.size w3 w4) (hn : 0 < n) :
   FMid w3 g gS ga gd gl n (.pointer (some ⟨w4.heap.size + 1, 0, none⟩)) ((w4.alloc (.cells #[.pointer (some ⟨g, 0, none⟩), .pointer (some ⟨gS, 0, none⟩), .int .i64 ga, .int .i64 gd, .int .i64 gl, .int .u64 0, .int .i64 0, .int .u64 0, .pointer none, .int .i64 0, .slice A n c, .bool false, .bool false] 93)).alloc (.cells #[.pointer (some ⟨w4.heap.size, 0, none⟩)] 35)) := by
 obtain ⟨R, c', e, hR⟩ := own_some o hn
 injection e with e1 e2 e3
 subst e1 e3
 have hlt := (o.lt R rfl).2
 have hs := be.size
 have o2 := own_on o (b2alloc w4 (.cells #[.pointer (some ⟨g, 0, none⟩), .pointer (some ⟨gS, 0, none⟩), .int .i64 ga, .int .i64 gd, .int .i64 gl, .int .u64 0, .int .i64 0, .int .u64 0, .pointer none, .int .i64 0, .slice (some ⟨R, 0, none⟩) n c, .bool false, .bool false] 93) (.cells #[.pointer (some ⟨w4.heap.size, 0, none⟩)] 35))
 refine ⟨w4.heap.size, R, w4.heap.size + 1, c, rfl, ?_, (Blk.new w4 (xc g gS ga gd gl (z0 n) (.pointer none) (.slice (some ⟨R, 0, none⟩) n c)) 93).alloc _, o2, bt be (b2alloc _ _ _), hs, hR, by omega, by omega, by omega, by omega⟩
 simpa using Box.new (w4.alloc (.cells #[.pointer (some ⟨g, 0, none⟩), .pointer (some ⟨gS, 0, none⟩), .int .i64 ga, .int .i64 gd, .int .i64 gl, .int .u64 0, .int .i64 0, .int .u64 0, .pointer none, .int .i64 0, .slice (some ⟨R, 0, none⟩) n c, .bool false, .bool false] 93)) 35 (.pointer (some ⟨w4.heap.size, 0, none⟩))
theorem fmid2 {w3 w4 : World} {g gS : Nat} {ga gd gl : Int} {n c : Nat} {A : Option Addr} (o : w4.ownsRow w3.heap.size 51 1 (.slice A n c) n (List.replicate n (.slice none 0 0))) (be : Below w3.heap.size w3 w4) (hn : 0 < n) :
   FMid w3 g gS ga gd gl n (.pointer (some ⟨w4.heap.size, 0, none⟩)) ((w4.alloc (.cells #[.pointer (some ⟨w4.heap.size + 1, 0, none⟩)] 35)).alloc (.cells #[.pointer (some ⟨g, 0, none⟩), .pointer (some ⟨gS, 0, none⟩), .int .i64 ga, .int .i64 gd, .int .i64 gl, .int .u64 0, .int .i64 0, .int .u64 0, .pointer none, .int .i64 0, .slice A n c, .bool false, .bool false] 93)) := by
 obtain ⟨R, c', e, hR⟩ := own_some o hn
 injection e with e1 e2 e3
 subst e1 e3
 have hlt := (o.lt R rfl).2
 have hs := be.size
 have o2 := own_on o (b2alloc w4 (.cells #[.pointer (some ⟨w4.heap.size + 1, 0, none⟩)] 35) (.cells #[.pointer (some ⟨g, 0, none⟩), .pointer (some ⟨gS, 0, none⟩), .int .i64 ga, .int .i64 gd, .int .i64 gl, .int .u64 0, .int .i64 0, .int .u64 0, .pointer none, .int .i64 0, .slice (some ⟨R, 0, none⟩) n c, .bool false, .bool false] 93))
 have hb := Blk.new (w4.alloc (.cells #[.pointer (some ⟨w4.heap.size + 1, 0, none⟩)] 35)) (xc g gS ga gd gl (z0 n) (.pointer none) (.slice (some ⟨R, 0, none⟩) n c)) 93
 rw [show (w4.alloc (.cells #[.pointer (some ⟨w4.heap.size + 1, 0, none⟩)] 35)).heap.size = w4.heap.size + 1 by simp] at hb
 exact ⟨w4.heap.size + 1, R, w4.heap.size, c, rfl, (Box.new w4 35 (.pointer (some ⟨w4.heap.size + 1, 0, none⟩))).alloc _, hb, o2, bt be (b2alloc _ _ _), by omega, hR, by omega, by omega, by omega, by omega⟩
theorem fmid3 {w3 w4 : World} {g gS : Nat} {ga gd gl : Int} {n c B : Nat} {A : Option Addr} {v : Value} (o : w4.ownsRow B 51 1 (.slice A n c) n (List.replicate n (.slice none 0 0))) (hB : w3.heap.size + 1 <= B) (hv : Box w4 w3.heap.size v) (be : Below w3.heap.size w3 w4) (hn : 0 < n) :
   FMid w3 g gS ga gd gl n (.pointer (some ⟨w3.heap.size, 0, none⟩)) ((w4.setCell ⟨w3.heap.size, 0, none⟩ (.pointer (some ⟨w4.heap.size, 0, none⟩))).alloc (.cells #[.pointer (some ⟨g, 0, none⟩), .pointer (some ⟨gS, 0, none⟩), .int .i64 ga, .int .i64 gd, .int .i64 gl, .int .u64 0, .int .i64 0, .int .u64 0, .pointer none, .int .i64 0, .slice A n c, .bool false, .bool false] 93)) := by
 obtain ⟨R, c', e, hR⟩ := own_some o hn
 injection e with e1 e2 e3
 subst e1 e3
 have hlt := (o.lt R rfl).2
 have hs := be.size
 have hbl := hv.lt
 have hsz : (w4.setCell ⟨w3.heap.size, 0, none⟩ (.pointer (some ⟨w4.heap.size, 0, none⟩))).heap.size = w4.heap.size := by simp [World.setCell]
 have hb := Blk.new (w4.setCell ⟨w3.heap.size, 0, none⟩ (.pointer (some ⟨w4.heap.size, 0, none⟩))) (xc g gS ga gd gl (z0 n) (.pointer none) (.slice (some ⟨R, 0, none⟩) n c)) 93
 rw [hsz] at hb
 have o1 := own_keep o ((Keep.refl [w3.heap.size] w4).set (p := ⟨w3.heap.size, 0, none⟩) (.inl (by simp)) (.pointer (some ⟨w4.heap.size, 0, none⟩))) (fun j hj => by simp [Value.ownBlock] at hj; simp; omega)
 have o2 := own_base (own_on o1 (b1alloc _ (.cells #[.pointer (some ⟨g, 0, none⟩), .pointer (some ⟨gS, 0, none⟩), .int .i64 ga, .int .i64 gd, .int .i64 gl, .int .u64 0, .int .i64 0, .int .u64 0, .pointer none, .int .i64 0, .slice (some ⟨R, 0, none⟩) n c, .bool false, .bool false] 93))) (show w3.heap.size <= B by omega)
 exact ⟨w4.heap.size, R, w3.heap.size, c, rfl, (hv.set _).alloc _, hb, o2, bt (bset be (Nat.le_refl _) _) (b1alloc _ _), by omega, by omega, by omega, by omega, by omega, by omega⟩
theorem new_cell (w : World) (o : Obj) (v : Value) (t : TypeId) : ((w.alloc o).alloc (.cells #[v] t)).cell? ⟨w.heap.size + 1, 0, none⟩ = some v /\ ((w.alloc o).alloc (.cells #[v] t)).frozen? ⟨w.heap.size + 1, 0, none⟩ = false := by
 have h := Box.new (w.alloc o) t v
 rw [show (w.alloc o).heap.size = w.heap.size + 1 by simp] at h
 exact ⟨h.cell, h.free⟩
theorem new_cell0 (w : World) (o : Obj) (v : Value) (t : TypeId) : ((w.alloc (.cells #[v] t)).alloc o).cell? ⟨w.heap.size, 0, none⟩ = some v /\ ((w.alloc (.cells #[v] t)).alloc o).frozen? ⟨w.heap.size, 0, none⟩ = false := by
 have h := (Box.new w t v).alloc o
 exact ⟨h.cell, h.free⟩
def NewStore (w : World) (g : Nat) (fp : List Nat) (gS bS : Nat) (ga gd gl : Int) (z : Z) (s : St) (l : List (List UInt8)) (X : Nat) (w' : World) : Prop :=
 ∃ R L fp', SAt w' X R L g fp' gS bS ga gd gl z s l /\ Keep (bS :: fp) w w' /\ Fresh w fp fp' /\ w.heap.size <= X /\ w.heap.size <= R /\ w.heap.size <= L
theorem format1_any (g : Nat) (fp : List Nat) (s : St) (gS bS : Nat) (l : List (List UInt8)) (ga gd gl : Int) (bD bG : Nat) (w : World) (hG : Gb ga gd gl) (h : Both w g fp s gS bS l) (hs : s.sz <= 90000000) (hf : srightF s ga gd gl = 0) (hD : Box w bD (.pointer (some ⟨g, 0, none⟩))) (hB : Blk w bG (gcell ga gd gl)) :
   Calls Tryz.prog 39 #[.pointer (some ⟨bD, 0, none⟩), .pointer (some ⟨bG, 0, none⟩)] w fun e w' => e = .returned (.int .i64 (Sup.clr s).2) /\ Turn w g fp gS bS (Sup.clr s).1 l w' := by
 have HC := Sup.clear_any g fp s ga gd gl w hG h.disk hs hf
 obtain ⟨V, hV⟩ : ∃ V, V = Sup.clr s := ⟨_, rfl⟩
 rw [<- hV] at HC ⊢
 have HC' := Lib.hid HC
 have HT := Lib.hid (fun e w' d => Turn.ofDid (r := V) (e := e) (w' := w') h d)
 have y0 := hD.cell
 obtain ⟨y1, y2, y3⟩ := gthree hB
 clear HC hV h hs hf hD hB hG
 go_enter Tryz.func39, Tryz.ntmps39
 go_wp2_with (go_at_call 40; refine HC'.out.mono ?_; rintro e w1 hd; obtain ⟨rfl, t⟩ := HT.out e w1 hd)
 go_ret
 exact ⟨rfl, t⟩
theorem format2_any (X R L g : Nat) (fp : List Nat) (gS bS : Nat) (ga gd gl : Int) (z : Z) (s : St) (l : List (List UInt8)) (bx : Nat) (w : World) (hG : Gb ga gd gl) (h : SAt w X R L g fp gS bS ga gd gl z s l) (hX : Box w bx (.pointer (some ⟨X, 0, none⟩)))
   (hl : l.length <= 800000) (hs : s.sz <= 70000000) (hf : srightF s ga gd gl = 0) (hn : (z.pages.length : Int) = pagesOf ga gd gl) (hlong : Snap.longB z.pages = false) :
   Calls Tryz.prog 42 #[.pointer (some ⟨bx, 0, none⟩)] w fun e w' => e = .returned (.int .i64 (begF ga gd gl 1 0 0 z.pages l s).2.2) /\
     STurn w X R L g fp gS bS ga gd gl (if (begF ga gd gl 1 0 0 z.pages l s).2.2 = 0 then z.begun 1 0 0 else z) (begF ga gd gl 1 0 0 z.pages l s).2.1 (begF ga gd gl 1 0 0 z.pages l s).1 w' := by
 have HB := begin_any X R L g fp gS bS ga gd gl z s l 1 0 0 w hG h hl hs hf hn hlong (by omega) (by omega)
 obtain ⟨V, hV⟩ : ∃ V, V = begF ga gd gl 1 0 0 z.pages l s := ⟨_, rfl⟩
 rw [<- hV] at HB ⊢
 obtain ⟨z', hz'⟩ : ∃ q, q = (if V.2.2 = 0 then z.begun 1 0 0 else z) := ⟨_, rfl⟩
 rw [<- hz'] at HB ⊢
 have HB' := Lib.hid (show Calls Tryz.prog 43 #[.pointer (some ⟨X, 0, none⟩), .agg #[.int .u64 1, .int .i64 0, .int .u64 0]] w fun e w' => e = .returned (.int .i64 V.2.2) /\ STurn w X R L g fp gS bS ga gd gl z' V.2.1 V.1 w' from HB)
 have y0 := hX.cell
 clear HB hz' hV h hl hs hf hn hlong hG hX
 go_enter Tryz.func42, Tryz.ntmps42
 go_wp2_with (go_at_call 43; refine HB'.out.mono ?_; rintro e w1 ⟨rfl, t⟩)
 go_ret
 exact ⟨rfl, t⟩
def FIn (w5 : World) (X R g : Nat) (fp : List Nat) (gS bS : Nat) (ga gd gl : Int) (z' : Z) (l : List (List UInt8)) (s1 s2 : St) (B : Out) : Nat -> World -> Prop
 | 0, W => W = w5
 | 1, W => Turn w5 g fp gS bS s1 l W
 | 2, W => Turn w5 g fp gS bS s2 l W
 | _, W => STurn w5 X R X g fp gS bS ga gd gl z' B.2.1 B.1 W
def fks : Nat -> FuncId
 | 0 => 39
 | 1 => 41
 | _ => 42
def frs (X : Nat) : Nat -> Array Value
 | 1 => #[.pointer (some ⟨X, 0, none⟩)]
 | _ => #[]
def fcs (bD bG bx : Nat) : Nat -> Array Value
 | 0 => #[.pointer (some ⟨bD, 0, none⟩), .pointer (some ⟨bG, 0, none⟩)]
 | 1 => #[]
 | _ => #[.pointer (some ⟨bx, 0, none⟩)]
theorem format_steps (X R g : Nat) (fp : List Nat) (gS bS : Nat) (ga gd gl : Int) (n : Nat) (s : St) (l : List (List UInt8)) (bD bG bx bF : Nat) (w : World) (hG : Gb ga gd gl) (h : SAt w X R X g fp gS bS ga gd gl (z0 n) s l)
   (hD : Box w bD (.pointer (some ⟨g, 0, none⟩))) (hB : Blk w bG (gcell ga gd gl)) (hX : Box w bx (.pointer (some ⟨X, 0, none⟩)))
   (hF : Blk w bF [.func (.func 39) #[] (fcs bD bG bx 0), .func (.func 41) (frs X 1) #[], .func (.func 42) #[] (fcs bD bG bx 2)])
   (nX : bx ∉ bS :: fp) (nF : bF ∉ bS :: fp) (hl : l.length <= 800000) (hs : s.sz <= 60000000) (hf : srightF s ga gd gl = 0) (hn : (n : Int) = pagesOf ga gd gl)
   (o1 : (Sup.clr s).2 = 0) (o2 : (wipeF gl (Sup.clr s).1).2 = 0) (o3 : (begF ga gd gl 1 0 0 (List.replicate n []) l (wipeF gl (Sup.clr s).1).1).2.2 = 0) :
   Calls Tryz.prog 38 #[.slice (some ⟨bF, 0, none⟩) 3 3] w fun e w' => e = .returned (.int .i64 0) /\ STurn w X R X g fp gS bS ga gd gl ((z0 n).begun 1 0 0) (begF ga gd gl 1 0 0 (List.replicate n []) l (wipeF gl (Sup.clr s).1).1).2.1 (begF ga gd gl 1 0 0 (List.replicate n []) l (wipeF gl (Sup.clr s).1).1).1 w' := by
 have hr := (Sup.srightF_yes hf).1
 have hy := right_yes hr
 have hcz : (Sup.clr s).1.sz <= s.sz + 5 /\ (Sup.clr s).1.size = s.size := by
   have a1 := Disk.sz_write s 2 zero512
   have a2 := Disk.sz_write (write s 2 zero512).1 3 zero512
   have a3 := Disk.sz_flush (write (write s 2 zero512).1 3 zero512).1
   have b1 := write_size s 2 zero512
   have b2 := write_size (write s 2 zero512).1 3 zero512
   have b3 := flush_size (write (write s 2 zero512).1 3 zero512).1
   unfold Sup.clr
   split
   · split
     · exact ⟨by omega, by omega⟩
     · exact ⟨by omega, by omega⟩
   · exact ⟨by omega, by omega⟩
 have hws : (wipeF gl (Sup.clr s).1).1.sz <= (Sup.clr s).1.sz + 200 /\ (wipeF gl (Sup.clr s).1).1.size = (Sup.clr s).1.size := by
   have key : ∀ (a : List Int) (s : St), (wipeL a s).1.size = s.size := by
     intro a
     induction a with
     | nil => intro s; rfl
     | cons p a ih =>
       intro s
       show (if _ then _ else _ : St × Int).1.size = _
       split
       · exact (ih _).trans (write_size _ _ _)
       · exact write_size _ _ _
   have a1 := wipeL_sz ((List.range gl.toNat).map fun i : Nat => 4 + (i : Int)) (Sup.clr s).1
   rw [List.length_map, List.length_range] at a1
   have a2 := Disk.sz_flush (wipeL ((List.range gl.toNat).map fun i : Nat => 4 + (i : Int)) (Sup.clr s).1).1
   have a3 := key ((List.range gl.toNat).map fun i : Nat => 4 + (i : Int)) (Sup.clr s).1
   have a4 := flush_size (wipeL ((List.range gl.toNat).map fun i : Nat => 4 + (i : Int)) (Sup.clr s).1).1
   unfold wipeF
   split
   · exact ⟨by omega, by omega⟩
   · exact ⟨by omega, by omega⟩
 have hlen : ((z0 n).pages.length : Int) = pagesOf ga gd gl := by show ((List.replicate n []).length : Int) = _; rw [List.length_replicate]; exact hn
 have hlong : Snap.longB (z0 n).pages = false := Snap.longB_no (fun j hj => by simp [z0])
 obtain ⟨B, hBe⟩ : ∃ B, B = begF ga gd gl 1 0 0 (List.replicate n []) l (wipeF gl (Sup.clr s).1).1 := ⟨_, rfl⟩
 rw [<- hBe] at o3 ⊢
 refine Calls.mono (steps_any 3 3 bF 0 fks (frs X) (fcs bD bG bx) (FIn w X R g fp gS bS ga gd gl ((z0 n).begun 1 0 0) l (Sup.clr s).1 (wipeF gl (Sup.clr s).1).1 B) (fun _ _ => False) w (by omega) rfl ?_ ?_ ?_) ?_
 · intro i hi W hI
   have hk : Keep (bS :: fp) w W := by
     match i, hi, hI with
     | 0, _, hI => rw [show W = w from hI]; exact Keep.refl _ _
     | 1, _, hI => exact Turn.keepOf hI
     | 2, _, hI => exact Turn.keepOf hI
   have hF' := hF.keepK hk nF
   match i, hi with
   | 0, _ => exact hF'.cell (k := 0) (by simp)
   | 1, _ => exact hF'.cell (k := 1) (by simp)
   | 2, _ => exact hF'.cell (k := 2) (by simp)
 · intro i hi x W
   match i, hi with
   | 0, _ => simp [go_sem, fks]
   | 1, _ => simp [go_sem, fks]
   | 2, _ => simp [go_sem, fks]
 · intro i hi W hI
   match i, hi, hI with
   | 0, _, hI =>
     have hw : W = w := hI
     rw [hw, show frs X 0 ++ fcs bD bG bx 0 = #[.pointer (some ⟨bD, 0, none⟩), .pointer (some ⟨bG, 0, none⟩)] from by simp [frs, fcs]]
     refine Calls.mono (format1_any g fp s gS bS l ga gd gl bD bG w hG h.both (by omega) hf hD hB) ?_
     rintro e w' ⟨rfl, t⟩
     exact ⟨_, rfl, fun _ => t, fun e => absurd o1 e⟩
   | 1, _, hI =>
     obtain ⟨fp1, hB1, k1, f1⟩ := hI
     have hS := h.turned hB1 k1 f1
     obtain ⟨lv, c, x1, _, _⟩ := hS.blk
     rw [show frs X 1 ++ fcs bD bG bx 1 = #[.pointer (some ⟨X, 0, none⟩)] from by simp [frs, fcs]]
     refine Calls.mono (wipe_any X g fp1 gS ga gd gl (z0 n) lv _ (Sup.clr s).1 W hG x1 hS.nX.2.2.2 hB1.disk (by omega) hr) ?_
     rintro e w' hd
     obtain ⟨rfl, t⟩ := Turn.ofDid hB1 hd
     exact ⟨_, rfl, fun _ => Turn.trans k1 f1 t, fun e => absurd o2 e⟩
   | 2, _, hI =>
     obtain ⟨fp1, hB1, k1, f1⟩ := hI
     have hS := h.turned hB1 k1 f1
     rw [show frs X 2 ++ fcs bD bG bx 2 = #[.pointer (some ⟨bx, 0, none⟩)] from by simp [frs, fcs]]
     have hc := format2_any X R X g fp1 gS bS ga gd gl (z0 n) (wipeF gl (Sup.clr s).1).1 l bx W hG hS (hX.keep k1 nX) hl (by omega) (sright_of hf (by omega)) hlen hlong
     rw [show (z0 n).pages = List.replicate n [] from rfl, <- hBe, if_pos o3] at hc
     refine Calls.mono hc ?_
     rintro e w' ⟨rfl, t⟩
     refine ⟨_, rfl, fun _ => STurn.trans (k1.more (fun j hj => by simp only [List.mem_cons] at hj ⊢; rcases hj with e | e <;> simp [e])) ⟨f1, .inl rfl⟩ t, fun e => absurd o3 e⟩
 · rintro e w' ⟨f, rfl, r1, r2⟩
   by_cases hf0 : f = 0
   · exact ⟨by rw [hf0], r1 hf0⟩
   · exact absurd (r2 hf0) id
end Go.Proofs.YtchcmklelmlbgaaGreat.Sto
namespace Go.Proofs.YtchcmklelmlbgaaGreat.Sto
open Go.RowKit
open Go.Proofs.YtchcmklelmlbgaaGreat.Geom
open Go.Proofs.YtchcmklelmlbgaaGreat.Disk (St DAt Did write flush zero512)
open Go.Proofs.YtchcmklelmlbgaaGreat.Sup (Gb gv gcell gthree srightF splace sB sL wf sv scell)
open Go.Proofs.YtchcmklelmlbgaaGreat.Snap (snapF)
set_option linter.unusedVariables false
set_option maxRecDepth 100000
set_option maxHeartbeats 2000000 in
theorem format_any (g : Nat) (fp : List Nat) (s : St) (gS bS : Nat) (l : List (List UInt8)) (ga gd gl : Int) (n : Nat) (w : World) (hG : Gb ga gd gl) (h : Both w g fp s gS bS l) (hl : l.length <= 800000) (hs : s.sz <= 60000000) (hf : srightF s ga gd gl = 0) (hn : (n : Int) = pagesOf ga gd gl)
   (o1 : (Sup.clr s).2 = 0) (o2 : (wipeF gl (Sup.clr s).1).2 = 0) (o3 : (begF ga gd gl 1 0 0 (List.replicate n []) l (wipeF gl (Sup.clr s).1).1).2.2 = 0) :
   Calls Tryz.prog 14 #[.pointer (some ⟨g, 0, none⟩), .pointer (some ⟨gS, 0, none⟩), gv ga gd gl] w fun e w' => ∃ X, e = .returned (.tuple #[.pointer (some ⟨X, 0, none⟩), .int .i64 0]) /\
     NewStore w g fp gS bS ga gd gl ((z0 n).begun 1 0 0) (begF ga gd gl 1 0 0 (List.replicate n []) l (wipeF gl (Sup.clr s).1).1).2.1 (begF ga gd gl 1 0 0 (List.replicate n []) l (wipeF gl (Sup.clr s).1).1).1 X w' := by
 have hr := (Sup.srightF_yes hf).1
 have hy := right_yes hr
 obtain ⟨w2, hw2⟩ : ∃ w2, w2 = (w.alloc (.cells #[.pointer (some ⟨g, 0, none⟩)] 28)).alloc (.cells #[.int .i64 ga, .int .i64 gd, .int .i64 gl] 23) := ⟨_, rfl⟩
 have b2 : Below w.heap.size w w2 := by rw [hw2]; exact b2alloc _ _ _
 have q0 : Box w2 w.heap.size (.pointer (some ⟨g, 0, none⟩)) := by rw [hw2]; exact (Box.new w _ _).alloc _
 have q1 : Blk w2 (w.heap.size + 1) (gcell ga gd gl) := by rw [hw2]; simpa using Blk.new (w.alloc (.cells #[.pointer (some ⟨g, 0, none⟩)] 28)) (gcell ga gd gl) 23
 have HR := Lib.hid (fun W (bW : Below w.heap.size w W) => right_any g fp s gS ga gd gl W hG (h.disk.on bW))
 rw [hf] at HR
 have HN0 := Lib.hid (show 0 < n from by have := pages_pos hr; omega)
 have HE := Lib.hid (fun W => Snap.empty_any ga gd gl W hG)
 have hnn : (pagesOf ga gd gl).toNat = n := by omega
 rw [hnn] at HE
 have HST := Lib.hid (fun X R bx bF W hS hD hB hX hF nX nF => format_steps X R g fp gS bS ga gd gl n s l w.heap.size (w.heap.size + 1) bx bF W hG hS hD hB hX hF nX nF hl hs hf hn o1 o2 o3)
 obtain ⟨B, hBe⟩ : ∃ B, B = begF ga gd gl 1 0 0 (List.replicate n []) l (wipeF gl (Sup.clr s).1).1 := ⟨_, rfl⟩
 rw [<- hBe] at HST ⊢
 have HH := Lib.hid h
 have HW := Lib.hid hw2
 have HB2 := Lib.hid b2
 have y0 := q0.cell
 obtain ⟨y1, y2, y3⟩ := gthree q1
 have HQ := Lib.hid (show _ /\ _ from ⟨q0, q1⟩)
 have e0 := q0.lt
 have e1 := q1.lt
 clear hw2 q0 q1 hnn b2 hBe o1 o2 o3 hl hs hf hn h hG hr hy
 go_enter Tryz.func14, Tryz.ntmps14
 go_upto_region 1 with (fail)
 rw [<- HW.out]
 go_upto_region 4 with (go_at_call 36; refine (HR.out _ HB2.out).mono ?_; rintro e w3 ⟨rfl, b3⟩)
 have HS := Lib.hid (fun W (bW : Below w3.heap.size w3 W) => show W.cell? ⟨w.heap.size, 0, none⟩ = some (.pointer (some ⟨g, 0, none⟩)) /\ W.cell? ⟨w.heap.size + 1, 0, none⟩ = some (.int .i64 ga) /\ W.cell? ⟨w.heap.size + 1, 1, none⟩ = some (.int .i64 gd) /\ W.cell? ⟨w.heap.size + 1, 2, none⟩ = some (.int .i64 gl) from
   ⟨(HQ.out.1.on' (bt b3 bW)).cell, gthree (HQ.out.2.on (bt b3 bW))⟩)
 have cz : Below w3.heap.size w3 w3.drew := (Below.refl _ _).drew
 go_cut [9] (fun v wx => FMid w3 g gS ga gd gl n v wx)
 case first =>
   go_region_held3 (fun W => W.cell? ⟨w.heap.size, 0, none⟩ = some (.pointer (some ⟨g, 0, none⟩)) /\ W.cell? ⟨w.heap.size + 1, 0, none⟩ = some (.int .i64 ga) /\ W.cell? ⟨w.heap.size + 1, 1, none⟩ = some (.int .i64 gd) /\ W.cell? ⟨w.heap.size + 1, 2, none⟩ = some (.int .i64 gl))
     (first | exact HS.out _ cz | exact HS.out _ be | exact HS.out _ (bt cz (b1alloc _ _)) | exact HS.out _ (bt be (b1alloc _ _)) | exact HS.out _ (bt be (b2alloc _ _ _)) | exact HS.out _ (bt (bset be (Nat.le_refl _) _) (b1alloc _ _)) | exact HS.out _ (bt (bset (bt be (b1alloc _ _)) be.size _) (b1alloc _ _)) | exact HS.out _ (bset (bt be (b2alloc _ _ _)) (Nat.le_succ_of_le be.size) _) | exact HS.out _ (bset (bt be (b2alloc _ _ _)) be.size _) | exact HS.out _ (bset (bt be (b1alloc _ _)) (Nat.le_refl _) _))
     ((go_at_call 37; refine (HE.out _).mono ?_; rintro e w4 ⟨A4, c4, rfl, own4, b4⟩; first | (have be := bt (bt cz (b1alloc _ _)) b4; have n1 : w4.cell? ⟨w3.heap.size, 0, none⟩ = some (.pointer none) := ((Box.new w3.drew 35 (.pointer none)).on' b4).cell; have n2 : w4.frozen? ⟨w3.heap.size, 0, none⟩ = false := ((Box.new w3.drew 35 (.pointer none)).on' b4).free; have n3 : ∀ o, (w4.alloc o).cell? ⟨w3.heap.size, 0, none⟩ = some (.pointer none) := fun o => (((Box.new w3.drew 35 (.pointer none)).on' b4).alloc o).cell; have n4 : ∀ o, (w4.alloc o).frozen? ⟨w3.heap.size, 0, none⟩ = false := fun o => (((Box.new w3.drew 35 (.pointer none)).on' b4).alloc o).free; have n6 := (Box.new w3.drew 35 (.pointer none)).on' b4; have n5 : w3.heap.size < w4.heap.size := Nat.lt_of_lt_of_le (Box.new w3.drew 35 (.pointer none)).lt b4.size) | (have be := bt cz b4; have n1 := fun o => (new_cell w4 o (.pointer none) 35).1; have n2 := fun o => (new_cell w4 o (.pointer none) 35).2; have n3 := fun o => (new_cell0 w4 o (.pointer none) 35).1; have n4 := fun o => (new_cell0 w4 o (.pointer none) 35).2)))
   all_goals (go_wp2_with fail; go_meet)
   all_goals (case rel => first | exact fmid1 own4 be HN0.out | exact fmid2 own4 be HN0.out | exact fmid3 own4 (by show _ <= (World.alloc _ _).heap.size; simp) n6 be HN0.out)
 case rest =>
   obtain ⟨X, R, bx, c, rfl, hbx, hX, own, bel, x1, x2, x3, x4, x5, x6⟩ := hcut
   have bw := bt HB2.out (bt b3 bel)
   have hS : SAt wc X R X g fp gS bS ga gd gl (z0 n) s l := by
     have hlt := HH.out.disk.lt
     have hls := HH.out.sym.lt
     have hw3 := (bt HB2.out b3).size
     refine ⟨HH.out.on bw, ⟨.pointer none, c, ?_, fun e => (by cases e), ⟨List.replicate n (.slice none 0 0), ?_, fun i hi => ?_⟩⟩, fun e => (by cases e), ⟨x4, by omega, by omega, fun e => by have := hlt _ e; omega⟩, ⟨fun e => x4 e.symm, by omega, by omega, fun e => by have := hlt _ e; omega⟩, ⟨by omega, by omega, fun e => by have := hlt _ e; omega⟩, hX.lt⟩
     · have e : (z0 n).pages.length = n := by simp [z0]
       rw [e]; exact hX
     · have e : (z0 n).pages.length = n := by simp [z0]
       rw [e]; exact own_base own (Nat.zero_le _)
     · have e : (z0 n).pages[i] = [] := by simp [z0]
       have hi' : i < n := by simpa [z0] using hi
       refine ⟨none, 0, ?_, ?_, ?_, by unfold maxLen; omega⟩
       · rw [e]; simp [hi']
       · rw [e]; exact RdQ.nil _ _ _
       · rw [e]; simp
   have HSt := Lib.hid hS
   have HBx := Lib.hid hbx
   have Hbw := Lib.hid bw
   have HBel := Lib.hid (bt b3 bel)
   have Hx := Lib.hid (show _ /\ _ /\ _ from ⟨x1, x2, x3⟩)
   have v0 := hbx.cell
   have Hbxn := Lib.hid (show bx ∉ X :: R :: X :: bS :: fp from fun e => by
     simp only [List.mem_cons] at e
     have hls := HH.out.sym.lt
     have hw3 := (bt HB2.out b3).size
     rcases e with e | e | e | e | e
     · exact x5 e.symm
     · exact x6 e.symm
     · exact x5 e.symm
     · omega
     · have := HH.out.disk.lt _ e; omega)
   have hw3 := Lib.hid (bt HB2.out b3).size
   have HnX := Lib.hid (fun j (hj : w.heap.size <= j) => show j ∉ bS :: fp from fun e => by
     have hls := HH.out.sym.lt
     rcases List.mem_cons.1 e with e | e
     · omega
     · have := HH.out.disk.lt _ e; omega)
   clear hS hbx hX own bel x1 x2 x3 x4 x5 x6 bw
   go_wp2_with (go_at_call 38; refine (HST.out X R bx wc.heap.size _ (HSt.out.on (b1alloc _ _)) (HQ.out.1.on' (bt HBel.out (b1alloc _ _))) (HQ.out.2.on (bt HBel.out (b1alloc _ _))) (HBx.out.alloc _) (Blk.new wc _ _) (HnX.out _ (Nat.le_trans hw3.out Hx.out.2.2)) (HnX.out _ Hbw.out.size)).mono ?_; rintro e w6 ⟨rfl, t6⟩; have hbxn : bx ∉ X :: R :: X :: bS :: fp := Hbxn.out; have v1 := ((HBx.out.alloc _).keep t6.keepOf hbxn).cell)
   go_ret2
   obtain ⟨L', fp', s1, s2, s3⟩ := t6
   have hls := HH.out.sym.lt
   have hlt := HH.out.disk.lt
   have k0 : Keep (bS :: fp) w w6 := (Keep.of_below (bt Hbw.out (b1alloc _ _)) (bS :: fp)).trans s2 (fun j hj => by
     simp only [List.mem_cons] at hj ⊢
     have := Hx.out
     have := hw3.out
     rcases hj with e | e | e | e | e
     · exact .inr (by omega)
     · exact .inr (by omega)
     · exact .inr (by omega)
     · exact .inl (.inl e)
     · exact .inl (.inr e))
   have hge : ∀ j ∈ L' :: fp', j ∈ fp \/ w.heap.size <= j := fun j hj => by
     have := Hx.out
     have := hw3.out
     rcases s3.all j hj with e | e
     · rcases List.mem_cons.1 e with e | e
       · exact .inr (by omega)
       · exact .inl e
     · exact .inr (by have := Hbw.out.size; have := (b1alloc wc (.cells #[] 0)).size; simp at e; omega)
   refine ⟨X, rfl, R, L', fp', s1, k0, fun j hj => hge j (List.mem_cons_of_mem _ hj), by have := Hx.out; have := hw3.out; omega, by have := Hx.out; have := hw3.out; omega, ?_⟩
   have := Hx.out
   have := hw3.out
   rcases s3.2 with e | e
   · omega
   · exact Nat.le_trans (bt Hbw.out (b1alloc wc _)).size e
end Go.Proofs.YtchcmklelmlbgaaGreat.Sto
namespace Go.Proofs.YtchcmklelmlbgaaGreat.Sto
open Go.RowKit
open Go.Proofs.YtchcmklelmlbgaaGreat.Geom
open Go.Proofs.YtchcmklelmlbgaaGreat.Disk (St DAt Did)
open Go.Proofs.YtchcmklelmlbgaaGreat.Sup (Gb gv)
set_option linter.unusedVariables false
set_option maxRecDepth 100000
theorem set_self {P : List (List UInt8)} {k : Nat} (h : k < P.length) : P.set k P[k] = P := by
 apply List.ext_getElem
 · simp
 · intro i h1 h2
   rw [List.getElem_set]
   split
   · rename_i e; subst e; rfl
   · rfl
theorem infoSl : (Tryz.prog.info? 51).map (·.size) = some 1 := by kernel_rfl
set_option maxHeartbeats 1000000 in
theorem pages_any (X R L g : Nat) (fp : List Nat) (gS bS : Nat) (ga gd gl : Int) (z : Z) (s : St) (l : List (List UInt8)) (w : World) (h : SAt w X R L g fp gS bS ga gd gl z s l) (hn0 : 0 < z.pages.length) (hn1 : z.pages.length <= 1000) (hb : ∀ b ∈ z.pages, b.length <= 1000000) :
   Calls Tryz.prog 19 #[.pointer (some ⟨X, 0, none⟩)] w fun e w' => ∃ G c, e = .returned (.slice (some ⟨G, 0, none⟩) z.pages.length c) /\ SRow w' G c z.pages (fun j => j ≠ G) /\ Below w.heap.size w w' /\ w.heap.size <= G := by
 obtain ⟨i0, hi0, hz0, hz1, hz2⟩ := info_parts Snap.infoS
 obtain ⟨lv, c, h1, _, h3⟩ := h.blk
 obtain ⟨y0, y1, y2, y3, y4, y5, y6, y7, y8, y9, y10, y11, y12⟩ := thirteen h1
 have hlX := h1.lt
 obtain ⟨xs, o, hx⟩ := h3
 obtain ⟨P, hP⟩ : ∃ P, P = z.pages := ⟨_, rfl⟩
 rw [<- hP] at y10 o hx hn0 hn1 hb ⊢
 have hcap := own_cap o
 have hxl : xs.length = P.length := by have := o.1; omega
 have HO := Lib.hid o
 have HX := Lib.hid hx
 have Hxl := Lib.hid hxl
 have Hb := Lib.hid hb
 have HR := Lib.hid (show ∀ W, Below w.heap.size w W -> Rd W W.heap.size (some ⟨R, 0, none⟩) xs from fun W bW => (Rd.own o).on bW)
 have H1 := Lib.hid (show ∀ v ∈ xs, v.oneCell' = true from fun v hv => by
   obtain ⟨i, hi, rfl⟩ := List.mem_iff_getElem.1 hv
   obtain ⟨Ai, ci, e, _⟩ := hx i (by omega)
   rw [List.getElem?_eq_getElem hi] at e
   injection e with e
   rw [e]; simp [Value.oneCell'])
 clear h h1 hP o hx hxl hb y0 y1 y2 y3 y4 y5 y6 y7 y8 y9 y11 y12
 go_enter Tryz.func19, Tryz.ntmps19
 go_wp2_with (first
   | (at_make; refine wpList_make_full _ rfl _ _ _ rfl w.heap.size 51 i0 _ 1 Tryz.underlying47 hi0 hz0 hz1 _ _ _ _ P.length rfl rfl rfl rfl (by rw [hz2]; omega) (by simp only [maxLen]; omega) (Nat.le_refl _) ?_; intro w3 own3 b3; have bel := (Below.refl w.heap.size w).grown b3 (Nat.le_refl _) (by simp); have u10 := (World.cell?_of_block (bel.block _ hlX)).trans y10)
   | ((with_reducible show wpList _ _ _ (⟨some 19, _, _, _, _, _⟩ :: _) _ _); refine Mac.wpList_copyO rfl _ _ _ _ rfl rfl rfl Tryz.underlying47 infoSl own3 Hxl.out (HR.out _ bel) H1.out ?_; intro w4 r4 own4 g4))
 have bel4 := bel.grown g4 bel.size (fun r e => by injection e with e; omega)
 have hS : SRow w4 w.heap.size P.length P (fun j => j ≠ w.heap.size) := by
   refine ⟨xs, ?_, fun i hi => ?_⟩
   · have e : xs.take P.length ++ (madeCells (Value.slice none 0 0).cells (P.length * 1)).toList.drop (xs.take P.length).length = xs := by
       rw [List.take_of_length_le (by rw [Hxl.out]; exact Nat.le_refl _), Snap.made_nil, Hxl.out, List.drop_of_length_le (by simp), List.append_nil]
     have o5 := own4
     rw [e] at o5
     exact own_base o5 (Nat.zero_le _)
   · obtain ⟨Ai, ci, a, b, d⟩ := HX.out i hi
     exact ⟨Ai, ci, a, b.move (Keep.of_below bel4 []) (fun j _ hlt => ⟨by simp, by omega⟩), d⟩
 have HS := Lib.hid hS
 have HB := Lib.hid bel4
 clear hS bel4 own4 g4 own3 b3 bel u10 y10 hlX hcap
 go_loopw [22] (fun i wr => ∃ k : Nat, k <= P.length /\ i = .int .i64 (k : Int) /\ Below w.heap.size w wr /\ SRow wr w.heap.size P.length P (fun j => j ≠ w.heap.size)) (fun i _ => P.length - (intOf i).toNat)
 case atStart => exact ⟨0, by omega, rfl, HB.out, HS.out⟩
 case round =>
   obtain ⟨k, hk, rfl, bw, hS⟩ := hrel
   by_cases hlt : k < P.length
   · have hkn : (k : Int) < (P.length : Int) := by omega
     obtain ⟨Ai, ci, c0, rd, hci, hcm⟩ := hS.get hlt
     have h6 := Hb.out _ (List.getElem_mem hlt)
     have HPk := Lib.hid (set_self hlt)
     obtain ⟨m, hm⟩ : ∃ m, m = P[k] := ⟨_, rfl⟩
     rw [<- hm] at c0 rd hci h6 HPk
     have fR := hS.free k
     have hlR := hS.lt
     have HC := Lib.hid (Sl.clone_any Ai m _ ci wr rfl rd.rd (by omega))
     have Hbw := Lib.hid bw
     have HSr := Lib.hid hS
     clear hm hS bw rd
     go_wp2_with (go_at_call 57; refine HC.out.mono ?_; rintro e w5 ⟨A5, c5, rfl, o5, b5⟩; have d0 := (World.cell?_of_block (b5.block _ hlR)).trans c0; have d1 := (World.frozen?_of_block (b5.block _ hlR)).trans fR; have O5 := Lib.hid o5; have B5 := Lib.hid b5; clear o5 b5)
     case roundEnd =>
       have hS5 := (HSr.out.on B5.out).set (fun h => h rfl) k (m := m) (A := A5) (ci := c5) ((RdQ.own O5.out).imp (fun j _ hj => by omega)) (own_cap O5.out).1 (own_cap O5.out).2
       rw [HPk.out] at hS5
       exact ⟨⟨k + 1, by omega, by go_num, bset (bt Hbw.out B5.out) (Nat.le_refl _) _, hS5⟩, by simp only [intOf]; omega⟩
   · obtain rfl : k = P.length := by omega
     have hkn : ¬ (P.length : Int) < (P.length : Int) := by omega
     have Hbw := Lib.hid bw
     have HSr := Lib.hid hS
     clear hS bw
     go_wp2_with fail
     go_ret
     exact ⟨_, _, rfl, HSr.out, Hbw.out, Nat.le_refl _⟩
theorem page_in (X R L g : Nat) (fp : List Nat) (gS bS : Nat) (ga gd gl : Int) (z : Z) (s : St) (l : List (List UInt8)) (n : Nat) (w : World) (h : SAt w X R L g fp gS bS ga gd gl z s l) (hn : n < z.pages.length) (hm : z.pages.length <= 1000) (hb : z.pages[n].length <= 1000000) :
   Calls Tryz.prog 27 #[.pointer (some ⟨X, 0, none⟩), .int .i64 (n : Int)] w fun e w' => RetB 5 w z.pages[n] e w' := by
 obtain ⟨lv, c, h1, _, h3⟩ := h.blk
 obtain ⟨y0, y1, y2, y3, y4, y5, y6, y7, y8, y9, y10, y11, y12⟩ := thirteen h1
 obtain ⟨Ai, ci, c0, rd, hci, hcm⟩ := h3.get hn
 have HC := Sl.clone_any Ai z.pages[n] _ ci w rfl rd.rd (by omega)
 obtain ⟨m, hm'⟩ : ∃ m, m = z.pages[n] := ⟨_, rfl⟩
 rw [<- hm'] at c0 HC ⊢
 have HC' := Lib.hid HC
 have h0 : ¬ (n : Int) < 0 := by omega
 have h2 : ¬ (z.pages.length : Int) <= (n : Int) := by omega
 have h4 : (n : Int) < (z.pages.length : Int) := by omega
 clear h h1 h3 HC hm' rd hci hb
 go_enter Tryz.func27, Tryz.ntmps27
 go_wp2_with (go_at_call 57; refine HC'.out.mono ?_; rintro e w5 ⟨A5, c5, rfl, o5, b5⟩)
 go_ret
 exact ⟨A5, c5, rfl, o5, b5⟩
end Go.Proofs.YtchcmklelmlbgaaGreat.Sto
namespace Go.Proofs.YtchcmklelmlbgaaGreat.Sto
open Go.RowKit
open Go.Proofs.YtchcmklelmlbgaaGreat.Geom
open Go.Proofs.YtchcmklelmlbgaaGreat.Disk (St DAt Did)
open Go.Proofs.YtchcmklelmlbgaaGreat.Sup (Gb gv gcell gthree srightF SV atR best rdV oV)
open Go.Proofs.YtchcmklelmlbgaaGreat.Snap (snapR OwnRows RetRows It)
open Go.Proofs.YtchcmklelmlbgaaGreat.Wal (scanTx OwnTx wrightF Tx Txs)
set_option linter.unusedVariables false
set_option maxRecDepth 100000
structure OEnv (w : World) (bD bE bG bx X g gS : Nat) (ga gd gl : Int) : Prop where
 d : Box w bD (.pointer (some ⟨g, 0, none⟩))
 s : Box w bE (.pointer (some ⟨gS, 0, none⟩))
 g : Blk w bG (gcell ga gd gl)
 x : Box w bx (.pointer (some ⟨X, 0, none⟩))
 nD : bD ≠ X
 nE : bE ≠ X
 nG : bG ≠ X
 nx : bx ≠ X
theorem OEnv.keep {w w' : World} {bD bE bG bx X g gS : Nat} {ga gd gl : Int} (h : OEnv w bD bE bG bx X g gS ga gd gl) (k : Keep [X] w w') : OEnv w' bD bE bG bx X g gS ga gd gl :=
 ⟨h.d.keep k (by simpa using h.nD), h.s.keep k (by simpa using h.nE), h.g.keepK k (by simpa using h.nG), h.x.keep k (by simpa using h.nx), h.nD, h.nE, h.nG, h.nx⟩
theorem OEnv.cells {w : World} {bD bE bG bx X g gS : Nat} {ga gd gl : Int} (h : OEnv w bD bE bG bx X g gS ga gd gl) : w.cell? ⟨bD, 0, none⟩ = some (.pointer (some ⟨g, 0, none⟩)) /\ w.cell? ⟨bE, 0, none⟩ = some (.pointer (some ⟨gS, 0, none⟩)) /\ w.cell? ⟨bG, 0, none⟩ = some (.int .i64 ga) /\ w.cell? ⟨bG, 1, none⟩ = some (.int .i64 gd) /\ w.cell? ⟨bG, 2, none⟩ = some (.int .i64 gl) /\ w.cell? ⟨bx, 0, none⟩ = some (.pointer (some ⟨X, 0, none⟩)) := by
 obtain ⟨a, b, c⟩ := gthree h.g
 exact ⟨h.d.cell, h.s.cell, a, b, c, h.x.cell⟩
def Z.sup (z : Z) (v : SV) : Z := { z with life := v.life, base := v.base, gen := v.gen }
def supF (o : Option SV) : Int := if o.isSome = true then 0 else 11
theorem rdV_is (o : Option SV) : rdV o = .tuple #[.agg #[.int .u64 ((oV o).life.toNat : Int), .int .i64 (oV o).base, .int .u64 ((oV o).gen.toNat : Int)], .int .i64 (supF o)] := by
 cases o <;> rfl
theorem set_sup {w w1 : World} {X g gS : Nat} {ga gd gl : Int} {z : Z} {lv pv : Value} (h : Blk w X (xc g gS ga gd gl z lv pv)) (b : Below w.heap.size w w1) (v : SV) :
   Blk (((w1.setCell ⟨X, 5, none⟩ (.int .u64 (v.life.toNat : Int))).setCell ⟨X, 6, none⟩ (.int .i64 v.base)).setCell ⟨X, 7, none⟩ (.int .u64 (v.gen.toNat : Int))) X (xc g gS ga gd gl (z.sup v) lv pv) /\
     Keep [X] w (((w1.setCell ⟨X, 5, none⟩ (.int .u64 (v.life.toNat : Int))).setCell ⟨X, 6, none⟩ (.int .i64 v.base)).setCell ⟨X, 7, none⟩ (.int .u64 (v.gen.toNat : Int))) :=
 ⟨((((h.on b).set (k := 5) (.int .u64 (v.life.toNat : Int))).set (k := 6) (.int .i64 v.base)).set (k := 7) (.int .u64 (v.gen.toNat : Int)) : Blk _ X _),
   (((Keep.of_below b [X]).set (p := ⟨X, 5, none⟩) (.inl (by simp)) _).set (p := ⟨X, 6, none⟩) (.inl (by simp)) _).set (p := ⟨X, 7, none⟩) (.inl (by simp)) _⟩
abbrev oS (bD bE bG bx X g gS : Nat) (ga gd gl : Int) (W : World) : Prop := W.cell? ⟨bD, 0, none⟩ = some (.pointer (some ⟨g, 0, none⟩)) /\ W.cell? ⟨bE, 0, none⟩ = some (.pointer (some ⟨gS, 0, none⟩)) /\ W.cell? ⟨bG, 0, none⟩ = some (.int .i64 ga) /\ W.cell? ⟨bG, 1, none⟩ = some (.int .i64 gd) /\ W.cell? ⟨bG, 2, none⟩ = some (.int .i64 gl) /\ W.cell? ⟨bx, 0, none⟩ = some (.pointer (some ⟨X, 0, none⟩))
theorem ownRows_srow {w : World} {base n c : Nat} {A : Option Addr} {P : List (List UInt8)} (h : OwnRows w base (.slice A n c) P) (hn : n = P.length) (h0 : 0 < n) : ∃ R, A = some ⟨R, 0, none⟩ /\ base <= R /\ SRow w R c P (fun j => base <= j /\ j ≠ R) := by
 obtain ⟨its, o, e, ok⟩ := h
 have hil : its.length = n := by
   rw [hn, <- e, List.length_map]
 rw [hil] at o
 obtain ⟨R, c', ev, hR⟩ := own_some o h0
 injection ev with e1 e2 e3
 subst e1 e3
 have hRt : ∃ cur, w.heap[R]? = some (.cells cur 51 (0, 0)) := by
   rcases o.2 with ⟨hv, hz⟩ | ⟨g, cap, cur, hv, hg, hh, _⟩
   · omega
   · injection hv with a1 _ _
     injection a1 with a1
     injection a1 with a1
     exact ⟨cur, by rw [a1]; exact hh⟩
 refine ⟨R, rfl, hR, its.map It.sl, by rw [<- hn]; exact own_base o (Nat.zero_le _), fun i hi => ?_⟩
 have hi' : i < its.length := by omega
 have hP : P[i] = its[i].body := by simp [<- e]
 obtain ⟨ho, hl⟩ := ok its[i] (List.getElem_mem hi')
 refine ⟨its[i].A, its[i].c, ?_, ?_, ?_, ?_⟩
 · rw [List.getElem?_map, List.getElem?_eq_getElem hi', hP]; rfl
 · rw [hP]
   intro hne
   rcases ho.2 with ⟨hv, hz⟩ | ⟨g, cap, cur, hv, hg, hh, hnc, hcm, hcs, ht⟩
   · exact absurd (List.eq_nil_of_length_eq_zero (by have := ho.1; omega)) hne
   · injection hv with hA _ _
     rw [hA]
     refine ⟨g, 0, rfl, lt_of_block hh, ⟨hg, fun e => ?_⟩, fun k hk => ?_⟩
     · obtain ⟨cur', hh'⟩ := hRt
       rw [<- e, hh] at hh'
       injection hh' with h1
       injection h1 with _ h2 _
       cases h2
     · have hc := ho
       rw [hA] at hc
       have := World.ownsRow.cellAt (j := k) hc (by have := ho.1; omega)
       rw [Nat.zero_add, this]; exact List.getElem?_eq_getElem hk
 · rw [hP]; exact (own_cap ho).1
 · exact (own_cap ho).2
set_option maxHeartbeats 1000000 in
theorem open1_any (bD bE bG bx X g : Nat) (fp : List Nat) (s : St) (gS bS : Nat) (l : List (List UInt8)) (ga gd gl : Int) (z : Z) (lv pv : Value) (w : World) (hG : Gb ga gd gl) (hE : OEnv w bD bE bG bx X g gS ga gd gl) (hX : Blk w X (xc g gS ga gd gl z lv pv)) (h : Both w g fp s gS bS l)
   (hl : l.length <= 1000000) (hs : s.sz <= 90000000) (hf : srightF s ga gd gl = 0) (hd : s.down = false) (o : Option SV) (ho : best (best none (atR l s ga gd gl 2)) (atR l s ga gd gl 3) = o) :
   Calls Tryz.prog 50 #[.pointer (some ⟨bD, 0, none⟩), .pointer (some ⟨bE, 0, none⟩), .pointer (some ⟨bG, 0, none⟩), .pointer (some ⟨bx, 0, none⟩)] w fun e w' => e = .returned (.int .i64 (supF o)) /\ Blk w' X (xc g gS ga gd gl (z.sup (oV o)) lv pv) /\ Keep [X] w w' := by
 have HR := Lib.hid (fun W (bW : Below w.heap.size w W) => Sup.readSup_any g fp s gS bS l ga gd gl W hG (h.on bW) hl hs hf hd)
 rw [ho, rdV_is] at HR
 obtain ⟨q0, q1, q2, q3, q4, q5⟩ := hE.cells
 have cz : Below w.heap.size w w.drew := (Below.refl _ _).drew
 have hlX := hX.lt
 have hXc := Lib.hid (fun W (bW : Below w.heap.size w W) => show (W.cell? ⟨X, 5, none⟩ = some (.int .u64 (z.life.toNat : Int)) /\ W.cell? ⟨X, 6, none⟩ = some (.int .i64 z.base) /\ W.cell? ⟨X, 7, none⟩ = some (.int .u64 (z.gen.toNat : Int))) /\ (∀ k, W.frozen? ⟨X, k, none⟩ = false) from
   ⟨⟨(hX.on bW).cell (k := 5) (by simp), (hX.on bW).cell (k := 6) (by simp), (hX.on bW).cell (k := 7) (by simp)⟩, (hX.on bW).free⟩)
 have HS := Lib.hid (fun W (kW : Keep [X] w W) => (hE.keep kW).cells)
 have HF := Lib.hid (fun W (bW : Below w.heap.size w W) => set_sup hX bW (oV o))
 obtain ⟨v, hv⟩ : ∃ v, v = oV o := ⟨_, rfl⟩
 obtain ⟨f, hf0⟩ : ∃ v, v = supF o := ⟨_, rfl⟩
 rw [<- hv] at HF HR ⊢
 rw [<- hf0] at HR ⊢
 clear hv hf0 ho h hl hs hf hd hE hX hG
 go_enter Tryz.func50, Tryz.ntmps50
 go_wp2_with fail
 go_region_held3 (fun W => oS bD bE bG bx X g gS ga gd gl W) (first | exact HS.out _ (Keep.refl _ _) | exact HS.out _ (Keep.of_below cz _) | exact HS.out _ (Keep.of_below c1 _) | exact HS.out _ k2) ((go_at_call 51; refine (HR.out _ cz).mono ?_; rintro e w1 ⟨rfl, b1⟩; have c1 := bt cz b1; obtain ⟨⟨x5, x6, x7⟩, fx⟩ := hXc.out w1 c1; have k2 := (HF.out w1 c1).2))
 have fin := Lib.hid (HF.out w1 c1)
 clear k2 x5 x6 x7 fx
 go_wp2_with fail
 go_ret
 exact ⟨rfl, fin.out⟩
set_option maxHeartbeats 1000000 in
theorem open2_any (bD bE bG bx X g : Nat) (fp : List Nat) (s : St) (gS bS : Nat) (l : List (List UInt8)) (ga gd gl : Int) (z : Z) (lv pv : Value) (w : World) (hG : Gb ga gd gl) (hE : OEnv w bD bE bG bx X g gS ga gd gl) (hX : Blk w X (xc g gS ga gd gl z lv pv)) (h : Both w g fp s gS bS l)
   (hl : l.length <= 1000000) (hs : s.sz <= 90000000) (hf : srightF s ga gd gl = 0) (hd : s.down = false) (P0 : List (List UInt8)) (hn : (P0.length : Int) = pagesOf ga gd gl) (h0 : 0 < P0.length) (hp : snapR l s ga gd gl z.life P0.length = some P0) :
   Calls Tryz.prog 52 #[.pointer (some ⟨bD, 0, none⟩), .pointer (some ⟨bE, 0, none⟩), .pointer (some ⟨bG, 0, none⟩), .pointer (some ⟨bx, 0, none⟩)] w fun e w' => e = .returned (.int .i64 0) /\ ∃ R c, Blk w' X (xc g gS ga gd gl z lv (.slice (some ⟨R, 0, none⟩) P0.length c)) /\ SRow w' R c P0 (fun j => w.heap.size <= j /\ j ≠ R) /\ w.heap.size <= R /\ Keep [X] w w' := by
 have HR := Lib.hid (fun W (bW : Below w.heap.size w W) => Snap.read_any g fp s gS bS l ga gd gl z.life W hG (h.on bW) hl hs hf hd P0.length hn)
 rw [hp] at HR
 obtain ⟨q0, q1, q2, q3, q4, q5⟩ := hE.cells
 have cz : Below w.heap.size w w.drew := (Below.refl _ _).drew
 have hlX := hX.lt
 have hXc := Lib.hid (fun W (bW : Below w.heap.size w W) => show W.cell? ⟨X, 10, none⟩ = some pv /\ W.cell? ⟨X, 5, none⟩ = some (.int .u64 (z.life.toNat : Int)) /\ (∀ k, W.frozen? ⟨X, k, none⟩ = false) from
   ⟨(hX.on bW).cell (k := 10) (by simp), (hX.on bW).cell (k := 5) (by simp), (hX.on bW).free⟩)
 have HS := Lib.hid (fun W (kW : Keep [X] w W) => (hE.keep kW).cells)
 have HF := Lib.hid (fun W (bW : Below w.heap.size w W) (v : Value) => show Blk (W.setCell ⟨X, 10, none⟩ v) X (xc g gS ga gd gl z lv v) /\ Keep [X] w (W.setCell ⟨X, 10, none⟩ v) from
   ⟨((hX.on bW).set (k := 10) v : Blk _ X _), (Keep.of_below bW [X]).set (p := ⟨X, 10, none⟩) (.inl (by simp)) _⟩)
 have HX5 := Lib.hid (fun W (bW : Below w.heap.size w W) (v : Value) => show (W.setCell ⟨X, 10, none⟩ v).cell? ⟨X, 5, none⟩ = some (.int .u64 (z.life.toNat : Int)) from ((HF.out W bW v).1).cell (k := 5) (by simp))
 have H0 := Lib.hid h0
 have x5 := (hXc.out w (Below.refl _ _)).2.1
 clear hp h hl hs hf hd hE hX hG hn h0
 go_enter Tryz.func52, Tryz.ntmps52
 go_wp2_with fail
 go_region_held3 (fun W => oS bD bE bG bx X g gS ga gd gl W /\ W.cell? ⟨X, 5, none⟩ = some (.int .u64 (z.life.toNat : Int))) (first | exact ⟨HS.out _ (Keep.refl _ _), x5⟩ | exact ⟨HS.out _ (Keep.of_below cz _), (hXc.out _ cz).2.1⟩ | exact ⟨HS.out _ (Keep.of_below c1 _), (hXc.out _ c1).2.1⟩ | exact ⟨HS.out _ (HF.out _ c1 _).2, HX5.out _ c1 _⟩) ((go_at_call 53; refine (HR.out _ cz).mono ?_; rintro e w1 ⟨⟨A1, c1', rfl, own1⟩, b1⟩; have c1 := bt cz b1; obtain ⟨x10, _, fx⟩ := hXc.out w1 c1))
 obtain ⟨R, rfl, r1, r2⟩ := ownRows_srow own1 rfl H0.out
 have fin := Lib.hid (HF.out w1 c1 (.slice (some ⟨R, 0, none⟩) P0.length c1'))
 have hRX : R ≠ X := fun e => by have := (show w.heap.size <= R from r1); omega
 have fin2 := Lib.hid (r2.move ((Keep.refl [X] w1).set (p := ⟨X, 10, none⟩) (.inl (by simp)) (.slice (some ⟨R, 0, none⟩) P0.length c1')) (by simpa using hRX) (fun j hj _ => ⟨by simp; have := hj.1; have h9 : w.heap.size <= j := hj.1; omega, hj⟩))
 have fin3 := Lib.hid (show w.heap.size <= R from r1)
 clear x10 fx own1 r1 r2
 go_wp2_with fail
 go_ret
 exact ⟨rfl, R, c1', fin.out.1, fin2.out, fin3.out, fin.out.2⟩
set_option maxHeartbeats 1000000 in
theorem open3_any (bD bE bG bx bl X g : Nat) (fp : List Nat) (s : St) (gS bS : Nat) (l : List (List UInt8)) (ga gd gl : Int) (z : Z) (lv pv v0 : Value) (w : World) (hG : Gb ga gd gl) (hE : OEnv w bD bE bG bx X g gS ga gd gl) (hX : Blk w X (xc g gS ga gd gl z lv pv)) (h : Both w g fp s gS bS l) (hB : Box w bl v0)
   (nl : bl ≠ bD /\ bl ≠ bE /\ bl ≠ bG /\ bl ≠ bx /\ bl ≠ X) (hl : l.length <= 1000000) (hs : s.sz <= 90000000) (hf : wrightF s ga gd gl z.base = 0) (hd : s.down = false) (ts : List Tx) (hp : scanTx l s ga gd gl z.base z.life = ts) :
   Calls Tryz.prog 54 #[.pointer (some ⟨bD, 0, none⟩), .pointer (some ⟨bE, 0, none⟩), .pointer (some ⟨bG, 0, none⟩), .pointer (some ⟨bx, 0, none⟩), .pointer (some ⟨bl, 0, none⟩)] w fun e w' => e = .returned (.int .i64 0) /\ ∃ A c, Box w' bl (.slice A ts.length c) /\ Txs w' (fun j => w.heap.size <= j) A ts /\ ts.length <= c /\ c <= maxLen /\ Keep [bl] w w' := by
 have HR := Lib.hid (fun W (bW : Below w.heap.size w W) => Wal.scan_any g fp s gS bS l ga gd gl z.life z.base W hG (h.on bW) hl hs hf hd)
 rw [hp] at HR
 obtain ⟨q0, q1, q2, q3, q4, q5⟩ := hE.cells
 have cz : Below w.heap.size w w.drew := (Below.refl _ _).drew
 have hlB := hB.lt
 have hlX := hX.lt
 have HS := Lib.hid (fun W (kW : Keep [bl] w W) => show oS bD bE bG bx X g gS ga gd gl W /\ W.cell? ⟨X, 5, none⟩ = some (.int .u64 (z.life.toNat : Int)) /\ W.cell? ⟨X, 6, none⟩ = some (.int .i64 z.base) from by
   obtain ⟨n1, n2, n3, n4, n5⟩ := nl
   obtain ⟨a, b, c⟩ := gthree (hE.g.keepK kW (by simp; exact fun e => n3 e.symm))
   have hx := hX.keepK kW (by simp; exact fun e => n5 e.symm)
   exact ⟨⟨(hE.d.keep kW (by simp; exact fun e => n1 e.symm)).cell, (hE.s.keep kW (by simp; exact fun e => n2 e.symm)).cell, a, b, c, (hE.x.keep kW (by simp; exact fun e => n4 e.symm)).cell⟩, hx.cell (k := 5) (by simp), hx.cell (k := 6) (by simp)⟩)
 have hXc := Lib.hid (fun W (bW : Below w.heap.size w W) => show W.cell? ⟨bl, 0, none⟩ = some v0 /\ W.frozen? ⟨bl, 0, none⟩ = false from ⟨(hB.on' bW).cell, (hB.on' bW).free⟩)
 have HF := Lib.hid (fun W (bW : Below w.heap.size w W) (v : Value) => show Box (W.setCell ⟨bl, 0, none⟩ v) bl v /\ Keep [bl] w (W.setCell ⟨bl, 0, none⟩ v) from
   ⟨(hB.on' bW).set v, (Keep.of_below bW [bl]).set (p := ⟨bl, 0, none⟩) (.inl (by simp)) _⟩)
 obtain ⟨_, x5, x6⟩ := HS.out w (Keep.refl _ _)
 clear hp h hl hs hf hd hE hX hG hB nl
 go_enter Tryz.func54, Tryz.ntmps54
 go_wp2_with fail
 go_region_held3 (fun W => oS bD bE bG bx X g gS ga gd gl W /\ W.cell? ⟨X, 5, none⟩ = some (.int .u64 (z.life.toNat : Int)) /\ W.cell? ⟨X, 6, none⟩ = some (.int .i64 z.base)) (first | exact HS.out _ (Keep.refl _ _) | exact HS.out _ (Keep.of_below cz _) | exact HS.out _ (Keep.of_below c1 _) | exact HS.out _ (HF.out _ c1 _).2) ((go_at_call 55; refine (HR.out _ cz).mono ?_; rintro e w1 ⟨⟨v1, rfl, own1⟩, b1⟩; obtain ⟨A1, c1', rfl, t1, t2, t3⟩ := own1.txs; have c1 := bt cz b1; obtain ⟨xb, fx⟩ := hXc.out w1 c1))
 have fin := Lib.hid (HF.out w1 c1 (.slice A1 ts.length c1'))
 have fin2 := Lib.hid (show Txs (w1.setCell ⟨bl, 0, none⟩ (.slice A1 ts.length c1')) (fun j => w.heap.size <= j) A1 ts from t1.keep ((Keep.refl [bl] w1).set (p := ⟨bl, 0, none⟩) (.inl (by simp)) (.slice A1 ts.length c1')) (fun j hj _ => by simp; have h9 : w.heap.size <= j := hj; omega))
 clear xb fx own1 t1
 go_wp2_with fail
 go_ret
 exact ⟨rfl, A1, c1', fin.out.1, fin2.out, t2, t3, fin.out.2⟩
end Go.Proofs.YtchcmklelmlbgaaGreat.Sto
namespace Go.Proofs.YtchcmklelmlbgaaGreat.Sto
open Go.RowKit
open Go.Proofs.YtchcmklelmlbgaaGreat.Geom
open Go.Proofs.YtchcmklelmlbgaaGreat.Disk (St DAt Did)
open Go.Proofs.YtchcmklelmlbgaaGreat.Sup (Gb gv gcell gthree srightF SV atR best rdV oV)
open Go.Proofs.YtchcmklelmlbgaaGreat.Snap (snapR OwnRows RetRows It)
open Go.Proofs.YtchcmklelmlbgaaGreat.Wal (scanTx OwnTx wrightF Tx Txs allSecs LAt)
set_option linter.unusedVariables false
set_option maxRecDepth 100000
def zi : Z := ⟨0, 0, 0, 0, [], true, false, 0, false⟩
def OIn (w5 : World) (bl X g gS : Nat) (ga gd gl : Int) (v : SV) (P0 : List (List UInt8)) (ts : List Tx) : Nat -> World -> Prop
 | 0, W => W = w5
 | 1, W => Blk W X (xc g gS ga gd gl (zi.sup v) (.pointer none) (.slice none 0 0)) /\ Keep [X] w5 W
 | 2, W => ∃ R c, Blk W X (xc g gS ga gd gl (zi.sup v) (.pointer none) (.slice (some ⟨R, 0, none⟩) P0.length c)) /\ SRow W R c P0 (fun j => w5.heap.size <= j /\ j ≠ R) /\ w5.heap.size <= R /\ Keep [X] w5 W
 | _, W => ∃ R c A c', Blk W X (xc g gS ga gd gl (zi.sup v) (.pointer none) (.slice (some ⟨R, 0, none⟩) P0.length c)) /\ SRow W R c P0 (fun j => w5.heap.size <= j /\ j ≠ R) /\ w5.heap.size <= R /\ Box W bl (.slice A ts.length c') /\ Txs W (fun j => w5.heap.size <= j /\ j ≠ R) A ts /\ ts.length <= c' /\ c' <= maxLen /\ Keep [X, bl] w5 W
def oks : Nat -> FuncId
 | 0 => 50
 | 1 => 52
 | _ => 54
def ocs (bD bE bG bx bl : Nat) : Nat -> Array Value
 | 0 => #[.pointer (some ⟨bD, 0, none⟩), .pointer (some ⟨bE, 0, none⟩), .pointer (some ⟨bG, 0, none⟩), .pointer (some ⟨bx, 0, none⟩)]
 | 1 => #[.pointer (some ⟨bD, 0, none⟩), .pointer (some ⟨bE, 0, none⟩), .pointer (some ⟨bG, 0, none⟩), .pointer (some ⟨bx, 0, none⟩)]
 | _ => #[.pointer (some ⟨bD, 0, none⟩), .pointer (some ⟨bE, 0, none⟩), .pointer (some ⟨bG, 0, none⟩), .pointer (some ⟨bx, 0, none⟩), .pointer (some ⟨bl, 0, none⟩)]
theorem both1 {w w' : World} {X g : Nat} {fp : List Nat} {s : St} {gS bS : Nat} {l : List (List UInt8)} (h : Both w g fp s gS bS l) (k : Keep [X] w w') (hX : X ∉ bS :: gS :: fp) : Both w' g fp s gS bS l := by
 simp only [List.mem_cons, not_or] at hX
 exact ⟨h.disk.keep k (fun j hj e => hX.2.2 (by rw [List.mem_singleton] at e; exact e ▸ hj)), h.sym.keepK k (by simp; exact fun e => hX.2.1 e.symm) (by simp; exact fun e => hX.1 e.symm), h.nS, h.nB⟩
theorem open_steps (bD bE bG bx bl bF X g : Nat) (fp : List Nat) (s : St) (gS bS : Nat) (l : List (List UInt8)) (ga gd gl : Int) (w : World) (hG : Gb ga gd gl) (hE : OEnv w bD bE bG bx X g gS ga gd gl) (hX : Blk w X (xc g gS ga gd gl zi (.pointer none) (.slice none 0 0))) (h : Both w g fp s gS bS l) (hB : Box w bl (.slice none 0 0))
   (hF : Blk w bF [.func (.func 50) #[] (ocs bD bE bG bx bl 0), .func (.func 52) #[] (ocs bD bE bG bx bl 1), .func (.func 54) #[] (ocs bD bE bG bx bl 2)])
   (nl : bl ≠ bD /\ bl ≠ bE /\ bl ≠ bG /\ bl ≠ bx /\ bl ≠ X) (nF : bF ≠ X /\ bF ≠ bl) (nX : X ∉ bS :: gS :: fp) (hl : l.length <= 1000000) (hs : s.sz <= 90000000) (hf : srightF s ga gd gl = 0) (hd : s.down = false)
   (v : SV) (ho : best (best none (atR l s ga gd gl 2)) (atR l s ga gd gl 3) = some v) (hb : 0 <= v.base /\ v.base <= 1073741824) (P0 : List (List UInt8)) (hn : (P0.length : Int) = pagesOf ga gd gl) (h0 : 0 < P0.length) (hp : snapR l s ga gd gl v.life P0.length = some P0) (ts : List Tx) (ht : scanTx l s ga gd gl v.base v.life = ts) :
   Calls Tryz.prog 38 #[.slice (some ⟨bF, 0, none⟩) 3 3] w fun e w' => e = .returned (.int .i64 0) /\ OIn w bl X g gS ga gd gl v P0 ts 3 w' := by
 refine Calls.mono (steps_any 3 3 bF 0 oks (fun _ => #[]) (ocs bD bE bG bx bl) (OIn w bl X g gS ga gd gl v P0 ts) (fun _ _ => False) w (by omega) rfl ?_ ?_ ?_) ?_
 · intro i hi W hI
   have hk : Keep [X] w W := by
     match i, hi, hI with
     | 0, _, hI => rw [show W = w from hI]; exact Keep.refl _ _
     | 1, _, hI => exact hI.2
     | 2, _, hI => obtain ⟨_, _, _, _, _, k⟩ := hI; exact k
   have hF' := hF.keepK hk (by simpa using nF.1)
   match i, hi with
   | 0, _ => exact hF'.cell (k := 0) (by simp)
   | 1, _ => exact hF'.cell (k := 1) (by simp)
   | 2, _ => exact hF'.cell (k := 2) (by simp)
 · intro i hi x W
   match i, hi with
   | 0, _ => simp [go_sem, oks]
   | 1, _ => simp [go_sem, oks]
   | 2, _ => simp [go_sem, oks]
 · intro i hi W hI
   match i, hi, hI with
   | 0, _, hI =>
     have hw : W = w := hI
     rw [hw, show (#[] : Array Value) ++ ocs bD bE bG bx bl 0 = #[.pointer (some ⟨bD, 0, none⟩), .pointer (some ⟨bE, 0, none⟩), .pointer (some ⟨bG, 0, none⟩), .pointer (some ⟨bx, 0, none⟩)] from by simp [ocs]]
     refine Calls.mono (open1_any bD bE bG bx X g fp s gS bS l ga gd gl zi _ _ w hG hE hX h hl hs hf hd (some v) ho) ?_
     rintro e w' ⟨rfl, x, k⟩
     exact ⟨_, rfl, fun _ => ⟨x, k⟩, fun e => absurd rfl e⟩
   | 1, _, hI =>
     obtain ⟨x, k⟩ := hI
     rw [show (#[] : Array Value) ++ ocs bD bE bG bx bl 1 = #[.pointer (some ⟨bD, 0, none⟩), .pointer (some ⟨bE, 0, none⟩), .pointer (some ⟨bG, 0, none⟩), .pointer (some ⟨bx, 0, none⟩)] from by simp [ocs]]
     refine Calls.mono (open2_any bD bE bG bx X g fp s gS bS l ga gd gl (zi.sup v) _ _ W hG (hE.keep k) x (both1 h k nX) hl hs hf hd P0 hn h0 hp) ?_
     rintro e w' ⟨rfl, R, c, y1, y2, y3, y4⟩
     exact ⟨_, rfl, fun _ => ⟨R, c, y1, y2.imp (fun j _ hj => ⟨Nat.le_trans k.size hj.1, hj.2⟩), Nat.le_trans k.size y3, k.trans y4 (Fresh.refl _ _)⟩, fun e => absurd rfl e⟩
   | 2, _, hI =>
     obtain ⟨R, c, x, y, z, k⟩ := hI
     rw [show (#[] : Array Value) ++ ocs bD bE bG bx bl 2 = #[.pointer (some ⟨bD, 0, none⟩), .pointer (some ⟨bE, 0, none⟩), .pointer (some ⟨bG, 0, none⟩), .pointer (some ⟨bx, 0, none⟩), .pointer (some ⟨bl, 0, none⟩)] from by simp [ocs]]
     have hbl := hB.lt
     refine Calls.mono (open3_any bD bE bG bx bl X g fp s gS bS l ga gd gl (zi.sup v) _ _ _ W hG (hE.keep k) x (both1 h k nX) (hB.keep k (by simpa using nl.2.2.2.2)) nl hl hs (wright_of hf hb.1 hb.2) hd ts ht) ?_
     rintro e w' ⟨rfl, A, c', y1, y2, y3, y4, y5⟩
     have hRl := y.lt
     refine ⟨_, rfl, fun _ => ⟨R, c, A, c', x.keepK y5 (by simp; exact fun e => nl.2.2.2.2 e.symm), y.keep y5 (by simp; omega) (fun j hj _ => by simp; have := hj.1; omega), z, y1, y2.imp (fun j _ hj => ⟨by have h9 : W.heap.size <= j := hj; have := k.size; omega, by have h9 : W.heap.size <= j := hj; omega⟩), y3, y4, ?_⟩, fun e => absurd rfl e⟩
     exact (k.more (fp' := [X, bl]) (fun j hj => by simp at hj ⊢; exact .inl hj)).trans (y5.more (fp' := [X, bl]) (fun j hj => by simp at hj ⊢; exact .inr hj)) (Fresh.refl _ _)
 · rintro e w' ⟨f, rfl, r1, r2⟩
   by_cases hf0 : f = 0
   · exact ⟨by rw [hf0], r1 hf0⟩
   · exact absurd (r2 hf0) id
end Go.Proofs.YtchcmklelmlbgaaGreat.Sto
namespace Go.Proofs.YtchcmklelmlbgaaGreat.Sto
open Go.RowKit
open Go.Proofs.YtchcmklelmlbgaaGreat.Geom
open Go.Proofs.YtchcmklelmlbgaaGreat.Disk (St DAt Did)
open Go.Proofs.YtchcmklelmlbgaaGreat.Sup (Gb gv gcell gthree srightF SV atR best rdV oV)
open Go.Proofs.YtchcmklelmlbgaaGreat.Snap (snapR OwnRows RetRows It)
open Go.Proofs.YtchcmklelmlbgaaGreat.Wal (scanTx OwnTx wrightF Tx Txs allSecs LAt badB)
set_option linter.unusedVariables false
set_option maxRecDepth 100000
def zk (life : UInt64) (base : Int) (gen0 : UInt64) (P0 : List (List UInt8)) (ts : List Tx) : Z :=
 ⟨life, base, genT gen0 ts, base + ((allSecs life 0 ts).length : Int), applyT P0 ts, true, false, 0, false⟩
def Z.setNext (z : Z) (n : Int) : Z := { z with next := n }
theorem zk_snoc (life : UInt64) (base : Int) (gen0 : UInt64) (P0 : List (List UInt8)) (ts : List Tx) (t : Tx) :
   (((zk life base gen0 P0 ts).put t.pages).setGen t.gen).setNext ((zk life base gen0 P0 ts).next + ((t.pages.length : Int) + 1)) = zk life base gen0 P0 (ts ++ [t]) := by
 unfold zk Z.put Z.setGen Z.setNext
 simp only
 rw [genT_snoc, applyT_snoc, snocLen]
 congr 1
 omega
theorem SAt.next {w w1 : World} {X R L g : Nat} {fp : List Nat} {gS bS : Nat} {ga gd gl : Int} {z : Z} {s : St} {l : List (List UInt8)} (h0 : SAt w X R L g fp gS bS ga gd gl z s l) (b : Below w.heap.size w w1) (n : Int) : SAt (w1.setCell ⟨X, 9, none⟩ (.int .i64 n)) X R L g fp gS bS ga gd gl (z.setNext n) s l /\ Keep [X] w (w1.setCell ⟨X, 9, none⟩ (.int .i64 n)) := by
 have h := h0.on b
 obtain ⟨lv, c, h1, h2, h3⟩ := h.blk
 obtain ⟨x1, x2, x3, x4⟩ := h.nX
 have hk : Keep [X] w1 (w1.setCell ⟨X, 9, none⟩ (.int .i64 n)) := (Keep.refl _ _).set (.inl (by simp)) _
 refine ⟨⟨both1 h.both hk (by simp only [List.mem_cons, not_or]; exact ⟨x2, x3, x4⟩), ⟨lv, c, (h1.set (k := 9) _ : Blk _ X (xc g gS ga gd gl (z.setNext n) lv (.slice (some ⟨R, 0, none⟩) z.pages.length c))), h2, h3.move hk (by simp; exact fun e => x1 e.symm) (fun j hj hlt => ⟨by simp; exact hj.1, hj⟩)⟩,
   fun hd => ⟨Blk.other (h.log hd).1 _ (h.log hd).2, (h.log hd).2⟩, h.nX, h.nR, h.nL, Nat.lt_of_lt_of_le h.lt hk.size⟩, (Keep.of_below b [X]).trans hk (Fresh.refl _ _)⟩
theorem w64 {k : Nat} (h : k <= 1000000) : Value.int .i64 (wrap64 ((k : Int) + 1)) = Value.int .i64 ((k + 1 : Nat) : Int) := by
 have e : wrap64 ((k : Int) + 1) = ((k + 1 : Nat) : Int) := by unfold wrap64; omega
 rw [e]
theorem msr {n k : Nat} (h : k < n) (h6 : n <= 64) : n - (intOf (Value.int .i64 (wrap64 ((k : Int) + 1)))).toNat < n - (intOf (Value.int .i64 (k : Int))).toNat := by
 rw [w64 (by omega)]; simp only [intOf]; omega
theorem secs_take (life : UInt64) : ∀ (ts : List Tx) (k q : Nat), (allSecs life q (ts.take k)).length <= (allSecs life q ts).length /\ ts.length <= (allSecs life q ts).length
 | [], k, q => by simp [allSecs]
 | t :: r, 0, q => by
   have := (secs_take life r 0 (q + (t.pages.length + 1))).2
   refine ⟨by simp [allSecs], ?_⟩
   show _ <= (Wal.tSecs life q t ++ allSecs life (q + (t.pages.length + 1)) r).length
   rw [List.length_append, Wal.tSecs_len, List.length_cons]; omega
 | t :: r, k + 1, q => by
   have := secs_take life r k (q + (t.pages.length + 1))
   refine ⟨?_, ?_⟩
   · show (Wal.tSecs life q t ++ allSecs life (q + (t.pages.length + 1)) (r.take k)).length <= (Wal.tSecs life q t ++ allSecs life (q + (t.pages.length + 1)) r).length
     rw [List.length_append, List.length_append]; omega
   · show _ <= (Wal.tSecs life q t ++ allSecs life (q + (t.pages.length + 1)) r).length
     rw [List.length_append, Wal.tSecs_len, List.length_cons]; omega
theorem SAt.raw {W : World} {X R g : Nat} {fp : List Nat} {gS bS : Nat} {ga gd gl : Int} {z : Z} {s : St} {l : List (List UInt8)} {c N B : Nat} (hb : Both W g fp s gS bS l) (hX : Blk W X (xc g gS ga gd gl z (.pointer none) (.slice (some ⟨R, 0, none⟩) z.pages.length c))) (hS : SRow W R c z.pages (fun j => B <= j /\ j ≠ R)) (hh : z.has = false)
   (hN : ∀ j ∈ bS :: gS :: fp, j < N) (h1 : N <= X) (h2 : X < B) (h3 : B <= R) : SAt W X R X g fp gS bS ga gd gl z s l := by
 have n : ∀ j, N <= j -> j ≠ bS /\ j ≠ gS /\ j ∉ fp := fun j hj => ⟨fun e => by have := hN bS (by simp); omega, fun e => by have := hN gS (by simp); omega, fun e => by have := hN j (by simp [e]); omega⟩
 obtain ⟨x1, x2, x3⟩ := n X h1
 obtain ⟨r1, r2, r3⟩ := n R (by omega)
 exact ⟨hb, ⟨.pointer none, c, hX, fun e => by (rw [hh] at e; cases e), hS.imp (fun j _ hj => by
   obtain ⟨a, b, d⟩ := n j (by omega)
   exact ⟨by omega, hj.2, by omega, a, b, d⟩)⟩, fun e => by (rw [hh] at e; cases e), ⟨by omega, x1, x2, x3⟩, ⟨by omega, r1, r2, r3⟩, ⟨x1, x2, x3⟩, hX.lt⟩
theorem zk_first (v : SV) (P0 : List (List UInt8)) : ({ zi.sup v with pages := P0 } : Z).setNext v.base = zk v.life v.base v.gen P0 [] := by
 unfold zk Z.setNext Z.sup zi
 simp only
 congr 1
 simp [allSecs]
set_option maxHeartbeats 2000000 in
theorem open_any (g : Nat) (fp : List Nat) (s : St) (gS bS : Nat) (l : List (List UInt8)) (ga gd gl : Int) (w : World) (hG : Gb ga gd gl) (h : Both w g fp s gS bS l) (hl : l.length <= 1000000) (hs : s.sz <= 90000000) (hf : srightF s ga gd gl = 0) (hd : s.down = false)
   (v : SV) (ho : best (best none (atR l s ga gd gl 2)) (atR l s ga gd gl 3) = some v) (hb : 0 <= v.base /\ v.base <= 1073741824) (P0 : List (List UInt8)) (hn : (P0.length : Int) = pagesOf ga gd gl) (h0 : 0 < P0.length) (hp : snapR l s ga gd gl v.life P0.length = some P0) (ts : List Tx) (ht : scanTx l s ga gd gl v.base v.life = ts)
   (hbd : ∀ t ∈ ts, badB ga gd gl t.pages = false) (hlen : ((allSecs v.life 0 ts).length : Int) <= gl) :
   Calls Tryz.prog 17 #[.pointer (some ⟨g, 0, none⟩), .pointer (some ⟨gS, 0, none⟩), gv ga gd gl] w fun e w' => ∃ X R, e = .returned (.tuple #[.pointer (some ⟨X, 0, none⟩), .int .i64 0]) /\ SAt w' X R X g fp gS bS ga gd gl (opened gl v.life v.base v.gen P0 ts) s l /\ Below w.heap.size w w' /\ w.heap.size <= X /\ w.heap.size <= R := by
 obtain ⟨w3, hw3⟩ : ∃ q, q = ((w.alloc (.cells #[.pointer (some ⟨g, 0, none⟩)] 28)).alloc (.cells #[.pointer (some ⟨gS, 0, none⟩)] 33)).alloc (.cells #[.int .i64 ga, .int .i64 gd, .int .i64 gl] 23) := ⟨_, rfl⟩
 have b3 : Below w.heap.size w w3 := by rw [hw3]; exact b3alloc _ _ _ _
 have q0 : Box w3 w.heap.size (.pointer (some ⟨g, 0, none⟩)) := by rw [hw3]; exact ((Box.new w _ _).alloc _).alloc _
 have q1 : Box w3 (w.heap.size + 1) (.pointer (some ⟨gS, 0, none⟩)) := by rw [hw3]; simpa using (Box.new (w.alloc (.cells #[.pointer (some ⟨g, 0, none⟩)] 28)) 33 (.pointer (some ⟨gS, 0, none⟩))).alloc _
 have q2 : Blk w3 (w.heap.size + 1 + 1) (gcell ga gd gl) := by rw [hw3]; simpa using Blk.new ((w.alloc (.cells #[.pointer (some ⟨g, 0, none⟩)] 28)).alloc (.cells #[.pointer (some ⟨gS, 0, none⟩)] 33)) (gcell ga gd gl) 23
 have HR := Lib.hid (fun W (bW : Below w.heap.size w W) => right_any g fp s gS ga gd gl W hG (h.disk.on bW))
 rw [hf] at HR
 have HW := Lib.hid hw3
 have HB3 := Lib.hid b3
 have HQ := Lib.hid (show _ /\ _ /\ _ from ⟨q0, q1, q2⟩)
 have y0 := q0.cell
 have y1 := q1.cell
 obtain ⟨y2, y3, y4⟩ := gthree q2
 have e0 := q0.lt
 have e1 := q1.lt
 have e2 := q2.lt
 have HST := Lib.hid (fun bx bl bF X W hE hX hB hF nl nF nX hBo => open_steps w.heap.size (w.heap.size + 1) (w.heap.size + 1 + 1) bx bl bF X g fp s gS bS l ga gd gl W hG hE hX hBo hB hF nl nF nX hl hs hf hd v ho hb P0 hn h0 hp ts ht)
 have HH := Lib.hid h
 have Hbd := Lib.hid hbd
 have Hr := Lib.hid (right_yes (Sup.srightF_yes hf).1)
 have Hlen := Lib.hid hlen
 have Hb := Lib.hid hb
 have Hn := Lib.hid hn
 clear hw3 q0 q1 q2 b3 hl hs hf hd ho hb hn h0 hp ht hbd hlen h
 go_enter Tryz.func17, Tryz.ntmps17
 go_upto_region 1 with (fail)
 rw [<- HW.out]
 go_upto_region 6 with (go_at_call 36; refine (HR.out _ HB3.out).mono ?_; rintro e w4 ⟨rfl, b4⟩; have u0 := (HQ.out.1.on' b4).cell; have u1 := (HQ.out.2.1.on' b4).cell; obtain ⟨u2, u3, u4⟩ := gthree (HQ.out.2.2.on b4); have l0 := Nat.lt_of_lt_of_le e0 b4.size; have l1 := Nat.lt_of_lt_of_le e1 b4.size; have l2 := Nat.lt_of_lt_of_le e2 b4.size)
 obtain ⟨w7, hw7⟩ : ∃ q, q = (((w4.alloc (.cells #[.pointer (some ⟨g, 0, none⟩), .pointer (some ⟨gS, 0, none⟩), .int .i64 ga, .int .i64 gd, .int .i64 gl, .int .u64 0, .int .i64 0, .int .u64 0, .pointer none, .int .i64 0, .slice none 0 0, .bool true, .bool false] 93)).alloc (.cells #[.pointer (some ⟨w4.heap.size, 0, none⟩)] 35)).alloc (.cells #[.slice none 0 0] 99)) := ⟨_, rfl⟩
 have b7 : Below w4.heap.size w4 w7 := by rw [hw7]; exact b3alloc _ _ _ _
 have s7 : w7.heap.size = w4.heap.size + 1 + 1 + 1 := by rw [hw7]; simp
 have hX7 : Blk w7 w4.heap.size (xc g gS ga gd gl zi (.pointer none) (.slice none 0 0)) := by rw [hw7]; exact ((Blk.new w4 (xc g gS ga gd gl zi (.pointer none) (.slice none 0 0)) 93).alloc _).alloc _
 have hx7 : Box w7 (w4.heap.size + 1) (.pointer (some ⟨w4.heap.size, 0, none⟩)) := by rw [hw7]; simpa using (Box.new (w4.alloc (.cells #[.pointer (some ⟨g, 0, none⟩), .pointer (some ⟨gS, 0, none⟩), .int .i64 ga, .int .i64 gd, .int .i64 gl, .int .u64 0, .int .i64 0, .int .u64 0, .pointer none, .int .i64 0, .slice none 0 0, .bool true, .bool false] 93)) 35 (.pointer (some ⟨w4.heap.size, 0, none⟩))).alloc _
 have hl7 : Box w7 (w4.heap.size + 1 + 1) (.slice none 0 0) := by rw [hw7]; simpa using Box.new ((w4.alloc (.cells #[.pointer (some ⟨g, 0, none⟩), .pointer (some ⟨gS, 0, none⟩), .int .i64 ga, .int .i64 gd, .int .i64 gl, .int .u64 0, .int .i64 0, .int .u64 0, .pointer none, .int .i64 0, .slice none 0 0, .bool true, .bool false] 93)).alloc (.cells #[.pointer (some ⟨w4.heap.size, 0, none⟩)] 35)) 99 (.slice none 0 0)
 have HW7 := Lib.hid hw7
 have B4 := Lib.hid (bt HB3.out b4)
 have hw4 := Lib.hid (bt HB3.out b4).size
 have Hq7 := Lib.hid (show _ /\ _ /\ _ /\ _ /\ _ from ⟨hX7, hx7, hl7, b7, s7⟩)
 have E7 := Lib.hid (show ∀ W, Below w7.heap.size w7 W -> OEnv W w.heap.size (w.heap.size + 1) (w.heap.size + 1 + 1) (w4.heap.size + 1) w4.heap.size g gS ga gd gl from fun W bW =>
   ⟨HQ.out.1.on' (bt b4 (bt b7 bW)), HQ.out.2.1.on' (bt b4 (bt b7 bW)), HQ.out.2.2.on (bt b4 (bt b7 bW)), hx7.on' bW, by omega, by omega, by omega, by omega⟩)
 have HN := Lib.hid (show ∀ j ∈ bS :: gS :: fp, j < w.heap.size from fun j hj => by
   have hls := HH.out.sym.lt
   simp only [List.mem_cons] at hj
   rcases hj with e | e | e
   · omega
   · omega
   · exact HH.out.disk.lt _ e)
 obtain ⟨X, hXd⟩ : ∃ X, X = w4.heap.size := ⟨_, rfl⟩
 have HXd := Lib.hid hXd
 have Hl2 := Lib.hid l2
 clear hw7 hX7 hx7 hl7 b7 s7 hXd u0 u1 u2 u3 u4 l0 l1 l2 b4 e0 e1 e2 y0 y1 y2 y3 y4
 rw [<- HW7.out]
 have HST2 := Lib.hid (HST.out (w4.heap.size + 1) (w4.heap.size + 1 + 1) w7.heap.size w4.heap.size (w7.alloc (.cells #[.func (.func 50) #[] #[.pointer (some ⟨w.heap.size, 0, none⟩), .pointer (some ⟨w.heap.size + 1, 0, none⟩), .pointer (some ⟨w.heap.size + 1 + 1, 0, none⟩), .pointer (some ⟨w4.heap.size + 1, 0, none⟩)], .func (.func 52) #[] #[.pointer (some ⟨w.heap.size, 0, none⟩), .pointer (some ⟨w.heap.size + 1, 0, none⟩), .pointer (some ⟨w.heap.size + 1 + 1, 0, none⟩), .pointer (some ⟨w4.heap.size + 1, 0, none⟩)], .func (.func 54) #[] #[.pointer (some ⟨w.heap.size, 0, none⟩), .pointer (some ⟨w.heap.size + 1, 0, none⟩), .pointer (some ⟨w.heap.size + 1 + 1, 0, none⟩), .pointer (some ⟨w4.heap.size + 1, 0, none⟩), .pointer (some ⟨w4.heap.size + 1 + 1, 0, none⟩)]] 122)) (E7.out _ (b1alloc _ _)) (Hq7.out.1.on (b1alloc _ _)) (Hq7.out.2.2.1.on' (b1alloc _ _)) (Blk.new w7 _ _) ⟨by have := Hl2.out; omega, by have := Hl2.out; omega, by have := Hl2.out; omega, by omega, by omega⟩ ⟨by have := Hq7.out.2.2.2.2; omega, by have := Hq7.out.2.2.2.2; omega⟩ (fun e => by have := HN.out _ e; have := hw4.out; omega) (HH.out.on (bt B4.out (bt Hq7.out.2.2.2.1 (b1alloc _ _)))))
 go_upto_region 9 with (go_at_call 38; refine HST2.out.mono ?_; rintro e w8 ⟨rfl, hO⟩; have HO := Lib.hid hO; clear hO)
 have hls := HH.out.sym.lt
 obtain ⟨X8, hX8d⟩ : ∃ X, X = w4.heap.size := ⟨_, rfl⟩
 obtain ⟨bl8, hbl8d⟩ : ∃ X, X = w4.heap.size + 1 + 1 := ⟨_, rfl⟩
 obtain ⟨R, c, A, c', hX8, hS8, hR8, hl8, hT8, hc1, hc2, k8⟩ := HO.out
 have bs8 : ∀ o : Obj, w7.heap.size < (w7.alloc o).heap.size := fun o => by simp
 have hB8 := bs8 (.cells #[.func (.func 50) #[] #[.pointer (some ⟨w.heap.size, 0, none⟩), .pointer (some ⟨w.heap.size + 1, 0, none⟩), .pointer (some ⟨w.heap.size + 1 + 1, 0, none⟩), .pointer (some ⟨w4.heap.size + 1, 0, none⟩)], .func (.func 52) #[] #[.pointer (some ⟨w.heap.size, 0, none⟩), .pointer (some ⟨w.heap.size + 1, 0, none⟩), .pointer (some ⟨w.heap.size + 1 + 1, 0, none⟩), .pointer (some ⟨w4.heap.size + 1, 0, none⟩)], .func (.func 54) #[] #[.pointer (some ⟨w.heap.size, 0, none⟩), .pointer (some ⟨w.heap.size + 1, 0, none⟩), .pointer (some ⟨w.heap.size + 1 + 1, 0, none⟩), .pointer (some ⟨w4.heap.size + 1, 0, none⟩), .pointer (some ⟨w4.heap.size + 1 + 1, 0, none⟩)]] 122)
 have hE8 := E7.out _ (b1alloc w7 (.cells #[.func (.func 50) #[] #[.pointer (some ⟨w.heap.size, 0, none⟩), .pointer (some ⟨w.heap.size + 1, 0, none⟩), .pointer (some ⟨w.heap.size + 1 + 1, 0, none⟩), .pointer (some ⟨w4.heap.size + 1, 0, none⟩)], .func (.func 52) #[] #[.pointer (some ⟨w.heap.size, 0, none⟩), .pointer (some ⟨w.heap.size + 1, 0, none⟩), .pointer (some ⟨w.heap.size + 1 + 1, 0, none⟩), .pointer (some ⟨w4.heap.size + 1, 0, none⟩)], .func (.func 54) #[] #[.pointer (some ⟨w.heap.size, 0, none⟩), .pointer (some ⟨w.heap.size + 1, 0, none⟩), .pointer (some ⟨w.heap.size + 1 + 1, 0, none⟩), .pointer (some ⟨w4.heap.size + 1, 0, none⟩), .pointer (some ⟨w4.heap.size + 1 + 1, 0, none⟩)]] 122))
 have bb7 := bt B4.out (bt Hq7.out.2.2.2.1 (b1alloc w7 (.cells #[.func (.func 50) #[] #[.pointer (some ⟨w.heap.size, 0, none⟩), .pointer (some ⟨w.heap.size + 1, 0, none⟩), .pointer (some ⟨w.heap.size + 1 + 1, 0, none⟩), .pointer (some ⟨w4.heap.size + 1, 0, none⟩)], .func (.func 52) #[] #[.pointer (some ⟨w.heap.size, 0, none⟩), .pointer (some ⟨w.heap.size + 1, 0, none⟩), .pointer (some ⟨w.heap.size + 1 + 1, 0, none⟩), .pointer (some ⟨w4.heap.size + 1, 0, none⟩)], .func (.func 54) #[] #[.pointer (some ⟨w.heap.size, 0, none⟩), .pointer (some ⟨w.heap.size + 1, 0, none⟩), .pointer (some ⟨w.heap.size + 1 + 1, 0, none⟩), .pointer (some ⟨w4.heap.size + 1, 0, none⟩), .pointer (some ⟨w4.heap.size + 1 + 1, 0, none⟩)]] 122)))
 obtain ⟨B, hBd⟩ : ∃ B, B = (w7.alloc (.cells #[.func (.func 50) #[] #[.pointer (some ⟨w.heap.size, 0, none⟩), .pointer (some ⟨w.heap.size + 1, 0, none⟩), .pointer (some ⟨w.heap.size + 1 + 1, 0, none⟩), .pointer (some ⟨w4.heap.size + 1, 0, none⟩)], .func (.func 52) #[] #[.pointer (some ⟨w.heap.size, 0, none⟩), .pointer (some ⟨w.heap.size + 1, 0, none⟩), .pointer (some ⟨w.heap.size + 1 + 1, 0, none⟩), .pointer (some ⟨w4.heap.size + 1, 0, none⟩)], .func (.func 54) #[] #[.pointer (some ⟨w.heap.size, 0, none⟩), .pointer (some ⟨w.heap.size + 1, 0, none⟩), .pointer (some ⟨w.heap.size + 1 + 1, 0, none⟩), .pointer (some ⟨w4.heap.size + 1, 0, none⟩), .pointer (some ⟨w4.heap.size + 1 + 1, 0, none⟩)]] 122)).heap.size := ⟨_, rfl⟩
 rw [<- hBd] at hB8 hS8 hR8 hT8
 have s7 := Hq7.out.2.2.2.2
 have h42 := Hl2.out
 have hX4 := hw4.out
 have bb8 : Below w.heap.size w w8 := bb7.trans (k8.below (fun j hj => by simp only [List.mem_cons, List.not_mem_nil, or_false] at hj; rcases hj with e | e <;> omega) bb7.size)
 have hSA : SAt w8 w4.heap.size R w4.heap.size g fp gS bS ga gd gl ({ zi.sup v with pages := P0 } : Z) s l := SAt.raw (HH.out.on bb8) hX8 hS8 rfl HN.out hX4 (by omega) hR8
 have HC := Lib.hid (fun W (kW : Keep [w4.heap.size, R] w8 W) => show W.cell? ⟨w4.heap.size + 1, 0, none⟩ = some (.pointer (some ⟨w4.heap.size, 0, none⟩)) /\ W.cell? ⟨w4.heap.size + 1 + 1, 0, none⟩ = some (.slice A ts.length c') /\ W.cell? ⟨w.heap.size + 1 + 1, 2, none⟩ = some (.int .i64 gl) /\ Txs W (fun j => B <= j /\ j ≠ R) A ts from by
   have a1 := (hE8.x.keep k8 (by simp)).keep kW (by simp; omega)
   have a2 := hl8.keep kW (by simp; omega)
   have a3 := (hE8.g.keepK k8 (by simp; omega)).keepK kW (by simp; omega)
   exact ⟨a1.cell, a2.cell, (gthree a3).2.2, hT8.keep kW (fun j hj _ => by simp; omega)⟩)
 have HS8 := Lib.hid hSA
 have HF8 := Lib.hid (fun W (bW : Below w8.heap.size w8 W) => (zk_first v P0) ▸ hSA.next bW v.base)
 obtain ⟨lv8, c8, x8, _, _⟩ := hSA.blk
 obtain ⟨o0, o1, o2, o3, o4, o5, o6, o7, o8, o9, o10, o11, o12⟩ := thirteen x8
 obtain ⟨v0, v1, v2, _⟩ := HC.out w8 (Keep.refl _ _)
 have HX9 := Lib.hid (fun W (bW : Below w8.heap.size w8 W) => show W.cell? ⟨w4.heap.size, 9, none⟩ = some (.int .i64 0) /\ W.frozen? ⟨w4.heap.size, 9, none⟩ = false from ⟨(x8.on bW).cell (k := 9) (by simp), (x8.on bW).free 9⟩)
 replace o6 : w8.cell? ⟨w4.heap.size, 6, none⟩ = some (.int .i64 v.base) := o6
 have hlX8 := x8.lt
 have hlx8 := (hE8.x.keep k8 (by simp)).lt
 have HR8 := Lib.hid hR8
 have Hbb8 := Lib.hid bb8
 have hXB := Lib.hid (show w4.heap.size < B by omega)
 have HT8 := Lib.hid (show ts.length <= maxLen from Nat.le_trans hc1 hc2)
 clear hX8 hS8 hl8 hT8 k8 bs8 hB8 hE8 bb7 hBd s7 h42 hX4 bb8 hSA x8 hR8 hc1 hc2 hX8d hbl8d
 refine region_inb_tail 8 (by kernel_rfl) (by kernel_rfl) ?_
 simp only [List.take_succ_cons, List.take_zero, List.drop_succ_cons, List.drop_zero]
 have inbNe := InB.some
 have inbW := @wrap_small
 have inbU := IntKind.wrap_u8'
 repeat (refine wpQuiet_step (fun K hK => ?_); go_simp; first | (refine hK _ ?_; clear hK K) | (apply Exists.intro; refine ⟨?_, hK _ ?_⟩; (· (intro w' hw'; first | (have hcw := hw'.cell; go_simp; exact rfl))); clear hK K))
 refine wpQuiet_nil ?_
 intro wq hq
 clear inbNe inbW inbU
 have HF9 := Lib.hid (HF8.out wq hq.below)
 obtain ⟨x9, f9⟩ := HX9.out wq hq.below
 have Hz := Lib.hid hq
 clear o0 o1 o2 o3 o4 o5 o6 o7 o8 o9 o10 o11 o12
 have kq : Keep [w4.heap.size, R] w8 (wq.setCell ⟨w4.heap.size, 9, none⟩ (.int .i64 v.base)) := HF9.out.2.more (fun j hj => by simp at hj ⊢; exact .inl hj)
 obtain ⟨r0, r1, r2, r3⟩ := HC.out _ kq
 go_upto_region 11 with (fail)
 have Hst := Lib.hid (fun k => (secs_take v.life ts k 0).1)
 have Hts := Lib.hid (show ts.length <= 64 by have := (secs_take v.life ts 0 0).2; have := Hlen.out; have := Hr.out; omega)
 have HPl := Lib.hid (show P0.length <= 1000 by have := Hn.out; have := pagesOf_bd ga gd gl; omega)
 have S9 := Lib.hid HF9.out.1
 have K9 := Lib.hid kq
 have hqs := Lib.hid hq.below
 clear r0 r1 r2 r3 x9 f9 kq v0 v1 v2 HF8 HX9 hq Hz
 go_loopw [44] (fun i wr => ∃ k : Nat, k <= ts.length /\ i = .int .i64 (k : Int) /\ SAt wr w4.heap.size R w4.heap.size g fp gS bS ga gd gl (zk v.life v.base v.gen P0 (ts.take k)) s l /\ Keep [w4.heap.size, R] w8 wr) (fun i _ => ts.length - (intOf i).toNat)
 case atStart => exact ⟨0, by omega, rfl, S9.out, K9.out⟩
 case round =>
   obtain ⟨k, hk, rfl, hS, hK⟩ := hrel
   obtain ⟨v0, v1, v2, hT⟩ := HC.out _ hK
   by_cases hlt : k < ts.length
   · have hkn : (k : Int) < (ts.length : Int) := by omega
     obtain ⟨b, off, Ai, ci, rfl, hbl, hx⟩ := hT.get hlt
     have hbdk := Hbd.out _ (List.getElem_mem hlt)
     have hsl := Hst.out (k + 1)
     have hzs := zk_snoc v.life v.base v.gen P0 (ts.take k) ts[k]
     rw [<- List.take_succ_eq_append_getElem hlt] at hzs
     have hnl : ((allSecs v.life 0 (ts.take (k + 1))).length) = (allSecs v.life 0 (ts.take k)).length + (ts[k].pages.length + 1) := by rw [List.take_succ_eq_append_getElem hlt, snocLen]
     obtain ⟨t, ht⟩ : ∃ t, t = ts[k] := ⟨_, rfl⟩
     rw [<- ht] at hx hbdk hzs hnl
     have c0 := hx.c0
     have c1 := hx.c1
     have hpl : t.pages.length <= 64 := by have := Hlen.out; have := Hr.out; have := Hst.out (k + 1); omega
     obtain ⟨zz, hzz⟩ : ∃ zz, zz = zk v.life v.base v.gen P0 (ts.take k) := ⟨_, rfl⟩
     have hzp : zz.pages.length = P0.length := by rw [hzz]; exact applyT_len _ _
     have hzn : zz.next = v.base + ((allSecs v.life 0 (ts.take k)).length : Int) := by rw [hzz]; rfl
     rw [<- hzz] at hS hzs
     obtain ⟨m, hm⟩ : ∃ m : Nat, m = t.pages.length := ⟨_, rfl⟩
     obtain ⟨wt, hwt⟩ : ∃ q, q = wr.alloc (.cells #[.slice Ai t.pages.length ci, .int .u64 (t.gen.toNat : Int)] 106) := ⟨_, rfl⟩
     have bwt : Below wr.heap.size wr wt := by rw [hwt]; exact b1alloc _ _
     have FT : Blk wt wr.heap.size [.slice Ai t.pages.length ci, .int .u64 (t.gen.toNat : Int)] := by rw [hwt]; exact Blk.new wr [.slice Ai t.pages.length ci, .int .u64 (t.gen.toNat : Int)] 106
     have HP := Lib.hid (put_any w4.heap.size R w4.heap.size g fp gS bS ga gd gl zz s l (fun j => B <= j /\ j ≠ R) Ai t.pages ci wt (hS.on bwt) (hx.pgs.on bwt) (fun j hj _ => hj.2) (by omega) (fun i hi => by have := Wal.badB_of hbdk hi; rw [hzp]; have := Hn.out; exact ⟨by omega, by omega, by omega⟩) (by rw [hzp]; have := HPl.out; omega))
     have hrR := hS.ltX.2
     have hrx := Nat.lt_of_lt_of_le hlx8 hK.size
     have HCt := Lib.hid (fun W (kW : Keep [w4.heap.size, R] wt W) => show W.cell? ⟨w4.heap.size + 1, 0, none⟩ = some (.pointer (some ⟨w4.heap.size, 0, none⟩)) /\ W.cell? ⟨wr.heap.size, 0, none⟩ = some (.slice Ai t.pages.length ci) /\ W.cell? ⟨wr.heap.size, 1, none⟩ = some (.int .u64 (t.gen.toNat : Int)) from by
       have f2 := FT.keepK kW (by simp; have := hS.ltX.1; omega)
       exact ⟨(HC.out W (hK.trans ((Keep.of_below bwt [w4.heap.size, R]).trans kW (Fresh.refl _ _)) (Fresh.refl _ _))).1, f2.cell (k := 0) (by simp), f2.cell (k := 1) (by simp)⟩)
     obtain ⟨a0, a1, a2⟩ := HCt.out wt (Keep.refl _ _)
     have HWT := Lib.hid hwt
     have Hlt := Lib.hid hlt
     have HBt := Lib.hid bwt
     have HzS := Lib.hid hzs
     have Hzn := Lib.hid hzn
     have Hnl := Lib.hid hnl
     have HK := Lib.hid hK
     have Hpl := Lib.hid hpl
     have Hsl := Lib.hid hsl
     clear hwt bwt FT hT hx hbdk hsl hzs hnl ht hpl hzz hzp hzn hm hS hK v2
     go_upto_region 13 with (fail)
     rw [<- HWT.out]
     go_upto_region 15 with (go_at_call 48; refine HP.out.mono ?_; rintro e w11 ⟨rfl, hS11, k11⟩; have K11 := Lib.hid (k11.more (fp' := [w4.heap.size, R]) (fun j hj => by simp at hj ⊢; exact .inr hj)); obtain ⟨d0, d1, d2⟩ := HCt.out w11 K11.out; obtain ⟨lv11, c11, j11, _, _⟩ := hS11.blk; have x7 := j11.cell (k := 7) (by simp); have fx7 := j11.free 7; have G11 := Lib.hid (hS11.gen t.gen); clear j11 hS11 k11 a0 a1 a2)
     obtain ⟨w12, hw12⟩ : ∃ q, q = w11.setCell ⟨w4.heap.size, 7, none⟩ (.int .u64 (t.gen.toNat : Int)) := ⟨_, rfl⟩
     have k12 : Keep [w4.heap.size, R] wt w12 := by rw [hw12]; exact K11.out.set (p := ⟨w4.heap.size, 7, none⟩) (.inl (by simp)) (.int .u64 (t.gen.toNat : Int))
     have G12 := Lib.hid (show SAt w12 w4.heap.size R w4.heap.size g fp gS bS ga gd gl ((zz.put t.pages).setGen t.gen) s l from by rw [hw12]; exact G11.out.1)
     obtain ⟨g0, g1, g2⟩ := HCt.out _ k12
     obtain ⟨lv12, c12, j12, _, _⟩ := G12.out.blk
     have n9 : w12.cell? ⟨w4.heap.size, 9, none⟩ = some (.int .i64 zz.next) := j12.cell (k := 9) (by simp)
     have HX9 := Lib.hid (fun W (bW : Below w12.heap.size w12 W) => show W.cell? ⟨w4.heap.size, 9, none⟩ = some (.int .i64 zz.next) /\ W.frozen? ⟨w4.heap.size, 9, none⟩ = false from ⟨(j12.on bW).cell (k := 9) (by simp), (j12.on bW).free 9⟩)
     have l12 := j12.lt
     have lx12 : w4.heap.size + 1 < w12.heap.size := by have := k12.size; have := HBt.out.size; omega
     have lt12 : wr.heap.size < w12.heap.size := by
       have := k12.size
       have e : wt.heap.size = wr.heap.size + 1 := by rw [HWT.out]; simp
       omega
     have K12 := Lib.hid k12
     have HW12 := Lib.hid hw12
     have hbb := Hb.out
     have hll := Hlen.out
     have hgg := Hr.out.2.2.2.2.2
     have hnb : -1000000 <= zz.next /\ zz.next <= 1073742000 := by have := Hzn.out; have := Hst.out k; omega
     obtain ⟨nx, hnx⟩ : ∃ nx, nx = zz.next := ⟨_, rfl⟩
     rw [<- hnx] at n9 HX9 HzS hnb
     have hw1 : IntKind.i64.wrap ((t.pages.length : Int) + 1) = (t.pages.length : Int) + 1 := wrap_small (by omega) (by have := Hpl.out; omega)
     have hw2 : IntKind.i64.wrap (nx + ((t.pages.length : Int) + 1)) = nx + ((t.pages.length : Int) + 1) := wrap_small (by omega) (by have := Hpl.out; omega)
     clear hnx d0 d1 d2 x7 fx7 j12 k12 hw12 hbb hll hgg hnb g2
     rw [<- HW12.out]
     refine region_inb_tail 11 (by kernel_rfl) (by kernel_rfl) ?_
     simp only [List.take_succ_cons, List.take_zero, List.drop_succ_cons, List.drop_zero]
     have inbNe := InB.some
     have inbW := @wrap_small
     have inbU := IntKind.wrap_u8'
     repeat (refine wpQuiet_step (fun K hK => ?_); go_simp; first | (refine hK _ ?_; clear hK K) | (apply Exists.intro; refine ⟨?_, hK _ ?_⟩; (· (intro w' hw'; first | (have hcw := hw'.cell; go_simp; exact rfl))); clear hK K))
     refine wpQuiet_nil ?_
     intro wq hq
     clear inbNe inbW inbU
     have HN9 := Lib.hid (G12.out.next hq.below (nx + ((t.pages.length : Int) + 1)))
     obtain ⟨x9, f9⟩ := HX9.out wq hq.below
     clear g0 g1 n9 hw1 hw2
     go_wp2_with fail
     case roundEnd =>
       have h64 := Hts.out
       have hl9 := Hlt.out
       refine ⟨⟨k + 1, hl9, w64 (by omega), by have := HN9.out.1; rw [HzS.out] at this; exact this, ?_⟩, msr hl9 h64⟩
       exact HK.out.trans (((Keep.of_below HBt.out [w4.heap.size, R]).trans K12.out (Fresh.refl _ _)).trans (HN9.out.2.more (fun j hj => by simp at hj ⊢; exact .inl hj)) (Fresh.refl _ _)) (Fresh.refl _ _)
   · obtain rfl : k = ts.length := by omega
     have hkn : ¬ (ts.length : Int) < (ts.length : Int) := by omega
     rw [List.take_length] at hS
     obtain ⟨lvE, cE, jE, _, _⟩ := hS.blk
     obtain ⟨nx, hnx⟩ : ∃ nx, nx = v.base + ((allSecs v.life 0 ts).length : Int) := ⟨_, rfl⟩
     have n9 : wr.cell? ⟨w4.heap.size, 9, none⟩ = some (.int .i64 nx) := by rw [hnx]; exact jE.cell (k := 9) (by simp)
     have HX9 := Lib.hid (fun W (bW : Below wr.heap.size wr W) => show W.cell? ⟨w4.heap.size, 9, none⟩ = some (.int .i64 nx) /\ W.frozen? ⟨w4.heap.size, 9, none⟩ = false from ⟨by rw [hnx]; exact (jE.on bW).cell (k := 9) (by simp), (jE.on bW).free 9⟩)
     have lE := jE.lt
     have lxE := Nat.lt_of_lt_of_le hlx8 hK.size
     have lGE : w.heap.size + 1 + 1 < wr.heap.size := by have := Hl2.out; omega
     have hnb : 0 <= nx /\ nx <= 1073742000 := by have := Hb.out; have := Hlen.out; have := Hr.out; omega
     have hne : ¬ gl = 0 := by have := Hr.out; omega
     have ht1 : nx.tmod gl = nx % gl := Int.tmod_eq_emod_of_nonneg (by omega)
     have hw2 : IntKind.i64.wrap (nx % gl) = nx % gl := by
       have := Hr.out
       have h1 := Int.emod_nonneg nx (show gl ≠ 0 by omega)
       have h2 := Int.emod_lt_of_pos nx (show 0 < gl by omega)
       exact wrap_small (by omega) (by omega)
     have HE := Lib.hid (show (zk v.life v.base v.gen P0 ts).setNext (nx % gl) = opened gl v.life v.base v.gen P0 ts by rw [hnx]; rfl)
     have HSE := Lib.hid hS
     have HKE := Lib.hid hK
     have HCE := Lib.hid (fun W (kW : Keep [w4.heap.size, R] wr W) => (HC.out W (hK.trans kW (Fresh.refl _ _))).1)
     have HRw := Lib.hid (show w.heap.size <= w4.heap.size /\ w.heap.size <= R from ⟨by have := Hl2.out; omega, by have := Hl2.out; have := hXB.out; have := HR8.out; omega⟩)
     have HBE := Lib.hid (Hbb8.out.trans (hK.below (B := w.heap.size) (fun j hj => by simp only [List.mem_cons, List.not_mem_nil, or_false] at hj; have := HRw.out; rcases hj with e | e <;> omega) Hbb8.out.size))
     clear hS hK jE hnx hnb hT v1
     go_upto_region 17 with (fail)
     refine region_inb_tail 9 (by kernel_rfl) (by kernel_rfl) ?_
     simp only [List.take_succ_cons, List.take_zero, List.drop_succ_cons, List.drop_zero]
     have inbNe := InB.some
     have inbW := @wrap_small
     have inbU := IntKind.wrap_u8'
     repeat (refine wpQuiet_step (fun K hK => ?_); go_simp; first | (refine hK _ ?_; clear hK K) | (apply Exists.intro; refine ⟨?_, hK _ ?_⟩; (· (intro w' hw'; first | (have hcw := hw'.cell; go_simp; exact rfl))); clear hK K))
     refine wpQuiet_nil ?_
     intro wq hq
     clear inbNe inbW inbU
     obtain ⟨x9, f9⟩ := HX9.out wq hq.below
     have HN9 := Lib.hid (HSE.out.next hq.below (nx % gl))
     have v0' := HCE.out _ (HN9.out.2.more (fun j hj => by simp at hj ⊢; exact .inl hj))
     clear n9 v0 v2
     go_wp2_with fail
     go_ret2
     refine ⟨_, rfl, R, ?_, ?_, HRw.out.1, HRw.out.2⟩
     · have := HN9.out.1
       rw [HE.out] at this
       exact this
     · exact HBE.out.trans (HN9.out.2.below (fun j hj => by rw [List.mem_singleton] at hj; have := HRw.out.1; omega) HBE.out.size)
end Go.Proofs.YtchcmklelmlbgaaGreat.Sto
namespace Go.Proofs.YtchcmklelmlbgaaGreat.Sto
open Go.RowKit
open Go.Proofs.YtchcmklelmlbgaaGreat.Geom
open Go.Proofs.YtchcmklelmlbgaaGreat.Disk (St DAt Did new)
open Go.Proofs.YtchcmklelmlbgaaGreat.Sup (Gb gv gcell gthree srightF SV atR best rdV oV UpN up_new srightF_new)
open Go.Proofs.YtchcmklelmlbgaaGreat.Snap (snapR PagesOk)
open Go.Proofs.YtchcmklelmlbgaaGreat.Wal (scanTx wrightF Tx allSecs badB whyF)
set_option linter.unusedVariables false
def SH (w0 w : World) (X R L g : Nat) (fp : List Nat) (gS bS : Nat) (ga gd gl : Int) (n : Nat) (y : RS) (t : Nat) : Prop :=
 ∃ z s l, SAt w X R L g fp gS bS ga gd gl z s l /\ PInv ga gd gl n l s z y /\ l.length <= 3000 * t /\ s.sz <= 3000 * t /\ y.life.toNat <= t /\
   Below w0.heap.size w0 w /\ ∀ j ∈ X :: R :: L :: bS :: gS :: fp, w0.heap.size <= j
theorem SH.on {w0 w w' : World} {X R L g : Nat} {fp : List Nat} {gS bS : Nat} {ga gd gl : Int} {n : Nat} {y : RS} {t : Nat} (h : SH w0 w X R L g fp gS bS ga gd gl n y t) (b : Below w.heap.size w w') : SH w0 w' X R L g fp gS bS ga gd gl n y t := by
 obtain ⟨z, s, l, h1, h2, h3, h4, h5, h6, h7⟩ := h
 exact ⟨z, s, l, h1.on b, h2, h3, h4, h5, bt h6 b, h7⟩
theorem SH.bel {w0 w : World} {X R L g : Nat} {fp : List Nat} {gS bS : Nat} {ga gd gl : Int} {n : Nat} {y : RS} {t : Nat} (h : SH w0 w X R L g fp gS bS ga gd gl n y t) : Below w0.heap.size w0 w := by
 obtain ⟨z, s, l, h1, h2, h3, h4, h5, h6, h7⟩ := h
 exact h6
theorem SH.offNew {w0 w : World} {X R L g : Nat} {fp : List Nat} {gS bS : Nat} {ga gd gl : Int} {n : Nat} {y : RS} {t : Nat} (h : SH w0 w X R L g fp gS bS ga gd gl n y t) {j : Nat} (hj : w.heap.size <= j) : Off X R L bS gS fp j := by
 obtain ⟨z, s, l, h1, h2, h3, h4, h5, h6, h7⟩ := h
 have hX := h1.ltX
 have hS := h1.both.sym.lt
 have hL := h1.lt
 exact ⟨by omega, by omega, by omega, by omega, by omega, fun e => by have := h1.both.disk.lt _ e; omega⟩
def SHT (w0 w : World) (X R L g : Nat) (fp : List Nat) (gS bS : Nat) (ga gd gl : Int) (n : Nat) (y' : RS) (t' : Nat) (w' : World) : Prop :=
 ∃ L' fp', SH w0 w' X R L' g fp' gS bS ga gd gl n y' t' /\ Keep (X :: R :: L :: bS :: fp) w w' /\ FreshL w L fp L' fp'
theorem STurn.law {w0 w w' : World} {X R L g : Nat} {fp : List Nat} {gS bS : Nat} {ga gd gl : Int} {n : Nat} {z' : Z} {y' : RS} {s' : St} {l' : List (List UInt8)} {t' : Nat} (h : STurn w X R L g fp gS bS ga gd gl z' s' l' w') (hi : PInv ga gd gl n l' s' z' y') (h1 : l'.length <= 3000 * t') (h2 : s'.sz <= 3000 * t') (h3 : y'.life.toNat <= t')
   (hb : Below w0.heap.size w0 w) (ho : ∀ j ∈ X :: R :: L :: bS :: gS :: fp, w0.heap.size <= j) : SHT w0 w X R L g fp gS bS ga gd gl n y' t' w' := by
 obtain ⟨L', fp', a, k, f⟩ := h
 refine ⟨L', fp', ⟨z', s', l', a, hi, h1, h2, h3, hb.trans (k.below (fun j hj => ho j (by simp only [List.mem_cons] at hj ⊢; rcases hj with e | e | e | e | e <;> simp [e])) hb.size), fun j hj => ?_⟩, k, f⟩
 simp only [List.mem_cons] at hj
 rcases hj with e | e | e | e | e | e
 · exact ho j (by simp [e])
 · exact ho j (by simp [e])
 · rcases f.2 with e2 | e2
   · exact ho j (by simp [e, e2])
   · have := hb.size; omega
 · exact ho j (by simp [e])
 · exact ho j (by simp [e])
 · rcases f.1 j e with e2 | e2
   · exact ho j (by simp [e2])
   · have := hb.size; omega
theorem PInv.zok {ga gd gl : Int} {n : Nat} {sm : List (List UInt8)} {st : St} {z : Z} {y : RS} (h : PInv ga gd gl n sm st z y) : ZOk ga gd gl z /\ y.pages = z.pages /\ y.life = z.life /\ y.gen = z.gen /\ y.due = z.due /\ y.base = z.base := by
 have hp := h.pagesOk
 obtain ⟨P0, ts, gen0, hI, _, _, h1, h2, rfl⟩ := h.ex
 exact ⟨⟨hp.len, Snap.longB_no (fun j hj => hp.short j hj)⟩, rfl, rfl, rfl, rfl, rfl⟩
theorem commit_life (ga gd gl : Int) (y : RS) (l : List Pg) (gen : UInt64) : (y.commit ga gd gl l gen).1.life = y.life \/ (y.commit ga gd gl l gen).1.life = y.life + 1 := by
 unfold RS.commit
 split
 · exact .inl rfl
 · split
   · exact .inl rfl
   · split
     · exact .inr rfl
     · exact .inl rfl
theorem life_le {a b : UInt64} {t : Nat} (h : b = a \/ b = a + 1) (ha : a.toNat <= t) : b.toNat <= t + 1 := by
 rcases h with e | e
 · rw [e]; omega
 · rw [e]
   have : (a + 1).toNat = (a.toNat + 1) % 18446744073709551616 := by simp [UInt64.toNat_add]
   omega
theorem PInv.small {ga gd gl : Int} {n : Nat} {sm : List (List UInt8)} {st : St} {z : Z} {y : RS} (h : PInv ga gd gl n sm st z y) (hr : right ga gd gl = true) : z.due = false -> z.seq <= 64 := fun hd => by
 have := h.seqIs hd
 have := right_yes hr
 omega
theorem SH.commit {w0 w : World} {X R L g : Nat} {fp : List Nat} {gS bS : Nat} {ga gd gl : Int} {n : Nat} {y : RS} {t : Nat} (h : SH w0 w X R L g fp gS bS ga gd gl n y t) (hG : Gb ga gd gl) (hr : right ga gd gl = true) (hn : (n : Int) = Geom.sizeOf ga gd gl) (ht : t <= 100) (Q : Nat -> Prop) (A : Option Addr) (pages : List Pg) (c : Nat) (gen : UInt64)
   (hp : Pgs w Q A pages) (hQ : ∀ j, Q j -> j < w.heap.size -> Off X R L bS gS fp j) (hcl : pages.length <= 1000) :
   Calls Tryz.prog 15 #[.pointer (some ⟨X, 0, none⟩), .slice A pages.length c, .int .u64 (gen.toNat : Int)] w fun e w' => e = .returned (.int .i64 (y.commit ga gd gl pages gen).2) /\ SHT w0 w X R L g fp gS bS ga gd gl n (y.commit ga gd gl pages gen).1 (t + 1) w' := by
 obtain ⟨z, s, l, h1, h2, h3, h4, h5, h6, h7⟩ := h
 obtain ⟨zo, e1, e2, e3, e4, e5⟩ := h2.zok
 have hpb := pagesOf_bd ga gd gl
 have hzl := zo.len
 have hf : srightF s ga gd gl = 0 := srightF_new hr h2.up.size hn
 cases hdu : z.due with
 | true =>
   have hc : y.commit ga gd gl pages gen = (y, 14) := by unfold RS.commit; rw [if_pos (e4.trans hdu)]
   rw [hc]
   refine (commit_due X R L g fp gS bS ga gd gl z s l A pages.length c gen w h1 h2.alive hdu).mono ?_
   rintro e w' ⟨rfl, b⟩
   exact ⟨rfl, STurn.law (STurn.same h1 b) h2 (by omega) (by omega) (by show y.life.toNat <= _; omega) h6 h7⟩
 | false =>
   have hq := h2.small hr hdu
   have hlim := comF_lim ga gd gl z pages gen l s
   refine (commit_any X R L g fp gS bS ga gd gl z s l Q A pages c gen w hG h1 hp hQ hcl (by omega) (by omega) hf zo h2.alive hdu (h2.has hdu) (by rw [<- e2]; omega) h2.hb (by omega)).mono ?_
   rintro e w' ⟨rfl, tt⟩
   obtain ⟨f1, f2⟩ := h2.commit hr hdu (by rw [<- e2]; omega) pages gen
   exact ⟨by rw [f1], STurn.law tt f2 (by omega) (by omega) (life_le (commit_life ga gd gl y pages gen) h5) h6 h7⟩
end Go.Proofs.YtchcmklelmlbgaaGreat.Sto
namespace Go.Proofs.YtchcmklelmlbgaaGreat.Sto
open Go.RowKit
open Go.Proofs.YtchcmklelmlbgaaGreat.Geom
open Go.Proofs.YtchcmklelmlbgaaGreat.Disk (St DAt Did new)
open Go.Proofs.YtchcmklelmlbgaaGreat.Sup (Gb gv gcell gthree srightF SV atR best rdV oV UpN up_new srightF_new)
open Go.Proofs.YtchcmklelmlbgaaGreat.Snap (snapR PagesOk)
open Go.Proofs.YtchcmklelmlbgaaGreat.Wal (scanTx wrightF Tx allSecs badB whyF)
set_option linter.unusedVariables false
set_option maxRecDepth 100000
def RS.new (m : Nat) : RS := ⟨List.replicate m [], 0, 1, 0, 0, 0, false⟩
theorem first_pinv {ga gd gl : Int} {n m : Nat} {s : St} (h : UpN s n) (hr : right ga gd gl = true) (hn : (n : Int) = Geom.sizeOf ga gd gl) (hm : (m : Int) = pagesOf ga gd gl) (l : List (List UInt8)) :
   (Sup.clr s).2 = 0 /\ (wipeF gl (Sup.clr s).1).2 = 0 /\ (begF ga gd gl 1 0 0 (List.replicate m []) l (wipeF gl (Sup.clr s).1).1).2.2 = 0 /\
     PInv ga gd gl n (begF ga gd gl 1 0 0 (List.replicate m []) l (wipeF gl (Sup.clr s).1).1).1 (begF ga gd gl 1 0 0 (List.replicate m []) l (wipeF gl (Sup.clr s).1).1).2.1 ((z0 m).begun 1 0 0) (RS.new m) := by
 obtain ⟨p1, p2, p3⟩ := pre_first h hr hn l
 have hP : PagesOk ga gd gl n (List.replicate m []) := ⟨hn, by rw [List.length_replicate]; exact hm, fun j hj => by simp⟩
 obtain ⟨q1, q2⟩ := first_inv (l := l) (base := 0) (gen := 0) p3 hr hP (by omega)
 exact ⟨p1, p2, q1, ⟨_, [], 0, q2, rfl, rfl, fun _ => rfl, fun h => (by cases h), rfl⟩, rfl, fun _ => rfl⟩
theorem clr_sz (s : St) : (Sup.clr s).1.sz <= s.sz + 5 := by
 have a1 := Disk.sz_write s 2 Disk.zero512
 have a2 := Disk.sz_write (Disk.write s 2 Disk.zero512).1 3 Disk.zero512
 have a3 := Disk.sz_flush (Disk.write (Disk.write s 2 Disk.zero512).1 3 Disk.zero512).1
 unfold Sup.clr
 split
 · split <;> omega
 · omega
theorem wipeF_sz {gl : Int} (h : gl <= 64) (s : St) : (wipeF gl s).1.sz <= s.sz + 200 := by
 have a1 := wipeL_sz ((List.range gl.toNat).map fun i : Nat => 4 + (i : Int)) s
 rw [List.length_map, List.length_range] at a1
 have a2 := Disk.sz_flush (wipeL ((List.range gl.toNat).map fun i : Nat => 4 + (i : Int)) s).1
 unfold wipeF
 split <;> omega
theorem format_law {w0 w : World} {g : Nat} {fp : List Nat} {s : St} {gS bS : Nat} {l : List (List UInt8)} {ga gd gl : Int} {n m t : Nat} (hG : Gb ga gd gl) (h : Both w g fp s gS bS l) (hu : UpN s n) (hr : right ga gd gl = true) (hn : (n : Int) = Geom.sizeOf ga gd gl) (hm : (m : Int) = pagesOf ga gd gl)
   (hl : l.length <= 3000 * t) (hs : s.sz <= 3000 * t) (ht : t <= 100) (hb : Below w0.heap.size w0 w) (ho : ∀ j ∈ bS :: gS :: fp, w0.heap.size <= j) :
   Calls Tryz.prog 14 #[.pointer (some ⟨g, 0, none⟩), .pointer (some ⟨gS, 0, none⟩), gv ga gd gl] w fun e w' => ∃ X R L fp', e = .returned (.tuple #[.pointer (some ⟨X, 0, none⟩), .int .i64 0]) /\ SH w0 w' X R L g fp' gS bS ga gd gl n (RS.new m) (t + 1) /\ Keep (bS :: fp) w w' /\ Fresh w fp fp' /\ w.heap.size <= X /\ w.heap.size <= R /\ w.heap.size <= L := by
 obtain ⟨p1, p2, p3, p4⟩ := first_pinv hu hr hn hm l
 have hf : srightF s ga gd gl = 0 := srightF_new hr hu.size hn
 have hpb := pagesOf_bd ga gd gl
 have hy := right_yes hr
 have hlim := begF_lim ga gd gl 1 0 0 (List.replicate m []) l (wipeF gl (Sup.clr s).1).1
 rw [List.length_replicate] at hlim
 have h1 := clr_sz s
 have h2 := wipeF_sz (show gl <= 64 by omega) (Sup.clr s).1
 refine (format_any g fp s gS bS l ga gd gl m w hG h (by omega) (by omega) hf hm p1 p2 p3).mono ?_
 rintro e w' ⟨X, rfl, R, L, fp', a, k, f, x1, x2, x3⟩
 have hbs := hb.size
 refine ⟨X, R, L, fp', rfl, ⟨_, _, _, a, p4, by omega, by omega, by show (1 : UInt64).toNat <= _; simp, hb.trans (k.below (fun j hj => ho j (by simp only [List.mem_cons] at hj ⊢; rcases hj with e | e <;> simp [e])) hb.size), fun j hj => ?_⟩, k, f, x1, x2, x3⟩
 simp only [List.mem_cons] at hj
 rcases hj with e | e | e | e | e | e
 · omega
 · omega
 · omega
 · exact ho j (by simp [e])
 · exact ho j (by simp [e])
 · rcases f j e with e2 | e2
   · exact ho j (by simp [e2])
   · omega
theorem SH.opens {w0 w : World} {X R L g : Nat} {fp : List Nat} {gS bS : Nat} {ga gd gl : Int} {n : Nat} {y : RS} {t : Nat} (h : SH w0 w X R L g fp gS bS ga gd gl n y t) (hG : Gb ga gd gl) (hr : right ga gd gl = true) (hn : (n : Int) = Geom.sizeOf ga gd gl) (ht : t <= 100) :
   Calls Tryz.prog 17 #[.pointer (some ⟨g, 0, none⟩), .pointer (some ⟨gS, 0, none⟩), gv ga gd gl] w fun e w' => ∃ X' R', e = .returned (.tuple #[.pointer (some ⟨X', 0, none⟩), .int .i64 0]) /\ SH w0 w' X' R' X' g fp gS bS ga gd gl n y.isDue t /\ Below w.heap.size w w' /\ w.heap.size <= X' /\ w.heap.size <= R' := by
 obtain ⟨z, s, l, h1, h2, h3, h4, h5, h6, h7⟩ := h
 have hf : srightF s ga gd gl = 0 := srightF_new hr h2.up.size hn
 have hy := right_yes hr
 have hsz := Sup.size_ge hr
 obtain ⟨gen0, P0, ts, b1, b2, b3, b4, b5, b6, b7, b8, b9⟩ := h2.opens hr (by omega)
 have hpp := pages_pos hr
 refine (open_any g fp s gS bS l ga gd gl w hG h1.both (by omega) (by omega) hf h2.up.down ⟨z.life, z.base, gen0⟩ b1 h2.hb P0 b3 (by omega) b2 ts b5 b6 b7).mono ?_
 rintro e w' ⟨X', R', rfl, a, b, x1, x2⟩
 have hbs := h6.size
 refine ⟨X', R', rfl, ⟨_, _, _, a, b9, h3, h4, h5, bt h6 b, fun j hj => ?_⟩, b, x1, x2⟩
 simp only [List.mem_cons] at hj
 rcases hj with e | e | e | e | e | e
 · omega
 · omega
 · omega
 · exact h7 j (by simp [e])
 · exact h7 j (by simp [e])
 · exact h7 j (by simp [e])
theorem PInv.pageLen {ga gd gl : Int} {n : Nat} {sm : List (List UInt8)} {st : St} {z : Z} {y : RS} (h : PInv ga gd gl n sm st z y) : ∀ b ∈ z.pages, b.length <= 479 := fun b hb => by
 obtain ⟨j, hj, rfl⟩ := List.mem_iff_getElem.1 hb
 exact h.pagesOk.short j hj
theorem SH.gen {w0 w : World} {X R L g : Nat} {fp : List Nat} {gS bS : Nat} {ga gd gl : Int} {n : Nat} {y : RS} {t : Nat} (h : SH w0 w X R L g fp gS bS ga gd gl n y t) : Calls Tryz.prog 20 #[.pointer (some ⟨X, 0, none⟩)] w fun e w' => e = .returned (.int .u64 (y.gen.toNat : Int)) /\ w = w' := by
 obtain ⟨z, s, l, h1, h2, _⟩ := h
 obtain ⟨_, _, _, e3, _⟩ := h2.zok
 rw [e3]
 exact gen_any X R L g fp gS bS ga gd gl z s l w h1
theorem SH.life {w0 w : World} {X R L g : Nat} {fp : List Nat} {gS bS : Nat} {ga gd gl : Int} {n : Nat} {y : RS} {t : Nat} (h : SH w0 w X R L g fp gS bS ga gd gl n y t) : Calls Tryz.prog 21 #[.pointer (some ⟨X, 0, none⟩)] w fun e w' => e = .returned (.int .u64 (y.life.toNat : Int)) /\ w = w' := by
 obtain ⟨z, s, l, h1, h2, _⟩ := h
 obtain ⟨_, _, e2, _⟩ := h2.zok
 rw [e2]
 exact life_any X R L g fp gS bS ga gd gl z s l w h1
end Go.Proofs.YtchcmklelmlbgaaGreat.Sto
namespace Go.Proofs.YtchcmklelmlbgaaGreat.Sto
open Go.RowKit
open Go.Proofs.YtchcmklelmlbgaaGreat.Geom
open Go.Proofs.YtchcmklelmlbgaaGreat.Sup (Gb gv gcell gthree)
set_option linter.unusedVariables false
set_option maxRecDepth 100000
abbrev rcl (ga gd gl : Int) (y : RS) (A : Option Addr) (c : Nat) : List Value :=
 [.int .i64 ga, .int .i64 gd, .int .i64 gl, .slice A y.pages.length c, .int .u64 (y.gen.toNat : Int), .int .u64 (y.life.toNat : Int), .int .i64 y.base, .int .u64 (y.began.toNat : Int), .int .i64 (y.seq : Int), .bool y.due]
abbrev RV (ga gd gl : Int) (y : RS) (A : Option Addr) (c : Nat) : Value :=
 .agg #[.int .i64 ga, .int .i64 gd, .int .i64 gl, .slice A y.pages.length c, .int .u64 (y.gen.toNat : Int), .int .u64 (y.life.toNat : Int), .int .i64 y.base, .int .u64 (y.began.toNat : Int), .int .i64 (y.seq : Int), .bool y.due]
theorem ten {w : World} {X : Nat} {a0 a1 a2 a3 a4 a5 a6 a7 a8 a9 : Value} (h : Blk w X [a0, a1, a2, a3, a4, a5, a6, a7, a8, a9]) :
   w.cell? ⟨X, 0, none⟩ = some a0 /\ w.cell? ⟨X, 1, none⟩ = some a1 /\ w.cell? ⟨X, 2, none⟩ = some a2 /\ w.cell? ⟨X, 3, none⟩ = some a3 /\ w.cell? ⟨X, 4, none⟩ = some a4 /\ w.cell? ⟨X, 5, none⟩ = some a5 /\ w.cell? ⟨X, 6, none⟩ = some a6 /\ w.cell? ⟨X, 7, none⟩ = some a7 /\ w.cell? ⟨X, 8, none⟩ = some a8 /\ w.cell? ⟨X, 9, none⟩ = some a9 :=
 ⟨h.cell (k := 0) (by simp), h.cell (k := 1) (by simp), h.cell (k := 2) (by simp), h.cell (k := 3) (by simp), h.cell (k := 4) (by simp), h.cell (k := 5) (by simp), h.cell (k := 6) (by simp), h.cell (k := 7) (by simp), h.cell (k := 8) (by simp), h.cell (k := 9) (by simp)⟩
set_option maxHeartbeats 1000000 in
theorem rrenew_any (ga gd gl : Int) (y : RS) (A : Option Addr) (c : Nat) (w : World) (hlife : y.life.toNat < 4611686018427387904) (hq : y.seq <= 100000) (hb : 0 <= y.base /\ y.base <= 1073741824) (hg : 1 <= gl) (hg1 : gl <= 100000) : Calls Tryz.prog 26 #[RV ga gd gl y A c] w fun e w' => e = .returned (RV ga gd gl (y.renew gl) A c) /\ Below w.heap.size w w' := by
 obtain ⟨w1, hw1⟩ : ∃ q, q = (w.alloc (.cells #[.int .i64 ga, .int .i64 gd, .int .i64 gl, .slice A y.pages.length c, .int .u64 (y.gen.toNat : Int), .int .u64 (y.life.toNat : Int), .int .i64 y.base, .int .u64 (y.began.toNat : Int), .int .i64 (y.seq : Int), .bool y.due] 56)).alloc (.cells #[.int .i64 0, .int .i64 0, .int .i64 0, .slice none 0 0, .int .u64 0, .int .u64 0, .int .i64 0, .int .u64 0, .int .i64 0, .bool false] 56) := ⟨_, rfl⟩
 have b0 : Below w.heap.size w w1 := by rw [hw1]; exact b2alloc w _ _
 have F : Blk w1 w.heap.size (rcl ga gd gl y A c) := by rw [hw1]; exact (Blk.new w (rcl ga gd gl y A c) 56).alloc _
 have F2 : Blk w1 (w.heap.size + 1) [.int .i64 0, .int .i64 0, .int .i64 0, .slice none 0 0, .int .u64 0, .int .u64 0, .int .i64 0, .int .u64 0, .int .i64 0, .bool false] := by
   rw [hw1]
   simpa using Blk.new (w.alloc (.cells #[.int .i64 ga, .int .i64 gd, .int .i64 gl, .slice A y.pages.length c, .int .u64 (y.gen.toNat : Int), .int .u64 (y.life.toNat : Int), .int .i64 y.base, .int .u64 (y.began.toNat : Int), .int .i64 (y.seq : Int), .bool y.due] 56)) [.int .i64 0, .int .i64 0, .int .i64 0, .slice none 0 0, .int .u64 0, .int .u64 0, .int .i64 0, .int .u64 0, .int .i64 0, .bool false] 56
 obtain ⟨z0, z1, z2, z3, z4, z5, z6, z7, z8, z9⟩ := ten F
 obtain ⟨r0, r1, r2, r3, r4, r5, r6, r7, r8, r9⟩ := ten F2
 have fz := F.free
 have fr := F2.free
 have lz := F.lt
 have lr := F2.lt
 have HW := Lib.hid hw1
 have hlw0 := life_wrap hlife
 obtain ⟨lf, hlf⟩ : ∃ q, q = y.life + 1 := ⟨_, rfl⟩
 rw [<- hlf] at hlw0
 have Hlf := Lib.hid hlf
 have hsm : IntKind.i64.wrap (y.base + (y.seq : Int)) = y.base + (y.seq : Int) := wrap_small (by omega) (by omega)
 have ht : (y.base + (y.seq : Int)).tmod gl = (y.base + (y.seq : Int)) % gl := Int.tmod_eq_emod_of_nonneg (by omega)
 have e1 := Int.emod_nonneg (y.base + (y.seq : Int)) (show gl ≠ 0 by omega)
 have e2 := Int.emod_lt_of_pos (y.base + (y.seq : Int)) (show 0 < gl by omega)
 have hw2 : IntKind.i64.wrap ((y.base + (y.seq : Int)) % gl) = (y.base + (y.seq : Int)) % gl := wrap_small (by omega) (by omega)
 have hne : ¬ gl = 0 := by omega
 have HF := Lib.hid F
 have HF2 := Lib.hid F2
 clear hw1 e1 e2 F F2 hlife hlf
 go_enter Tryz.func26, Tryz.ntmps26
 go_upto_region 1 with (fail)
 rw [<- HW.out]
 go_upto_region 6 with (fail)
 obtain ⟨w6, hw6⟩ : ∃ q, q = (((((w1.setCell ⟨w.heap.size, 5, none⟩ (.int .u64 (lf.toNat : Int))).setCell ⟨w.heap.size, 6, none⟩ (.int .i64 ((y.base + (y.seq : Int)) % gl))).setCell ⟨w.heap.size, 7, none⟩ (.int .u64 (y.gen.toNat : Int))).setCell ⟨w.heap.size, 8, none⟩ (.int .i64 0)).setCell ⟨w.heap.size, 9, none⟩ (.bool false)) := ⟨_, rfl⟩
 have F6 : Blk w6 w.heap.size [.int .i64 ga, .int .i64 gd, .int .i64 gl, .slice A y.pages.length c, .int .u64 (y.gen.toNat : Int), .int .u64 (lf.toNat : Int), .int .i64 ((y.base + (y.seq : Int)) % gl), .int .u64 (y.gen.toNat : Int), .int .i64 0, .bool false] := by rw [hw6]; exact (((((HF.out.set (k := 5) _).set (k := 6) _).set (k := 7) _).set (k := 8) _).set (k := 9) _ : Blk _ w.heap.size _)
 have hn6 : w.heap.size + 1 ≠ w.heap.size := by omega
 have G6 : Blk w6 (w.heap.size + 1) [.int .i64 0, .int .i64 0, .int .i64 0, .slice none 0 0, .int .u64 0, .int .u64 0, .int .i64 0, .int .u64 0, .int .i64 0, .bool false] := by rw [hw6]; exact ((((HF2.out.other _ hn6).other _ hn6).other _ hn6).other _ hn6).other _ hn6
 have B6 : Below w.heap.size w w6 := by rw [hw6]; exact bset (bset (bset (bset (bset b0 (Nat.le_refl _) _) (Nat.le_refl _) _) (Nat.le_refl _) _) (Nat.le_refl _) _) (Nat.le_refl _) _
 have HW6 := Lib.hid hw6
 clear hw6 z0 z1 z2 z3 z4 z5 z6 z7 z8 z9 r0 r1 r2 r3 r4 r5 r6 r7 r8 r9 fz fr lz lr hlw0 hsm ht hw2 hne hn6 b0
 rw [<- HW6.out]
 obtain ⟨z0, z1, z2, z3, z4, z5, z6, z7, z8, z9⟩ := ten F6
 obtain ⟨r0, r1, r2, r3, r4, r5, r6, r7, r8, r9⟩ := ten G6
 have fr := G6.free
 have lr := G6.lt
 have HG6 := Lib.hid G6
 clear F6 G6
 go_wp2_with fail
 obtain ⟨wF, hwF⟩ : ∃ q, q = ((((((((((w6.setCell ⟨w.heap.size + 1, 0, none⟩ (.int .i64 ga)).setCell ⟨w.heap.size + 1, 1, none⟩ (.int .i64 gd)).setCell ⟨w.heap.size + 1, 2, none⟩ (.int .i64 gl)).setCell ⟨w.heap.size + 1, 3, none⟩ (.slice A y.pages.length c)).setCell ⟨w.heap.size + 1, 4, none⟩ (.int .u64 (y.gen.toNat : Int))).setCell ⟨w.heap.size + 1, 5, none⟩ (.int .u64 (lf.toNat : Int))).setCell ⟨w.heap.size + 1, 6, none⟩ (.int .i64 ((y.base + (y.seq : Int)) % gl))).setCell ⟨w.heap.size + 1, 7, none⟩ (.int .u64 (y.gen.toNat : Int))).setCell ⟨w.heap.size + 1, 8, none⟩ (.int .i64 0)).setCell ⟨w.heap.size + 1, 9, none⟩ (.bool false)) := ⟨_, rfl⟩
 have FF : Blk wF (w.heap.size + 1) [.int .i64 ga, .int .i64 gd, .int .i64 gl, .slice A y.pages.length c, .int .u64 (y.gen.toNat : Int), .int .u64 (lf.toNat : Int), .int .i64 ((y.base + (y.seq : Int)) % gl), .int .u64 (y.gen.toNat : Int), .int .i64 0, .bool false] := by rw [hwF]; exact ((((((((((HG6.out.set (k := 0) _).set (k := 1) _).set (k := 2) _).set (k := 3) _).set (k := 4) _).set (k := 5) _).set (k := 6) _).set (k := 7) _).set (k := 8) _).set (k := 9) _ : Blk _ (w.heap.size + 1) _)
 have BF : Below w.heap.size w wF := by
   rw [hwF]
   repeat (refine bset ?_ (Nat.le_succ _) _)
   exact B6
 rw [<- hwF]
 clear hwF z0 z1 z2 z3 z4 z5 z6 z7 z8 z9 r0 r1 r2 r3 r4 r5 r6 r7 r8 r9 fr
 obtain ⟨r0, r1, r2, r3, r4, r5, r6, r7, r8, r9⟩ := ten FF
 have hv : RV ga gd gl (y.renew gl) A c = .agg #[.int .i64 ga, .int .i64 gd, .int .i64 gl, .slice A y.pages.length c, .int .u64 (y.gen.toNat : Int), .int .u64 (lf.toNat : Int), .int .i64 ((y.base + (y.seq : Int)) % gl), .int .u64 (y.gen.toNat : Int), .int .i64 0, .bool false] := by rw [Hlf.out]; rfl
 rw [hv]
 refine bodyPost_ret (v := .agg #[.int .i64 ga, .int .i64 gd, .int .i64 gl, .slice A y.pages.length c, .int .u64 (y.gen.toNat : Int), .int .u64 (lf.toNat : Int), .int .i64 ((y.base + (y.seq : Int)) % gl), .int .u64 (y.gen.toNat : Int), .int .i64 0, .bool false]) (by simp [results, Tryz.results26, go_sem, r0, r1, r2, r3, r4, r5, r6, r7, r8, r9]) rfl ⟨rfl, BF⟩
end Go.Proofs.YtchcmklelmlbgaaGreat.Sto
namespace Go.Proofs.YtchcmklelmlbgaaGreat.Sto
open Go.RowKit
open Go.Proofs.YtchcmklelmlbgaaGreat.Geom
open Go.Proofs.YtchcmklelmlbgaaGreat.Sup (Gb gv gcell gthree)
set_option linter.unusedVariables false
set_option maxRecDepth 100000
theorem _root_.Go.Proofs.YtchcmklelmlbgaaGreat.Rw.list {w : World} {Q : Nat -> Prop} {A : Option Addr} {P : List (List UInt8)} (h : Rw w Q A P) :
   ∃ xs : List Value, xs.length = P.length /\ (∀ u ∈ xs, u.oneCell' = true) /\ Rd w w.heap.size A xs /\ ∀ i (h : i < P.length), ∃ Ai ci, xs[i]? = some (.slice Ai P[i].length ci) /\ RdQ w Q Ai (P[i].map e8) /\ P[i].length <= ci /\ ci <= maxLen := by
 by_cases hne : P = []
 · subst hne
   exact ⟨[], rfl, by simp, fun h => absurd rfl h, fun i hi => absurd hi (by simp)⟩
 obtain ⟨b, off, rfl, hb, _, hc⟩ := h hne
 refine ⟨(List.range P.length).map (fun i => (w.cell? ⟨b, off + i, none⟩).getD (.bool false)), by simp, ?_, fun _ => ⟨b, off, rfl, hb, fun i hi => ?_⟩, fun i hi => ?_⟩
 · intro u hu
   obtain ⟨i, hi, rfl⟩ := List.mem_map.mp hu
   obtain ⟨Ai, ci, e, _⟩ := hc i (by simpa using hi)
   rw [e]; rfl
 · obtain ⟨Ai, ci, e, _⟩ := hc i (by simpa using hi)
   simp [e]
 · obtain ⟨Ai, ci, e, h1, h2, h3⟩ := hc i hi
   refine ⟨Ai, ci, ?_, h1, h2, h3⟩
   simp [e, hi]
set_option maxHeartbeats 1000000 in
theorem rput_any (Q : Nat -> Prop) (A A1 : Option Addr) (P : List (List UInt8)) (c : Nat) (pages : List Pg) (c1 : Nat) (w : World) (hP : Rw w Q A P) (hT : Pgs w Q A1 pages) (hp0 : 0 < P.length) (hpl : P.length <= 100000)
   (hcl : pages.length <= 1000000) (hp : ∀ k (hk : k < pages.length), 0 <= pages[k].n /\ pages[k].n < P.length /\ pages[k].body.length <= 1000000) :
   Calls Tryz.prog 63 #[.slice A P.length c, .slice A1 pages.length c1] w fun e w' => ∃ R c', e = .returned (.slice (some ⟨R, 0, none⟩) P.length c') /\ w.heap.size <= R /\ SRow w' R c' (putP P pages) (fun j => Q j /\ j < w.heap.size) /\ Below w.heap.size w w' := by
 obtain ⟨xs, hxl, hx1, hxr, hxs⟩ := hP.list
 obtain ⟨i0, hi0, hz0, hz1, hz2⟩ := info_parts Snap.infoS
 have own0 := own_lit w 51 #[] w.heap.size 0 (Nat.le_refl _) rfl (by unfold maxLen; omega)
 have hrA : Rd (w.alloc (.cells #[] 51)) w.heap.size A xs := hxr.below (b1alloc w _)
 have HP := Lib.hid hp
 have HT := Lib.hid hT
 have HX := Lib.hid hxs
 have HPl := Lib.hid (fun k => (putP_len (pages.take k) P : (putP P (pages.take k)).length = P.length))
 clear hp hT hxs hP hxr
 go_enter Tryz.func63, Tryz.ntmps63
 go_upto_region 1 with (fail)
 go_wp2_with (at_builtin; refine wpList_append_rd _ rfl _ _ _ rfl w.heap.size 51 i0 _ 1 24 Tryz.underlying47 hi0 hz0 hz1 hz2 rfl (by omega) _ 0 [] rfl own0 w.heap.size A P.length c xs rfl (by omega) hrA hx1 (by unfold maxLen; omega) (by omega) (b1alloc w _).size ?_; intro v1 w1 own1 hg1 hat1; have bW1 := (b1alloc w _).grown hg1 (b1alloc w _).size (fun g hg => own_block own0 hg); rw [Nat.zero_add, List.nil_append] at own1; obtain ⟨R, cR, rfl, hR⟩ := own_some own1 hp0; have hS0 : SRow w1 R cR P (fun j => Q j /\ j < w.heap.size) := ⟨xs, own_base own1 (Nat.zero_le _), fun i hi => by { obtain ⟨Ai, ci, a1, a2, a3⟩ := HX.out i hi; exact ⟨Ai, ci, a1, (a2.imp (Q' := fun j => Q j /\ j < w.heap.size) (fun j hj hq => ⟨hq, hj⟩)).on bW1, a3⟩ }⟩; have HS0 := Lib.hid hS0; clear own0 hrA own1 hg1 hat1 hS0 hi0 hz0 hz1 hz2)
 go_loopw [6] (fun i wr => ∃ k : Nat, k <= pages.length /\ i = .int .i64 (k : Int) /\ Below w.heap.size w wr /\ SRow wr R cR (putP P (pages.take k)) (fun j => Q j /\ j < w.heap.size)) (fun i _ => pages.length - (intOf i).toNat)
 case atStart => exact ⟨0, by omega, rfl, bW1, HS0.out⟩
 case round =>
   obtain ⟨k, hk, rfl, kr, hS⟩ := hrel
   by_cases hlt : k < pages.length
   · have hkn : (k : Int) < (pages.length : Int) := by omega
     obtain ⟨p1, p2, p3⟩ := HP.out k hlt
     obtain ⟨b, off, Ai, ci, rfl, hb, hx⟩ := ((HT.out.imp (Q' := fun j => Q j /\ j < w.heap.size) (fun j hj hq => ⟨hq, hj⟩)).on kr).get hlt
     obtain ⟨x, hx0⟩ : ∃ x, x = pages[k] := ⟨_, rfl⟩
     rw [<- hx0] at p1 p2 p3 hx
     obtain ⟨m, hm⟩ : ∃ m : Nat, m = x.n.toNat := ⟨_, rfl⟩
     have hxn : x.n = (m : Int) := by omega
     have htk : putP P (pages.take (k + 1)) = (putP P (pages.take k)).set m x.body := by
       rw [List.take_succ_eq_append_getElem hlt, <- hx0, putP_snoc, hm]
     have h0 := hx.c0
     have h1 := hx.c1
     have hlo := hx.lo
     have hhi := hx.hi
     have hci := hx.cap
     have hcm := hx.max
     have hrd := hx.rd
     rw [hxn] at h0
     have hzz := HPl.out k
     obtain ⟨zz, hzz0⟩ : ∃ zz, zz = putP P (pages.take k) := ⟨_, rfl⟩
     rw [<- hzz0] at hS hzz htk
     have hmi : (m : Int) < (P.length : Int) := by omega
     have Htk := Lib.hid htk
     have hlR := hS.lt
     obtain ⟨hPc, hcR⟩ := hS.cap
     have HSk := Lib.hid hS
     have HR := Lib.hid (fun W (bW : Below wr.heap.size wr W) => hrd.on bW)
     clear htk hx0 hxn hm hx hzz0 p1 p2 p3 hS hrd hlo hhi
     go_upto_region 5 with (fail)
     refine region_inb_tail 12 (by kernel_rfl) (by kernel_rfl) ?_
     simp only [List.take_succ_cons, List.take_zero, List.drop_succ_cons, List.drop_zero]
     have inbNe := InB.some
     have inbW := @wrap_small
     have inbU := IntKind.wrap_u8'
     repeat (refine wpQuiet_step (fun K hK => ?_); go_simp; first | (refine hK _ ?_; clear hK K) | (apply Exists.intro; refine ⟨?_, hK _ ?_⟩; (· (intro w' hw'; first | fail | (have hcw := hw'.cell; go_simp; exact rfl))); clear hK K))
     refine wpQuiet_nil ?_
     intro wq hq
     clear inbNe inbW inbU
     have HQ := Lib.hid hq.below
     have hSq := HSk.out.on hq.below
     obtain ⟨AR, cj, r0, _⟩ := hSq.get (i := m) (by omega)
     have fR := hSq.free m
     have hlRq := hSq.lt
     have HSt := Lib.hid (hSq.set (fun e => by have := e.2; omega) m (HR.out wq hq.below) hci hcm)
     clear hq hSq
     have Hkr := Lib.hid kr
     clear kr
     go_wp2_with fail
     case roundEnd =>
       refine ⟨⟨k + 1, by omega, by go_num, bset (bt Hkr.out HQ.out) hR _, by rw [Htk.out]; exact HSt.out⟩, by simp only [intOf]; omega⟩
   · obtain rfl : k = pages.length := by omega
     have hkn : ¬ (pages.length : Int) < (pages.length : Int) := by omega
     rw [List.take_length] at hS
     have HSS := Lib.hid hS
     have HK := Lib.hid kr
     clear hS kr
     go_wp2_with fail
     go_ret
     exact ⟨R, cR, rfl, hR, HSS.out, HK.out⟩
end Go.Proofs.YtchcmklelmlbgaaGreat.Sto
namespace Go.Proofs.YtchcmklelmlbgaaGreat.Sto
open Go.RowKit
open Go.Proofs.YtchcmklelmlbgaaGreat.Geom
open Go.Proofs.YtchcmklelmlbgaaGreat.Sup (Gb gv gcell gthree)
open Go.Proofs.YtchcmklelmlbgaaGreat.Wal (badB fitsB whyF rpagesOk_any rfits_any)
set_option linter.unusedVariables false
set_option maxRecDepth 100000
def set10 (w : World) (X : Nat) (b0 b1 b2 b3 b4 b5 b6 b7 b8 b9 : Value) : World :=
 ((((((((((w.setCell ⟨X, 0, none⟩ b0).setCell ⟨X, 1, none⟩ b1).setCell ⟨X, 2, none⟩ b2).setCell ⟨X, 3, none⟩ b3).setCell ⟨X, 4, none⟩ b4).setCell ⟨X, 5, none⟩ b5).setCell ⟨X, 6, none⟩ b6).setCell ⟨X, 7, none⟩ b7).setCell ⟨X, 8, none⟩ b8).setCell ⟨X, 9, none⟩ b9)
theorem set10_blk {w : World} {X : Nat} {a0 a1 a2 a3 a4 a5 a6 a7 a8 a9 : Value} (h : Blk w X [a0, a1, a2, a3, a4, a5, a6, a7, a8, a9]) (b0 b1 b2 b3 b4 b5 b6 b7 b8 b9 : Value) : Blk (set10 w X b0 b1 b2 b3 b4 b5 b6 b7 b8 b9) X [b0, b1, b2, b3, b4, b5, b6, b7, b8, b9] :=
 ((((((((((h.set (k := 0) b0).set (k := 1) b1).set (k := 2) b2).set (k := 3) b3).set (k := 4) b4).set (k := 5) b5).set (k := 6) b6).set (k := 7) b7).set (k := 8) b8).set (k := 9) b9 : Blk _ X _)
theorem set10_other {w : World} {X Y : Nat} {l : List Value} (h : Blk w Y l) (hn : Y ≠ X) (b0 b1 b2 b3 b4 b5 b6 b7 b8 b9 : Value) : Blk (set10 w X b0 b1 b2 b3 b4 b5 b6 b7 b8 b9) Y l :=
 (((((((((h.other _ hn).other _ hn).other _ hn).other _ hn).other _ hn).other _ hn).other _ hn).other _ hn).other _ hn).other _ hn
theorem set10_below {w0 w : World} {B X : Nat} (h : Below B w0 w) (hX : B <= X) (b0 b1 b2 b3 b4 b5 b6 b7 b8 b9 : Value) : Below B w0 (set10 w X b0 b1 b2 b3 b4 b5 b6 b7 b8 b9) := by
 unfold set10
 repeat (refine bset ?_ hX _)
 exact h
structure RMid (w w1 : World) (ga gd gl : Int) (y : RS) (A : Option Addr) (c : Nat) : Prop where
 box : Blk w1 w.heap.size (rcl ga gd gl y A c)
 res : ∃ a0 a1 a2 a3 a4 a5 a6 a7 a8 a9, Blk w1 (w.heap.size + 1) [a0, a1, a2, a3, a4, a5, a6, a7, a8, a9]
 below : Below w.heap.size w w1
theorem rmid0 (w : World) (ga gd gl : Int) (y : RS) (A : Option Addr) (c : Nat) : RMid w ((w.alloc (.cells #[.int .i64 ga, .int .i64 gd, .int .i64 gl, .slice A y.pages.length c, .int .u64 (y.gen.toNat : Int), .int .u64 (y.life.toNat : Int), .int .i64 y.base, .int .u64 (y.began.toNat : Int), .int .i64 (y.seq : Int), .bool y.due] 56)).alloc (.cells #[.int .i64 0, .int .i64 0, .int .i64 0, .slice none 0 0, .int .u64 0, .int .u64 0, .int .i64 0, .int .u64 0, .int .i64 0, .bool false] 56)) ga gd gl y A c :=
 ⟨(Blk.new w (rcl ga gd gl y A c) 56).alloc _, ⟨_, _, _, _, _, _, _, _, _, _, by
   simpa using Blk.new (w.alloc (.cells #[.int .i64 ga, .int .i64 gd, .int .i64 gl, .slice A y.pages.length c, .int .u64 (y.gen.toNat : Int), .int .u64 (y.life.toNat : Int), .int .i64 y.base, .int .u64 (y.began.toNat : Int), .int .i64 (y.seq : Int), .bool y.due] 56)) [.int .i64 0, .int .i64 0, .int .i64 0, .slice none 0 0, .int .u64 0, .int .u64 0, .int .i64 0, .int .u64 0, .int .i64 0, .bool false] 56⟩, b2alloc w _ _⟩
set_option maxHeartbeats 1000000 in
theorem rcommit_due (ga gd gl : Int) (y : RS) (A : Option Addr) (c : Nat) (A1 : Option Addr) (n1 c1 : Nat) (gen : UInt64) (w : World) (hd : y.due = true) :
   Calls Tryz.prog 25 #[RV ga gd gl y A c, .slice A1 n1 c1, .int .u64 (gen.toNat : Int)] w fun e w' => e = .returned (.tuple #[RV ga gd gl y A c, .int .i64 14]) /\ Below w.heap.size w w' := by
 obtain ⟨w1, hw1⟩ : ∃ q, q = ((w.alloc (.cells #[.int .i64 ga, .int .i64 gd, .int .i64 gl, .slice A y.pages.length c, .int .u64 (y.gen.toNat : Int), .int .u64 (y.life.toNat : Int), .int .i64 y.base, .int .u64 (y.began.toNat : Int), .int .i64 (y.seq : Int), .bool y.due] 56)).alloc (.cells #[.int .i64 0, .int .i64 0, .int .i64 0, .slice none 0 0, .int .u64 0, .int .u64 0, .int .i64 0, .int .u64 0, .int .i64 0, .bool false] 56)) := ⟨_, rfl⟩
 have M : RMid w w1 ga gd gl y A c := by rw [hw1]; exact rmid0 w ga gd gl y A c
 obtain ⟨z0, z1, z2, z3, z4, z5, z6, z7, z8, z9⟩ := ten M.box
 obtain ⟨a0, a1, a2, a3, a4, a5, a6, a7, a8, a9, G⟩ := M.res
 obtain ⟨r0, r1, r2, r3, r4, r5, r6, r7, r8, r9⟩ := ten G
 have fr := G.free
 have lr := G.lt
 have HG := Lib.hid G
 have HM := Lib.hid M
 have HW := Lib.hid hw1
 obtain ⟨dv, hdv⟩ : ∃ dv, dv = y.due := ⟨_, rfl⟩
 have hRV : RV ga gd gl y A c = .agg #[.int .i64 ga, .int .i64 gd, .int .i64 gl, .slice A y.pages.length c, .int .u64 (y.gen.toNat : Int), .int .u64 (y.life.toNat : Int), .int .i64 y.base, .int .u64 (y.began.toNat : Int), .int .i64 (y.seq : Int), .bool true] := by rw [<- hd]
 rw [hd] at z9
 have HRV := Lib.hid hRV
 clear hw1 G M hd hdv hRV
 go_enter Tryz.func25, Tryz.ntmps25
 go_upto_region 1 with (fail)
 rw [<- HW.out]
 go_upto_region 2 with (fail)
 go_wp2_with fail
 obtain ⟨wF, hwF⟩ : ∃ q, q = set10 w1 (w.heap.size + 1) (.int .i64 ga) (.int .i64 gd) (.int .i64 gl) (.slice A y.pages.length c) (.int .u64 (y.gen.toNat : Int)) (.int .u64 (y.life.toNat : Int)) (.int .i64 y.base) (.int .u64 (y.began.toNat : Int)) (.int .i64 (y.seq : Int)) (.bool true) := ⟨_, rfl⟩
 have FF := set10_blk HG.out (.int .i64 ga) (.int .i64 gd) (.int .i64 gl) (.slice A y.pages.length c) (.int .u64 (y.gen.toNat : Int)) (.int .u64 (y.life.toNat : Int)) (.int .i64 y.base) (.int .u64 (y.began.toNat : Int)) (.int .i64 (y.seq : Int)) (.bool true)
 have BF := set10_below HM.out.below (Nat.le_succ _) (.int .i64 ga) (.int .i64 gd) (.int .i64 gl) (.slice A y.pages.length c) (.int .u64 (y.gen.toNat : Int)) (.int .u64 (y.life.toNat : Int)) (.int .i64 y.base) (.int .u64 (y.began.toNat : Int)) (.int .i64 (y.seq : Int)) (.bool true)
 rw [<- hwF] at FF BF
 unfold set10 at hwF
 rw [<- hwF]
 clear hwF z0 z1 z2 z3 z4 z5 z6 z7 z8 z9 r0 r1 r2 r3 r4 r5 r6 r7 r8 r9 fr
 obtain ⟨r0, r1, r2, r3, r4, r5, r6, r7, r8, r9⟩ := ten FF
 rw [HRV.out]
 refine bodyPost_ret (v := .tuple #[.agg #[.int .i64 ga, .int .i64 gd, .int .i64 gl, .slice A y.pages.length c, .int .u64 (y.gen.toNat : Int), .int .u64 (y.life.toNat : Int), .int .i64 y.base, .int .u64 (y.began.toNat : Int), .int .i64 (y.seq : Int), .bool true], .int .i64 14]) (by simp [results, Tryz.results25, go_sem, r0, r1, r2, r3, r4, r5, r6, r7, r8, r9]) rfl ⟨rfl, BF⟩
end Go.Proofs.YtchcmklelmlbgaaGreat.Sto
namespace Go.Proofs.YtchcmklelmlbgaaGreat.Sto
open Go.RowKit
open Go.Proofs.YtchcmklelmlbgaaGreat.Geom
open Go.Proofs.YtchcmklelmlbgaaGreat.Sup (Gb gv gcell gthree)
open Go.Proofs.YtchcmklelmlbgaaGreat.Wal (badB fitsB whyF rpagesOk_any rfits_any)
set_option linter.unusedVariables false
set_option maxRecDepth 100000
theorem RMid.on {w w1 w2 : World} {ga gd gl : Int} {y : RS} {A : Option Addr} {c : Nat} (h : RMid w w1 ga gd gl y A c) (b : Below w1.heap.size w1 w2) : RMid w w2 ga gd gl y A c := by
 obtain ⟨a0, a1, a2, a3, a4, a5, a6, a7, a8, a9, G⟩ := h.res
 exact ⟨h.box.on b, ⟨_, _, _, _, _, _, _, _, _, _, G.on b⟩, bt h.below b⟩
theorem set10_keep {w0 w : World} {fp : List Nat} {X : Nat} (h : Keep fp w0 w) (hX : X ∈ fp) (b0 b1 b2 b3 b4 b5 b6 b7 b8 b9 : Value) : Keep fp w0 (set10 w X b0 b1 b2 b3 b4 b5 b6 b7 b8 b9) := by
 unfold set10
 repeat (refine Keep.set ?_ (.inl hX) _)
 exact h
set_option maxHeartbeats 1000000 in
theorem rcommit_bad (Q : Nat -> Prop) (ga gd gl : Int) (y : RS) (A : Option Addr) (c : Nat) (A1 : Option Addr) (pages : List Pg) (c1 : Nat) (gen : UInt64) (w : World) (hG : Gb ga gd gl) (hd : y.due = false) (hT : Pgs w Q A1 pages) (hcl : pages.length <= 1000000) (hb : badB ga gd gl pages = true) :
   Calls Tryz.prog 25 #[RV ga gd gl y A c, .slice A1 pages.length c1, .int .u64 (gen.toNat : Int)] w fun e w' => e = .returned (.tuple #[RV ga gd gl y A c, .int .i64 2]) /\ Below w.heap.size w w' := by
 obtain ⟨w1, hw1⟩ : ∃ q, q = ((w.alloc (.cells #[.int .i64 ga, .int .i64 gd, .int .i64 gl, .slice A y.pages.length c, .int .u64 (y.gen.toNat : Int), .int .u64 (y.life.toNat : Int), .int .i64 y.base, .int .u64 (y.began.toNat : Int), .int .i64 (y.seq : Int), .bool y.due] 56)).alloc (.cells #[.int .i64 0, .int .i64 0, .int .i64 0, .slice none 0 0, .int .u64 0, .int .u64 0, .int .i64 0, .int .u64 0, .int .i64 0, .bool false] 56)) := ⟨_, rfl⟩
 have M : RMid w w1 ga gd gl y A c := by rw [hw1]; exact rmid0 w ga gd gl y A c
 have Hd := Lib.hid hd
 have HRV := Lib.hid (show RV ga gd gl y A c = .agg #[.int .i64 ga, .int .i64 gd, .int .i64 gl, .slice A y.pages.length c, .int .u64 (y.gen.toNat : Int), .int .u64 (y.life.toNat : Int), .int .i64 y.base, .int .u64 (y.began.toNat : Int), .int .i64 (y.seq : Int), .bool false] from by rw [<- hd])
 have HPg := Lib.hid (fun W (bW : Below w.heap.size w W) => rpagesOk_any Q A1 pages c1 ga gd gl W hG (hT.on bW) hcl)
 have HFi := Lib.hid (fun W => rfits_any ga gd gl (pages.length : Int) W hG)
 have Hbad := Lib.hid (show (!badB ga gd gl pages) = false from by rw [hb]; rfl)
 clear hb
 have HT := Lib.hid hT
 obtain ⟨z0, z1, z2, z3, z4, z5, z6, z7, z8, z9⟩ := ten M.box
 obtain ⟨a0, a1, a2, a3, a4, a5, a6, a7, a8, a9, G⟩ := M.res
 obtain ⟨r0, r1, r2, r3, r4, r5, r6, r7, r8, r9⟩ := ten G
 have fr := G.free
 have fz := M.box.free
 have lr := G.lt
 have HG := Lib.hid G
 have HM := Lib.hid M
 rw [Hd.out] at z9
 clear G M
 have HW := Lib.hid hw1
 clear hw1 hd hT
 go_enter Tryz.func25, Tryz.ntmps25
 go_upto_region 1 with (fail)
 rw [<- HW.out]
 go_upto_region 3 with (fail)
 go_wp2_with (go_at_call 61; refine (HPg.out _ HM.out.below).mono ?_; rintro e w3 ⟨rfl, b3⟩; rw [Hbad.out]; have M := HM.out.on b3; clear z0 z1 z2 z3 z4 z5 z6 z7 z8 z9 r0 r1 r2 r3 r4 r5 r6 r7 r8 r9 fr fz lr b3; obtain ⟨z0, z1, z2, z3, z4, z5, z6, z7, z8, z9⟩ := ten M.box; obtain ⟨a0, a1, a2, a3, a4, a5, a6, a7, a8, a9, G⟩ := M.res; obtain ⟨r0, r1, r2, r3, r4, r5, r6, r7, r8, r9⟩ := ten G; have fr := G.free; have fz := M.box.free; have lr := G.lt; have HG := Lib.hid G; have HM := Lib.hid M; rw [Hd.out] at z9; clear G M; skip)
 obtain ⟨wF, hwF⟩ : ∃ q, q = set10 w3 (w.heap.size + 1) (.int .i64 ga) (.int .i64 gd) (.int .i64 gl) (.slice A y.pages.length c) (.int .u64 (y.gen.toNat : Int)) (.int .u64 (y.life.toNat : Int)) (.int .i64 y.base) (.int .u64 (y.began.toNat : Int)) (.int .i64 (y.seq : Int)) (.bool false) := ⟨_, rfl⟩
 have FF := set10_blk HG.out (.int .i64 ga) (.int .i64 gd) (.int .i64 gl) (.slice A y.pages.length c) (.int .u64 (y.gen.toNat : Int)) (.int .u64 (y.life.toNat : Int)) (.int .i64 y.base) (.int .u64 (y.began.toNat : Int)) (.int .i64 (y.seq : Int)) (.bool false)
 have BF := set10_below HM.out.below (Nat.le_succ _) (.int .i64 ga) (.int .i64 gd) (.int .i64 gl) (.slice A y.pages.length c) (.int .u64 (y.gen.toNat : Int)) (.int .u64 (y.life.toNat : Int)) (.int .i64 y.base) (.int .u64 (y.began.toNat : Int)) (.int .i64 (y.seq : Int)) (.bool false)
 rw [<- hwF] at FF BF
 unfold set10 at hwF
 rw [<- hwF]
 clear hwF z0 z1 z2 z3 z4 z5 z6 z7 z8 z9 r0 r1 r2 r3 r4 r5 r6 r7 r8 r9 fr
 obtain ⟨r0, r1, r2, r3, r4, r5, r6, r7, r8, r9⟩ := ten FF
 rw [HRV.out]
 refine bodyPost_ret (v := .tuple #[.agg #[.int .i64 ga, .int .i64 gd, .int .i64 gl, .slice A y.pages.length c, .int .u64 (y.gen.toNat : Int), .int .u64 (y.life.toNat : Int), .int .i64 y.base, .int .u64 (y.began.toNat : Int), .int .i64 (y.seq : Int), .bool false], .int .i64 2]) (by simp [results, Tryz.results25, go_sem, r0, r1, r2, r3, r4, r5, r6, r7, r8, r9]) rfl ⟨rfl, BF⟩
set_option maxHeartbeats 1000000 in
theorem rcommit_fit (Q : Nat -> Prop) (ga gd gl : Int) (y : RS) (A : Option Addr) (c : Nat) (A1 : Option Addr) (pages : List Pg) (c1 : Nat) (gen : UInt64) (w : World) (hG : Gb ga gd gl) (hd : y.due = false) (hT : Pgs w Q A1 pages) (hcl : pages.length <= 1000000) (hb : badB ga gd gl pages = false) (hf : fitsB ga gd gl pages.length = false) :
   Calls Tryz.prog 25 #[RV ga gd gl y A c, .slice A1 pages.length c1, .int .u64 (gen.toNat : Int)] w fun e w' => e = .returned (.tuple #[RV ga gd gl y A c, .int .i64 6]) /\ Below w.heap.size w w' := by
 obtain ⟨w1, hw1⟩ : ∃ q, q = ((w.alloc (.cells #[.int .i64 ga, .int .i64 gd, .int .i64 gl, .slice A y.pages.length c, .int .u64 (y.gen.toNat : Int), .int .u64 (y.life.toNat : Int), .int .i64 y.base, .int .u64 (y.began.toNat : Int), .int .i64 (y.seq : Int), .bool y.due] 56)).alloc (.cells #[.int .i64 0, .int .i64 0, .int .i64 0, .slice none 0 0, .int .u64 0, .int .u64 0, .int .i64 0, .int .u64 0, .int .i64 0, .bool false] 56)) := ⟨_, rfl⟩
 have M : RMid w w1 ga gd gl y A c := by rw [hw1]; exact rmid0 w ga gd gl y A c
 have Hd := Lib.hid hd
 have HRV := Lib.hid (show RV ga gd gl y A c = .agg #[.int .i64 ga, .int .i64 gd, .int .i64 gl, .slice A y.pages.length c, .int .u64 (y.gen.toNat : Int), .int .u64 (y.life.toNat : Int), .int .i64 y.base, .int .u64 (y.began.toNat : Int), .int .i64 (y.seq : Int), .bool false] from by rw [<- hd])
 have HPg := Lib.hid (fun W (bW : Below w.heap.size w W) => rpagesOk_any Q A1 pages c1 ga gd gl W hG (hT.on bW) hcl)
 have HFi := Lib.hid (fun W => rfits_any ga gd gl (pages.length : Int) W hG)
 have Hbad := Lib.hid (show (!badB ga gd gl pages) = true from by rw [hb]; rfl)
 have Hfit := Lib.hid hf
 clear hb hf
 have HT := Lib.hid hT
 obtain ⟨z0, z1, z2, z3, z4, z5, z6, z7, z8, z9⟩ := ten M.box
 obtain ⟨a0, a1, a2, a3, a4, a5, a6, a7, a8, a9, G⟩ := M.res
 obtain ⟨r0, r1, r2, r3, r4, r5, r6, r7, r8, r9⟩ := ten G
 have fr := G.free
 have fz := M.box.free
 have lr := G.lt
 have HG := Lib.hid G
 have HM := Lib.hid M
 rw [Hd.out] at z9
 clear G M
 have HW := Lib.hid hw1
 clear hw1 hd hT
 go_enter Tryz.func25, Tryz.ntmps25
 go_upto_region 1 with (fail)
 rw [<- HW.out]
 go_upto_region 3 with (fail)
 go_upto_region 5 with (go_at_call 61; refine (HPg.out _ HM.out.below).mono ?_; rintro e w3 ⟨rfl, b3⟩; rw [Hbad.out]; have M := HM.out.on b3; clear z0 z1 z2 z3 z4 z5 z6 z7 z8 z9 r0 r1 r2 r3 r4 r5 r6 r7 r8 r9 fr fz lr b3; obtain ⟨z0, z1, z2, z3, z4, z5, z6, z7, z8, z9⟩ := ten M.box; obtain ⟨a0, a1, a2, a3, a4, a5, a6, a7, a8, a9, G⟩ := M.res; obtain ⟨r0, r1, r2, r3, r4, r5, r6, r7, r8, r9⟩ := ten G; have fr := G.free; have fz := M.box.free; have lr := G.lt; have HG := Lib.hid G; have HM := Lib.hid M; rw [Hd.out] at z9; clear G M)
 go_wp2_with (go_at_call 62; refine (HFi.out _).mono ?_; rintro e w5 ⟨rfl, b5⟩; rw [Hfit.out]; have M := HM.out.on b5; clear z0 z1 z2 z3 z4 z5 z6 z7 z8 z9 r0 r1 r2 r3 r4 r5 r6 r7 r8 r9 fr fz lr b5; obtain ⟨z0, z1, z2, z3, z4, z5, z6, z7, z8, z9⟩ := ten M.box; obtain ⟨a0, a1, a2, a3, a4, a5, a6, a7, a8, a9, G⟩ := M.res; obtain ⟨r0, r1, r2, r3, r4, r5, r6, r7, r8, r9⟩ := ten G; have fr := G.free; have fz := M.box.free; have lr := G.lt; have HG := Lib.hid G; have HM := Lib.hid M; rw [Hd.out] at z9; clear G M)
 obtain ⟨wF, hwF⟩ : ∃ q, q = set10 w5 (w.heap.size + 1) (.int .i64 ga) (.int .i64 gd) (.int .i64 gl) (.slice A y.pages.length c) (.int .u64 (y.gen.toNat : Int)) (.int .u64 (y.life.toNat : Int)) (.int .i64 y.base) (.int .u64 (y.began.toNat : Int)) (.int .i64 (y.seq : Int)) (.bool false) := ⟨_, rfl⟩
 have FF := set10_blk HG.out (.int .i64 ga) (.int .i64 gd) (.int .i64 gl) (.slice A y.pages.length c) (.int .u64 (y.gen.toNat : Int)) (.int .u64 (y.life.toNat : Int)) (.int .i64 y.base) (.int .u64 (y.began.toNat : Int)) (.int .i64 (y.seq : Int)) (.bool false)
 have BF := set10_below HM.out.below (Nat.le_succ _) (.int .i64 ga) (.int .i64 gd) (.int .i64 gl) (.slice A y.pages.length c) (.int .u64 (y.gen.toNat : Int)) (.int .u64 (y.life.toNat : Int)) (.int .i64 y.base) (.int .u64 (y.began.toNat : Int)) (.int .i64 (y.seq : Int)) (.bool false)
 rw [<- hwF] at FF BF
 unfold set10 at hwF
 rw [<- hwF]
 clear hwF z0 z1 z2 z3 z4 z5 z6 z7 z8 z9 r0 r1 r2 r3 r4 r5 r6 r7 r8 r9 fr
 obtain ⟨r0, r1, r2, r3, r4, r5, r6, r7, r8, r9⟩ := ten FF
 rw [HRV.out]
 refine bodyPost_ret (v := .tuple #[.agg #[.int .i64 ga, .int .i64 gd, .int .i64 gl, .slice A y.pages.length c, .int .u64 (y.gen.toNat : Int), .int .u64 (y.life.toNat : Int), .int .i64 y.base, .int .u64 (y.began.toNat : Int), .int .i64 (y.seq : Int), .bool false], .int .i64 6]) (by simp [results, Tryz.results25, go_sem, r0, r1, r2, r3, r4, r5, r6, r7, r8, r9]) rfl ⟨rfl, BF⟩
set_option maxHeartbeats 1000000 in
theorem rcommit_room (Q : Nat -> Prop) (ga gd gl : Int) (y : RS) (A : Option Addr) (c : Nat) (A1 : Option Addr) (pages : List Pg) (c1 : Nat) (gen : UInt64) (w : World) (hG : Gb ga gd gl) (hd : y.due = false) (hT : Pgs w Q A1 pages) (hcl : pages.length <= 1000000) (hb : badB ga gd gl pages = false) (hf : fitsB ga gd gl pages.length = true) (hP : Rw w Q A y.pages) (hp0 : 0 < y.pages.length) (hpl : y.pages.length <= 100000) (hp : ∀ k (hk : k < pages.length), 0 <= pages[k].n /\ pages[k].n < y.pages.length /\ pages[k].body.length <= 1000000) (hq : y.seq <= 1000000) (hg0 : 1 <= gl) (hg1 : gl <= 100000) (hroom : ¬ gl - (y.seq : Int) < (pages.length : Int) + 1) :
   Calls Tryz.prog 25 #[RV ga gd gl y A c, .slice A1 pages.length c1, .int .u64 (gen.toNat : Int)] w fun e w' => ∃ R c', e = .returned (.tuple #[RV ga gd gl (y.put pages gen) (some ⟨R, 0, none⟩) c', .int .i64 0]) /\ w.heap.size <= R /\ SRow w' R c' (putP y.pages pages) (fun j => Q j /\ j < w.heap.size) /\ Below w.heap.size w w' := by
 obtain ⟨w1, hw1⟩ : ∃ q, q = ((w.alloc (.cells #[.int .i64 ga, .int .i64 gd, .int .i64 gl, .slice A y.pages.length c, .int .u64 (y.gen.toNat : Int), .int .u64 (y.life.toNat : Int), .int .i64 y.base, .int .u64 (y.began.toNat : Int), .int .i64 (y.seq : Int), .bool y.due] 56)).alloc (.cells #[.int .i64 0, .int .i64 0, .int .i64 0, .slice none 0 0, .int .u64 0, .int .u64 0, .int .i64 0, .int .u64 0, .int .i64 0, .bool false] 56)) := ⟨_, rfl⟩
 have M : RMid w w1 ga gd gl y A c := by rw [hw1]; exact rmid0 w ga gd gl y A c
 have Hd := Lib.hid hd
 have HRV := Lib.hid (show RV ga gd gl y A c = .agg #[.int .i64 ga, .int .i64 gd, .int .i64 gl, .slice A y.pages.length c, .int .u64 (y.gen.toNat : Int), .int .u64 (y.life.toNat : Int), .int .i64 y.base, .int .u64 (y.began.toNat : Int), .int .i64 (y.seq : Int), .bool false] from by rw [<- hd])
 have HPg := Lib.hid (fun W (bW : Below w.heap.size w W) => rpagesOk_any Q A1 pages c1 ga gd gl W hG (hT.on bW) hcl)
 have HFi := Lib.hid (fun W => rfits_any ga gd gl (pages.length : Int) W hG)
 have Hbad := Lib.hid (show (!badB ga gd gl pages) = true from by rw [hb]; rfl)
 have Hfit := Lib.hid hf
 clear hb hf
 have hPq : Rw w (fun j => Q j /\ j < w.heap.size) A y.pages := hP.imp (fun j hj hq => ⟨hq, hj⟩)
 have hTq : Pgs w (fun j => Q j /\ j < w.heap.size) A1 pages := hT.imp (fun j hj hq => ⟨hq, hj⟩)
 have HPut := Lib.hid (fun W (bW : Below w.heap.size w W) => rput_any (fun j => Q j /\ j < w.heap.size) A A1 y.pages c pages c1 W (hPq.on bW) (hTq.on bW) hp0 hpl hcl hp)
 have Hpl := Lib.hid hpl
 clear hPq hTq hp hP hpl
 have HT := Lib.hid hT
 obtain ⟨z0, z1, z2, z3, z4, z5, z6, z7, z8, z9⟩ := ten M.box
 obtain ⟨a0, a1, a2, a3, a4, a5, a6, a7, a8, a9, G⟩ := M.res
 obtain ⟨r0, r1, r2, r3, r4, r5, r6, r7, r8, r9⟩ := ten G
 have fr := G.free
 have fz := M.box.free
 have lr := G.lt
 have HG := Lib.hid G
 have HM := Lib.hid M
 rw [Hd.out] at z9
 clear G M
 have HW := Lib.hid hw1
 clear hw1 hd hT
 go_enter Tryz.func25, Tryz.ntmps25
 go_upto_region 1 with (fail)
 rw [<- HW.out]
 go_upto_region 3 with (fail)
 have hs1 : IntKind.i64.wrap (gl - (y.seq : Int)) = gl - (y.seq : Int) := wrap_small (by omega) (by omega)
 have hs2 : IntKind.i64.wrap ((pages.length : Int) + 1) = (pages.length : Int) + 1 := wrap_small (by omega) (by omega)
 have hs3 : IntKind.i64.wrap ((y.seq : Int) + (pages.length : Int)) = (y.seq : Int) + (pages.length : Int) := wrap_small (by omega) (by omega)
 have hs4 : IntKind.i64.wrap ((y.seq : Int) + (pages.length : Int) + 1) = (y.seq : Int) + (pages.length : Int) + 1 := wrap_small (by omega) (by omega)
 clear hq hg0 hg1 hcl
 go_upto_region 5 with (go_at_call 61; refine (HPg.out _ HM.out.below).mono ?_; rintro e w3 ⟨rfl, b3⟩; rw [Hbad.out]; have M := HM.out.on b3; clear z0 z1 z2 z3 z4 z5 z6 z7 z8 z9 r0 r1 r2 r3 r4 r5 r6 r7 r8 r9 fr fz lr b3; obtain ⟨z0, z1, z2, z3, z4, z5, z6, z7, z8, z9⟩ := ten M.box; obtain ⟨a0, a1, a2, a3, a4, a5, a6, a7, a8, a9, G⟩ := M.res; obtain ⟨r0, r1, r2, r3, r4, r5, r6, r7, r8, r9⟩ := ten G; have fr := G.free; have fz := M.box.free; have lr := G.lt; have HG := Lib.hid G; have HM := Lib.hid M; rw [Hd.out] at z9; clear G M)
 go_upto_region 9 with (go_at_call 62; refine (HFi.out _).mono ?_; rintro e w5 ⟨rfl, b5⟩; rw [Hfit.out]; have M := HM.out.on b5; clear z0 z1 z2 z3 z4 z5 z6 z7 z8 z9 r0 r1 r2 r3 r4 r5 r6 r7 r8 r9 fr fz lr b5; obtain ⟨z0, z1, z2, z3, z4, z5, z6, z7, z8, z9⟩ := ten M.box; obtain ⟨a0, a1, a2, a3, a4, a5, a6, a7, a8, a9, G⟩ := M.res; obtain ⟨r0, r1, r2, r3, r4, r5, r6, r7, r8, r9⟩ := ten G; have fr := G.free; have fz := M.box.free; have lr := G.lt; have HG := Lib.hid G; have HM := Lib.hid M; rw [Hd.out] at z9; clear G M)
 go_upto_region 12 with (go_at_call 63; refine (HPut.out _ HM.out.below).mono ?_; rintro e w7 ⟨R, c', rfl, hR, hS, b7⟩; have hR2 : w.heap.size + 1 < R := by { have := lr; omega }; have M := HM.out.on b7; have HS := Lib.hid hS; clear z0 z1 z2 z3 z4 z5 z6 z7 z8 z9 r0 r1 r2 r3 r4 r5 r6 r7 r8 r9 fr fz lr b7 hS hR; obtain ⟨z0, z1, z2, z3, z4, z5, z6, z7, z8, z9⟩ := ten M.box; obtain ⟨a0, a1, a2, a3, a4, a5, a6, a7, a8, a9, G⟩ := M.res; obtain ⟨r0, r1, r2, r3, r4, r5, r6, r7, r8, r9⟩ := ten G; have fr := G.free; have fz := M.box.free; have lr := G.lt; have HG := Lib.hid G; have HM := Lib.hid M; rw [Hd.out] at z9; clear G M)
 obtain ⟨w12, hw12⟩ : ∃ q, q = (((w7.setCell ⟨w.heap.size, 3, none⟩ (.slice (some ⟨R, 0, none⟩) y.pages.length c')).setCell ⟨w.heap.size, 8, none⟩ (.int .i64 ((y.seq : Int) + (pages.length : Int) + 1))).setCell ⟨w.heap.size, 4, none⟩ (.int .u64 (gen.toNat : Int))) := ⟨_, rfl⟩
 have F12 : Blk w12 w.heap.size [.int .i64 ga, .int .i64 gd, .int .i64 gl, .slice (some ⟨R, 0, none⟩) y.pages.length c', .int .u64 (gen.toNat : Int), .int .u64 (y.life.toNat : Int), .int .i64 y.base, .int .u64 (y.began.toNat : Int), .int .i64 ((y.seq : Int) + (pages.length : Int) + 1), .bool y.due] := by rw [hw12]; exact (((HM.out.box.set (k := 3) _).set (k := 8) _).set (k := 4) _ : Blk _ w.heap.size _)
 have hn6 : w.heap.size + 1 ≠ w.heap.size := by omega
 have G12 : Blk w12 (w.heap.size + 1) [a0, a1, a2, a3, a4, a5, a6, a7, a8, a9] := by rw [hw12]; exact ((HG.out.other _ hn6).other _ hn6).other _ hn6
 have B12 : Below w.heap.size w w12 := by rw [hw12]; exact bset (bset (bset HM.out.below (Nat.le_refl _) _) (Nat.le_refl _) _) (Nat.le_refl _) _
 have K12 : Keep [w.heap.size, w.heap.size + 1] w7 w12 := by rw [hw12]; exact (((Keep.refl _ _).set (.inl (by simp)) _).set (.inl (by simp)) _).set (.inl (by simp)) _
 have HB12 := Lib.hid B12
 have HK12 := Lib.hid K12
 have HW12 := Lib.hid hw12
 clear hw12 B12 K12 hn6 z0 z1 z2 z3 z4 z5 z6 z7 z8 z9 r0 r1 r2 r3 r4 r5 r6 r7 r8 r9 fr fz lr
 rw [<- HW12.out]
 clear HG
 obtain ⟨z0, z1, z2, z3, z4, z5, z6, z7, z8, z9⟩ := ten F12
 obtain ⟨r0, r1, r2, r3, r4, r5, r6, r7, r8, r9⟩ := ten G12
 rw [Hd.out] at z9
 have fr := G12.free
 have lr := G12.lt
 have HG := Lib.hid G12
 clear F12 G12
 go_wp2_with fail
 obtain ⟨wF, hwF⟩ : ∃ q, q = set10 w12 (w.heap.size + 1) (.int .i64 ga) (.int .i64 gd) (.int .i64 gl) (.slice (some ⟨R, 0, none⟩) y.pages.length c') (.int .u64 (gen.toNat : Int)) (.int .u64 (y.life.toNat : Int)) (.int .i64 y.base) (.int .u64 (y.began.toNat : Int)) (.int .i64 ((y.seq : Int) + (pages.length : Int) + 1)) (.bool false) := ⟨_, rfl⟩
 have FF := set10_blk HG.out (.int .i64 ga) (.int .i64 gd) (.int .i64 gl) (.slice (some ⟨R, 0, none⟩) y.pages.length c') (.int .u64 (gen.toNat : Int)) (.int .u64 (y.life.toNat : Int)) (.int .i64 y.base) (.int .u64 (y.began.toNat : Int)) (.int .i64 ((y.seq : Int) + (pages.length : Int) + 1)) (.bool false)
 have BF := set10_below HB12.out (Nat.le_succ _) (.int .i64 ga) (.int .i64 gd) (.int .i64 gl) (.slice (some ⟨R, 0, none⟩) y.pages.length c') (.int .u64 (gen.toNat : Int)) (.int .u64 (y.life.toNat : Int)) (.int .i64 y.base) (.int .u64 (y.began.toNat : Int)) (.int .i64 ((y.seq : Int) + (pages.length : Int) + 1)) (.bool false)
 have KF := set10_keep HK12.out (X := w.heap.size + 1) (by simp) (.int .i64 ga) (.int .i64 gd) (.int .i64 gl) (.slice (some ⟨R, 0, none⟩) y.pages.length c') (.int .u64 (gen.toNat : Int)) (.int .u64 (y.life.toNat : Int)) (.int .i64 y.base) (.int .u64 (y.began.toNat : Int)) (.int .i64 ((y.seq : Int) + (pages.length : Int) + 1)) (.bool false)
 rw [<- hwF] at FF BF KF
 unfold set10 at hwF
 rw [<- hwF]
 have SF := HS.out.keep KF (by simp; omega) (fun j hj _ => by have := hj.2; simp; omega)
 clear hwF z0 z1 z2 z3 z4 z5 z6 z7 z8 z9 r0 r1 r2 r3 r4 r5 r6 r7 r8 r9 fr
 obtain ⟨r0, r1, r2, r3, r4, r5, r6, r7, r8, r9⟩ := ten FF
 refine bodyPost_ret (v := .tuple #[.agg #[.int .i64 ga, .int .i64 gd, .int .i64 gl, .slice (some ⟨R, 0, none⟩) y.pages.length c', .int .u64 (gen.toNat : Int), .int .u64 (y.life.toNat : Int), .int .i64 y.base, .int .u64 (y.began.toNat : Int), .int .i64 ((y.seq : Int) + (pages.length : Int) + 1), .bool false], .int .i64 0]) (by simp [results, Tryz.results25, go_sem, r0, r1, r2, r3, r4, r5, r6, r7, r8, r9]) rfl ⟨R, c', by rw [show RV ga gd gl (y.put pages gen) (some ⟨R, 0, none⟩) c' = .agg #[.int .i64 ga, .int .i64 gd, .int .i64 gl, .slice (some ⟨R, 0, none⟩) y.pages.length c', .int .u64 (gen.toNat : Int), .int .u64 (y.life.toNat : Int), .int .i64 y.base, .int .u64 (y.began.toNat : Int), .int .i64 ((y.seq : Int) + (pages.length : Int) + 1), .bool false] from by unfold RS.put RV; simp only [putP_len, Hd.out]; rw [show (((y.seq + (pages.length + 1) : Nat)) : Int) = (y.seq : Int) + (pages.length : Int) + 1 from by omega]], by omega, SF.imp (fun j _ hj => ⟨hj.1.1, hj.1.2⟩), BF⟩
set_option maxHeartbeats 1000000 in
theorem rcommit_renew (Q : Nat -> Prop) (ga gd gl : Int) (y : RS) (A : Option Addr) (c : Nat) (A1 : Option Addr) (pages : List Pg) (c1 : Nat) (gen : UInt64) (w : World) (hG : Gb ga gd gl) (hd : y.due = false) (hT : Pgs w Q A1 pages) (hcl : pages.length <= 1000000) (hb : badB ga gd gl pages = false) (hf : fitsB ga gd gl pages.length = true) (hP : Rw w Q A y.pages) (hp0 : 0 < y.pages.length) (hpl : y.pages.length <= 100000) (hp : ∀ k (hk : k < pages.length), 0 <= pages[k].n /\ pages[k].n < y.pages.length /\ pages[k].body.length <= 1000000) (hq : y.seq <= 100000) (hg0 : 1 <= gl) (hg1 : gl <= 100000) (hlife : y.life.toNat < 4611686018427387904) (hbs : 0 <= y.base /\ y.base <= 1073741824) (hroom : gl - (y.seq : Int) < (pages.length : Int) + 1) :
   Calls Tryz.prog 25 #[RV ga gd gl y A c, .slice A1 pages.length c1, .int .u64 (gen.toNat : Int)] w fun e w' => ∃ R c', e = .returned (.tuple #[RV ga gd gl ((y.renew gl).put pages gen) (some ⟨R, 0, none⟩) c', .int .i64 0]) /\ w.heap.size <= R /\ SRow w' R c' (putP y.pages pages) (fun j => Q j /\ j < w.heap.size) /\ Below w.heap.size w w' := by
 obtain ⟨w1, hw1⟩ : ∃ q, q = ((w.alloc (.cells #[.int .i64 ga, .int .i64 gd, .int .i64 gl, .slice A y.pages.length c, .int .u64 (y.gen.toNat : Int), .int .u64 (y.life.toNat : Int), .int .i64 y.base, .int .u64 (y.began.toNat : Int), .int .i64 (y.seq : Int), .bool y.due] 56)).alloc (.cells #[.int .i64 0, .int .i64 0, .int .i64 0, .slice none 0 0, .int .u64 0, .int .u64 0, .int .i64 0, .int .u64 0, .int .i64 0, .bool false] 56)) := ⟨_, rfl⟩
 have M : RMid w w1 ga gd gl y A c := by rw [hw1]; exact rmid0 w ga gd gl y A c
 have Hd := Lib.hid hd
 have HRV := Lib.hid (show RV ga gd gl y A c = .agg #[.int .i64 ga, .int .i64 gd, .int .i64 gl, .slice A y.pages.length c, .int .u64 (y.gen.toNat : Int), .int .u64 (y.life.toNat : Int), .int .i64 y.base, .int .u64 (y.began.toNat : Int), .int .i64 (y.seq : Int), .bool false] from by rw [<- hd])
 have HPg := Lib.hid (fun W (bW : Below w.heap.size w W) => rpagesOk_any Q A1 pages c1 ga gd gl W hG (hT.on bW) hcl)
 have HFi := Lib.hid (fun W => rfits_any ga gd gl (pages.length : Int) W hG)
 have Hbad := Lib.hid (show (!badB ga gd gl pages) = true from by rw [hb]; rfl)
 have Hfit := Lib.hid hf
 clear hb hf
 obtain ⟨y2, hy2⟩ : ∃ y2, y2 = y.renew gl := ⟨_, rfl⟩
 have e1 : y.pages = y2.pages := by rw [hy2]; rfl
 have Hd2 := Lib.hid (show y2.due = false from by rw [hy2]; rfl)
 have hq2 : y2.seq = 0 := by rw [hy2]; rfl
 have HRen := Lib.hid (fun W => (by rw [<- HRV.out, hy2]; exact rrenew_any ga gd gl y A c W hlife hq hbs hg0 hg1 : Calls Tryz.prog 26 #[.agg #[.int .i64 ga, .int .i64 gd, .int .i64 gl, .slice A y.pages.length c, .int .u64 (y.gen.toNat : Int), .int .u64 (y.life.toNat : Int), .int .i64 y.base, .int .u64 (y.began.toNat : Int), .int .i64 (y.seq : Int), .bool false]] W fun e w' => e = .returned (RV ga gd gl y2 A c) /\ Below W.heap.size W w'))
 have hPq : Rw w (fun j => Q j /\ j < w.heap.size) A y2.pages := e1 ▸ hP.imp (fun j hj hq => ⟨hq, hj⟩)
 have hTq : Pgs w (fun j => Q j /\ j < w.heap.size) A1 pages := hT.imp (fun j hj hq => ⟨hq, hj⟩)
 have HPut := Lib.hid (fun W (bW : Below w.heap.size w W) => rput_any (fun j => Q j /\ j < w.heap.size) A A1 y2.pages c pages c1 W (hPq.on bW) (hTq.on bW) (e1 ▸ hp0) (e1 ▸ hpl) hcl (e1 ▸ hp))
 have E1 := Lib.hid e1
 have HY2 := Lib.hid hy2
 clear hPq hTq hp hP hpl hlife hbs hp0 e1 hy2
 have HT := Lib.hid hT
 obtain ⟨z0, z1, z2, z3, z4, z5, z6, z7, z8, z9⟩ := ten M.box
 obtain ⟨a0, a1, a2, a3, a4, a5, a6, a7, a8, a9, G⟩ := M.res
 obtain ⟨r0, r1, r2, r3, r4, r5, r6, r7, r8, r9⟩ := ten G
 have fr := G.free
 have fz := M.box.free
 have lr := G.lt
 have HG := Lib.hid G
 have HM := Lib.hid M
 rw [Hd.out] at z9
 clear G M
 have HW := Lib.hid hw1
 clear hw1 hd hT
 go_enter Tryz.func25, Tryz.ntmps25
 go_upto_region 1 with (fail)
 rw [<- HW.out]
 go_upto_region 3 with (fail)
 have hs1 : IntKind.i64.wrap (gl - (y.seq : Int)) = gl - (y.seq : Int) := wrap_small (by omega) (by omega)
 have hs2 : IntKind.i64.wrap ((pages.length : Int) + 1) = (pages.length : Int) + 1 := wrap_small (by omega) (by omega)
 have hs3 : IntKind.i64.wrap ((y2.seq : Int) + (pages.length : Int)) = (y2.seq : Int) + (pages.length : Int) := wrap_small (by omega) (by omega)
 have hs4 : IntKind.i64.wrap ((y2.seq : Int) + (pages.length : Int) + 1) = (y2.seq : Int) + (pages.length : Int) + 1 := wrap_small (by omega) (by omega)
 have HQ2 := Lib.hid hq2
 clear hq hg0 hg1 hcl hq2
 go_upto_region 5 with (go_at_call 61; refine (HPg.out _ HM.out.below).mono ?_; rintro e w3 ⟨rfl, b3⟩; rw [Hbad.out]; have M := HM.out.on b3; clear z0 z1 z2 z3 z4 z5 z6 z7 z8 z9 r0 r1 r2 r3 r4 r5 r6 r7 r8 r9 fr fz lr b3; obtain ⟨z0, z1, z2, z3, z4, z5, z6, z7, z8, z9⟩ := ten M.box; obtain ⟨a0, a1, a2, a3, a4, a5, a6, a7, a8, a9, G⟩ := M.res; obtain ⟨r0, r1, r2, r3, r4, r5, r6, r7, r8, r9⟩ := ten G; have fr := G.free; have fz := M.box.free; have lr := G.lt; have HG := Lib.hid G; have HM := Lib.hid M; rw [Hd.out] at z9; clear G M)
 go_upto_region 8 with (go_at_call 62; refine (HFi.out _).mono ?_; rintro e w5 ⟨rfl, b5⟩; rw [Hfit.out]; have M := HM.out.on b5; clear z0 z1 z2 z3 z4 z5 z6 z7 z8 z9 r0 r1 r2 r3 r4 r5 r6 r7 r8 r9 fr fz lr b5; obtain ⟨z0, z1, z2, z3, z4, z5, z6, z7, z8, z9⟩ := ten M.box; obtain ⟨a0, a1, a2, a3, a4, a5, a6, a7, a8, a9, G⟩ := M.res; obtain ⟨r0, r1, r2, r3, r4, r5, r6, r7, r8, r9⟩ := ten G; have fr := G.free; have fz := M.box.free; have lr := G.lt; have HG := Lib.hid G; have HM := Lib.hid M; rw [Hd.out] at z9; clear G M)
 go_upto_region 9 with (go_at_call 26; refine (HRen.out _).mono ?_; rintro e w6 ⟨rfl, b6⟩; have M := HM.out.on b6; clear z0 z1 z2 z3 z4 z5 z6 z7 z8 z9 r0 r1 r2 r3 r4 r5 r6 r7 r8 r9 fr fz lr b6; obtain ⟨z0, z1, z2, z3, z4, z5, z6, z7, z8, z9⟩ := ten M.box; obtain ⟨a0, a1, a2, a3, a4, a5, a6, a7, a8, a9, G⟩ := M.res; obtain ⟨r0, r1, r2, r3, r4, r5, r6, r7, r8, r9⟩ := ten G; have fr := G.free; have fz := M.box.free; have lr := G.lt; have HG := Lib.hid G; have HM := Lib.hid M; rw [Hd.out] at z9; clear G M)
 obtain ⟨w8, hw8⟩ : ∃ q, q = set10 w6 w.heap.size (.int .i64 ga) (.int .i64 gd) (.int .i64 gl) (.slice A y2.pages.length c) (.int .u64 (y2.gen.toNat : Int)) (.int .u64 (y2.life.toNat : Int)) (.int .i64 y2.base) (.int .u64 (y2.began.toNat : Int)) (.int .i64 (y2.seq : Int)) (.bool y2.due) := ⟨_, rfl⟩
 have M : RMid w w8 ga gd gl y2 A c := by
   rw [hw8]
   exact ⟨set10_blk HM.out.box _ _ _ _ _ _ _ _ _ _, ⟨_, _, _, _, _, _, _, _, _, _, set10_other HG.out (by omega) _ _ _ _ _ _ _ _ _ _⟩, set10_below HM.out.below (Nat.le_refl _) _ _ _ _ _ _ _ _ _ _⟩
 unfold set10 at hw8
 have HW8 := Lib.hid hw8
 clear hw8 z0 z1 z2 z3 z4 z5 z6 z7 z8 z9 r0 r1 r2 r3 r4 r5 r6 r7 r8 r9 fr fz lr HG HM
 rw [<- HW8.out]
 obtain ⟨z0, z1, z2, z3, z4, z5, z6, z7, z8, z9⟩ := ten M.box
 obtain ⟨a0, a1, a2, a3, a4, a5, a6, a7, a8, a9, G⟩ := M.res
 obtain ⟨r0, r1, r2, r3, r4, r5, r6, r7, r8, r9⟩ := ten G
 have fr := G.free
 have fz := M.box.free
 have lr := G.lt
 have HG := Lib.hid G
 have HM := Lib.hid M
 rw [Hd2.out] at z9
 clear G M
 go_upto_region 12 with (go_at_call 63; refine (HPut.out _ HM.out.below).mono ?_; rintro e w7 ⟨R, c', rfl, hR, hS, b7⟩; have hR2 : w.heap.size + 1 < R := by { have := lr; omega }; have M := HM.out.on b7; have HS := Lib.hid hS; clear z0 z1 z2 z3 z4 z5 z6 z7 z8 z9 r0 r1 r2 r3 r4 r5 r6 r7 r8 r9 fr fz lr b7 hS hR; obtain ⟨z0, z1, z2, z3, z4, z5, z6, z7, z8, z9⟩ := ten M.box; obtain ⟨a0, a1, a2, a3, a4, a5, a6, a7, a8, a9, G⟩ := M.res; obtain ⟨r0, r1, r2, r3, r4, r5, r6, r7, r8, r9⟩ := ten G; have fr := G.free; have fz := M.box.free; have lr := G.lt; have HG := Lib.hid G; have HM := Lib.hid M; rw [Hd2.out] at z9; clear G M)
 obtain ⟨w12, hw12⟩ : ∃ q, q = (((w7.setCell ⟨w.heap.size, 3, none⟩ (.slice (some ⟨R, 0, none⟩) y2.pages.length c')).setCell ⟨w.heap.size, 8, none⟩ (.int .i64 ((y2.seq : Int) + (pages.length : Int) + 1))).setCell ⟨w.heap.size, 4, none⟩ (.int .u64 (gen.toNat : Int))) := ⟨_, rfl⟩
 have F12 : Blk w12 w.heap.size [.int .i64 ga, .int .i64 gd, .int .i64 gl, .slice (some ⟨R, 0, none⟩) y2.pages.length c', .int .u64 (gen.toNat : Int), .int .u64 (y2.life.toNat : Int), .int .i64 y2.base, .int .u64 (y2.began.toNat : Int), .int .i64 ((y2.seq : Int) + (pages.length : Int) + 1), .bool y2.due] := by rw [hw12]; exact (((HM.out.box.set (k := 3) _).set (k := 8) _).set (k := 4) _ : Blk _ w.heap.size _)
 have hn6 : w.heap.size + 1 ≠ w.heap.size := by omega
 have G12 : Blk w12 (w.heap.size + 1) [a0, a1, a2, a3, a4, a5, a6, a7, a8, a9] := by rw [hw12]; exact ((HG.out.other _ hn6).other _ hn6).other _ hn6
 have B12 : Below w.heap.size w w12 := by rw [hw12]; exact bset (bset (bset HM.out.below (Nat.le_refl _) _) (Nat.le_refl _) _) (Nat.le_refl _) _
 have K12 : Keep [w.heap.size, w.heap.size + 1] w7 w12 := by rw [hw12]; exact (((Keep.refl _ _).set (.inl (by simp)) _).set (.inl (by simp)) _).set (.inl (by simp)) _
 have HB12 := Lib.hid B12
 have HK12 := Lib.hid K12
 have HW12 := Lib.hid hw12
 clear hw12 B12 K12 hn6 z0 z1 z2 z3 z4 z5 z6 z7 z8 z9 r0 r1 r2 r3 r4 r5 r6 r7 r8 r9 fr fz lr
 rw [<- HW12.out]
 clear HG
 obtain ⟨z0, z1, z2, z3, z4, z5, z6, z7, z8, z9⟩ := ten F12
 obtain ⟨r0, r1, r2, r3, r4, r5, r6, r7, r8, r9⟩ := ten G12
 rw [Hd2.out] at z9
 have fr := G12.free
 have lr := G12.lt
 have HG := Lib.hid G12
 clear F12 G12
 go_wp2_with fail
 obtain ⟨wF, hwF⟩ : ∃ q, q = set10 w12 (w.heap.size + 1) (.int .i64 ga) (.int .i64 gd) (.int .i64 gl) (.slice (some ⟨R, 0, none⟩) y2.pages.length c') (.int .u64 (gen.toNat : Int)) (.int .u64 (y2.life.toNat : Int)) (.int .i64 y2.base) (.int .u64 (y2.began.toNat : Int)) (.int .i64 ((y2.seq : Int) + (pages.length : Int) + 1)) (.bool false) := ⟨_, rfl⟩
 have FF := set10_blk HG.out (.int .i64 ga) (.int .i64 gd) (.int .i64 gl) (.slice (some ⟨R, 0, none⟩) y2.pages.length c') (.int .u64 (gen.toNat : Int)) (.int .u64 (y2.life.toNat : Int)) (.int .i64 y2.base) (.int .u64 (y2.began.toNat : Int)) (.int .i64 ((y2.seq : Int) + (pages.length : Int) + 1)) (.bool false)
 have BF := set10_below HB12.out (Nat.le_succ _) (.int .i64 ga) (.int .i64 gd) (.int .i64 gl) (.slice (some ⟨R, 0, none⟩) y2.pages.length c') (.int .u64 (gen.toNat : Int)) (.int .u64 (y2.life.toNat : Int)) (.int .i64 y2.base) (.int .u64 (y2.began.toNat : Int)) (.int .i64 ((y2.seq : Int) + (pages.length : Int) + 1)) (.bool false)
 have KF := set10_keep HK12.out (X := w.heap.size + 1) (by simp) (.int .i64 ga) (.int .i64 gd) (.int .i64 gl) (.slice (some ⟨R, 0, none⟩) y2.pages.length c') (.int .u64 (gen.toNat : Int)) (.int .u64 (y2.life.toNat : Int)) (.int .i64 y2.base) (.int .u64 (y2.began.toNat : Int)) (.int .i64 ((y2.seq : Int) + (pages.length : Int) + 1)) (.bool false)
 rw [<- hwF] at FF BF KF
 unfold set10 at hwF
 rw [<- hwF]
 have SF := (E1.out ▸ HS.out).keep KF (by simp; omega) (fun j hj _ => by have := hj.2; simp; omega)
 clear hwF z0 z1 z2 z3 z4 z5 z6 z7 z8 z9 r0 r1 r2 r3 r4 r5 r6 r7 r8 r9 fr
 obtain ⟨r0, r1, r2, r3, r4, r5, r6, r7, r8, r9⟩ := ten FF
 refine bodyPost_ret (v := .tuple #[.agg #[.int .i64 ga, .int .i64 gd, .int .i64 gl, .slice (some ⟨R, 0, none⟩) y2.pages.length c', .int .u64 (gen.toNat : Int), .int .u64 (y2.life.toNat : Int), .int .i64 y2.base, .int .u64 (y2.began.toNat : Int), .int .i64 ((y2.seq : Int) + (pages.length : Int) + 1), .bool false], .int .i64 0]) (by simp [results, Tryz.results25, go_sem, r0, r1, r2, r3, r4, r5, r6, r7, r8, r9]) rfl ⟨R, c', by rw [show RV ga gd gl ((y.renew gl).put pages gen) (some ⟨R, 0, none⟩) c' = .agg #[.int .i64 ga, .int .i64 gd, .int .i64 gl, .slice (some ⟨R, 0, none⟩) y2.pages.length c', .int .u64 (gen.toNat : Int), .int .u64 (y2.life.toNat : Int), .int .i64 y2.base, .int .u64 (y2.began.toNat : Int), .int .i64 ((y2.seq : Int) + (pages.length : Int) + 1), .bool false] from by rw [<- HY2.out]; unfold RS.put RV; simp only [putP_len, Hd2.out]; rw [show (((y2.seq + (pages.length + 1) : Nat)) : Int) = (y2.seq : Int) + (pages.length : Int) + 1 from by omega]], by omega, SF.imp (fun j _ hj => ⟨hj.1.1, hj.1.2⟩), BF⟩
end Go.Proofs.YtchcmklelmlbgaaGreat.Sto
namespace Go.Proofs.YtchcmklelmlbgaaGreat.Sto
open Go.RowKit
open Go.Proofs.YtchcmklelmlbgaaGreat.Geom
open Go.Proofs.YtchcmklelmlbgaaGreat.Sup (Gb gv gcell gthree)
open Go.Proofs.YtchcmklelmlbgaaGreat.Wal (badB fitsB whyF wrongB)
set_option linter.unusedVariables false
set_option maxRecDepth 100000
theorem badB_all {ga gd gl : Int} {l : List Pg} (h : badB ga gd gl l = false) (k : Nat) (hk : k < l.length) : 0 <= l[k].n /\ l[k].n < pagesOf ga gd gl /\ l[k].body.length <= 473 := by
 have := List.any_eq_false.mp h l[k] (List.getElem_mem hk)
 simp [wrongB] at this
 omega
theorem rcommit_any (Q : Nat -> Prop) (ga gd gl : Int) (y : RS) (A : Option Addr) (c : Nat) (A1 : Option Addr) (pages : List Pg) (c1 : Nat) (gen : UInt64) (w : World) (hG : Gb ga gd gl) (hT : Pgs w Q A1 pages) (hcl : pages.length <= 1000000)
   (hP : Rw w Q A y.pages) (hr : right ga gd gl = true) (hpl : (y.pages.length : Int) = pagesOf ga gd gl) (hpb : y.pages.length <= 100000) (hp0 : 0 < y.pages.length) (hq : y.seq <= 100000) (hg1 : gl <= 100000) (hg0 : 1 <= gl) (hlife : y.life.toNat < 4611686018427387904) (hbs : 0 <= y.base /\ y.base <= 1073741824) :
   Calls Tryz.prog 25 #[RV ga gd gl y A c, .slice A1 pages.length c1, .int .u64 (gen.toNat : Int)] w fun e w' => ∃ A' c', e = .returned (.tuple #[RV ga gd gl (y.commit ga gd gl pages gen).1 A' c', .int .i64 (y.commit ga gd gl pages gen).2]) /\ Rw w' (fun j => (Q j /\ j < w.heap.size) \/ w.heap.size <= j) A' (y.commit ga gd gl pages gen).1.pages /\ Below w.heap.size w w' := by
 have hPn : ∀ w', Below w.heap.size w w' -> Rw w' (fun j => (Q j /\ j < w.heap.size) \/ w.heap.size <= j) A y.pages := fun w' b => (hP.imp (fun j hj hq => .inl ⟨hq, hj⟩)).on b
 cases hd : y.due with
 | true =>
   have e : y.commit ga gd gl pages gen = (y, 14) := by unfold RS.commit; rw [if_pos hd]
   rw [e]
   refine (rcommit_due ga gd gl y A c A1 pages.length c1 gen w hd).mono ?_
   rintro e w' ⟨rfl, b⟩
   exact ⟨A, c, rfl, hPn w' b, b⟩
 | false =>
   have hnd : ¬ y.due = true := by rw [hd]; decide
   cases hb : badB ga gd gl pages with
   | true =>
     have e : y.commit ga gd gl pages gen = (y, 2) := by unfold RS.commit whyF; rw [if_neg hnd, if_pos hb]; rfl
     rw [e]
     refine (rcommit_bad Q ga gd gl y A c A1 pages c1 gen w hG hd hT hcl hb).mono ?_
     rintro e w' ⟨rfl, b⟩
     exact ⟨A, c, rfl, hPn w' b, b⟩
   | false =>
     have hnb : ¬ badB ga gd gl pages = true := by rw [hb]; decide
     cases hf : fitsB ga gd gl pages.length with
     | false =>
       have e : y.commit ga gd gl pages gen = (y, 6) := by unfold RS.commit whyF; rw [if_neg hnd, if_neg hnb, if_pos hf]; rfl
       rw [e]
       refine (rcommit_fit Q ga gd gl y A c A1 pages c1 gen w hG hd hT hcl hb hf).mono ?_
       rintro e w' ⟨rfl, b⟩
       exact ⟨A, c, rfl, hPn w' b, b⟩
     | true =>
       have hnf : ¬ fitsB ga gd gl pages.length = false := by rw [hf]; decide
       have hp : ∀ k (hk : k < pages.length), 0 <= pages[k].n /\ pages[k].n < y.pages.length /\ pages[k].body.length <= 1000000 := fun k hk => by
         obtain ⟨h1, h2, h3⟩ := badB_all hb k hk
         rw [hpl]; exact ⟨h1, h2, by omega⟩
       by_cases hroom : gl - (y.seq : Int) <= (pages.length : Int)
       · have e : y.commit ga gd gl pages gen = ((y.renew gl).put pages gen, 0) := by unfold RS.commit whyF; rw [if_neg hnd, if_neg hnb, if_neg hnf, if_pos hroom]; rfl
         rw [e]
         refine (rcommit_renew Q ga gd gl y A c A1 pages c1 gen w hG hd hT hcl hb hf hP hp0 hpb hp hq hg0 hg1 hlife hbs (by omega)).mono ?_
         rintro e w' ⟨R, c', rfl, hR, hS, b⟩
         have hl : ((y.renew gl).put pages gen).pages = putP y.pages pages := rfl
         exact ⟨_, c', rfl, by rw [hl]; exact hS.rw (fun j _ hj => .inl hj) (.inr hR), b⟩
       · have e : y.commit ga gd gl pages gen = (y.put pages gen, 0) := by unfold RS.commit whyF; rw [if_neg hnd, if_neg hnb, if_neg hnf, if_neg hroom]; rfl
         rw [e]
         refine (rcommit_room Q ga gd gl y A c A1 pages c1 gen w hG hd hT hcl hb hf hP hp0 hpb hp (by omega) hg0 hg1 (by omega)).mono ?_
         rintro e w' ⟨R, c', rfl, hR, hS, b⟩
         exact ⟨_, c', rfl, hS.rw (fun j _ hj => .inl hj) (.inr hR), b⟩
theorem mkS_run (n : Nat) (hn : n <= 100000) : ∃ O : Obj, (∀ W, (Instr.makeSlice 47 (.int .i64 (n : Int)) (.int .i64 (n : Int))).run Tryz.prog W = .ok (.slice (some ⟨W.heap.size, 0, none⟩) n n) (W.alloc O)) /\ ∀ W : World, Blk (W.alloc O) W.heap.size (List.replicate n (.slice none 0 0)) := by
 obtain ⟨i0, hi0, hz0, hz1, hz2⟩ := info_parts Snap.infoS
 refine ⟨.cells (madeCells (Value.slice none 0 0).cells (n * i0.size)) 51, fun W => ?_, fun W => ⟨51, ?_⟩⟩
 · have hr := run_make (P := Tryz.prog) W 47 51 i0 _ Tryz.underlying47 hi0 hz0 .i64 .i64 n n (by omega) (by omega) (by rw [hz2]; omega) (by omega)
   simpa using hr
 · have h1 : (madeCells (Value.slice none 0 0).cells (n * i0.size)) = (List.replicate n (Value.slice none 0 0)).toArray := by
     apply Array.ext'
     rw [hz1, Snap.made_nil]
   rw [h1]
   exact heap_alloc_new W _
def y0 (n : Nat) : RS := ⟨List.replicate n [], 0, 1, 0, 0, 0, false⟩
set_option maxHeartbeats 1000000 in
theorem rnew_any (ga gd gl : Int) (w : World) (n : Nat) (hG : Gb ga gd gl) (hn : pagesOf ga gd gl = (n : Int)) (hn1 : n <= 100000) (hn0 : 0 < n) :
   Calls Tryz.prog 23 #[gv ga gd gl] w fun e w' => ∃ R c, e = .returned (RV ga gd gl (y0 n) (some ⟨R, 0, none⟩) c) /\ w.heap.size <= R /\ Rw w' (fun j => w.heap.size <= j) (some ⟨R, 0, none⟩) (y0 n).pages /\ Below w.heap.size w w' := by
 obtain ⟨w1, hw1⟩ : ∃ q, q = ((w.alloc (.cells (gcell ga gd gl).toArray 23)).alloc (.cells #[.int .i64 0, .int .i64 0, .int .i64 0, .slice none 0 0, .int .u64 0, .int .u64 0, .int .i64 0, .int .u64 0, .int .i64 0, .bool false] 56)) := ⟨_, rfl⟩
 have b0 : Below w.heap.size w w1 := by rw [hw1]; exact b2alloc w _ _
 have F : Blk w1 w.heap.size (gcell ga gd gl) := by rw [hw1]; exact (Blk.new w (gcell ga gd gl) 23).alloc _
 have G : Blk w1 (w.heap.size + 1) [.int .i64 0, .int .i64 0, .int .i64 0, .slice none 0 0, .int .u64 0, .int .u64 0, .int .i64 0, .int .u64 0, .int .i64 0, .bool false] := by
   rw [hw1]
   simpa using Blk.new (w.alloc (.cells (gcell ga gd gl).toArray 23)) [.int .i64 0, .int .i64 0, .int .i64 0, .slice none 0 0, .int .u64 0, .int .u64 0, .int .i64 0, .int .u64 0, .int .i64 0, .bool false] 56
 obtain ⟨z0, z1, z2⟩ := gthree F
 have HP := Lib.hid (fun W => Geom.rpages_any ga gd gl W hG.a0 hG.a1 hG.d0 hG.d1 hG.g0 hG.g1)
 have HF := Lib.hid F
 have HG := Lib.hid G
 have HW := Lib.hid hw1
 have Hn := Lib.hid hn
 have Hb := Lib.hid b0
 obtain ⟨O, hO, hOB⟩ := mkS_run n hn1
 have HK := Lib.hid (fun W (bW : Below w1.heap.size w1 W) => gthree (F.on bW))
 have HK2 := Lib.hid (fun W (bW : Below w1.heap.size w1 W) b0 b1 b2 b3 b4 b5 b6 b7 b8 b9 => gthree (set10_other (X := w.heap.size + 1) ((F.on bW).alloc O) (by omega) b0 b1 b2 b3 b4 b5 b6 b7 b8 b9))
 have cz : Below w1.heap.size w1 w1.drew := (Below.refl _ _).drew
 clear hw1 F G hn b0
 go_enter Tryz.func23, Tryz.ntmps23
 go_upto_region 1 with (fail)
 rw [<- HW.out]
 go_region_with (go_at_call 22; refine (HP.out _).mono ?_; rintro e w3 ⟨rfl, b3⟩; rw [Hn.out]; have b4 : Below w1.heap.size w1 w3 := bt cz b3; obtain ⟨q0, q1, q2⟩ := HK.out _ b4; obtain ⟨q3, q4, q5⟩ := HK.out _ (bt b4 (b1alloc w3 O)); have G4 := (HG.out.on b4).alloc O; have HG4 := Lib.hid G4; have fr := G4.free; have lr := G4.lt; obtain ⟨r0, r1, r2, r3, r4, r5, r6, r7, r8, r9⟩ := ten G4; clear G4)
 all_goals
   have hne : w3.heap.size ≠ w.heap.size + 1 := by have := HG.out.lt; have := b4.size; omega
   obtain ⟨wF, hwF⟩ : ∃ q, q = set10 (w3.alloc O) (w.heap.size + 1) (.int .i64 ga) (.int .i64 gd) (.int .i64 gl) (.slice (some ⟨w3.heap.size, 0, none⟩) n n) (.int .u64 0) (.int .u64 1) (.int .i64 0) (.int .u64 0) (.int .i64 0) (.bool false) := ⟨_, rfl⟩
   have FF := set10_blk HG4.out (.int .i64 ga) (.int .i64 gd) (.int .i64 gl) (.slice (some ⟨w3.heap.size, 0, none⟩) n n) (.int .u64 0) (.int .u64 1) (.int .i64 0) (.int .u64 0) (.int .i64 0) (.bool false)
   have BF := set10_below (bt Hb.out (bt b4 (b1alloc w3 O))) (Nat.le_succ _) (.int .i64 ga) (.int .i64 gd) (.int .i64 gl) (.slice (some ⟨w3.heap.size, 0, none⟩) n n) (.int .u64 0) (.int .u64 1) (.int .i64 0) (.int .u64 0) (.int .i64 0) (.bool false)
   have RF := set10_other (X := w.heap.size + 1) (hOB w3) hne (.int .i64 ga) (.int .i64 gd) (.int .i64 gl) (.slice (some ⟨w3.heap.size, 0, none⟩) n n) (.int .u64 0) (.int .u64 1) (.int .i64 0) (.int .u64 0) (.int .i64 0) (.bool false)
   rw [<- hwF] at FF BF RF
   unfold set10 at hwF
   rw [<- hwF]
   have hR : w.heap.size <= w3.heap.size := by have := b4.size; have := Hb.out.size; omega
   have HFF := Lib.hid FF
   clear hwF r0 r1 r2 r3 r4 r5 r6 r7 r8 r9 fr lr q0 q1 q2 q3 q4 q5 z0 z1 z2 FF
   go_wp2_with fail
   obtain ⟨r0, r1, r2, r3, r4, r5, r6, r7, r8, r9⟩ := ten HFF.out
   refine bodyPost_ret (v := .agg #[.int .i64 ga, .int .i64 gd, .int .i64 gl, .slice (some ⟨w3.heap.size, 0, none⟩) n n, .int .u64 0, .int .u64 1, .int .i64 0, .int .u64 0, .int .i64 0, .bool false]) (by simp [results, Tryz.results23, go_sem, r0, r1, r2, r3, r4, r5, r6, r7, r8, r9]) rfl ⟨w3.heap.size, n, by simp [y0], hR, fun _ => ⟨w3.heap.size, 0, rfl, RF.lt, hR, fun i hi => ?_⟩, BF⟩
   have hi' : i < n := by simpa [y0] using hi
   refine ⟨none, 0, ?_, by simp [y0]; exact RdQ.nil _ _ _, by simp [y0], by unfold maxLen; omega⟩
   have := RF.cell (k := i) (by simpa using hi')
   simpa [y0] using this
end Go.Proofs.YtchcmklelmlbgaaGreat.Sto
namespace Go.Proofs.YtchcmklelmlbgaaGreat.Sto
open Go.RowKit
open Go.Proofs.YtchcmklelmlbgaaGreat.Geom
open Go.Proofs.YtchcmklelmlbgaaGreat.Disk (St DAt Did new)
open Go.Proofs.YtchcmklelmlbgaaGreat.Sup (Gb gv gcell gthree srightF UpN up_new srightF_new newN_any)
open Go.Proofs.YtchcmklelmlbgaaGreat.Sec (symbolic_any)
open Go.Proofs.YtchcmklelmlbgaaGreat.Wal (whyF)
set_option linter.unusedVariables false
set_option maxRecDepth 100000
theorem SH.page {w0 w : World} {X R L g : Nat} {fp : List Nat} {gS bS : Nat} {ga gd gl : Int} {n : Nat} {y : RS} {t : Nat} (h : SH w0 w X R L g fp gS bS ga gd gl n y t) (k : Nat) (hk : k < y.pages.length) : Calls Tryz.prog 27 #[.pointer (some ⟨X, 0, none⟩), .int .i64 (k : Int)] w fun e w' => RetB 5 w y.pages[k] e w' := by
 obtain ⟨z, s, l, h1, h2, _⟩ := h
 obtain ⟨zo, e1, _⟩ := h2.zok
 have hpb := pagesOf_bd ga gd gl
 have hzl := zo.len
 have hk' : k < z.pages.length := by rw [<- e1]; exact hk
 have e : y.pages[k] = z.pages[k] := by simp [e1]
 rw [e]
 exact page_in X R L g fp gS bS ga gd gl z s l k w h1 hk' (by omega) (by have := h2.pageLen _ (List.getElem_mem hk'); omega)
theorem lit9 (w : World) : Pgs ((w.alloc (.cells #[.int .u8 9] 5)).alloc (.cells #[.int .i64 2, .slice (some ⟨w.heap.size, 0, none⟩) 1 1] 53)) (fun j => w.heap.size <= j) (some ⟨w.heap.size + 1, 0, none⟩) [⟨2, [9]⟩] := by
 intro _
 have h1 : Blk ((w.alloc (.cells #[.int .u8 9] 5)).alloc (.cells #[.int .i64 2, .slice (some ⟨w.heap.size, 0, none⟩) 1 1] 53)) w.heap.size [.int .u8 9] := (Blk.new w [.int .u8 9] 5).alloc _
 have h2 : Blk ((w.alloc (.cells #[.int .u8 9] 5)).alloc (.cells #[.int .i64 2, .slice (some ⟨w.heap.size, 0, none⟩) 1 1] 53)) (w.heap.size + 1) [.int .i64 2, .slice (some ⟨w.heap.size, 0, none⟩) 1 1] := by simpa using Blk.new (w.alloc (.cells #[.int .u8 9] 5)) [.int .i64 2, .slice (some ⟨w.heap.size, 0, none⟩) 1 1] 53
 refine ⟨w.heap.size + 1, 0, rfl, h2.lt, by show w.heap.size <= w.heap.size + 1; omega, fun i hi => ?_⟩
 obtain rfl : i = 0 := by simp at hi; exact hi
 refine ⟨some ⟨w.heap.size, 0, none⟩, 1, h2.cell (k := 0) (by simp), h2.cell (k := 1) (by simp), fun _ => ⟨w.heap.size, 0, rfl, h1.lt, Nat.le_refl _, fun k hk => ?_⟩, by simp, by unfold maxLen; omega, by simp, by simp⟩
 obtain rfl : k = 0 := by simp at hk; exact hk
 exact h1.cell (k := 0) (by simp)
set_option maxHeartbeats 2000000 in
theorem alive_any (w : World) : Calls Tryz.prog 10 #[] w fun e w' => e = .returned (.bool true) /\ Below w.heap.size w w' := by
 have hn : ((13 : Nat) : Int) = Geom.sizeOf 2 1 3 := by decide
 have hr : right 2 1 3 = true := by decide
 have hm : ((3 : Nat) : Int) = pagesOf 2 1 3 := by decide
 have hG : Gb 2 1 3 := by constructor <;> decide
 have hc : (RS.new 3).commit 2 1 3 [⟨2, [9]⟩] 4 = (⟨[[], [], [9]], 4, 1, 0, 0, 2, false⟩, 0) := by
   unfold RS.commit
   rw [if_neg (by decide), if_pos (show whyF 2 1 3 (RS.new 3).seq [⟨2, [9]⟩] = 0 by decide)]
   rfl
 obtain ⟨wA, hwA⟩ : ∃ q, q = w.alloc (.cells #[.int .i64 2, .int .i64 1, .int .i64 3] 23) := ⟨_, rfl⟩
 have HF := Lib.hid (fun W g fp gS bS (h : Both W g fp (new 13) gS bS []) hb ho => format_law (w0 := wA) (t := 0) hG h (up_new 13) hr hn hm (by simp) (by simp [new, Disk.St.sz]) (by omega) hb ho)
 have HC := Lib.hid (fun W X R L g fp gS bS (h : SH wA W X R L g fp gS bS 2 1 3 13 (RS.new 3) 1) Q A c hp hQ => h.commit hG hr hn (by omega) Q A [⟨2, [9]⟩] c 4 hp hQ (by simp))
 rw [hc] at HC
 have HO := Lib.hid (fun W X R L g fp gS bS y (h : SH wA W X R L g fp gS bS 2 1 3 13 y 2) => h.opens hG hr hn (by omega))
 clear hc hn hr hm hG
 have F := Lib.hid (show Blk wA w.heap.size (gcell 2 1 3) from by rw [hwA]; exact Blk.new w (gcell 2 1 3) 23)
 have hltF := F.out.lt
 have b0 : Below w.heap.size w wA := by rw [hwA]; exact b1alloc w _
 have HWA := Lib.hid hwA
 clear hwA
 go_enter Tryz.func10, Tryz.ntmps10
 go_upto_region 2 with (fail)
 rw [<- HWA.out]
 go_wp2_with (first
   | (go_at_call 11; refine (newN_any 13 13 rfl (by omega) (by omega) _).mono ?_; rintro e w1 ⟨g, fp, rfl, hD, hfp, b1⟩)
   | (go_at_call 13; refine (symbolic_any _).mono ?_; rintro e w2 ⟨gS, bS, rfl, hS, hgS, hbS, b2⟩; have H2 := Here.start hD hfp b1 hS hgS hbS b2; have Hown := Lib.hid (show ∀ j ∈ bS :: gS :: fp, wA.heap.size <= j from fun j hj => by (have hs1 := b1.size; simp only [List.mem_cons] at hj; rcases hj with e | e | e; (omega); (omega); (exact hfp j e))); obtain ⟨m0, m1, m2⟩ := gthree (F.out.below H2.bel hltF))
   | (go_at_call 14; refine (HF.out _ g fp gS bS H2.both H2.bel Hown.out).mono ?_; rintro e w3 ⟨X, R, L, fp3, rfl, H3, _, _, _, _, _⟩; clear m0 m1 m2; obtain ⟨m0, m1, m2⟩ := gthree (F.out.below H3.bel hltF))
   | (go_at_call 15; refine (HC.out _ X R L g fp3 gS bS (H3.on (b2alloc _ _ _)) (fun j => w3.heap.size <= j) _ _ (lit9 w3) (fun j hj _ => H3.offNew hj)).mono ?_; rintro e w5 ⟨rfl, L5, fp5, H5, _, _⟩; clear m0 m1 m2; obtain ⟨m0, m1, m2⟩ := gthree (F.out.below H5.bel hltF))
   | (go_at_call 17; refine (HO.out _ X R L5 g fp5 gS bS _ H5).mono ?_; rintro e w6 ⟨X6, R6, rfl, H6, b6, _, _⟩)
   | (go_at_call 27; refine (H6.page 2 (by simp [RS.isDue])).mono ?_; rintro e w7 ⟨A7, c7, rfl, o7, b7⟩; obtain ⟨G7, c8, e7, hG7⟩ := own_some o7 (by simp [RS.isDue]); injection e7 with e1 e2 e3; subst e1; have x7 := World.ownsRow.cellAt o7 0 (by simp [RS.isDue]); simp [RS.isDue] at x7)
   | (go_at_call 20; refine ((H6.on b7).gen).mono ?_; rintro e w8 ⟨rfl, rfl⟩))
 go_ret
 exact ⟨by first | rfl | decide, bt b0 (bt H6.bel b7)⟩
end Go.Proofs.YtchcmklelmlbgaaGreat.Sto
namespace Go.Proofs.YtchcmklelmlbgaaGreat.Sto
open Go.RowKit
open Go.Proofs.YtchcmklelmlbgaaGreat.Geom
open Go.Proofs.YtchcmklelmlbgaaGreat.Sup (Gb gv gcell gthree)
set_option linter.unusedVariables false
set_option maxRecDepth 100000
attribute [local irreducible] wpQuiet
end Go.Proofs.YtchcmklelmlbgaaGreat.Sto
namespace Go.Proofs.YtchcmklelmlbgaaGreat.Sto
open Go.RowKit
open Go.Proofs.YtchcmklelmlbgaaGreat.Geom
open Go.Proofs.YtchcmklelmlbgaaGreat.Disk (St DAt new)
open Go.Proofs.YtchcmklelmlbgaaGreat.Sup (Gb gv gcell gthree srightF UpN srightF_new rdV SV)
set_option linter.unusedVariables false
set_option maxRecDepth 100000
theorem SH.dead {w0 w : World} {X R L g : Nat} {fp : List Nat} {gS bS : Nat} {ga gd gl : Int} {n : Nat} {y : RS} {t : Nat} (h : SH w0 w X R L g fp gS bS ga gd gl n y t) : Calls Tryz.prog 29 #[.pointer (some ⟨X, 0, none⟩)] w fun e w' => e = .returned (.bool false) /\ w = w' := by
 obtain ⟨z, s, l, h1, h2, _⟩ := h
 rw [<- h2.alive]
 exact dead_any X R L g fp gS bS ga gd gl z s l w h1
end Go.Proofs.YtchcmklelmlbgaaGreat.Sto
namespace Go.Proofs.YtchcmklelmlbgaaGreat.Sto
open Go.RowKit
open Go.Proofs.YtchcmklelmlbgaaGreat.Geom
open Go.Proofs.YtchcmklelmlbgaaGreat.Disk (St DAt new)
open Go.Proofs.YtchcmklelmlbgaaGreat.Sup (Gb gv gcell gthree srightF UpN)
set_option linter.unusedVariables false
set_option maxRecDepth 100000
theorem _root_.Go.Proofs.YtchcmklelmlbgaaGreat.RdQ.notIn {w : World} {Q : Nat -> Prop} {A : Option Addr} {l : List UInt8} {S : Nat} {xs : List Value} (h : RdQ w Q A (l.map e8)) (hB : Blk w S xs) (hx : ∀ u, e8 u ∉ xs) : RdQ w (fun j => Q j /\ j ≠ S) A (l.map e8) := fun hne => by
 obtain ⟨b, off, rfl, hlt, hQ, hc⟩ := h hne
 refine ⟨b, off, rfl, hlt, ⟨hQ, fun e => ?_⟩, hc⟩
 subst e
 have hp : 0 < l.length := by
   cases l with
   | nil => exact absurd rfl hne
   | cons a t => simp
 have h0 := hc 0 (by simpa using hp)
 obtain ⟨t, hh⟩ := hB
 have h1 : w.cell? ⟨b, off + 0, none⟩ = xs[off + 0]? := by simp [World.cell?, hh]
 rw [h1] at h0
 exact hx _ (by rw [List.getElem_map] at h0; exact List.mem_of_getElem? h0)
theorem SRow.notIn {w : World} {R c : Nat} {P : List (List UInt8)} {Q : Nat -> Prop} {S : Nat} {xs : List Value} (h : SRow w R c P Q) (hB : Blk w S xs) (hx : ∀ u, e8 u ∉ xs) : SRow w R c P (fun j => Q j /\ j ≠ S) := by
 obtain ⟨ys, h1, h2⟩ := h
 refine ⟨ys, h1, fun i hi => ?_⟩
 obtain ⟨Ai, ci, a, b, d⟩ := h2 i hi
 exact ⟨Ai, ci, a, b.notIn hB hx, d⟩
theorem SAt.aside {w w' : World} {X R L g : Nat} {fp : List Nat} {gS bS : Nat} {ga gd gl : Int} {z : Z} {s : St} {l : List (List UInt8)} {S : Nat} {xs : List Value} (h : SAt w X R L g fp gS bS ga gd gl z s l) (ho : Off X R L bS gS fp S) (hB : Blk w S xs) (hx : ∀ u, e8 u ∉ xs) (k : Keep [S] w w') : SAt w' X R L g fp gS bS ga gd gl z s l := by
 obtain ⟨lv, c, h1, h2, h3⟩ := h.blk
 obtain ⟨o1, o2, o3, o4, o5, o6⟩ := ho
 have hn : ∀ j, j ≠ S -> j ∉ [S] := fun j h e => h (by simpa using e)
 refine ⟨⟨h.both.disk.keep k (fun j hj e => o6 (by rw [List.mem_singleton] at e; exact e ▸ hj)), h.both.sym.keepK k (hn _ o5.symm) (hn _ o4.symm), h.both.nS, h.both.nB⟩, ⟨lv, c, h1.keepK k (hn _ o1.symm), h2, ?_⟩, fun hd => ⟨(h.log hd).1.keepK k (hn _ o3.symm), (h.log hd).2⟩, h.nX, h.nR, h.nL, Nat.lt_of_lt_of_le h.lt k.size⟩
 exact ((h3.notIn hB hx).keep k (hn _ o2.symm) (fun j hj _ => hn j hj.2)).imp (fun j _ hj => hj.1)
end Go.Proofs.YtchcmklelmlbgaaGreat.Sto
