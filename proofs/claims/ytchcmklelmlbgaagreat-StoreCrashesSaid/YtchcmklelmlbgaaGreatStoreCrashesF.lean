/- Texts of this claim, joined: StoK2Q, StoK3Q, StoK4Q. -/
import Derived.Test.YtchcmklelmlbgaaGreatStoreCrashesD
import Derived.Test.YtchcmklelmlbgaaGreatStoreCrashesE
import Derived.Test.YtchcmklelmlbgaaGreatStoreCrashesA
import Derived.Deep.MidRow
namespace Go.Proofs.YtchcmklelmlbgaaGreat.Sto
open Go.RowKit
open Go.Proofs.YtchcmklelmlbgaaGreat.Geom
open Go.Proofs.YtchcmklelmlbgaaGreat.Disk (St DAt Did new restart arm eI)
open Go.Proofs.YtchcmklelmlbgaaGreat.Sup (Gb gv gcell gthree srightF UpN up_new srightF_new splace)
open Go.Proofs.YtchcmklelmlbgaaGreat.Snap (snapF PagesOk)
open Go.Proofs.YtchcmklelmlbgaaGreat.Wal (badB whyF fitsB)
set_option linter.unusedVariables false
set_option maxRecDepth 100000
def CX (Φ : List (List UInt8) -> St -> Z -> Prop) (w0 w : World) (X R L g : Nat) (fp : List Nat) (gS bS : Nat) (ga gd gl : Int) (t : Nat) : Prop :=
 ∃ z s l, SAt w X R L g fp gS bS ga gd gl z s l /\ Φ l s z /\ l.length <= 3000 * t /\ s.sz <= 3000 * t /\ Below w0.heap.size w0 w /\ ∀ j ∈ X :: R :: L :: bS :: gS :: fp, w0.heap.size <= j
def CXT (Φ : List (List UInt8) -> St -> Z -> Prop) (w0 w : World) (X R L g : Nat) (fp : List Nat) (gS bS : Nat) (ga gd gl : Int) (t : Nat) (w' : World) : Prop :=
 ∃ L' fp', CX Φ w0 w' X R L' g fp' gS bS ga gd gl t /\ Keep (X :: R :: L :: bS :: fp) w w' /\ FreshL w L fp L' fp'
section
variable {Φ Ψ : List (List UInt8) -> St -> Z -> Prop} {w0 w w' : World} {X R L g : Nat} {fp : List Nat} {gS bS : Nat} {ga gd gl : Int} {t t' : Nat}
theorem CX.on (h : CX Φ w0 w X R L g fp gS bS ga gd gl t) (b : Below w.heap.size w w') : CX Φ w0 w' X R L g fp gS bS ga gd gl t := by
 obtain ⟨z, s, l, h1, h2, h3, h4, h5, h6⟩ := h
 exact ⟨z, s, l, h1.on b, h2, h3, h4, bt h5 b, h6⟩
theorem CX.bel (h : CX Φ w0 w X R L g fp gS bS ga gd gl t) : Below w0.heap.size w0 w := by
 obtain ⟨z, s, l, h1, h2, h3, h4, h5, h6⟩ := h
 exact h5
theorem CX.imp (h : CX Φ w0 w X R L g fp gS bS ga gd gl t) (hi : ∀ l s z, Φ l s z -> Ψ l s z) (ht : t <= t') : CX Ψ w0 w X R L g fp gS bS ga gd gl t' := by
 obtain ⟨z, s, l, h1, h2, h3, h4, h5, h6⟩ := h
 exact ⟨z, s, l, h1, hi _ _ _ h2, by omega, by omega, h5, h6⟩
theorem CX.off (h : CX Φ w0 w X R L g fp gS bS ga gd gl t) {j : Nat} (hj : j < w0.heap.size) : Off X R L bS gS fp j := by
 obtain ⟨z, s, l, h1, h2, h3, h4, h5, h7⟩ := h
 exact ⟨by have := h7 X (by simp); omega, by have := h7 R (by simp); omega, by have := h7 L (by simp); omega, by have := h7 bS (by simp); omega, by have := h7 gS (by simp); omega, fun e => by have := h7 j (by simp [e]); omega⟩
theorem CX.offNew (h : CX Φ w0 w X R L g fp gS bS ga gd gl t) {j : Nat} (hj : w.heap.size <= j) : Off X R L bS gS fp j := by
 obtain ⟨z, s, l, h1, h2, h3, h4, h5, h7⟩ := h
 have hX := h1.ltX
 have hS := h1.both.sym.lt
 have hL := h1.lt
 exact ⟨by omega, by omega, by omega, by omega, by omega, fun e => by have := h1.both.disk.lt _ e; omega⟩
theorem CX.aside {S : Nat} {xs : List Value} (h : CX Φ w0 w X R L g fp gS bS ga gd gl t) (hS0 : w0.heap.size <= S) (ho : Off X R L bS gS fp S) (hB : Blk w S xs) (hx : ∀ u, e8 u ∉ xs) (k : Keep [S] w w') : CX Φ w0 w' X R L g fp gS bS ga gd gl t := by
 obtain ⟨z, s, l, h1, h2, h3, h4, h6, h7⟩ := h
 exact ⟨z, s, l, h1.aside ho hB hx k, h2, h3, h4, h6.trans (k.below (fun j hj => by rw [List.mem_singleton] at hj; omega) h6.size), h7⟩
theorem CX.of_turn {z' : Z} {s' : St} {l' : List (List UInt8)} (h : STurn w X R L g fp gS bS ga gd gl z' s' l' w') (hi : Φ l' s' z') (h1 : l'.length <= 3000 * t) (h2 : s'.sz <= 3000 * t) (hb : Below w0.heap.size w0 w) (ho : ∀ j ∈ X :: R :: L :: bS :: gS :: fp, w0.heap.size <= j) : CXT Φ w0 w X R L g fp gS bS ga gd gl t w' := by
 obtain ⟨L', fp', a, k, f⟩ := h
 refine ⟨L', fp', ⟨z', s', l', a, hi, h1, h2, hb.trans (k.below (fun j hj => ho j (by simp only [List.mem_cons] at hj ⊢; rcases hj with e | e | e | e | e <;> simp [e])) hb.size), fun j hj => ?_⟩, k, f⟩
 simp only [List.mem_cons] at hj
 rcases hj with e | e | e | e | e | e
 · exact ho j (by simp [e])
 · exact ho j (by simp [e])
 · rcases f.2 with e2 | e2
   · exact ho j (by simp [e, e2])
   · have := hb.size; omega
 · exact ho j (by simp [e])
 · exact ho j (by simp [e])
 · rcases f.1 j e with e2 | e2
   · exact ho j (by simp [e2])
   · have := hb.size; omega
end
def Al (ga gd gl : Int) (n : Nat) (P : List (List UInt8)) (gen : UInt64) (sq : Option Nat) (ua : Bool) (t : Nat) (l : List (List UInt8)) (s : St) (z : Z) : Prop :=
 ZA ga gd gl n l s z /\ z.pages = P /\ z.gen = gen /\ (∀ q, sq = some q -> z.seq = q) /\ (ua = true -> UA s) /\ z.life.toNat <= t
def Op (ga gd gl : Int) (n : Nat) (P : List (List UInt8)) (gen : UInt64) (ua : Bool) (t : Nat) (l : List (List UInt8)) (s : St) (z : Z) : Prop :=
 ZU ga gd gl n l s z /\ z.pages = P /\ z.gen = gen /\ (ua = true -> UA s) /\ z.life.toNat <= t
def De (ga gd gl : Int) (n : Nat) (ok : List (List UInt8) -> UInt64 -> Prop) (t : Nat) (l : List (List UInt8)) (s : St) (z : Z) : Prop := ZC ga gd gl n l s z ok t
theorem zok_of {ga gd gl : Int} {n : Nat} {z : Z} (h : PagesOk ga gd gl n z.pages) : ZOk ga gd gl z := ⟨h.len, Snap.longB_no (fun j hj => h.short j hj)⟩
theorem rs_commit (ga gd gl : Int) (y : RS) (hd : y.due = false) (l : List Pg) (gen : UInt64) :
   (whyF ga gd gl y.seq l ≠ 0 /\ whyF ga gd gl y.seq l ≠ 5 /\ y.commit ga gd gl l gen = (y, whyF ga gd gl y.seq l)) \/
     ((whyF ga gd gl y.seq l = 0 \/ whyF ga gd gl y.seq l = 5) /\ (y.commit ga gd gl l gen).2 = 0 /\ (y.commit ga gd gl l gen).1.pages = putP y.pages l /\ (y.commit ga gd gl l gen).1.gen = gen) := by
 unfold RS.commit
 rw [if_neg (by rw [hd]; simp)]
 by_cases h0 : whyF ga gd gl y.seq l = 0
 · rw [if_pos h0]; exact .inr ⟨.inl h0, rfl, rfl, rfl⟩
 · rw [if_neg h0]
   by_cases h5 : whyF ga gd gl y.seq l = 5
   · rw [if_pos h5]; exact .inr ⟨.inr h5, rfl, rfl, rfl⟩
   · rw [if_neg h5]; exact .inl ⟨h0, h5, rfl⟩
section
variable {w0 w : World} {X R L g : Nat} {fp : List Nat} {gS bS : Nat} {ga gd gl : Int} {n t : Nat}
def ComR (ga gd gl : Int) (n : Nat) (y yn : RS) (er : Int) (ua : Bool) (w0 w : World) (X R L g : Nat) (fp : List Nat) (gS bS : Nat) (t : Nat) (f : Int) (w' : World) : Prop :=
 (f = er /\ CXT (Al ga gd gl n yn.pages yn.gen none ua (t + 1)) w0 w X R L g fp gS bS ga gd gl (t + 1) w') \/
   (f = 12 /\ er = 0 /\ ua = false /\ CXT (De ga gd gl n (fun P g => (P = y.pages /\ g = y.gen) \/ (P = yn.pages /\ g = yn.gen)) (t + 1)) w0 w X R L g fp gS bS ga gd gl (t + 1) w')
theorem CX.commit {y yn : RS} {er : Int} {ua : Bool} (h : CX (Al ga gd gl n y.pages y.gen (some y.seq) ua t) w0 w X R L g fp gS bS ga gd gl t) (hG : Gb ga gd gl) (hr : right ga gd gl = true) (hn : (n : Int) = Geom.sizeOf ga gd gl) (ht : t <= 100) (hdu : y.due = false) (Q : Nat -> Prop) (A : Option Addr) (pages : List Pg) (c : Nat) (gen : UInt64)
   (hp : Pgs w Q A pages) (hQ : ∀ j, Q j -> j < w.heap.size -> Off X R L bS gS fp j) (hcl : pages.length <= 1000) (hy : (yn, er) = y.commit ga gd gl pages gen) :
   Calls Tryz.prog 15 #[.pointer (some ⟨X, 0, none⟩), .slice A pages.length c, .int .u64 (gen.toNat : Int)] w fun e w' => ∃ f : Int, e = .returned (.int .i64 f) /\ ComR ga gd gl n y yn er ua w0 w X R L g fp gS bS t f w' := by
 obtain ⟨z, s, l, h1, ⟨ha, hP, hg, hq, hua, hlf⟩, h3, h4, h6, h7⟩ := h
 obtain ⟨o1, o2, o3, o4, o5⟩ := ha.ok
 have zo := zok_of o1
 have hzl := zo.len
 have hpb := pagesOf_bd ga gd gl
 have hq' := hq _ rfl
 have hry := right_yes hr
 have hf : srightF s ga gd gl = 0 := srightF_new hr o5 hn
 have hlim := comF_lim ga gd gl z pages gen l s
 refine (commit_any X R L g fp gS bS ga gd gl z s l Q A pages c gen w hG h1 hp hQ hcl (by omega) (by omega) hf zo ha.dead ha.due ha.has (by omega) ⟨o2, o3⟩ (by omega)).mono ?_
 rintro e w' ⟨rfl, tt⟩
 refine ⟨_, rfl, ?_⟩
 have hl1 : (z.life + 1).toNat = z.life.toNat + 1 := life1 (by omega)
 have hcr := rs_commit ga gd gl y hdu pages gen
 rw [<- hy] at hcr
 simp only at hcr
 rw [<- hq'] at hcr
 rcases ha.commit hr (by omega) pages gen (r := comF ga gd gl z pages gen l s) rfl with ⟨a1, a2, a3⟩ | ⟨a1, a2⟩
 · rcases hcr with ⟨b1, b2, b3⟩ | ⟨b1, _⟩
   · injection b3 with b4 b5
     refine .inl ⟨by rw [a3, b5], ?_⟩
     rw [b4]
     rw [a3] at tt
     exact CX.of_turn (z' := z) (s' := s) (l' := l) tt ⟨ha, hP, hg, fun q e => (by cases e), hua, by omega⟩ (by omega) (by omega) h6 h7
   · rcases b1 with e | e
     · exact absurd e a1
     · exact absurd e a2
 · rcases hcr with ⟨b1, b2, _⟩ | ⟨_, b2, b3, b4⟩
   · rcases a1 with e | e
     · exact absurd e b1
     · exact absurd e b2
   · rcases a2 with ⟨c1, c2, c3, c4, c5⟩ | ⟨c1, c2⟩
     · refine .inl ⟨by rw [c1, b2], CX.of_turn tt ⟨c2, by rw [c3, b3, hP], by rw [c4, b4], fun q e => (by cases e), fun e => (hua e).com ga gd gl z pages gen l, by omega⟩ (by omega) (by omega) h6 h7⟩
     · refine .inr ⟨c1, b2, ?_, CX.of_turn tt (c2.imp (fun P g hh => by rw [b3, b4, <- hP, <- hg]; exact hh) (by omega)) (by omega) (by omega) h6 h7⟩
       cases ua with
       | false => rfl
       | true =>
         have := ((hua rfl).com ga gd gl z pages gen l).2
         rw [c2.down] at this
         cases this
def RenT (ga gd gl : Int) (n : Nat) (P : List (List UInt8)) (gen : UInt64) (ua : Bool) (w0 w : World) (X R L g : Nat) (fp : List Nat) (gS bS : Nat) (t : Nat) (f : Int) (w' : World) : Prop :=
 (f = 0 /\ CXT (Al ga gd gl n P gen none ua (t + 1)) w0 w X R L g fp gS bS ga gd gl (t + 1) w') \/
   (f = 12 /\ ua = false /\ CXT (De ga gd gl n (fun P' g => P' = P /\ g = gen) (t + 1)) w0 w X R L g fp gS bS ga gd gl (t + 1) w')
theorem ren_law {z : Z} {s : St} {l : List (List UInt8)} {P : List (List UInt8)} {gen : UInt64} {ua : Bool} (h1 : SAt w X R L g fp gS bS ga gd gl z s l) (hre : RenR ga gd gl n z (renF ga gd gl z l s)) (hP : z.pages = P) (hg : z.gen = gen) (hua : ua = true -> UA s) (hlf : z.life.toNat <= t) (h3 : l.length <= 3000 * t) (h4 : s.sz <= 3000 * t) (h6 : Below w0.heap.size w0 w) (h7 : ∀ j ∈ X :: R :: L :: bS :: gS :: fp, w0.heap.size <= j)
   (hG : Gb ga gd gl) (hr : right ga gd gl = true) (hn : (n : Int) = Geom.sizeOf ga gd gl) (ht : t <= 100) (hsz : s.size = n) (zo : ZOk ga gd gl z) (hd : z.dead = false) (hb : 0 <= z.base /\ z.base <= 1073741824) (hq : z.due = false -> z.seq <= 100000) (hnx : z.due = true -> 0 <= z.next /\ z.next <= 1073741824) (hh : z.due = false -> z.has = true) :
   Calls Tryz.prog 16 #[.pointer (some ⟨X, 0, none⟩)] w fun e w' => ∃ f : Int, e = .returned (.int .i64 f) /\ RenT ga gd gl n P gen ua w0 w X R L g fp gS bS t f w' := by
 have hzl := zo.len
 have hpb := pagesOf_bd ga gd gl
 have hf : srightF s ga gd gl = 0 := srightF_new hr hsz hn
 have hlim := begF_lim ga gd gl (z.life + 1) (baseN gl z) z.gen z.pages l s
 have hl1 : (z.life + 1).toNat = z.life.toNat + 1 := life1 (by omega)
 refine (renew_any X R L g fp gS bS ga gd gl z s l w hG h1 (by omega) (by omega) hf zo hd (by omega) hb hq hnx hh).mono ?_
 rintro e w' ⟨rfl, tt⟩
 refine ⟨_, rfl, ?_⟩
 rcases hre with ⟨a1, a2, a3, a4, a5, a6⟩ | ⟨a1, a2⟩
 · exact .inl ⟨a1, CX.of_turn tt ⟨a2, by rw [a3, hP], by rw [a4, hg], fun q e => (by cases e), fun e => (hua e).beg _ _ _ _ _ _ _ _, by rw [a5]; omega⟩ (by unfold renO; omega) (by unfold renO; omega) h6 h7⟩
 · refine .inr ⟨a1, ?_, CX.of_turn tt (a2.imp (fun P' g' hh' => by rw [<- hP, <- hg]; exact hh') (by omega)) (by unfold renO; omega) (by unfold renO; omega) h6 h7⟩
   cases ua with
   | false => rfl
   | true =>
     have := ((hua rfl).beg ga gd gl (z.life + 1) (baseN gl z) z.gen z.pages l).2
     have h9 := a2.down
     unfold renF renO at h9
     simp only at h9
     rw [h9] at this
     cases this
theorem CX.renewA {P : List (List UInt8)} {gen : UInt64} {sq : Option Nat} {ua : Bool} (h : CX (Al ga gd gl n P gen sq ua t) w0 w X R L g fp gS bS ga gd gl t) (hG : Gb ga gd gl) (hr : right ga gd gl = true) (hn : (n : Int) = Geom.sizeOf ga gd gl) (ht : t <= 100) :
   Calls Tryz.prog 16 #[.pointer (some ⟨X, 0, none⟩)] w fun e w' => ∃ f : Int, e = .returned (.int .i64 f) /\ RenT ga gd gl n P gen ua w0 w X R L g fp gS bS t f w' := by
 obtain ⟨z, s, l, h1, ⟨ha, hP, hg, hq, hua, hlf⟩, h3, h4, h6, h7⟩ := h
 obtain ⟨o1, o2, o3, o4, o5⟩ := ha.ok
 have hry := right_yes hr
 exact ren_law h1 (ha.renew hr (by omega)) hP hg hua hlf h3 h4 h6 h7 hG hr hn ht o5 (zok_of o1) ha.dead ⟨o2, o3⟩ (fun _ => by omega) (fun e => by rw [ha.due] at e; cases e) (fun _ => ha.has)
theorem CX.renewU {P : List (List UInt8)} {gen : UInt64} {ua : Bool} (h : CX (Op ga gd gl n P gen ua t) w0 w X R L g fp gS bS ga gd gl t) (hG : Gb ga gd gl) (hr : right ga gd gl = true) (hn : (n : Int) = Geom.sizeOf ga gd gl) (ht : t <= 100) :
   Calls Tryz.prog 16 #[.pointer (some ⟨X, 0, none⟩)] w fun e w' => ∃ f : Int, e = .returned (.int .i64 f) /\ RenT ga gd gl n P gen ua w0 w X R L g fp gS bS t f w' := by
 obtain ⟨z, s, l, h1, ⟨ha, hP, hg, hua, hlf⟩, h3, h4, h6, h7⟩ := h
 obtain ⟨o1, o2, o3, o4, o5⟩ := ha.ok hr
 exact ren_law h1 (ha.renew hr (by omega)) hP hg hua hlf h3 h4 h6 h7 hG hr hn ht ha.size (zok_of o1) ha.dead ⟨o2, o3⟩ (fun e => by rw [ha.due] at e; cases e) (fun _ => ⟨o4, o5⟩) (fun e => by rw [ha.due] at e; cases e)
theorem CX.downA {P : List (List UInt8)} {gen : UInt64} {sq : Option Nat} {ua : Bool} (h : CX (Al ga gd gl n P gen sq ua t) w0 w X R L g fp gS bS ga gd gl t) : Calls Tryz.prog 31 #[.pointer (some ⟨g, 0, none⟩)] w fun e w' => e = .returned (.bool false) /\ w = w' := by
 obtain ⟨z, s, l, h1, ⟨ha, _⟩, _⟩ := h
 obtain ⟨P0, ts, gen0, k, _⟩ := ha.ex
 have := Disk.down_any g fp s w h1.both.disk
 rw [k.down] at this
 exact this
theorem CX.downD {ok : List (List UInt8) -> UInt64 -> Prop} {t9 : Nat} (h : CX (De ga gd gl n ok t9) w0 w X R L g fp gS bS ga gd gl t) : Calls Tryz.prog 31 #[.pointer (some ⟨g, 0, none⟩)] w fun e w' => e = .returned (.bool true) /\ w = w' := by
 obtain ⟨z, s, l, h1, hd, _⟩ := h
 have := Disk.down_any g fp s w h1.both.disk
 rw [hd.down] at this
 exact this
theorem CX.deadD {ok : List (List UInt8) -> UInt64 -> Prop} {t9 : Nat} (h : CX (De ga gd gl n ok t9) w0 w X R L g fp gS bS ga gd gl t) : Calls Tryz.prog 29 #[.pointer (some ⟨X, 0, none⟩)] w fun e w' => e = .returned (.bool true) /\ w = w' := by
 obtain ⟨z, s, l, h1, hd, _⟩ := h
 have := dead_any X R L g fp gS bS ga gd gl z s l w h1
 rw [hd.dead] at this
 exact this
theorem sz_arm (s : St) (f : Int) : (arm s f).sz = s.sz := rfl
theorem CX.armed {Φ Ψ : List (List UInt8) -> St -> Z -> Prop} (h : CX Φ w0 w X R L g fp gS bS ga gd gl t) (f : Int) (h0 : -9223372036854775808 <= f) (h1 : f <= 9223372036854775807) (hi : ∀ l s z, Φ l s z -> Ψ l (arm s f) z) :
   Calls Tryz.prog 30 #[.pointer (some ⟨g, 0, none⟩), .int .i64 f] w fun e w' => e = .returned (.tuple #[]) /\ CXT Ψ w0 w X R L g fp gS bS ga gd gl t w' := by
 obtain ⟨z, s, l, a1, a2, a3, a4, a5, a6⟩ := h
 refine (Disk.arm_any g fp s f w a1.both.disk h0 h1).mono ?_
 rintro e w' ⟨rfl, d, k⟩
 have hgin := a1.both.disk.inG
 have k2 : Keep (bS :: fp) w w' := k.more (fun j hj => by rw [List.mem_singleton] at hj; rw [hj]; simp [hgin])
 have kf : Keep fp w w' := k.more (fun j hj => by rw [List.mem_singleton] at hj; rw [hj]; exact hgin)
 have hb : Both w' g fp (arm s f) gS bS l := a1.both.did d kf (Fresh.refl _ _)
 have hst : STurn w X R L g fp gS bS ga gd gl z (arm s f) l w' := ⟨L, fp, a1.turned hb k2 (Fresh.refl _ _), k2.more (fun j hj => by rcases List.mem_cons.1 hj with e | e <;> simp [e]), FreshL.refl _ _ _⟩
 exact ⟨rfl, CX.of_turn hst (hi _ _ _ a2) a3 (by rw [sz_arm]; exact a4) a5 a6⟩
theorem Al.arm {P : List (List UInt8)} {gen : UInt64} {sq : Option Nat} {ua : Bool} {f : Int} {l : List (List UInt8)} {s : St} {z : Z} (h : Al ga gd gl n P gen sq ua t l s z) : Al ga gd gl n P gen sq false t l (Disk.arm s f) z := by
 obtain ⟨h1, h2, h3, h4, h5, h6⟩ := h
 exact ⟨h1.arm f, h2, h3, h4, fun e => (by cases e), h6⟩
theorem Op.arm {P : List (List UInt8)} {gen : UInt64} {ua : Bool} {f : Int} {l : List (List UInt8)} {s : St} {z : Z} (h : Op ga gd gl n P gen ua t l s z) : Op ga gd gl n P gen false t l (Disk.arm s f) z := by
 obtain ⟨h1, h2, h3, h4, h6⟩ := h
 exact ⟨h1.arm f, h2, h3, fun e => (by cases e), h6⟩
def RX (ga gd gl : Int) (n : Nat) (ok : List (List UInt8) -> UInt64 -> Prop) (t9 : Nat) (w0 w : World) (g : Nat) (fp : List Nat) (gS bS t : Nat) : Prop :=
 ∃ s l life base gen0 P0 ts, Both w g fp s gS bS l /\ UpN s n /\ KC ga gd gl n l s.all life base gen0 P0 ts /\ UA s /\ life.toNat <= t9 /\ ok (applyT P0 ts) (genT gen0 ts) /\ l.length <= 3000 * t /\ s.sz <= 3000 * t /\ Below w0.heap.size w0 w /\ ∀ j ∈ bS :: gS :: fp, w0.heap.size <= j
theorem CX.restarted {ok : List (List UInt8) -> UInt64 -> Prop} {t9 : Nat} (h : CX (De ga gd gl n ok t9) w0 w X R L g fp gS bS ga gd gl t) (ht : t <= 100) (keep : List Int) (A : Option Addr) (m c : Nat) (torn a : Int) (hm : m = keep.length) (hk : Rd w0 w0.heap.size A (keep.map eI)) (hkl : keep.length <= 1000000)
   (ht0 : -9223372036854775808 <= torn) (ht1 : torn <= 9223372036854775807) (ha0 : -9223372036854775808 <= a) (ha1 : a <= 9223372036854775807) :
   Calls Tryz.prog 32 #[.pointer (some ⟨g, 0, none⟩), .slice A m c, .int .i64 torn, .int .i64 a] w fun e w' => e = .returned (.tuple #[]) /\ ∃ fp', RX ga gd gl n ok t9 w0 w' g fp' gS bS t /\ Keep fp w w' /\ Fresh w fp fp' := by
 obtain ⟨z, s, l, h1, hd, h3, h4, h6, h7⟩ := h
 have hfp : ∀ j ∈ fp, w0.heap.size <= j := fun j hj => h7 j (by simp [hj])
 refine (Disk.restart_any g fp s keep A m c torn a w h1.both.disk (by omega) hm (RdN.of (hk.below h6) hfp h6.size) hkl ht0 ht1 ha0 ha1).mono ?_
 rintro e w' ⟨rfl, fp', d, k, f⟩
 obtain ⟨u, life, base, gen0, P0, ts, q1, q2, q3⟩ := hd.back keep torn a
 have hsr := Disk.sz_restart s keep torn a
 have hbs := h6.size
 refine ⟨rfl, fp', ⟨_, l, life, base, gen0, P0, ts, h1.both.did d k f, u, q1, UA.restart _ _ _ _, q2, q3, h3, by omega, h6.trans (k.below hfp h6.size), fun j hj => ?_⟩, k, f⟩
 simp only [List.mem_cons] at hj
 rcases hj with e | e | e
 · exact h7 j (by simp [e])
 · exact h7 j (by simp [e])
 · rcases f j e with e2 | e2
   · exact hfp j e2
   · omega
theorem RX.opens {ok : List (List UInt8) -> UInt64 -> Prop} {t9 : Nat} (h : RX ga gd gl n ok t9 w0 w g fp gS bS t) (hG : Gb ga gd gl) (hr : right ga gd gl = true) (hn : (n : Int) = Geom.sizeOf ga gd gl) (ht : t <= 100) :
   Calls Tryz.prog 17 #[.pointer (some ⟨g, 0, none⟩), .pointer (some ⟨gS, 0, none⟩), gv ga gd gl] w fun e w' => ∃ X' R' P gen, e = .returned (.tuple #[.pointer (some ⟨X', 0, none⟩), .int .i64 0]) /\ ok P gen /\ CX (Op ga gd gl n P gen true t9) w0 w' X' R' X' g fp gS bS ga gd gl t /\ Below w.heap.size w w' /\ w.heap.size <= X' /\ w.heap.size <= R' := by
 obtain ⟨s, l, life, base, gen0, P0, ts, h1, hu, hk, hua, hlf, hok, h3, h4, h6, h7⟩ := h
 have hf : srightF s ga gd gl = 0 := srightF_new hr hu.size hn
 have hsz := Sup.size_ge hr
 have hpp := pages_pos hr
 have hpl := hk.kb.pages.len
 refine (open_any g fp s gS bS l ga gd gl w hG h1 (by omega) (by omega) hf hu.down ⟨life, base, gen0⟩ (hk.super hu (by omega)) hk.kb.hb P0 hpl (by omega) (hk.read hu) ts (hk.scan hu hr) hk.kb.bad hk.kb.len).mono ?_
 rintro e w' ⟨X', R', rfl, a, b, x1, x2⟩
 have hbs := h6.size
 refine ⟨X', R', _, _, rfl, hok, ⟨_, s, l, a, ⟨kc_opens hk hu, rfl, rfl, fun _ => hua, hlf⟩, h3, h4, bt h6 b, fun j hj => ?_⟩, b, x1, x2⟩
 simp only [List.mem_cons] at hj
 rcases hj with e | e | e | e | e | e
 · omega
 · omega
 · omega
 · exact h7 j (by simp [e])
 · exact h7 j (by simp [e])
 · exact h7 j (by simp [e])
theorem CX.pages {P : List (List UInt8)} {gen : UInt64} {ua : Bool} {t9 : Nat} (h : CX (Op ga gd gl n P gen ua t9) w0 w X R L g fp gS bS ga gd gl t) (hr : right ga gd gl = true) :
   Calls Tryz.prog 19 #[.pointer (some ⟨X, 0, none⟩)] w fun e w' => ∃ A c, e = .returned (.slice A P.length c) /\ Rws w' w'.heap.size A P /\ Below w.heap.size w w' := by
 obtain ⟨z, s, l, h1, ⟨ha, hP, hg, _⟩, _⟩ := h
 obtain ⟨o1, _⟩ := ha.ok hr
 have hpp := pages_pos hr
 have hpb := pagesOf_bd ga gd gl
 have hzl := o1.len
 rw [<- hP]
 refine (pages_any X R L g fp gS bS ga gd gl z s l w h1 (by omega) (by omega) (fun b hb => ?_)).mono ?_
 · obtain ⟨j, hj, rfl⟩ := List.mem_iff_getElem.1 hb
   have := o1.short j hj
   omega
 · rintro e w' ⟨G, c, rfl, hS, b, hG⟩
   exact ⟨_, c, rfl, (hS.rw (Q' := fun _ => True) (fun _ _ _ => trivial) trivial).rws, b⟩
theorem CX.gen {P : List (List UInt8)} {gen : UInt64} {ua : Bool} {t9 : Nat} (h : CX (Op ga gd gl n P gen ua t9) w0 w X R L g fp gS bS ga gd gl t) : Calls Tryz.prog 20 #[.pointer (some ⟨X, 0, none⟩)] w fun e w' => e = .returned (.int .u64 (gen.toNat : Int)) /\ w = w' := by
 obtain ⟨z, s, l, h1, ⟨_, _, hg, _⟩, _⟩ := h
 have := gen_any X R L g fp gS bS ga gd gl z s l w h1
 rw [hg] at this
 exact this
theorem CX.room {P : List (List UInt8)} {gen : UInt64} {sq : Option Nat} {ua : Bool} {t9 : Nat} (h : CX (Al ga gd gl n P gen sq ua t9) w0 w X R L g fp gS bS ga gd gl t) (hr : right ga gd gl = true) :
   ∃ q : Nat, (q : Int) <= gl /\ CX (Al ga gd gl n P gen (some q) ua t9) w0 w X R L g fp gS bS ga gd gl t /\ Calls Tryz.prog 28 #[.pointer (some ⟨X, 0, none⟩)] w fun e w' => e = .returned (.int .i64 (gl - (q : Int))) /\ Below w.heap.size w w' := by
 obtain ⟨z, s, l, h1, ⟨ha, hP, hg, hq, hua, hlf⟩, h3, h4, h6, h7⟩ := h
 obtain ⟨o1, o2, o3, o4, o5⟩ := ha.ok
 have hry := right_yes hr
 refine ⟨z.seq, o4, ⟨z, s, l, h1, ⟨ha, hP, hg, fun q e => (by injection e), hua, hlf⟩, h3, h4, h6, h7⟩, ?_⟩
 have := room_any X R L g fp gS bS ga gd gl z s l w h1 (by omega) (by omega) (by omega) (fun _ => ha.has)
 rw [if_neg (by rw [ha.due]; simp)] at this
 exact this
theorem first_za {n m : Nat} (hr : right ga gd gl = true) (hn : (n : Int) = Geom.sizeOf ga gd gl) (hm : (m : Int) = pagesOf ga gd gl) : ZA ga gd gl n (begF ga gd gl 1 0 0 (List.replicate m []) [] (wipeF gl (Sup.clr (new n)).1).1).1 (begF ga gd gl 1 0 0 (List.replicate m []) [] (wipeF gl (Sup.clr (new n)).1).1).2.1 ((z0 m).begun 1 0 0) := by
 have hP : PagesOk ga gd gl n (List.replicate m []) := ⟨hn, by rw [List.length_replicate]; exact hm, fun j hj => by simp⟩
 obtain ⟨c1, c2, c3⟩ := pre_first (up_new n) hr hn []
 obtain ⟨b1, b2, b3⟩ := c3.begin hr hP 0 0 (by decide)
 have h := first_ka hr hn hP (V := snapF ga gd gl 1 (List.replicate m []) [] (wipeF gl (Sup.clr (new n)).1).1) rfl (W := _) rfl
 unfold begF
 rw [if_pos b1]
 exact ⟨⟨List.replicate m [], [], 0, h, rfl, rfl, rfl⟩, rfl, rfl, rfl⟩
theorem UA.wipeL : ∀ (ps : List Int) (s : St), UA s -> UA (wipeL ps s).1
 | [], s, h => h
 | p :: r, s, h => by
   unfold Sto.wipeL
   split
   · exact UA.wipeL r _ (h.write _ _)
   · exact h.write _ _
theorem UA.first (n : Nat) (ga gd gl : Int) (m : Nat) : UA (begF ga gd gl 1 0 0 (List.replicate m []) [] (wipeF gl (Sup.clr (new n)).1).1).2.1 := by
 have h0 : UA (new n) := ⟨by show (-1 : Int) < 0; omega, rfl⟩
 have h1 : UA (Sup.clr (new n)).1 := by
   unfold Sup.clr
   split
   · split
     · exact ((h0.write _ _).write _ _).flush
     · exact (h0.write _ _).write _ _
   · exact h0.write _ _
 have h2 : UA (wipeF gl (Sup.clr (new n)).1).1 := by
   unfold wipeF
   split
   · exact (UA.wipeL _ _ h1).flush
   · exact UA.wipeL _ _ h1
 exact h2.beg _ _ _ _ _ _ _ _
theorem format_cx {w0 w : World} {g : Nat} {fp : List Nat} {gS bS : Nat} {n m : Nat} (hG : Gb ga gd gl) (h : Both w g fp (new n) gS bS []) (hr : right ga gd gl = true) (hn : (n : Int) = Geom.sizeOf ga gd gl) (hm : (m : Int) = pagesOf ga gd gl) (hb : Below w0.heap.size w0 w) (ho : ∀ j ∈ bS :: gS :: fp, w0.heap.size <= j) :
   Calls Tryz.prog 14 #[.pointer (some ⟨g, 0, none⟩), .pointer (some ⟨gS, 0, none⟩), gv ga gd gl] w fun e w' => ∃ X R L fp', e = .returned (.tuple #[.pointer (some ⟨X, 0, none⟩), .int .i64 0]) /\ CX (Al ga gd gl n (List.replicate m []) 0 (some 0) true 1) w0 w' X R L g fp' gS bS ga gd gl 1 := by
 have hu := up_new n
 obtain ⟨p1, p2, p3, _⟩ := first_pinv hu hr hn hm []
 have hf : srightF (new n) ga gd gl = 0 := srightF_new hr hu.size hn
 have hpb := pagesOf_bd ga gd gl
 have hy := right_yes hr
 have hlim := begF_lim ga gd gl 1 0 0 (List.replicate m []) [] (wipeF gl (Sup.clr (new n)).1).1
 rw [List.length_replicate] at hlim
 have q1 := clr_sz (new n)
 have q2 := wipeF_sz (show gl <= 64 by omega) (Sup.clr (new n)).1
 have q3 : (new n).sz = 0 := by simp [new, Disk.St.sz]
 have q4 : ([] : List (List UInt8)).length = 0 := rfl
 refine (format_any g fp (new n) gS bS [] ga gd gl m w hG h (by simp) (by omega) hf hm p1 p2 p3).mono ?_
 rintro e w' ⟨X, rfl, R, L, fp', a, k, f, x1, x2, x3⟩
 have hbs := hb.size
 refine ⟨X, R, L, fp', rfl, _, _, _, a, ⟨first_za hr hn hm, rfl, rfl, fun q e => by injection e, fun _ => UA.first n ga gd gl m, by show (1 : UInt64).toNat <= 1; simp⟩, by omega, by omega, hb.trans (k.below (fun j hj => ho j (by simp only [List.mem_cons] at hj ⊢; rcases hj with e | e <;> simp [e])) hb.size), fun j hj => ?_⟩
 simp only [List.mem_cons] at hj
 rcases hj with e | e | e | e | e | e
 · omega
 · omega
 · omega
 · exact ho j (by simp [e])
 · exact ho j (by simp [e])
 · rcases f j e with e2 | e2
   · exact ho j (by simp [e2])
   · omega
end
end Go.Proofs.YtchcmklelmlbgaaGreat.Sto
namespace Go.Proofs.YtchcmklelmlbgaaGreat.Sto
open Go.RowKit
open Go.Proofs.YtchcmklelmlbgaaGreat.Geom
open Go.Proofs.YtchcmklelmlbgaaGreat.Disk (St DAt Did new restart arm eI)
open Go.Proofs.YtchcmklelmlbgaaGreat.Sup (Gb gv gcell gthree srightF UpN up_new srightF_new splace)
open Go.Proofs.YtchcmklelmlbgaaGreat.Snap (snapF PagesOk)
open Go.Proofs.YtchcmklelmlbgaaGreat.Wal (badB whyF whyF_zero fitsB)
set_option linter.unusedVariables false
set_option maxRecDepth 100000
theorem there_sub {w : World} {g o n : Nat} {xs : List Value} (h : Blk w g xs) (hb : o + n <= xs.length) : w.there g o n := fun j hj => by
 rw [h.cell (show o + j < xs.length by omega)]
 exact ⟨rfl, h.free _⟩
abbrev ncl (ga gd gl : Int) (y1 : RS) (A1 : Option Addr) (c1 : Nat) (y2 : RS) (A2 : Option Addr) (c2 : Nat) : List Value := [.int .i64 ga, .int .i64 gd, .int .i64 gl, .slice A1 y1.pages.length c1, .int .u64 (y1.gen.toNat : Int), .int .u64 (y1.life.toNat : Int), .int .i64 y1.base, .int .u64 (y1.began.toNat : Int), .int .i64 (y1.seq : Int), .bool y1.due, .int .i64 ga, .int .i64 gd, .int .i64 gl, .slice A2 y2.pages.length c2, .int .u64 (y2.gen.toNat : Int), .int .u64 (y2.life.toNat : Int), .int .i64 y2.base, .int .u64 (y2.began.toNat : Int), .int .i64 (y2.seq : Int), .bool y2.due]
theorem twenty {w : World} {X : Nat} {a0 a1 a2 a3 a4 a5 a6 a7 a8 a9 a10 a11 a12 a13 a14 a15 a16 a17 a18 a19 : Value} (h : Blk w X [a0, a1, a2, a3, a4, a5, a6, a7, a8, a9, a10, a11, a12, a13, a14, a15, a16, a17, a18, a19]) :
   w.cell? ⟨X, 0, none⟩ = some a0 /\ w.cell? ⟨X, 1, none⟩ = some a1 /\ w.cell? ⟨X, 2, none⟩ = some a2 /\ w.cell? ⟨X, 3, none⟩ = some a3 /\ w.cell? ⟨X, 4, none⟩ = some a4 /\ w.cell? ⟨X, 5, none⟩ = some a5 /\ w.cell? ⟨X, 6, none⟩ = some a6 /\ w.cell? ⟨X, 7, none⟩ = some a7 /\ w.cell? ⟨X, 8, none⟩ = some a8 /\ w.cell? ⟨X, 9, none⟩ = some a9 /\ w.cell? ⟨X, 10, none⟩ = some a10 /\ w.cell? ⟨X, 11, none⟩ = some a11 /\ w.cell? ⟨X, 12, none⟩ = some a12 /\ w.cell? ⟨X, 13, none⟩ = some a13 /\ w.cell? ⟨X, 14, none⟩ = some a14 /\ w.cell? ⟨X, 15, none⟩ = some a15 /\ w.cell? ⟨X, 16, none⟩ = some a16 /\ w.cell? ⟨X, 17, none⟩ = some a17 /\ w.cell? ⟨X, 18, none⟩ = some a18 /\ w.cell? ⟨X, 19, none⟩ = some a19 :=
 ⟨h.cell (k := 0) (by simp), h.cell (k := 1) (by simp), h.cell (k := 2) (by simp), h.cell (k := 3) (by simp), h.cell (k := 4) (by simp), h.cell (k := 5) (by simp), h.cell (k := 6) (by simp), h.cell (k := 7) (by simp), h.cell (k := 8) (by simp), h.cell (k := 9) (by simp), h.cell (k := 10) (by simp), h.cell (k := 11) (by simp), h.cell (k := 12) (by simp), h.cell (k := 13) (by simp), h.cell (k := 14) (by simp), h.cell (k := 15) (by simp), h.cell (k := 16) (by simp), h.cell (k := 17) (by simp), h.cell (k := 18) (by simp), h.cell (k := 19) (by simp)⟩
theorem ncl_not (ga gd gl : Int) (y1 : RS) (A1 : Option Addr) (c1 : Nat) (y2 : RS) (A2 : Option Addr) (c2 : Nat) (u : UInt8) : e8 u ∉ ncl ga gd gl y1 A1 c1 y2 A2 c2 := by
 simp [ncl, e8]
def setHi (w : World) (X : Nat) (b0 b1 b2 b3 b4 b5 b6 b7 b8 b9 : Value) : World := ((((((((((w.setCell ⟨X, 10, none⟩ b0).setCell ⟨X, 11, none⟩ b1).setCell ⟨X, 12, none⟩ b2).setCell ⟨X, 13, none⟩ b3).setCell ⟨X, 14, none⟩ b4).setCell ⟨X, 15, none⟩ b5).setCell ⟨X, 16, none⟩ b6).setCell ⟨X, 17, none⟩ b7).setCell ⟨X, 18, none⟩ b8).setCell ⟨X, 19, none⟩ b9)
theorem lo_blk {w : World} {X : Nat} {a0 a1 a2 a3 a4 a5 a6 a7 a8 a9 a10 a11 a12 a13 a14 a15 a16 a17 a18 a19 : Value} (h : Blk w X [a0, a1, a2, a3, a4, a5, a6, a7, a8, a9, a10, a11, a12, a13, a14, a15, a16, a17, a18, a19]) (b0 b1 b2 b3 b4 b5 b6 b7 b8 b9 : Value) : Blk (set10 w X b0 b1 b2 b3 b4 b5 b6 b7 b8 b9) X [b0, b1, b2, b3, b4, b5, b6, b7, b8, b9, a10, a11, a12, a13, a14, a15, a16, a17, a18, a19] :=
 (((((((((((h.set (k := 0) b0).set (k := 1) b1).set (k := 2) b2).set (k := 3) b3).set (k := 4) b4).set (k := 5) b5).set (k := 6) b6).set (k := 7) b7).set (k := 8) b8).set (k := 9) b9) : Blk _ X _)
theorem hi_blk {w : World} {X : Nat} {a0 a1 a2 a3 a4 a5 a6 a7 a8 a9 a10 a11 a12 a13 a14 a15 a16 a17 a18 a19 : Value} (h : Blk w X [a0, a1, a2, a3, a4, a5, a6, a7, a8, a9, a10, a11, a12, a13, a14, a15, a16, a17, a18, a19]) (b0 b1 b2 b3 b4 b5 b6 b7 b8 b9 : Value) : Blk (setHi w X b0 b1 b2 b3 b4 b5 b6 b7 b8 b9) X [a0, a1, a2, a3, a4, a5, a6, a7, a8, a9, b0, b1, b2, b3, b4, b5, b6, b7, b8, b9] :=
 (((((((((((h.set (k := 10) b0).set (k := 11) b1).set (k := 12) b2).set (k := 13) b3).set (k := 14) b4).set (k := 15) b5).set (k := 16) b6).set (k := 17) b7).set (k := 18) b8).set (k := 19) b9) : Blk _ X _)
theorem setHi_keep (w : World) (X : Nat) (b0 b1 b2 b3 b4 b5 b6 b7 b8 b9 : Value) : Keep [X] w (setHi w X b0 b1 b2 b3 b4 b5 b6 b7 b8 b9) := by
 unfold setHi
 repeat (refine Keep.set ?_ (.inl (by simp)) _)
 exact Keep.refl _ _
structure NL (w0 w : World) (X R L : Nat) (fp : List Nat) (gS bS : Nat) (ga gd gl : Int) (S : Nat) (y1 : RS) (A1 : Option Addr) (c1 : Nat) (y2 : RS) (A2 : Option Addr) (c2 : Nat) : Prop where
 blk : Blk w S (ncl ga gd gl y1 A1 c1 y2 A2 c2)
 r1 : Rw w (fun j => Off X R L bS gS fp j /\ j ≠ S) A1 y1.pages
 r2 : Rw w (fun j => Off X R L bS gS fp j /\ j ≠ S) A2 y2.pages
 off : Off X R L bS gS fp S
 new : w0.heap.size <= S
section
variable {w0 w w' : World} {X R L : Nat} {fp : List Nat} {gS bS : Nat} {ga gd gl : Int} {S : Nat} {y1 y2 : RS} {A1 A2 : Option Addr} {c1 c2 : Nat}
theorem NL.on (h : NL w0 w X R L fp gS bS ga gd gl S y1 A1 c1 y2 A2 c2) (b : Below w.heap.size w w') : NL w0 w' X R L fp gS bS ga gd gl S y1 A1 c1 y2 A2 c2 := ⟨h.blk.on b, h.r1.on b, h.r2.on b, h.off, h.new⟩
theorem NL.move {X' R' L' : Nat} {fp' ks : List Nat} (h : NL w0 w X R L fp gS bS ga gd gl S y1 A1 c1 y2 A2 c2) (k : Keep ks w w') (hn : ∀ j, Off X R L bS gS fp j -> j ∉ ks) (hm : ∀ j, j < w.heap.size -> Off X R L bS gS fp j -> Off X' R' L' bS gS fp' j) : NL w0 w' X' R' L' fp' gS bS ga gd gl S y1 A1 c1 y2 A2 c2 := by
 have hr : ∀ {A : Option Addr} {P : List (List UInt8)}, Rw w (fun j => Off X R L bS gS fp j /\ j ≠ S) A P -> Rw w' (fun j => Off X' R' L' bS gS fp' j /\ j ≠ S) A P := fun h2 =>
   ((h2.imp (Q' := fun j => (Off X R L bS gS fp j /\ j ≠ S) /\ Off X' R' L' bS gS fp' j) (fun j hj o => ⟨o, hm j hj o.1⟩)).keep k (fun j hj _ => hn j hj.1.1)).imp (fun j _ hj => ⟨hj.2, hj.1.2⟩)
 exact ⟨h.blk.keepK k (hn _ h.off), hr h.r1, hr h.r2, hm S h.blk.lt h.off, h.new⟩
theorem NL.turn {L' : Nat} {fp' : List Nat} (h : NL w0 w X R L fp gS bS ga gd gl S y1 A1 c1 y2 A2 c2) (k : Keep (X :: R :: L :: bS :: fp) w w') (f : FreshL w L fp L' fp') : NL w0 w' X R L' fp' gS bS ga gd gl S y1 A1 c1 y2 A2 c2 := by
 refine h.move k (fun j o => offKeep o) (fun j hj o => ?_)
 obtain ⟨o1, o2, o3, o4, o5, o6⟩ := o
 refine ⟨o1, o2, fun e => ?_, o4, o5, f.1.out hj o6⟩
 rcases f.2 with e2 | e2
 · exact o3 (by rw [e, e2])
 · omega
theorem NL.disk {fp' : List Nat} (h : NL w0 w X R L fp gS bS ga gd gl S y1 A1 c1 y2 A2 c2) (k : Keep fp w w') (f : Fresh w fp fp') : NL w0 w' X R L fp' gS bS ga gd gl S y1 A1 c1 y2 A2 c2 :=
 h.move k (fun j o => o.2.2.2.2.2) (fun j hj o => o.fresh hj f)
theorem NL.anew {X' R' : Nat} (h : NL w0 w X R L fp gS bS ga gd gl S y1 A1 c1 y2 A2 c2) (b : Below w.heap.size w w') (hX : w.heap.size <= X') (hR : w.heap.size <= R') : NL w0 w' X' R' X' fp gS bS ga gd gl S y1 A1 c1 y2 A2 c2 :=
 h.move (Keep.of_below b []) (fun j _ => by simp) (fun j hj o => ⟨by omega, by omega, by omega, o.2.2.2.1, o.2.2.2.2.1, o.2.2.2.2.2⟩)
theorem NL.put {y1' y2' : RS} {A1' A2' : Option Addr} {c1' c2' : Nat} (h : NL w0 w X R L fp gS bS ga gd gl S y1 A1 c1 y2 A2 c2) (k : Keep [S] w w') (hb : Blk w' S (ncl ga gd gl y1' A1' c1' y2' A2' c2')) (h1 : Rw w (fun j => Off X R L bS gS fp j /\ j ≠ S) A1' y1'.pages) (h2 : Rw w (fun j => Off X R L bS gS fp j /\ j ≠ S) A2' y2'.pages) : NL w0 w' X R L fp gS bS ga gd gl S y1' A1' c1' y2' A2' c2' :=
 ⟨hb, h1.keep k (fun j hj _ e => hj.2 (by simpa using e)), h2.keep k (fun j hj _ e => hj.2 (by simpa using e)), h.off, h.new⟩
theorem NL.aside {Φ : List (List UInt8) -> St -> Z -> Prop} {g t : Nat} (h : NL w0 w X R L fp gS bS ga gd gl S y1 A1 c1 y2 A2 c2) (hc : CX Φ w0 w X R L g fp gS bS ga gd gl t) (k : Keep [S] w w') : CX Φ w0 w' X R L g fp gS bS ga gd gl t :=
 hc.aside h.new h.off h.blk (ncl_not ga gd gl y1 A1 c1 y2 A2 c2) k
structure YOk (ga gd gl : Int) (y : RS) (b : Nat) : Prop where
 len : (y.pages.length : Int) = pagesOf ga gd gl
 seq : (y.seq : Int) <= gl
 base : 0 <= y.base /\ y.base <= 1073741824
 life : y.life.toNat <= b
 due : y.due = false
 short : ∀ b ∈ y.pages, b.length <= 1000
theorem putP_short {k : Nat} : ∀ (l : List Pg) (P : List (List UInt8)), (∀ b ∈ P, b.length <= k) -> (∀ x ∈ l, x.body.length <= k) -> ∀ b ∈ putP P l, b.length <= k
 | [], P, h, _ => h
 | x :: l, P, h, hl => putP_short l (P.set x.n.toNat x.body) (fun b hb => by
     rcases List.mem_or_eq_of_mem_set hb with e | e
     · exact h b e
     · rw [e]; exact hl x (by simp)) (fun u hu => hl u (by simp [hu]))
theorem YOk.commit {ga gd gl : Int} {y : RS} {b : Nat} (h : YOk ga gd gl y b) (hr : right ga gd gl = true) (hb : b <= 1000) (l : List Pg) (gen : UInt64) : YOk ga gd gl (y.commit ga gd gl l gen).1 (b + 1) := by
 have hy := right_yes hr
 have hl1 : (y.life + 1).toNat = y.life.toNat + 1 := life1 (by have := h.life; omega)
 unfold RS.commit
 rw [if_neg (by rw [h.due]; simp)]
 have hlf := h.life
 by_cases h0 : whyF ga gd gl y.seq l = 0
 · rw [if_pos h0]
   obtain ⟨w1, w2, w3⟩ := whyF_zero h0
   exact ⟨by show ((putP y.pages l).length : Int) = _; rw [putP_len]; exact h.len, by show ((y.seq + (l.length + 1) : Nat) : Int) <= gl; omega, h.base, by show y.life.toNat <= _; omega, h.due, putP_short l _ h.short (fun x hx => by have := bad_short w1 x hx; omega)⟩
 · rw [if_neg h0]
   by_cases h5 : whyF ga gd gl y.seq l = 5
   · rw [if_pos h5]
     obtain ⟨w1, w2, w3⟩ := whyF_zero (why_first h5)
     have hm1 := Int.emod_nonneg (y.base + (y.seq : Int)) (show gl ≠ 0 by omega)
     have hm2 := Int.emod_lt_of_pos (y.base + (y.seq : Int)) (show 0 < gl by omega)
     exact ⟨by show ((putP y.pages l).length : Int) = _; rw [putP_len]; exact h.len, by show ((0 + (l.length + 1) : Nat) : Int) <= gl; omega, ⟨hm1, by show (y.base + (y.seq : Int)) % gl <= _; omega⟩, by show (y.life + 1).toNat <= _; omega, rfl, putP_short l _ h.short (fun x hx => by have := bad_short w1 x hx; omega)⟩
   · rw [if_neg h5]
     exact ⟨h.len, h.seq, h.base, by show y.life.toNat <= _; omega, h.due, h.short⟩
def RS.asked (y : RS) (q : Nat) : RS := ⟨y.pages, y.gen, y.life, y.base, y.began, q, false⟩
theorem YOk.asked {ga gd gl : Int} {y : RS} {b : Nat} (h : YOk ga gd gl y b) {q : Nat} (hq : (q : Int) <= gl) : YOk ga gd gl (y.asked q) b := ⟨h.len, hq, h.base, h.life, rfl, h.short⟩
theorem YOk.mono {ga gd gl : Int} {y : RS} {b b' : Nat} (h : YOk ga gd gl y b) (hb : b <= b') : YOk ga gd gl y b' := ⟨h.len, h.seq, h.base, Nat.le_trans h.life hb, h.due, h.short⟩
theorem NL.rcommit {Φ : List (List UInt8) -> St -> Z -> Prop} {g t b : Nat} (h : NL w0 w X R L fp gS bS ga gd gl S y1 A1 c1 y2 A2 c2) (hc : CX Φ w0 w X R L g fp gS bS ga gd gl t) (hy : YOk ga gd gl y1 b) (hb : b <= 1000) (hG : Gb ga gd gl) (hr : right ga gd gl = true) (A : Option Addr) (pages : List Pg) (c : Nat) (gen : UInt64) (hp : Pgs w (fun j => j < w0.heap.size) A pages) (hcl : pages.length <= 1000) (W : World) (bW : Below w.heap.size w W) :
   Calls Tryz.prog 25 #[RV ga gd gl y1 A1 c1, .slice A pages.length c, .int .u64 (gen.toNat : Int)] W fun e w' => ∃ A' c', e = .returned (.tuple #[RV ga gd gl (y1.commit ga gd gl pages gen).1 A' c', .int .i64 (y1.commit ga gd gl pages gen).2]) /\ Rw w' (fun j => (Off X R L bS gS fp j /\ j ≠ S) /\ (j < w.heap.size \/ W.heap.size <= j)) A' (y1.commit ga gd gl pages gen).1.pages /\ Below W.heap.size W w' := by
 have hpb := pagesOf_bd ga gd gl
 have hp0 := pages_pos hr
 have hy' := right_yes hr
 have hS := h.new
 have hlt := h.blk.lt
 have hbs := hc.bel.size
 have hWs := bW.size
 have n1 := hy.len
 have n2 := hy.seq
 have n5 := hy.life
 refine (rcommit_any (fun j => (Off X R L bS gS fp j /\ j ≠ S) /\ j < w.heap.size) ga gd gl y1 A1 c1 A pages c gen W hG ((hp.imp (fun j _ hj => ⟨⟨hc.off hj, by omega⟩, by omega⟩)).on bW) (by omega) ((h.r1.imp (fun j hj o => ⟨o, hj⟩)).on bW) hr n1 (by omega) (by omega) (by omega) (by omega) (by omega) (by omega) hy.base).mono ?_
 rintro e w' ⟨A', c', rfl, h1, b⟩
 refine ⟨A', c', rfl, h1.imp (fun j hj o => ?_), b⟩
 rcases o with o | o
 · exact ⟨o.1.1, .inl o.1.2⟩
 · exact ⟨⟨hc.offNew (by omega), by omega⟩, .inr o⟩
end
theorem splice_full : ∀ (cs pre xs : List Value), xs.length = cs.length -> splice (pre ++ xs) pre.length cs = pre ++ cs
 | [], pre, xs, h => by
   obtain rfl : xs = [] := List.eq_nil_of_length_eq_zero (by simpa using h)
   rfl
 | v :: r, pre, xs, h => by
   cases xs with
   | nil => simp at h
   | cons x xs =>
     have e : (pre ++ x :: xs).set pre.length v = (pre ++ [v]) ++ xs := by simp
     show splice ((pre ++ x :: xs).set pre.length v) (pre.length + 1) r = _
     rw [e]
     have := splice_full r (pre ++ [v]) xs (by simpa using h)
     rw [List.length_append] at this
     simpa using this
theorem _root_.Go.Proofs.YtchcmklelmlbgaaGreat.Blk.full {w : World} {g : Nat} {xs cs : List Value} (h : Blk w g xs) (hl : xs.length = cs.length) : Blk (w.setCells g 0 cs) g cs := by
 have h1 := h.setCells cs 0
 have h2 := splice_full cs [] xs hl
 simp only [List.nil_append, List.length_nil] at h2
 rw [h2] at h1
 exact h1
theorem cells_keep (w : World) (T o : Nat) (vs : List Value) : Keep [T] w (w.setCells T o vs) := Keep.of_grown (setCells_grown T vs o w) (fun g e => by cases e; simp)
def At8 (Φ : List (List UInt8) -> St -> Z -> Prop) (w0 : World) (X R L g : Nat) (fp : List Nat) (gS bS : Nat) (ga gd gl : Int) (t : Nat) (y1 : RS) (v : Value) (wx : World) : Prop :=
 ∃ (S : Nat) (A1 : Option Addr) (c1 : Nat) (A2 : Option Addr) (c2 : Nat), v = .pointer (some ⟨S, 0, none⟩) /\ CX Φ w0 wx X R L g fp gS bS ga gd gl t /\ NL w0 wx X R L fp gS bS ga gd gl S y1 A1 c1 y1 A2 c2
theorem at8_new {Φ : List (List UInt8) -> St -> Z -> Prop} {w0 w9 W : World} {X R L g : Nat} {fp : List Nat} {gS bS : Nat} {ga gd gl : Int} {t S : Nat} {y1 : RS} {A1 A2 : Option Addr} {c1 c2 : Nat} {zz : List Value} (hc : CX Φ w0 w9 X R L g fp gS bS ga gd gl t) (b : Below w9.heap.size w9 W) (hZ : Blk W S zz) (hl : zz.length = 20) (hzz : ∀ u, e8 u ∉ zz) (hS : w9.heap.size <= S)
   (r1 : Rw W (fun j => w9.heap.size <= j /\ j ≠ S) A1 y1.pages) (r2 : Rw W (fun j => w9.heap.size <= j /\ j ≠ S) A2 y1.pages) : At8 Φ w0 X R L g fp gS bS ga gd gl t y1 (.pointer (some ⟨S, 0, none⟩)) (W.setCells S 0 (ncl ga gd gl y1 A1 c1 y1 A2 c2)) := by
 have hbs := hc.bel.size
 have ho := hc.offNew hS
 have k := cells_keep W S 0 (ncl ga gd gl y1 A1 c1 y1 A2 c2)
 refine ⟨S, A1, c1, A2, c2, rfl, (hc.on b).aside (by omega) ho hZ hzz k, ⟨hZ.full (by rw [hl]; rfl), ?_, ?_, ho, by omega⟩⟩
 · exact (r1.keep k (fun j hj _ e => hj.2 (by simpa using e))).imp (fun j _ hj => ⟨hc.offNew hj.1, hj.2⟩)
 · exact (r2.keep k (fun j hj _ e => hj.2 (by simpa using e))).imp (fun j _ hj => ⟨hc.offNew hj.1, hj.2⟩)
structure Cnt (K m : Nat) (ua : Bool) : Prop where
 m8 : m <= 8
 le : K <= m + min K 8
 lt : ua = false -> K + 1 <= m + min K 8
theorem Cnt.arm {K m : Nat} {ua : Bool} (h : Cnt K m ua) (hm : m + 1 <= 8) : Cnt K (m + 1) false := ⟨hm, by have := h.le; omega, fun _ => by have := h.le; omega⟩
theorem Cnt.crash {K m : Nat} (h : Cnt K m false) : Cnt (K + 1) m true /\ K + 1 <= 16 /\ 1 <= m := by
 have h1 := h.lt rfl
 have h2 := h.m8
 exact ⟨⟨h2, by omega, fun e => (by cases e)⟩, by omega, by omega⟩
theorem Cnt.again {K m : Nat} (h : Cnt K m true) (hm : 1 <= m) (hK : K < 8) : Cnt K m false := ⟨h.m8, h.le, fun _ => by omega⟩
end Go.Proofs.YtchcmklelmlbgaaGreat.Sto
namespace Go.Proofs.YtchcmklelmlbgaaGreat.Sto
open Go.RowKit
open Go.Proofs.YtchcmklelmlbgaaGreat.Geom
open Go.Proofs.YtchcmklelmlbgaaGreat.Disk (St DAt Did new restart arm eI)
open Go.Proofs.YtchcmklelmlbgaaGreat.Sup (Gb gv gcell gthree srightF UpN up_new srightF_new splace)
set_option linter.unusedVariables false
set_option maxRecDepth 100000
section
variable {Φ Ψ : List (List UInt8) -> St -> Z -> Prop} {w0 w w' : World} {X R L g : Nat} {fp : List Nat} {gS bS : Nat} {ga gd gl : Int} {t t' S S2 : Nat} {y yp y2 : RS} {A3 A4 A5 : Option Addr} {c3 c4 c5 : Nat}
theorem rw_turn {L' : Nat} {fp' : List Nat} {A : Option Addr} {P : List (List UInt8)} (h : Rw w (fun j => Off X R L bS gS fp j /\ j ≠ S) A P) (k : Keep (X :: R :: L :: bS :: fp) w w') (f : FreshL w L fp L' fp') : Rw w' (fun j => Off X R L' bS gS fp' j /\ j ≠ S) A P := by
 have hm : ∀ j, j < w.heap.size -> Off X R L bS gS fp j -> Off X R L' bS gS fp' j := fun j hj o => by
   obtain ⟨o1, o2, o3, o4, o5, o6⟩ := o
   refine ⟨o1, o2, fun e => ?_, o4, o5, f.1.out hj o6⟩
   rcases f.2 with e2 | e2
   · exact o3 (by rw [e, e2])
   · omega
 exact ((h.imp (Q' := fun j => (Off X R L bS gS fp j /\ j ≠ S) /\ Off X R L' bS gS fp' j) (fun j hj o => ⟨o, hm j hj o.1⟩)).keep k (fun j hj _ => offKeep hj.1.1)).imp (fun j _ hj => ⟨hj.2, hj.1.2⟩)
structure W3 (Φ : List (List UInt8) -> St -> Z -> Prop) (w0 w : World) (X R L g : Nat) (fp : List Nat) (gS bS : Nat) (ga gd gl : Int) (t S : Nat) (y : RS) (A3 : Option Addr) (c3 : Nat) (yp : RS) (A4 : Option Addr) (c4 : Nat) (S2 : Nat) (y2 : RS) (A5 : Option Addr) (c5 : Nat) : Prop where
 cx : CX Φ w0 w X R L g fp gS bS ga gd gl t
 nl : NL w0 w X R L fp gS bS ga gd gl S y A3 c3 yp A4 c4
 b2 : Blk w S2 (rcl ga gd gl y2 A5 c5)
 r3 : Rw w (fun j => Off X R L bS gS fp j /\ j ≠ S) A5 y2.pages
 ne : S2 ≠ S
theorem W3.lo (h : W3 Φ w0 w X R L g fp gS bS ga gd gl t S y A3 c3 yp A4 c4 S2 y2 A5 c5) : W3 Φ w0 (set10 w S (.int .i64 ga) (.int .i64 gd) (.int .i64 gl) (.slice A5 y2.pages.length c5) (.int .u64 (y2.gen.toNat : Int)) (.int .u64 (y2.life.toNat : Int)) (.int .i64 y2.base) (.int .u64 (y2.began.toNat : Int)) (.int .i64 (y2.seq : Int)) (.bool y2.due)) X R L g fp gS bS ga gd gl t S y2 A5 c5 yp A4 c4 S2 y2 A5 c5 := by
 have k : Keep [S] w (set10 w S (.int .i64 ga) (.int .i64 gd) (.int .i64 gl) (.slice A5 y2.pages.length c5) (.int .u64 (y2.gen.toNat : Int)) (.int .u64 (y2.life.toNat : Int)) (.int .i64 y2.base) (.int .u64 (y2.began.toNat : Int)) (.int .i64 (y2.seq : Int)) (.bool y2.due)) := set10_keep (fp := [S]) (Keep.refl _ w) (X := S) (by simp) (.int .i64 ga) (.int .i64 gd) (.int .i64 gl) (.slice A5 y2.pages.length c5) (.int .u64 (y2.gen.toNat : Int)) (.int .u64 (y2.life.toNat : Int)) (.int .i64 y2.base) (.int .u64 (y2.began.toNat : Int)) (.int .i64 (y2.seq : Int)) (.bool y2.due)
 exact ⟨h.nl.aside h.cx k, h.nl.put k (lo_blk h.nl.blk (.int .i64 ga) (.int .i64 gd) (.int .i64 gl) (.slice A5 y2.pages.length c5) (.int .u64 (y2.gen.toNat : Int)) (.int .u64 (y2.life.toNat : Int)) (.int .i64 y2.base) (.int .u64 (y2.began.toNat : Int)) (.int .i64 (y2.seq : Int)) (.bool y2.due)) h.r3 h.nl.r2, h.b2.keepK k (by simpa using h.ne), h.r3.keep k (fun j hj _ e => hj.2 (by simpa using e)), h.ne⟩
theorem W3.hiY (h : W3 Φ w0 w X R L g fp gS bS ga gd gl t S y A3 c3 yp A4 c4 S2 y2 A5 c5) : W3 Φ w0 (setHi w S (.int .i64 ga) (.int .i64 gd) (.int .i64 gl) (.slice A3 y.pages.length c3) (.int .u64 (y.gen.toNat : Int)) (.int .u64 (y.life.toNat : Int)) (.int .i64 y.base) (.int .u64 (y.began.toNat : Int)) (.int .i64 (y.seq : Int)) (.bool y.due)) X R L g fp gS bS ga gd gl t S y A3 c3 y A3 c3 S2 y2 A5 c5 := by
 have k := setHi_keep w S (.int .i64 ga) (.int .i64 gd) (.int .i64 gl) (.slice A3 y.pages.length c3) (.int .u64 (y.gen.toNat : Int)) (.int .u64 (y.life.toNat : Int)) (.int .i64 y.base) (.int .u64 (y.began.toNat : Int)) (.int .i64 (y.seq : Int)) (.bool y.due)
 exact ⟨h.nl.aside h.cx k, h.nl.put k (hi_blk h.nl.blk (.int .i64 ga) (.int .i64 gd) (.int .i64 gl) (.slice A3 y.pages.length c3) (.int .u64 (y.gen.toNat : Int)) (.int .u64 (y.life.toNat : Int)) (.int .i64 y.base) (.int .u64 (y.began.toNat : Int)) (.int .i64 (y.seq : Int)) (.bool y.due)) h.nl.r1 h.nl.r1, h.b2.keepK k (by simpa using h.ne), h.r3.keep k (fun j hj _ e => hj.2 (by simpa using e)), h.ne⟩
theorem W3.hi2 (h : W3 Φ w0 w X R L g fp gS bS ga gd gl t S y A3 c3 yp A4 c4 S2 y2 A5 c5) : W3 Φ w0 (setHi w S (.int .i64 ga) (.int .i64 gd) (.int .i64 gl) (.slice A5 y2.pages.length c5) (.int .u64 (y2.gen.toNat : Int)) (.int .u64 (y2.life.toNat : Int)) (.int .i64 y2.base) (.int .u64 (y2.began.toNat : Int)) (.int .i64 (y2.seq : Int)) (.bool y2.due)) X R L g fp gS bS ga gd gl t S y A3 c3 y2 A5 c5 S2 y2 A5 c5 := by
 have k := setHi_keep w S (.int .i64 ga) (.int .i64 gd) (.int .i64 gl) (.slice A5 y2.pages.length c5) (.int .u64 (y2.gen.toNat : Int)) (.int .u64 (y2.life.toNat : Int)) (.int .i64 y2.base) (.int .u64 (y2.began.toNat : Int)) (.int .i64 (y2.seq : Int)) (.bool y2.due)
 exact ⟨h.nl.aside h.cx k, h.nl.put k (hi_blk h.nl.blk (.int .i64 ga) (.int .i64 gd) (.int .i64 gl) (.slice A5 y2.pages.length c5) (.int .u64 (y2.gen.toNat : Int)) (.int .u64 (y2.life.toNat : Int)) (.int .i64 y2.base) (.int .u64 (y2.began.toNat : Int)) (.int .i64 (y2.seq : Int)) (.bool y2.due)) h.nl.r1 h.r3, h.b2.keepK k (by simpa using h.ne), h.r3.keep k (fun j hj _ e => hj.2 (by simpa using e)), h.ne⟩
theorem NL.hiY (h : NL w0 w X R L fp gS bS ga gd gl S y A3 c3 yp A4 c4) : NL w0 (setHi w S (.int .i64 ga) (.int .i64 gd) (.int .i64 gl) (.slice A3 y.pages.length c3) (.int .u64 (y.gen.toNat : Int)) (.int .u64 (y.life.toNat : Int)) (.int .i64 y.base) (.int .u64 (y.began.toNat : Int)) (.int .i64 (y.seq : Int)) (.bool y.due)) X R L fp gS bS ga gd gl S y A3 c3 y A3 c3 := h.put (setHi_keep w S (.int .i64 ga) (.int .i64 gd) (.int .i64 gl) (.slice A3 y.pages.length c3) (.int .u64 (y.gen.toNat : Int)) (.int .u64 (y.life.toNat : Int)) (.int .i64 y.base) (.int .u64 (y.began.toNat : Int)) (.int .i64 (y.seq : Int)) (.bool y.due)) (hi_blk h.blk (.int .i64 ga) (.int .i64 gd) (.int .i64 gl) (.slice A3 y.pages.length c3) (.int .u64 (y.gen.toNat : Int)) (.int .u64 (y.life.toNat : Int)) (.int .i64 y.base) (.int .u64 (y.began.toNat : Int)) (.int .i64 (y.seq : Int)) (.bool y.due)) h.r1 h.r1
theorem NL.loP (h : NL w0 w X R L fp gS bS ga gd gl S y A3 c3 yp A4 c4) : NL w0 (set10 w S (.int .i64 ga) (.int .i64 gd) (.int .i64 gl) (.slice A4 yp.pages.length c4) (.int .u64 (yp.gen.toNat : Int)) (.int .u64 (yp.life.toNat : Int)) (.int .i64 yp.base) (.int .u64 (yp.began.toNat : Int)) (.int .i64 (yp.seq : Int)) (.bool yp.due)) X R L fp gS bS ga gd gl S yp A4 c4 yp A4 c4 := h.put (set10_keep (fp := [S]) (Keep.refl _ w) (X := S) (by simp) (.int .i64 ga) (.int .i64 gd) (.int .i64 gl) (.slice A4 yp.pages.length c4) (.int .u64 (yp.gen.toNat : Int)) (.int .u64 (yp.life.toNat : Int)) (.int .i64 yp.base) (.int .u64 (yp.began.toNat : Int)) (.int .i64 (yp.seq : Int)) (.bool yp.due)) (lo_blk h.blk (.int .i64 ga) (.int .i64 gd) (.int .i64 gl) (.slice A4 yp.pages.length c4) (.int .u64 (yp.gen.toNat : Int)) (.int .u64 (yp.life.toNat : Int)) (.int .i64 yp.base) (.int .u64 (yp.began.toNat : Int)) (.int .i64 (yp.seq : Int)) (.bool yp.due)) h.r2 h.r2
theorem W3.turn {L' : Nat} {fp' : List Nat} (h : W3 Φ w0 w X R L g fp gS bS ga gd gl t S y A3 c3 yp A4 c4 S2 y2 A5 c5) (ho : Off X R L bS gS fp S2) (hc : CX Ψ w0 w' X R L' g fp' gS bS ga gd gl t') (k : Keep (X :: R :: L :: bS :: fp) w w') (f : FreshL w L fp L' fp') : W3 Ψ w0 w' X R L' g fp' gS bS ga gd gl t' S y A3 c3 yp A4 c4 S2 y2 A5 c5 :=
 ⟨hc, h.nl.turn k f, h.b2.keepK k (offKeep ho), rw_turn h.r3 k f, h.ne⟩
theorem st_lo {ops : Array Oper} {rest : List Oper} {o : Oper} {a : Act} {Q : Exit -> Act -> World -> Prop} (hgd : o.guard = none) (ty : TypeId) (x yv : Operand) (ho : o.op = .store ty x yv) (hx : a.eval x = .pointer (some ⟨S, 0, none⟩)) (hy : a.eval yv = RV ga gd gl y2 A5 c5) (hi : (Tryz.prog.info? ty).map (·.size) = some 10) (h : W3 Φ w0 w X R L g fp gS bS ga gd gl t S y A3 c3 yp A4 c4 S2 y2 A5 c5)
   (hk : ∀ w', W3 Φ w0 w' X R L g fp gS bS ga gd gl t S y2 A5 c5 yp A4 c4 S2 y2 A5 c5 -> wpList Tryz.prog ops Q rest (a.put o.dst undef) w') : wpList Tryz.prog ops Q (o :: rest) a w :=
 wpList_store_mid hgd ty x yv ho S 0 #[.int .i64 ga, .int .i64 gd, .int .i64 gl, .slice A5 y2.pages.length c5, .int .u64 (y2.gen.toNat : Int), .int .u64 (y2.life.toNat : Int), .int .i64 y2.base, .int .u64 (y2.began.toNat : Int), .int .i64 (y2.seq : Int), .bool y2.due] hx hy (there_sub (o := 0) (n := 10) h.nl.blk (by simp)) hi (by simp [Value.oneCell']) (hk _ (show W3 Φ w0 (set10 w S (.int .i64 ga) (.int .i64 gd) (.int .i64 gl) (.slice A5 y2.pages.length c5) (.int .u64 (y2.gen.toNat : Int)) (.int .u64 (y2.life.toNat : Int)) (.int .i64 y2.base) (.int .u64 (y2.began.toNat : Int)) (.int .i64 (y2.seq : Int)) (.bool y2.due)) X R L g fp gS bS ga gd gl t S y2 A5 c5 yp A4 c4 S2 y2 A5 c5 from h.lo))
theorem st_hiY {ops : Array Oper} {rest : List Oper} {o : Oper} {a : Act} {Q : Exit -> Act -> World -> Prop} (hgd : o.guard = none) (ty : TypeId) (x yv : Operand) (ho : o.op = .store ty x yv) (hx : a.eval x = .pointer (some ⟨S, 10, none⟩)) (hy : a.eval yv = RV ga gd gl y A3 c3) (hi : (Tryz.prog.info? ty).map (·.size) = some 10) (h : W3 Φ w0 w X R L g fp gS bS ga gd gl t S y A3 c3 yp A4 c4 S2 y2 A5 c5)
   (hk : ∀ w', W3 Φ w0 w' X R L g fp gS bS ga gd gl t S y A3 c3 y A3 c3 S2 y2 A5 c5 -> wpList Tryz.prog ops Q rest (a.put o.dst undef) w') : wpList Tryz.prog ops Q (o :: rest) a w :=
 wpList_store_mid hgd ty x yv ho S 10 #[.int .i64 ga, .int .i64 gd, .int .i64 gl, .slice A3 y.pages.length c3, .int .u64 (y.gen.toNat : Int), .int .u64 (y.life.toNat : Int), .int .i64 y.base, .int .u64 (y.began.toNat : Int), .int .i64 (y.seq : Int), .bool y.due] hx hy (there_sub (o := 10) (n := 10) h.nl.blk (by simp)) hi (by simp [Value.oneCell']) (hk _ (show W3 Φ w0 (setHi w S (.int .i64 ga) (.int .i64 gd) (.int .i64 gl) (.slice A3 y.pages.length c3) (.int .u64 (y.gen.toNat : Int)) (.int .u64 (y.life.toNat : Int)) (.int .i64 y.base) (.int .u64 (y.began.toNat : Int)) (.int .i64 (y.seq : Int)) (.bool y.due)) X R L g fp gS bS ga gd gl t S y A3 c3 y A3 c3 S2 y2 A5 c5 from h.hiY))
theorem st_hi2 {ops : Array Oper} {rest : List Oper} {o : Oper} {a : Act} {Q : Exit -> Act -> World -> Prop} (hgd : o.guard = none) (ty : TypeId) (x yv : Operand) (ho : o.op = .store ty x yv) (hx : a.eval x = .pointer (some ⟨S, 10, none⟩)) (hy : a.eval yv = RV ga gd gl y2 A5 c5) (hi : (Tryz.prog.info? ty).map (·.size) = some 10) (h : W3 Φ w0 w X R L g fp gS bS ga gd gl t S y A3 c3 yp A4 c4 S2 y2 A5 c5)
   (hk : ∀ w', W3 Φ w0 w' X R L g fp gS bS ga gd gl t S y A3 c3 y2 A5 c5 S2 y2 A5 c5 -> wpList Tryz.prog ops Q rest (a.put o.dst undef) w') : wpList Tryz.prog ops Q (o :: rest) a w :=
 wpList_store_mid hgd ty x yv ho S 10 #[.int .i64 ga, .int .i64 gd, .int .i64 gl, .slice A5 y2.pages.length c5, .int .u64 (y2.gen.toNat : Int), .int .u64 (y2.life.toNat : Int), .int .i64 y2.base, .int .u64 (y2.began.toNat : Int), .int .i64 (y2.seq : Int), .bool y2.due] hx hy (there_sub (o := 10) (n := 10) h.nl.blk (by simp)) hi (by simp [Value.oneCell']) (hk _ (show W3 Φ w0 (setHi w S (.int .i64 ga) (.int .i64 gd) (.int .i64 gl) (.slice A5 y2.pages.length c5) (.int .u64 (y2.gen.toNat : Int)) (.int .u64 (y2.life.toNat : Int)) (.int .i64 y2.base) (.int .u64 (y2.began.toNat : Int)) (.int .i64 (y2.seq : Int)) (.bool y2.due)) X R L g fp gS bS ga gd gl t S y A3 c3 y2 A5 c5 S2 y2 A5 c5 from h.hi2))
theorem st2_hiY {ops : Array Oper} {rest : List Oper} {o : Oper} {a : Act} {Q : Exit -> Act -> World -> Prop} (hgd : o.guard = none) (ty : TypeId) (x yv : Operand) (ho : o.op = .store ty x yv) (hx : a.eval x = .pointer (some ⟨S, 10, none⟩)) (hy : a.eval yv = RV ga gd gl y A3 c3) (hi : (Tryz.prog.info? ty).map (·.size) = some 10) (hn : NL w0 w X R L fp gS bS ga gd gl S y A3 c3 yp A4 c4) (hc : CX Φ w0 w X R L g fp gS bS ga gd gl t)
   (hk : ∀ w', NL w0 w' X R L fp gS bS ga gd gl S y A3 c3 y A3 c3 -> CX Φ w0 w' X R L g fp gS bS ga gd gl t -> wpList Tryz.prog ops Q rest (a.put o.dst undef) w') : wpList Tryz.prog ops Q (o :: rest) a w :=
 wpList_store_mid hgd ty x yv ho S 10 #[.int .i64 ga, .int .i64 gd, .int .i64 gl, .slice A3 y.pages.length c3, .int .u64 (y.gen.toNat : Int), .int .u64 (y.life.toNat : Int), .int .i64 y.base, .int .u64 (y.began.toNat : Int), .int .i64 (y.seq : Int), .bool y.due] hx hy (there_sub (o := 10) (n := 10) hn.blk (by simp)) hi (by simp [Value.oneCell']) (hk _ (show NL w0 (setHi w S (.int .i64 ga) (.int .i64 gd) (.int .i64 gl) (.slice A3 y.pages.length c3) (.int .u64 (y.gen.toNat : Int)) (.int .u64 (y.life.toNat : Int)) (.int .i64 y.base) (.int .u64 (y.began.toNat : Int)) (.int .i64 (y.seq : Int)) (.bool y.due)) X R L fp gS bS ga gd gl S y A3 c3 y A3 c3 from hn.hiY) (show CX Φ w0 (setHi w S (.int .i64 ga) (.int .i64 gd) (.int .i64 gl) (.slice A3 y.pages.length c3) (.int .u64 (y.gen.toNat : Int)) (.int .u64 (y.life.toNat : Int)) (.int .i64 y.base) (.int .u64 (y.began.toNat : Int)) (.int .i64 (y.seq : Int)) (.bool y.due)) X R L g fp gS bS ga gd gl t from hn.aside hc (setHi_keep w S (.int .i64 ga) (.int .i64 gd) (.int .i64 gl) (.slice A3 y.pages.length c3) (.int .u64 (y.gen.toNat : Int)) (.int .u64 (y.life.toNat : Int)) (.int .i64 y.base) (.int .u64 (y.began.toNat : Int)) (.int .i64 (y.seq : Int)) (.bool y.due))))
theorem st2_loP {ops : Array Oper} {rest : List Oper} {o : Oper} {a : Act} {Q : Exit -> Act -> World -> Prop} (hgd : o.guard = none) (ty : TypeId) (x yv : Operand) (ho : o.op = .store ty x yv) (hx : a.eval x = .pointer (some ⟨S, 0, none⟩)) (hy : a.eval yv = RV ga gd gl yp A4 c4) (hi : (Tryz.prog.info? ty).map (·.size) = some 10) (hn : NL w0 w X R L fp gS bS ga gd gl S y A3 c3 yp A4 c4) (hc : CX Φ w0 w X R L g fp gS bS ga gd gl t)
   (hk : ∀ w', NL w0 w' X R L fp gS bS ga gd gl S yp A4 c4 yp A4 c4 -> CX Φ w0 w' X R L g fp gS bS ga gd gl t -> wpList Tryz.prog ops Q rest (a.put o.dst undef) w') : wpList Tryz.prog ops Q (o :: rest) a w :=
 wpList_store_mid hgd ty x yv ho S 0 #[.int .i64 ga, .int .i64 gd, .int .i64 gl, .slice A4 yp.pages.length c4, .int .u64 (yp.gen.toNat : Int), .int .u64 (yp.life.toNat : Int), .int .i64 yp.base, .int .u64 (yp.began.toNat : Int), .int .i64 (yp.seq : Int), .bool yp.due] hx hy (there_sub (o := 0) (n := 10) hn.blk (by simp)) hi (by simp [Value.oneCell']) (hk _ (show NL w0 (set10 w S (.int .i64 ga) (.int .i64 gd) (.int .i64 gl) (.slice A4 yp.pages.length c4) (.int .u64 (yp.gen.toNat : Int)) (.int .u64 (yp.life.toNat : Int)) (.int .i64 yp.base) (.int .u64 (yp.began.toNat : Int)) (.int .i64 (yp.seq : Int)) (.bool yp.due)) X R L fp gS bS ga gd gl S yp A4 c4 yp A4 c4 from hn.loP) (show CX Φ w0 (set10 w S (.int .i64 ga) (.int .i64 gd) (.int .i64 gl) (.slice A4 yp.pages.length c4) (.int .u64 (yp.gen.toNat : Int)) (.int .u64 (yp.life.toNat : Int)) (.int .i64 yp.base) (.int .u64 (yp.began.toNat : Int)) (.int .i64 (yp.seq : Int)) (.bool yp.due)) X R L g fp gS bS ga gd gl t from hn.aside hc (set10_keep (fp := [S]) (Keep.refl _ w) (X := S) (by simp) (.int .i64 ga) (.int .i64 gd) (.int .i64 gl) (.slice A4 yp.pages.length c4) (.int .u64 (yp.gen.toNat : Int)) (.int .u64 (yp.life.toNat : Int)) (.int .i64 yp.base) (.int .u64 (yp.began.toNat : Int)) (.int .i64 (yp.seq : Int)) (.bool yp.due))))
end
section
variable {w0 w w' : World} {X R L g : Nat} {fp : List Nat} {gS bS : Nat} {ga gd gl : Int} {n t : Nat}
theorem ComR.split {y yn : RS} {er : Int} {ua : Bool} {f : Int} (h : ComR ga gd gl n y yn er ua w0 w X R L g fp gS bS t f w') : ∃ L' fp', Keep (X :: R :: L :: bS :: fp) w w' /\ FreshL w L fp L' fp' /\ Below w0.heap.size w0 w' /\
   ((f = er /\ CX (Al ga gd gl n yn.pages yn.gen none ua (t + 1)) w0 w' X R L' g fp' gS bS ga gd gl (t + 1)) \/
     (f = 12 /\ er = 0 /\ ua = false /\ CX (De ga gd gl n (fun P g => (P = y.pages /\ g = y.gen) \/ (P = yn.pages /\ g = yn.gen)) (t + 1)) w0 w' X R L' g fp' gS bS ga gd gl (t + 1))) := by
 rcases h with ⟨e, L', fp', a, k, f⟩ | ⟨e, e2, e3, L', fp', a, k, f⟩
 · exact ⟨L', fp', k, f, a.bel, .inl ⟨e, a⟩⟩
 · exact ⟨L', fp', k, f, a.bel, .inr ⟨e, e2, e3, a⟩⟩
theorem RenT.split {P : List (List UInt8)} {gen : UInt64} {ua : Bool} {f : Int} (h : RenT ga gd gl n P gen ua w0 w X R L g fp gS bS t f w') : ∃ L' fp', Keep (X :: R :: L :: bS :: fp) w w' /\ FreshL w L fp L' fp' /\ Below w0.heap.size w0 w' /\
   ((f = 0 /\ CX (Al ga gd gl n P gen none ua (t + 1)) w0 w' X R L' g fp' gS bS ga gd gl (t + 1)) \/
     (f = 12 /\ ua = false /\ CX (De ga gd gl n (fun P' g => P' = P /\ g = gen) (t + 1)) w0 w' X R L' g fp' gS bS ga gd gl (t + 1))) := by
 rcases h with ⟨e, L', fp', a, k, f⟩ | ⟨e, e3, L', fp', a, k, f⟩
 · exact ⟨L', fp', k, f, a.bel, .inl ⟨e, a⟩⟩
 · exact ⟨L', fp', k, f, a.bel, .inr ⟨e, e3, a⟩⟩
def Fate9 (ga gd gl : Int) (n : Nat) (y yp : RS) (ua : Bool) (w0 wx : World) (X R L g : Nat) (fp : List Nat) (gS bS t : Nat) : Prop :=
 CX (Al ga gd gl n y.pages y.gen none ua t) w0 wx X R L g fp gS bS ga gd gl t \/ (ua = false /\ CX (De ga gd gl n (fun P g => (P = y.pages /\ g = y.gen) \/ (P = yp.pages /\ g = yp.gen)) t) w0 wx X R L g fp gS bS ga gd gl t)
def Mid9 (ga gd gl : Int) (n : Nat) (w0 : World) (X R g gS bS S q : Nat) (ua : Bool) (t : Nat) (wx : World) : Prop :=
 ∃ L fp y A c yp A' c', NL w0 wx X R L fp gS bS ga gd gl S y A c yp A' c' /\ YOk ga gd gl y (q + 2) /\ YOk ga gd gl yp (q + 2) /\ Fate9 ga gd gl n y yp ua w0 wx X R L g fp gS bS t
theorem RX.bel {ok : List (List UInt8) -> UInt64 -> Prop} {t9 : Nat} (h : RX ga gd gl n ok t9 w0 w g fp gS bS t) : Below w0.heap.size w0 w := by
 obtain ⟨s, l, life, base, gen0, P0, ts, h1, h2, h3, h4, h5, h6, h7, h8, h9, h10⟩ := h
 exact h9
end
end Go.Proofs.YtchcmklelmlbgaaGreat.Sto
