/- Texts of this claim, joined: Wal10Q, WalPutQ, WalPut2Q, WalCrPQ, WalCrSQ, StPlainQ, StCrashQ, StCrash2Q, StCrash3Q, StCrash4Q, WalTxQ, Snap8Q, SupL1Q, Rows20Q, SnapL1Q, WalL1Q, WalRf3Q, WalRefQ, OpenSecQ, OpenSecsQ, WalRfQ, WalRf2Q, WalRf4Q, StoFQ, SupL2Q, SnapRdQ, SnapL2Q, WalCallsQ, WalL2Q, StoPQ, StoK1Q, OpenTxnsQ, OpenActsQ, StoA1Q, Sto1Q, Sto2Q, Sto6Q, Sto7Q, Sto3Q. -/
import Derived.Test.YtchcmklelmlbgaaGreatStoreCrashesC
import Derived.Test.YtchcmklelmlbgaaGreatStoreCrashesB
import Derived.Test.YtchcmklelmlbgaaGreatStoreCrashesA
import Derived.Lib.MinMax
import Derived.Deep.RegionLaw
import Derived.Test.YtchcmklelmlbgaaGreatRows
import Derived.Outline
import Derived.Deep.RegionHeld3
import Derived.Deep.RegionWith
namespace Go.Proofs.YtchcmklelmlbgaaGreat.Wal
open Go.RowKit Go.Shelf
open Go.Proofs.YtchcmklelmlbgaaGreat.Geom
open Go.Proofs.YtchcmklelmlbgaaGreat.Ch (SeqOk range_ok)
open Go.Proofs.YtchcmklelmlbgaaGreat.Sup (Gb gv gcell gthree)
open Go.Proofs.YtchcmklelmlbgaaGreat.Disk (St DAt)
open Go.Proofs.YtchcmklelmlbgaaGreat.Sec (X)
attribute [local go_sem] Oper.semAt_some
set_option linter.unusedVariables false
set_option maxRecDepth 100000
theorem It.Ok.grown {n0 : Nat} {W W' : World} {t : It} {row : Option Nat} (h : It.Ok n0 W t) (hg : W.grownBy W' row) (hr : ∀ r, row = some r -> ∃ o : Obj, W.heap[r]? = some o /\ o.isCells = false) : It.Ok n0 W' t :=
 ⟨ownU h.1 fun j cs hj => hg.block j (lt_of_block hj) fun e => (by
   obtain ⟨o, ho, hc⟩ := hr j e.symm
   rw [hj] at ho; cases ho; cases hc), h.2⟩
theorem It.Ok.on {n0 : Nat} {W W' : World} {t : It} (h : It.Ok n0 W t) (b : Below W.heap.size W W') : It.Ok n0 W' t := ⟨own_on h.1 b, h.2⟩
def OwnTx (w : World) (base : Nat) (v : Value) (l : List Tx) : Prop := ∃ trs : List Tr, w.ownsRow base 106 2 v trs.length (trs.flatMap Tr.cells) /\ trs.map Tr.tx = l /\ (∀ t ∈ trs, TrOk w base none t) /\ trs.length <= 100000
def scanTx (l : List (List UInt8)) (s : St) (ga gd gl base : Int) (life : UInt64) : List Tx := (scanH (pagesOf ga gd gl) (fun k => (rdL l s ga gd gl base k).1) (goodL l s ga gd gl base life) gl.toNat 0 r00).all
theorem PrOk.base {w : World} {n0 n1 : Nat} {p : Pr} (h : PrOk w n0 p) (hb : n1 <= n0) : PrOk w n1 p :=
 ⟨fun hne => by obtain ⟨g, off, cs, e, hg, hh, hc⟩ := h.rd hne; exact ⟨g, off, cs, e, Nat.le_trans hb hg, hh, hc⟩, h.cap, h.max, h.lo, h.hi, h.len⟩
theorem RdAt.tx {w : World} {n0 T b : Nat} {np : Int} {r : Rg} {allv nowv : Value} {trs : List Tr} {prs : List Pr} (h : RdAt w n0 T np r allv nowv trs prs) (hb : b <= n0) : OwnTx w b allv r.all :=
 ⟨trs, own_base h.all hb, h.eA.symm, fun t ht => ⟨own_base (h.okA t ht).row hb, fun g _ e => (by cases e), fun p hp => ((h.okA t ht).pages p hp).base hb⟩, h.bd.1⟩
structure SInv (w w4 : World) (np : Int) (T F : Nat) (pre : List It) (X : World) : Prop where
 rd : ∃ allv nowv trs prs, RdAt X w4.heap.size T np (foldR np (pre.map It.f)) allv nowv trs prs
 kp : KpK T w4.heap.size w4 X
 bel : Below w.heap.size w X
theorem SInv.own {w w4 : World} {np : Int} {T F : Nat} (hw : w.heap.size <= w4.heap.size) : OwnFrom w4.heap.size (SInv w w4 np T F) := by
 intro pre X X' row hI hg hr
 obtain ⟨⟨allv, nowv, trs, prs, h⟩, kp, b⟩ := hI
 exact ⟨⟨allv, nowv, trs, prs, h.own hg hr⟩, kpK_grown kp hg (fun r e => (hr r e).1) (Nat.le_refl _), b.grown hg (by have := b.size; omega) (fun r e => by have := (hr r e).1; omega)⟩
set_option maxHeartbeats 2000000 in
theorem scan_any (g : Nat) (fp : List Nat) (s : St) (gS bS : Nat) (l : List (List UInt8)) (ga gd gl : Int) (life : UInt64) (base : Int) (w : World) (hG : Gb ga gd gl) (h : Both w g fp s gS bS l) (hl : l.length <= 1000000) (hs : s.sz <= 90000000) (hf : wrightF s ga gd gl base = 0) (hd : s.down = false) :
   Calls Tryz.prog 55 #[.pointer (some ⟨g, 0, none⟩), .pointer (some ⟨gS, 0, none⟩), gv ga gd gl, .int .u64 (life.toNat : Int), .int .i64 base] w fun e w' => (∃ v, e = .returned (.tuple #[v, .int .i64 0]) /\ OwnTx w' w.heap.size v (scanTx l s ga gd gl base life)) /\ Below w.heap.size w w' := by
 have FG := Blk.new w (gcell ga gd gl) 23
 obtain ⟨z0, z1, z2⟩ := gthree FG
 have HR := Lib.hid (fun W (bW : Below w.heap.size w W) => right_any g fp s gS ga gd gl life base W hG (h.disk.on bW))
 rw [hf] at HR
 obtain ⟨hr, hsz, hb0, hb1⟩ : right ga gd gl = true /\ (s.size : Int) = Geom.sizeOf ga gd gl /\ 0 <= base /\ base <= 1073741824 := by
   unfold wrightF at hf
   split at hf
   · assumption
   · cases hf
 have hry := right_yes hr
 have HP := Lib.hid (fun W => Geom.pages_any ga gd gl W hG.a0 hG.a1 hG.d0 hG.d1 hG.g0 hG.g1)
 obtain ⟨np, hnp⟩ : ∃ np, np = pagesOf ga gd gl := ⟨_, rfl⟩
 rw [<- hnp] at HP
 have hnp0 : 0 <= np /\ np <= 100 := by have := pagesOf_bd ga gd gl; omega
 have HR0 := Lib.hid (show scanTx l s ga gd gl base life = (scanH np (fun k => (rdL l s ga gd gl base k).1) (goodL l s ga gd gl base life) gl.toNat 0 r00).all by rw [hnp]; rfl)
 obtain ⟨R, hR⟩ : ∃ R, R = scanTx l s ga gd gl base life := ⟨_, rfl⟩
 rw [<- hR]
 have HRR := Lib.hid hR
 clear hR hnp
 refine (callsIn_wide (n := 8)).1 ?_
 refine callsIn_of_wp_marks Tryz.func55 rfl trivial ?_ rfl
 simp only [Tryz.ntmps55, List.size_toArray, List.length_cons, List.length_nil, Nat.reduceAdd, Nat.reduceSub, Array.replicate_succ, Array.replicate_zero, List.push_toArray, List.append_toArray, List.nil_append, List.cons_append]
 gi_wp2_with fail
 refine wpIn_wide.2 (wp_scope_straight ((wpIn_wide (n := 8)).1 ?_))
 gi_wp2_with fail
 obtain ⟨w0, hw0⟩ : ∃ w0, w0 = (w.alloc (.cells (gcell ga gd gl).toArray 23)).alloc (.cells (rcell (.pointer (some ⟨g, 0, none⟩)) (.pointer (some ⟨gS, 0, none⟩)) ga gd gl life base).toArray 133) := ⟨_, rfl⟩
 have ba : Blk w0 (w.heap.size + 1) (rcell (.pointer (some ⟨g, 0, none⟩)) (.pointer (some ⟨gS, 0, none⟩)) ga gd gl life base) := by
   rw [hw0]
   have := Blk.new (w.alloc (.cells (gcell ga gd gl).toArray 23)) (rcell (.pointer (some ⟨g, 0, none⟩)) (.pointer (some ⟨gS, 0, none⟩)) ga gd gl life base) 133
   simpa using this
 have bg : Blk w0 w.heap.size (gcell ga gd gl) := by rw [hw0]; exact FG.alloc _
 have b0 : Below w.heap.size w w0 := by rw [hw0]; exact b2alloc _ _ _
 rw [show (w.alloc (.cells #[.int .i64 ga, .int .i64 gd, .int .i64 gl] 23)).alloc (.cells #[.pointer (some ⟨g, 0, none⟩), .pointer (some ⟨gS, 0, none⟩), .int .i64 ga, .int .i64 gd, .int .i64 gl, .int .u64 (life.toNat : Int), .int .i64 base] 133) = w0 from hw0.symm]
 clear hw0 z0 z1 z2 FG
 refine ⟨trivial, (callsIn_wide.2 (HR.out _ b0)).mono ?_⟩
 rintro e1 w1 ⟨rfl, b1⟩
 have b01 := bt b0 b1
 have bg1 := (bg.on b1).alloc (.cells #[.int .i64 0] 29)
 obtain ⟨z0, z1, z2⟩ := gthree bg1
 gi_wp2_with fail
 have bf := Boxed.new w1 29 (.int .i64 0)
 have b1f := b1alloc w1 (.cells #[.int .i64 0] 29)
 refine ⟨trivial, (callsIn_wide.2 (HP.out _)).mono ?_⟩
 rintro e2 w2 ⟨rfl, b2⟩
 clear z0 z1 z2
 gi_wp2_with fail
 refine wpIn_label ?_
 obtain ⟨w3, hw3⟩ : ∃ w3, w3 = (w2.alloc (.cells #[.slice none 0 0, .slice none 0 0, .int .u64 0, .int .u64 0, .int .i64 np] 152)).alloc (.cells #[.pointer (some ⟨w2.heap.size, 0, none⟩)] 150) := ⟨_, rfl⟩
 have bT : Blk w3 w2.heap.size [.slice none 0 0, .slice none 0 0, .int .u64 0, .int .u64 0, .int .i64 np] := by
   rw [hw3]; exact (Blk.new w2 [.slice none 0 0, .slice none 0 0, .int .u64 0, .int .u64 0, .int .i64 np] 152).alloc _
 have bP : Box w3 (w2.heap.size + 1) (.pointer (some ⟨w2.heap.size, 0, none⟩)) := by
   rw [hw3]
   have := Box.new (w2.alloc (.cells #[.slice none 0 0, .slice none 0 0, .int .u64 0, .int .u64 0, .int .i64 np] 152)) 150 (.pointer (some ⟨w2.heap.size, 0, none⟩))
   simpa using this
 have b3 : Below w2.heap.size w2 w3 := by rw [hw3]; exact b2alloc _ _ _
 rw [show (w2.alloc (.cells #[.slice none 0 0, .slice none 0 0, .int .u64 0, .int .u64 0, .int .i64 np] 152)).alloc (.cells #[.pointer (some ⟨w2.heap.size, 0, none⟩)] 150) = w3 from hw3.symm]
 clear hw3
 have bf2 : Box w3 w1.heap.size (.int .i64 0) := ⟨_, ((bt b2 b3).block _ bf.lt).trans bf⟩
 have ba3 : Blk w3 (w.heap.size + 1) (rcell (.pointer (some ⟨g, 0, none⟩)) (.pointer (some ⟨gS, 0, none⟩)) ga gd gl life base) := ba.on (bt (bt b1 b1f) (bt b2 b3))
 obtain ⟨z0, z1, z2, z3, z4, z5, z6⟩ := seven7 ba3
 have s01 := ba.lt
 have s1 := b1.size
 have s1f : w1.heap.size < (w1.alloc (.cells #[.int .i64 0] 29)).heap.size := by simp
 have s2 := b2.size
 have s3 := b3.size
 have lP := bP.lt
 gi_wp2_with fail
 refine ⟨trivial, (callsIn_wide.2 (sectors_any g gS w1.heap.size ga gd gl life base w3)).mono ?_⟩
 rintro e4 w4 ⟨rfl, hP4, b4⟩
 have s4 := b4.size
 have lS := hP4.fault.lt
 have b03 : Below w.heap.size w w3 := bt (bt b01 b1f) (bt b2 b3)
 have b04 := bt b03 b4
 have hB4 := h.on b04
 clear z0 z1 z2 z3 z4 z5 z6
 have hne : ∀ j ∈ bS :: gS :: fp, j ≠ w2.heap.size := by
   intro j hj
   have := b01.size
   rcases List.mem_cons.1 hj with e | e
   · have := h.sym.lt.2; omega
   rcases List.mem_cons.1 e with e | e
   · have := h.sym.lt.1; omega
   · have := h.disk.lt _ e; omega
 have hr0 : RdAt w4 w4.heap.size w2.heap.size np (foldR np []) (.slice none 0 0) (.slice none 0 0) [] [] :=
   ⟨bT.on b4, own_nil _ _ _ _, own_nil _ _ _ _, fun t ht => (by cases ht), fun t ht => (by cases ht), rfl, rfl, by have := (bT.on b4).lt; omega, Nat.le_refl _, by simp⟩
 have hS0 := SInv.own (np := np) (T := w2.heap.size) (F := w1.heap.size) (w := w) (w4 := w4) b04.size
 obtain ⟨N, hN⟩ : ∃ N : Nat, N = gl.toNat := ⟨_, rfl⟩
 have hNg : (N : Int) = gl := by omega
 rw [<- hN] at HR0
 gi_wp2_with fail
 refine range_ok (n := 8) (by omega) (gf := 117) (lb := #[.pointer (some ⟨w3.heap.size, 0, none⟩), .pointer (some ⟨w3.heap.size + 1, 0, none⟩)]) rfl (enters_of Tryz.func117 (by kernel_rfl) rfl)
   (secs1_ok 7 (by omega) w2.heap.size w3.heap.size (w3.heap.size + 1) w1.heap.size g fp s gS bS l ga gd gl life base N hG hNg hr hb0 hb1 hl hs hd hsz w4 hP4 hB4 hne (by omega))
   (fun h k => h.trans k) (fun W l o o' hl h _ _ => KpK.turn W l o' hl) (Below.refl _ _) (fun _ => rfl)
   (fun pre X => SInv w w4 np w2.heap.size w1.heap.size pre X /\ okR np (pre.map It.f))
   (fun c (pre' : List It) X => (∃ (pre : List It) (x : It), pre' = pre ++ [x] /\ c = .exit 0 /\ okR np (pre.map It.f) /\ (takeF np (foldR np (pre.map It.f)) x.k x.x).2 = false) /\ SInv w w4 np w2.heap.size w1.heap.size pre' X)
   (fun pre X X' row hI hg hr => ⟨hS0 pre X X' row hI.1 hg hr, hI.2⟩)
   (fun c pre X X' row hI hg hr => ⟨hI.1, hS0 pre X X' row hI.2 hg hr⟩)
   ⟨⟨⟨_, _, _, _, hr0⟩, KpK.refl _ _ _, b04⟩, okR_nil np⟩
   (fun pre x a' X => ∃ pb, a' = { tmps := #[.pointer (some ⟨g, 0, none⟩), .pointer (some ⟨gS, 0, none⟩), gv ga gd gl, .int .u64 (life.toNat : Int), .int .i64 base, undef, undef, .pointer (some ⟨w.heap.size, 0, none⟩), undef, undef, .slice none 0 0, .int .i64 0, .pointer (some ⟨w.heap.size + 1, 0, none⟩), .int .i64 0, .pointer (some ⟨w1.heap.size, 0, none⟩), .pointer (some ⟨w2.heap.size + 1, 0, none⟩), .int .i64 (x.k : Int), .pointer (some ⟨pb, 0, none⟩), .pointer (some ⟨g, 0, none⟩), .pointer (some ⟨gS, 0, none⟩), gv ga gd gl, .int .u64 (life.toNat : Int), .int .i64 base, (rv (.pointer (some ⟨g, 0, none⟩)) (.pointer (some ⟨gS, 0, none⟩)) ga gd gl life base), (rv (.pointer (some ⟨g, 0, none⟩)) (.pointer (some ⟨gS, 0, none⟩)) ga gd gl life base), .int .i64 0, .int .i64 0, .bool false, undef, gv ga gd gl, .int .i64 np, .agg #[.slice none 0 0, .slice none 0 0, .int .u64 0, .int .u64 0, .int .i64 np], .pointer (some ⟨w2.heap.size, 0, none⟩), (rv (.pointer (some ⟨g, 0, none⟩)) (.pointer (some ⟨gS, 0, none⟩)) ga gd gl life base), .func (.func 117) #[] #[.pointer (some ⟨w3.heap.size, 0, none⟩), .pointer (some ⟨w3.heap.size + 1, 0, none⟩)], .int .i64 (x.k : Int), .agg #[.int .i64 x.x.kind, .int .u64 (x.x.life.toNat : Int), .int .i64 x.x.seq, .int .u64 (x.x.gen.toNat : Int), .slice x.A x.x.body.length x.c], undef, undef, undef, undef, undef, undef, undef, undef, undef, undef, undef, undef], defers := [] } /\ Blk X pb [.int .i64 x.x.kind, .int .u64 (x.x.life.toNat : Int), .int .i64 x.x.seq, .int .u64 (x.x.gen.toNat : Int), .slice x.A x.x.body.length x.c] /\ w4.heap.size <= pb /\ It.Ok w4.heap.size X x /\ SInv w w4 np w2.heap.size w1.heap.size pre X /\ okR np (pre.map It.f))
   ?_ ?assign ?body ?done ?stop
 · rintro pre x a' X lp o o' hl ho hc ⟨pb, rfl, hpb, hpl, hok, hIx, hokr⟩
   have hg := grownBy_putObj' X lp o'
   refine ⟨pb, rfl, ?_, hpl, hok.grown hg (fun r e => by cases e; exact ⟨o, ho, hc⟩), hS0 pre X _ (some lp) hIx hg (fun r e => by cases e; exact ⟨hl, o, ho, hc⟩), hokr⟩
   obtain ⟨t, ht⟩ := hpb
   refine ⟨t, (hg.block pb (lt_of_block ht) (fun e => ?_)).trans ht⟩
   injection e with e
   subst e
   rw [ht] at ho; cases ho; cases hc
 case assign =>
   intro lp pre x X hIx hok hlen
   unfold It.enc
   simp [List.zip_toArray, List.setIfInBounds_toArray]
   gi_wp2
   refine ⟨KeepsOthers.alloc _ _, KpK.of_below (b1alloc _ _) hIx.1.kp.size, X.heap.size, rfl, Blk.new X [.int .i64 x.x.kind, .int .u64 (x.x.life.toNat : Int), .int .i64 x.x.seq, .int .u64 (x.x.gen.toNat : Int), .slice x.A x.x.body.length x.c] _, hIx.1.kp.size, hok.on (b1alloc _ _), hS0 pre X _ none hIx.1 (below_grown (b1alloc _ _) none) (fun r e => by cases e), hIx.2⟩
 case body =>
   rintro lp pre x a' X ⟨pb, rfl, hpb, hpl, hok, ⟨⟨allv, nowv, trs, prs, hrd⟩, hkp, hbX⟩, hokr⟩ hlen
   obtain ⟨x0, x1, x2, x3, x4⟩ := five5r hpb
   have hP := (Box.on' bP b4).kpk hkp (by omega) (by omega)
   have p0 := hP.cell
   have hlx := hpb.lt
   have lP := hP.lt
   have hln := foldR_len np _ (pre.map It.f) rfl
   rw [List.length_map] at hln
   have e1 := congrArg List.length hrd.eA
   have e2 := congrArg List.length hrd.eN
   rw [List.length_map] at e1 e2
   have HT := Lib.hid (take_any w4.heap.size w2.heap.size np (foldR np (pre.map It.f)) allv nowv trs prs x.k x.x x.A x.c X hrd hok.1 hok.2.1 hok.2.2 hnp0.1 hnp0.2 (by omega) (by omega))
   have hsn : foldR np ((pre ++ [x]).map It.f) = (takeF np (foldR np (pre.map It.f)) x.k x.x).1 := by rw [List.map_append]; exact foldR_snoc np (pre.map It.f) x.f
   have hso : (takeF np (foldR np (pre.map It.f)) x.k x.x).2 = true -> okR np ((pre ++ [x]).map It.f) := fun h => by rw [List.map_append]; exact okR_snoc hokr h
   obtain ⟨q, hq⟩ : ∃ q, q = takeF np (foldR np (pre.map It.f)) x.k x.x := ⟨_, rfl⟩
   rw [<- hq] at HT hsn hso
   have Hq := Lib.hid hq
   have Hsn := Lib.hid hsn
   have Hso := Lib.hid hso
   clear hq hsn hso hln e1 e2 hrd
   gi_wp2_with fail
   refine ⟨trivial, (callsIn_wide.2 HT.out).mono ?_⟩
   rintro e5 w5 ⟨rfl, hR5, hk5, hp5⟩
   have hb5 : Below w.heap.size w w5 := ⟨hp5.1.trans hbX.os, hp5.2.1.trans hbX.tape, hp5.2.2.1.trans hbX.output, Nat.le_trans hbX.size hp5.size, fun j hj => (hp5.block (by omega) (by omega)).trans (hbX.block j hj)⟩
   obtain ⟨r5, t5⟩ := q
   have hS5 : SInv w w4 np w2.heap.size w1.heap.size (pre ++ [x]) w5 := ⟨by rw [Hsn.out]; exact hR5, hkp.trans hp5, hb5⟩
   cases t5 with
   | true =>
     gi_wp2
     exact ⟨hk5, hp5, hS5, Hso.out (by first | trivial | rfl)⟩
   | false =>
     gi_wp2
     exact ⟨hk5, ⟨pre, x, rfl, rfl, hokr, by rw [<- Hq.out]⟩, hS5⟩
 case done =>
   rintro D xs X hD ⟨k, ⟨hkN, hmap, hgood⟩, hend⟩ ⟨⟨⟨allv, nowv, trs, prs, hrd⟩, hkp, hbX⟩, hokr⟩ hKD
   have hexit : R = (foldR np (xs.map It.f)).all := by
     rw [HRR.out, HR0.out, hmap]
     rw [hmap] at hokr
     exact congrArg Rg.all (scanH_done hkN hgood hokr hend)
   have hfb := Box.on' bf2 b4
   have f0 := (hfb.kpk hkp (by omega) (by omega)).cell
   have p0 := ((Box.on' bP b4).kpk hkp (by omega) (by omega)).cell
   have lfb := hfb.lt
   obtain ⟨y0, y1, y2, y3, y4⟩ := five5r hrd.blk
   have lT := hrd.blk.lt
   have lXs := hkp.size
   have g0 := grownBy_putObj' X D (.deferred none)
   have Hrd := Lib.hid (hrd.own g0 (fun r e => (by cases e; exact ⟨hD, _, hKD, rfl⟩)))
   have Hex := Lib.hid hexit
   clear hexit hrd hfb
   gi_wp2_with fail
   refine ⟨by simp, .inl ⟨_, _, rfl, run_takeDeferred hKD, ?_⟩⟩
   refine ⟨.tuple #[allv, .int .i64 0], (by simp [results, Tryz.results55, go_sem]), ?_⟩
   refine ⟨⟨allv, rfl, ?_⟩, hbX.trans (belowK_b (w := w) (Nat.le_refl _) _ D _ _ (by have := b04.size; omega) hKD rfl rfl)⟩
   rw [Hex.out]
   exact Hrd.out.tx b04.size
 case stop =>
   rintro D c pre' X hD ⟨k, hkN, hmap, hgood⟩ ⟨⟨pre, x, rfl, rfl, hokr, hlast⟩, ⟨⟨allv, nowv, trs, prs, hrd⟩, hkp, hbX⟩⟩ hKD
   have hk1 : pre.length + 1 = k := by simpa using congrArg List.length hmap
   subst hk1
   have hmap2 := hmap
   rw [List.range_succ, List.map_append, List.map_append] at hmap2
   obtain ⟨hm1, hm2⟩ := List.append_inj' hmap2 rfl
   simp only [List.map_cons, List.map_nil, List.cons.injEq, and_true] at hm2
   have hxk : x.k = pre.length := congrArg Prod.fst hm2
   have hxx : x.x = (rdL l s ga gd gl base pre.length).1 := congrArg Prod.snd hm2
   have hexit : R = (foldR np ((pre ++ [x]).map It.f)).all := by
     rw [HRR.out, HR0.out, hmap]
     rw [hm1] at hokr
     rw [hm1, hxk, hxx] at hlast
     exact congrArg Rg.all (scanH_stop hkN hgood hokr hlast)
   clear hm1 hm2 hxk hxx hmap2
   have hfb := Box.on' bf2 b4
   have f0 := (hfb.kpk hkp (by omega) (by omega)).cell
   have p0 := ((Box.on' bP b4).kpk hkp (by omega) (by omega)).cell
   have lfb := hfb.lt
   obtain ⟨y0, y1, y2, y3, y4⟩ := five5r hrd.blk
   have lT := hrd.blk.lt
   have lXs := hkp.size
   have g0 := grownBy_putObj' X D (.deferred none)
   have Hrd := Lib.hid (hrd.own g0 (fun r e => (by cases e; exact ⟨hD, _, hKD, rfl⟩)))
   have Hex := Lib.hid hexit
   clear hexit hrd hfb
   gi_wp2_with fail
   refine ⟨by simp, .inl ⟨_, _, rfl, run_takeDeferred hKD, ?_⟩⟩
   refine ⟨.tuple #[allv, .int .i64 0], (by simp [results, Tryz.results55, go_sem]), ?_⟩
   refine ⟨⟨allv, rfl, ?_⟩, hbX.trans (belowK_b (w := w) (Nat.le_refl _) _ D _ _ (by have := b04.size; omega) hKD rfl rfl)⟩
   rw [Hex.out]
   exact Hrd.out.tx b04.size
end Go.Proofs.YtchcmklelmlbgaaGreat.Wal
namespace Go.Proofs.YtchcmklelmlbgaaGreat.Wal
open Go.RowKit
open Go.Proofs.YtchcmklelmlbgaaGreat.Geom
open Go.Proofs.YtchcmklelmlbgaaGreat.Num (putL putL_len getN getN_putL)
open Go.Proofs.YtchcmklelmlbgaaGreat.Disk (St Wr write flush read kept new zero512)
open Go.Proofs.YtchcmklelmlbgaaGreat.Sec (X X0 text rightF)
open Go.Proofs.YtchcmklelmlbgaaGreat.Sup (UpN Gb)
open Go.Proofs.YtchcmklelmlbgaaGreat.Enc (Itm Enf enf enf_of More kept_of rd rd_good rd_zero)
set_option linter.unusedVariables false
def takes (np : Int) : List (Nat × X) -> Rg -> Rg × Bool
 | [], r => (r, true)
 | t :: l, r => if (takeF np r t.1 t.2).2 = true then takes np l (takeF np r t.1 t.2).1 else ((takeF np r t.1 t.2).1, false)
theorem takes_append (np : Int) : ∀ (a b : List (Nat × X)) (r r' : Rg), takes np a r = (r', true) -> takes np (a ++ b) r = takes np b r'
 | [], b, r, r', h => by injection h with h _; subst h; rfl
 | t :: a, b, r, r', h => by
   unfold takes at h
   rw [List.cons_append]
   show (if _ then _ else _) = _
   split at h
   · rename_i ht
     rw [if_pos ht]
     exact takes_append np a b _ _ h
   · cases h
theorem takes_fold (np : Int) : ∀ (l : List (Nat × X)) (r' : Rg) (pre : List (Nat × X)), okR np pre -> takes np l (foldR np pre) = (r', true) -> okR np (pre ++ l) /\ foldR np (pre ++ l) = r'
 | [], r', pre, ho, h => by injection h with h _; rw [List.append_nil]; exact ⟨ho, h⟩
 | t :: l, r', pre, ho, h => by
   unfold takes at h
   split at h
   · rename_i ht
     have := takes_fold np l r' (pre ++ [t]) (okR_snoc ho ht) (by rw [foldR_snoc]; exact h)
     simpa using this
   · cases h
def dSecs (life : UInt64) (q : Nat) (gen : UInt64) : Nat -> List Pg -> List X
 | _, [] => []
 | i, x :: r => dX 4 life q i gen x.n.toNat x.body :: dSecs life q gen (i + 1) r
def tSecs (life : UInt64) (q : Nat) (t : Tx) : List X := dSecs life q t.gen 0 t.pages ++ [dX 5 life q t.pages.length t.gen t.pages.length []]
theorem dSecs_len (life : UInt64) (q : Nat) (gen : UInt64) : ∀ (l : List Pg) (i : Nat), (dSecs life q gen i l).length = l.length
 | [], i => rfl
 | x :: r, i => by simp [dSecs, dSecs_len life q gen r (i + 1)]
theorem tSecs_len (life : UInt64) (q : Nat) (t : Tx) : (tSecs life q t).length = t.pages.length + 1 := by simp [tSecs, dSecs_len]
theorem dSecs_get (life : UInt64) (q : Nat) (gen : UInt64) : ∀ (l : List Pg) (i k : Nat) (h : k < (dSecs life q gen i l).length) (h' : k < l.length), (dSecs life q gen i l)[k] = dX 4 life q (i + k) gen l[k].n.toNat l[k].body
 | [], i, k, h, h' => absurd h' (by simp)
 | x :: r, i, 0, h, h' => rfl
 | x :: r, i, k + 1, h, h' => by
   have := dSecs_get life q gen r (i + 1) k (by rw [dSecs_len]; simpa using h') (by simpa using h')
   rw [show i + (k + 1) = i + 1 + k by omega]
   exact this
theorem tSecs_at (life : UInt64) (q : Nat) (t : Tx) (k : Nat) (h : k < (tSecs life q t).length) : (tSecs life q t)[k].life = life /\ (tSecs life q t)[k].seq = ((q + k : Nat) : Int) := by
 have hk := tSecs_len life q t
 have h0 : k < (dSecs life q t.gen 0 t.pages ++ [dX 5 life q t.pages.length t.gen t.pages.length []]).length := h
 show ((dSecs life q t.gen 0 t.pages ++ [dX 5 life q t.pages.length t.gen t.pages.length []])[k]'h0).life = life /\ ((dSecs life q t.gen 0 t.pages ++ [dX 5 life q t.pages.length t.gen t.pages.length []])[k]'h0).seq = ((q + k : Nat) : Int)
 by_cases h1 : k < t.pages.length
 · rw [List.getElem_append_left (by rw [dSecs_len]; exact h1), dSecs_get _ _ _ _ _ _ _ h1, Nat.zero_add]
   exact ⟨rfl, rfl⟩
 · obtain rfl : k = t.pages.length := by omega
   rw [List.getElem_append_right (Nat.le_of_eq (dSecs_len _ _ _ _ _))]
   simp only [dSecs_len, Nat.sub_self, List.getElem_cons_zero]
   exact ⟨rfl, rfl⟩
def num (q : Nat) : List X -> List (Nat × X)
 | [] => []
 | x :: r => (q, x) :: num (q + 1) r
theorem num_append (q : Nat) : ∀ (a b : List X), num q (a ++ b) = num q a ++ num (q + a.length) b
 | [], b => by simp [num]
 | x :: a, b => by simp only [List.cons_append, num, List.length_cons]; rw [num_append (q + 1) a b, show q + 1 + a.length = q + (a.length + 1) by omega]
theorem num_range (l : List X) : (List.range l.length).map (fun j => (j, l.getD j X0)) = num 0 l := by
 have h : ∀ (l : List X) (q : Nat) (f : Nat -> X), (∀ j (h : j < l.length), f (q + j) = l[j]) -> (List.range' q l.length).map (fun j => (j, f j)) = num q l := by
   intro l
   induction l with
   | nil => intro q f hf; rfl
   | cons x l ih =>
     intro q f hf
     rw [List.length_cons, List.range'_succ, List.map_cons, num]
     congr 1
     · rw [show f q = x by have := hf 0 (by simp); rw [Nat.add_zero] at this; exact this]
     · exact ih (q + 1) f (fun j hj => by have := hf (j + 1) (by simpa using hj); rw [show q + 1 + j = q + (j + 1) by omega]; simpa using this)
 rw [List.range_eq_range']
 exact h l 0 _ (fun j hj => by simp [List.getD, hj])
theorem take_dX4 {np : Int} {life : UInt64} {q i n : Nat} {gen : UInt64} {b : List UInt8} (r : Rg) (hq : q < 4294967296) (hn : n < 65536) (hnp : (n : Int) < np) (hf : r.frm = q) (hg : r.now ≠ [] -> r.gen = gen) (j : Nat) :
   takeF np r j (dX 4 life q i gen n b) = ({ r with gen := gen, now := r.now ++ [⟨(n : Int), b⟩] }, true) := by
 have e0 : (dX 4 life q i gen n b).body = putL q 4 ++ putL n 2 ++ b := rfl
 have h4 := putL_len q 4
 have h2 := putL_len n 2
 have hl : ¬ (dX 4 life q i gen n b).body.length < 6 := by rw [e0]; simp only [List.length_append]; omega
 have ef : fstN (dX 4 life q i gen n b).body = q := by
   unfold fstN
   rw [e0, List.append_assoc, List.take_append_of_le_length (by omega), List.take_of_length_le (by omega), getN_putL]
   exact Nat.mod_eq_of_lt (by rw [show 256 ^ 4 = 4294967296 from rfl]; exact hq)
 have es : sndN (dX 4 life q i gen n b).body = n := by
   unfold sndN
   rw [e0, List.append_assoc, List.drop_append_of_le_length (by omega), List.drop_of_length_le (by omega), List.nil_append, List.take_append_of_le_length (by omega), List.take_of_length_le (by omega), getN_putL]
   exact Nat.mod_eq_of_lt (by rw [show 256 ^ 2 = 65536 from rfl]; exact hn)
 have ed : (dX 4 life q i gen n b).body.drop 6 = b := by
   rw [e0, List.drop_append, List.drop_of_length_le (by rw [List.length_append]; omega), List.nil_append, List.length_append, h4, h2]; rfl
 unfold takeF
 rw [if_neg (fun h => h.elim hl (fun h => h.2 (hg h.1).symm)), ef, es, ed, if_neg (fun h => h hf.symm), if_pos ⟨rfl, hnp⟩]
 rfl
theorem take_dX5 {np : Int} {life : UInt64} {q n : Nat} {gen : UInt64} (r : Rg) (hq : q < 4294967296) (hn : n < 65536) (hf : r.frm = q) (hg : r.now ≠ [] -> r.gen = gen) (hln : r.now.length = n) (j : Nat) :
   takeF np r j (dX 5 life q n gen n []) = (⟨r.all ++ [⟨r.now, gen⟩], [], 0, j + 1⟩, true) := by
 have e0 : (dX 5 life q n gen n []).body = putL q 4 ++ putL n 2 := by show putL q 4 ++ putL n 2 ++ [] = _; rw [List.append_nil]
 have h4 := putL_len q 4
 have h2 := putL_len n 2
 have h6 : (dX 5 life q n gen n []).body.length = 6 := by rw [e0, List.length_append]; omega
 have ef : fstN (dX 5 life q n gen n []).body = q := by
   unfold fstN
   rw [e0, List.take_append_of_le_length (by omega), List.take_of_length_le (by omega), getN_putL]
   exact Nat.mod_eq_of_lt (by rw [show 256 ^ 4 = 4294967296 from rfl]; exact hq)
 have es : sndN (dX 5 life q n gen n []).body = n := by
   unfold sndN
   rw [e0, List.drop_append_of_le_length (by omega), List.drop_of_length_le (by omega), List.nil_append, List.take_of_length_le (by omega), getN_putL]
   exact Nat.mod_eq_of_lt (by rw [show 256 ^ 2 = 65536 from rfl]; exact hn)
 unfold takeF
 rw [if_neg (fun h => h.elim (by omega) (fun h => h.2 (hg h.1).symm)), ef, es, if_neg (fun h => h hf.symm), if_neg (fun h => absurd h.1 (show ¬ (5 : Int) = 4 by decide)), if_pos ⟨rfl, hln.symm, h6⟩]
 rfl
theorem takes_data {np : Int} {life : UInt64} {q : Nat} {gen : UInt64} (hq : q < 4294967296) (hnp : np <= 65536) : ∀ (l : List Pg) (i : Nat) (r : Rg), (∀ x ∈ l, 0 <= x.n /\ x.n < np) -> r.frm = q -> (r.now ≠ [] -> r.gen = gen) ->
   ∃ g, takes np (num (q + i) (dSecs life q gen i l)) r = (⟨r.all, r.now ++ l, g, q⟩, true) /\ (r.now ++ l ≠ [] -> g = gen)
 | [], i, r, _, hf, hg => ⟨r.gen, by subst hf; simp [dSecs, num, takes], by simpa using hg⟩
 | x :: l, i, r, hx, hf, hg => by
   obtain ⟨h0, h1⟩ := hx x (by simp)
   have ht := take_dX4 (np := np) (life := life) (i := i) (b := x.body) (n := x.n.toNat) r hq (by omega) (by omega) hf hg (q + i)
   obtain ⟨g, e1, e2⟩ := takes_data hq hnp l (i + 1) { r with gen := gen, now := r.now ++ [⟨(x.n.toNat : Int), x.body⟩] } (fun y hy => hx y (by simp [hy])) hf (fun _ => rfl)
   have hxe : (⟨(x.n.toNat : Int), x.body⟩ : Pg) = x := by rw [Int.toNat_of_nonneg h0]
   refine ⟨g, ?_, fun _ => e2 (by simp)⟩
   rw [dSecs, num]
   show (if _ then _ else _) = _
   rw [ht, if_pos rfl, show q + i + 1 = q + (i + 1) by omega, e1, hxe]
   simp
theorem takes_tx {np : Int} {life : UInt64} {q : Nat} {t : Tx} (hq : q < 4294967296) (hnp : np <= 65536) (hl : t.pages.length < 65536) (hx : ∀ x ∈ t.pages, 0 <= x.n /\ x.n < np) (A : List Tx) (g : UInt64) :
   takes np (num q (tSecs life q t)) ⟨A, [], g, q⟩ = (⟨A ++ [t], [], 0, q + (t.pages.length + 1)⟩, true) := by
 obtain ⟨g', e1, e2⟩ := takes_data (life := life) (gen := t.gen) hq hnp t.pages 0 ⟨A, [], g, q⟩ hx rfl (fun h => absurd rfl h)
 rw [Nat.add_zero] at e1
 unfold tSecs
 rw [num_append, takes_append np _ _ _ _ e1, dSecs_len]
 show (if _ then _ else _) = _
 have ht := take_dX5 (np := np) (life := life) (n := t.pages.length) (gen := t.gen) ⟨A, [] ++ t.pages, g', q⟩ hq hl rfl (fun h => e2 h) (by simp) (q + t.pages.length)
 rw [ht, if_pos rfl]
 rfl
def allSecs (life : UInt64) : Nat -> List Tx -> List X
 | _, [] => []
 | q, t :: r => tSecs life q t ++ allSecs life (q + (t.pages.length + 1)) r
theorem allSecs_snoc (life : UInt64) : ∀ (l : List Tx) (q : Nat) (t : Tx), allSecs life q (l ++ [t]) = allSecs life q l ++ tSecs life (q + (allSecs life q l).length) t
 | [], q, t => by simp [allSecs]
 | u :: l, q, t => by
   rw [List.cons_append, allSecs, allSecs_snoc life l _ t, allSecs, List.append_assoc, List.length_append, tSecs_len]
   congr 3
   omega
theorem allSecs_at (life : UInt64) : ∀ (l : List Tx) (q k : Nat) (h : k < (allSecs life q l).length), (allSecs life q l)[k].life = life /\ (allSecs life q l)[k].seq = ((q + k : Nat) : Int)
 | [], q, k, h => absurd h (by simp [allSecs])
 | t :: l, q, k, h => by
   simp only [allSecs] at h ⊢
   by_cases h1 : k < (tSecs life q t).length
   · rw [List.getElem_append_left h1]; exact tSecs_at life q t k h1
   · rw [List.getElem_append_right (by omega)]
     have h2 := tSecs_len life q t
     rw [List.length_append] at h
     have := allSecs_at life l (q + (t.pages.length + 1)) (k - (tSecs life q t).length) (by omega)
     rw [show q + (t.pages.length + 1) + (k - (tSecs life q t).length) = q + k by omega] at this
     exact this
theorem takes_all {np : Int} {life : UInt64} (hnp : np <= 65536) : ∀ (l : List Tx) (q : Nat) (A : List Tx) (g : UInt64), q + (allSecs life q l).length < 65536 -> (∀ t ∈ l, ∀ x ∈ t.pages, 0 <= x.n /\ x.n < np) ->
   ∃ g', takes np (num q (allSecs life q l)) ⟨A, [], g, q⟩ = (⟨A ++ l, [], g', q + (allSecs life q l).length⟩, true)
 | [], q, A, g, _, _ => ⟨g, by simp [allSecs, num, takes]⟩
 | t :: l, q, A, g, hq, hx => by
   simp only [allSecs, List.length_append, tSecs_len] at hq ⊢
   obtain ⟨g', e⟩ := takes_all (life := life) hnp l (q + (t.pages.length + 1)) (A ++ [t]) 0 (by omega) (fun u hu => hx u (by simp [hu]))
   refine ⟨g', ?_⟩
   rw [num_append, takes_append np _ _ _ _ (takes_tx (by omega) hnp (by omega) (hx t (by simp)) A g), tSecs_len, e, List.append_assoc]
   congr 2
   omega
theorem scan_all {np : Int} {life : UInt64} {rdf : Nat -> X} {good : Nat -> Bool} {N : Nat} {l : List Tx} (hnp : np <= 65536) (hN : (allSecs life 0 l).length <= N) (hN1 : N < 65536) (hx : ∀ t ∈ l, ∀ x ∈ t.pages, 0 <= x.n /\ x.n < np)
   (hr : ∀ k (h : k < (allSecs life 0 l).length), rdf k = (allSecs life 0 l)[k] /\ good k = true) (he : (allSecs life 0 l).length = N \/ good (allSecs life 0 l).length = false) : (scanH np rdf good N 0 r00).all = l := by
 obtain ⟨g', e⟩ := takes_all (life := life) hnp l 0 [] 0 (by omega) hx
 obtain ⟨e1, e2⟩ := takes_fold np _ _ [] (okR_nil np) e
 rw [List.nil_append] at e1 e2
 have hm : (List.range (allSecs life 0 l).length).map (fun j => (j, rdf j)) = num 0 (allSecs life 0 l) := by
   rw [<- num_range]
   apply List.map_congr_left
   intro j hj
   have hj' := List.mem_range.1 hj
   rw [(hr j hj').1]
   simp [List.getD, hj']
 rw [scanH_done hN (fun j hj => (hr j hj).2) (by rw [hm]; exact e1) he, hm, e2]
 simp
end Go.Proofs.YtchcmklelmlbgaaGreat.Wal
namespace Go.Proofs.YtchcmklelmlbgaaGreat.Wal
open Go.RowKit
open Go.Proofs.YtchcmklelmlbgaaGreat.Geom
open Go.Proofs.YtchcmklelmlbgaaGreat.Disk (St Wr write flush read kept new zero512)
open Go.Proofs.YtchcmklelmlbgaaGreat.Sec (X X0 text rightF)
open Go.Proofs.YtchcmklelmlbgaaGreat.Sup (UpN Gb)
open Go.Proofs.YtchcmklelmlbgaaGreat.Enc (Itm Enf enf enf_of More kept_of rd rd_good rd_zero)
set_option linter.unusedVariables false
structure EnfUp (n : Nat) (is : List Itm) (l : List (List UInt8)) (s : St) (q : List (List UInt8) × St × Int) : Prop where
 res : q.2.2 = 0
 up : UpN q.2.1 n
 good : ∀ k (h : k < is.length), Sup.Good q.1 is[k].1 is[k].2 (kept q.2.1.all is[k].1.toNat)
 beside : ∀ p : Nat, (∀ i ∈ is, i.1.toNat ≠ p) -> kept q.2.1.all p = kept s.all p
 more : More l q.1
theorem enf_up {n : Nat} {is : List Itm} {l : List (List UInt8)} {s : St} (hu : UpN s n) (hi : ∀ i ∈ is, rightF i.1 i.2 = 0 /\ 0 <= i.1 /\ i.1 < n) (hd : ∀ a b (ha : a < is.length) (hb : b < is.length), is[a].1 = is[b].1 -> a = b) : EnfUp n is l s (enf is l s) := by
 obtain ⟨m, e⟩ := enf_of is l s hu.size hu.down hi
 rcases e.res with ⟨_, _, _, _, h⟩ | ⟨h1, h2, h3, h4, h5, h6⟩
 · exact absurd hu.fuse h
 · rw [hu.pend, List.nil_append] at h3
   have hat : ∀ k (h : k < m.length), ∃ h' : k < is.length, m[k].1 = is[k].1.toNat /\ Sup.Good (enf is l s).1 is[k].1 is[k].2 m[k].2 := fun k h => ⟨by omega, e.at_ k h (by omega)⟩
   refine ⟨h1, ⟨e.size, h4, h2, h6 hu.fuse⟩, fun k h => ?_, fun p hp => ?_, e.more⟩
   · obtain ⟨_, g1, g2⟩ := hat k (by omega)
     rw [h3, <- g1, kept_of s.all m k (by omega) (fun a b ha hb hab => ?_)]
     · exact g2
     · obtain ⟨ha', ea, _⟩ := hat a ha
       obtain ⟨hb', eb, _⟩ := hat b hb
       rw [ea, eb] at hab
       have p1 := (hi _ (List.getElem_mem ha')).2.1
       have p2 := (hi _ (List.getElem_mem hb')).2.1
       exact hd a b ha' hb' (by omega)
   · rw [h3]
     refine Disk.kept_append s.all m p (fun w hw he => ?_)
     obtain ⟨k, hk, rfl⟩ := List.mem_iff_getElem.1 hw
     obtain ⟨hk', g1, _⟩ := hat k hk
     exact hp _ (List.getElem_mem hk') (g1.symm.trans he)
abbrev pl (ga gd gl base : Int) (k : Nat) : Int := logAt ga gd gl (base + (k : Int))
theorem pl_eq {ga gd gl base : Int} (hr : right ga gd gl = true) (hb : 0 <= base) (k : Nat) : pl ga gd gl base k = 4 + (base + (k : Int)) % gl := by
 unfold pl logAt; rw [if_pos ⟨hr, by omega⟩]
theorem pl_inj {ga gd gl base : Int} (hr : right ga gd gl = true) (hb : 0 <= base) {j k : Nat} (hj : (j : Int) < gl) (hk : (k : Int) < gl) (h : pl ga gd gl base j = pl ga gd gl base k) : j = k := by
 rw [pl_eq hr hb, pl_eq hr hb] at h
 have hy := right_yes hr
 have h1 : (base + (j : Int)) % gl = (base + (k : Int)) % gl := by omega
 have h2 := Int.emod_emod_of_dvd
 have h3 : ((j : Int) - k) % gl = 0 := by
   rw [show (j : Int) - k = (base + j) - (base + k) by omega, Int.sub_emod, h1]; simp
 have h4 := Int.emod_add_mul_ediv ((j : Int) - k) gl
 have hb1 : ((j : Int) - k) < gl := by omega
 have hb2 : -gl < ((j : Int) - k) := by omega
 rw [h3] at h4
 rcases Int.lt_trichotomy (((j : Int) - k) / gl) 0 with hq | hq | hq
 · have : gl * (((j : Int) - k) / gl) <= gl * (-1) := Int.mul_le_mul_of_nonneg_left (by omega) (by omega)
   omega
 · rw [hq] at h4; omega
 · have : gl * 1 <= gl * (((j : Int) - k) / gl) := Int.mul_le_mul_of_nonneg_left (by omega) (by omega)
   omega
def items (ga gd gl base : Int) : Nat -> List X -> List Itm
 | _, [] => []
 | q, x :: r => (pl ga gd gl base q, x) :: items ga gd gl base (q + 1) r
theorem items_len (ga gd gl base : Int) : ∀ (l : List X) (q : Nat), (items ga gd gl base q l).length = l.length
 | [], q => rfl
 | x :: r, q => by simp [items, items_len ga gd gl base r (q + 1)]
theorem items_get (ga gd gl base : Int) : ∀ (l : List X) (q k : Nat) (h : k < (items ga gd gl base q l).length) (h' : k < l.length), (items ga gd gl base q l)[k] = (pl ga gd gl base (q + k), l[k])
 | [], q, k, h, h' => absurd h' (by simp)
 | x :: r, q, 0, h, h' => rfl
 | x :: r, q, k + 1, h, h' => by
   have := items_get ga gd gl base r (q + 1) k (by rw [items_len]; simpa using h') (by simpa using h')
   rw [show q + (k + 1) = q + 1 + k by omega]
   exact this
theorem items_data (ga gd gl base : Int) (life : UInt64) (q : Nat) (gen : UInt64) : ∀ (l : List Pg) (i : Nat), items ga gd gl base (q + i) (dSecs life q gen i l) = dItems ga gd gl base life q gen i l
 | [], i => rfl
 | x :: r, i => by rw [dSecs, items, dItems, <- items_data ga gd gl base life q gen r (i + 1)]; rfl
structure LogIs (ga gd gl base : Int) (n : Nat) (l : List (List UInt8)) (s : St) (xs : List X) : Prop where
 up : UpN s n
 good : ∀ k (h : k < xs.length), Sup.Good l (pl ga gd gl base k) xs[k] (kept s.all (pl ga gd gl base k).toNat)
 zero : ∀ k : Nat, xs.length <= k -> (k : Int) < gl -> kept s.all (pl ga gd gl base k).toNat = zero512
theorem pl_bd {ga gd gl base : Int} {n : Nat} (hr : right ga gd gl = true) (hb : 0 <= base) (hn : (n : Int) = Geom.sizeOf ga gd gl) (k : Nat) : 0 <= pl ga gd gl base k /\ pl ga gd gl base k < n /\ pl ga gd gl base k <= 1023 := by
 have h1 := log_bd (i := base + (k : Int)) hr (by omega)
 have h2 := log_size hr
 exact ⟨h1.1, by show logAt _ _ _ _ < _; omega, h1.2.1⟩
theorem LogIs.more {ga gd gl base : Int} {n : Nat} {l : List (List UInt8)} {s : St} {xs ys : List X} (h : LogIs ga gd gl base n l s xs) (hr : right ga gd gl = true) (hb : 0 <= base) (hn : (n : Int) = Geom.sizeOf ga gd gl) (hl : ((xs.length + ys.length : Nat) : Int) <= gl)
   (hy : ∀ k (hk : k < ys.length), rightF (pl ga gd gl base (xs.length + k)) ys[k] = 0) : (enf (items ga gd gl base xs.length ys) l s).2.2 = 0 /\ LogIs ga gd gl base n (enf (items ga gd gl base xs.length ys) l s).1 (enf (items ga gd gl base xs.length ys) l s).2.1 (xs ++ ys) := by
 have hg := fun (k : Nat) (hk : k < ys.length) => items_get ga gd gl base ys xs.length k (by rw [items_len]; exact hk) hk
 have e := enf_up (l := l) (is := items ga gd gl base xs.length ys) h.up (fun i hi => by
   obtain ⟨k, hk, rfl⟩ := List.mem_iff_getElem.1 hi
   rw [items_len] at hk
   rw [hg k hk]
   have := pl_bd hr hb hn (xs.length + k)
   exact ⟨hy k hk, this.1, this.2.1⟩) (fun a b ha hb' hab => by
   rw [items_len] at ha hb'
   rw [hg a ha, hg b hb'] at hab
   have := pl_inj hr hb (j := xs.length + a) (k := xs.length + b) (by omega) (by omega) hab
   omega)
 have hbs : ∀ k : Nat, (k < xs.length \/ xs.length + ys.length <= k) -> (k : Int) < gl -> kept (enf (items ga gd gl base xs.length ys) l s).2.1.all (pl ga gd gl base k).toNat = kept s.all (pl ga gd gl base k).toNat := fun k hk hkg => e.beside _ (fun i hi he => by
   obtain ⟨j, hj, rfl⟩ := List.mem_iff_getElem.1 hi
   rw [items_len] at hj
   rw [hg j hj] at he
   have p1 := pl_bd hr hb hn (xs.length + j)
   have p2 := pl_bd hr hb hn k
   have := pl_inj hr hb (j := xs.length + j) (k := k) (by omega) hkg (by simp only at he; omega)
   omega)
 refine ⟨e.res, e.up, fun k hk => ?_, fun k hk hkg => ?_⟩
 · rw [List.length_append] at hk
   by_cases h1 : k < xs.length
   · rw [List.getElem_append_left h1, hbs k (.inl h1) (by omega)]
     exact e.more _ _ _ (h.good k h1)
   · rw [List.getElem_append_right (by omega)]
     have h2 := e.good (k - xs.length) (by rw [items_len]; omega)
     rw [hg _ (by omega), show xs.length + (k - xs.length) = k by omega] at h2
     exact h2
 · rw [List.length_append] at hk
   rw [hbs k (.inr hk) hkg]
   exact h.zero k (by omega) hkg
end Go.Proofs.YtchcmklelmlbgaaGreat.Wal
namespace Go.Proofs.YtchcmklelmlbgaaGreat.Wal
open Go.RowKit
open Go.Proofs.YtchcmklelmlbgaaGreat.Geom
open Go.Proofs.YtchcmklelmlbgaaGreat.Disk (St Wr write flush read kept new zero512 restart)
open Go.Proofs.YtchcmklelmlbgaaGreat.Sec (X X0 text rightF place_of)
open Go.Proofs.YtchcmklelmlbgaaGreat.Sup (UpN Gb text_inj)
open Go.Proofs.YtchcmklelmlbgaaGreat.Enc (Itm Enf enf enf_of More kept_of rd rd_good rd_zero rd_sound restart_up)
set_option linter.unusedVariables false
theorem items_append (ga gd gl base : Int) : ∀ (a b : List X) (q : Nat), items ga gd gl base q (a ++ b) = items ga gd gl base q a ++ items ga gd gl base (q + a.length) b
 | [], b, q => by simp [items]
 | x :: a, b, q => by simp only [List.cons_append, items, List.length_cons]; rw [items_append ga gd gl base a b (q + 1), show q + 1 + a.length = q + (a.length + 1) by omega]
theorem tSecs_items (ga gd gl base : Int) (life : UInt64) (q : Nat) (t : Tx) : items ga gd gl base q (tSecs life q t) = dItems ga gd gl base life q t.gen 0 t.pages ++ [(logAt ga gd gl (base + ((q + t.pages.length : Nat) : Int)), dX 5 life q t.pages.length t.gen t.pages.length [])] := by
 have hd := items_data ga gd gl base life q t.gen t.pages 0
 rw [Nat.add_zero] at hd
 unfold tSecs
 rw [items_append, hd, dSecs_len]; rfl
theorem tSecs_right {ga gd gl base : Int} {life : UInt64} {q : Nat} {t : Tx} {n : Nat} (hr : right ga gd gl = true) (hb : 0 <= base) (hn : (n : Int) = Geom.sizeOf ga gd gl) (hl : (q : Int) + t.pages.length < gl) (hbd : badB ga gd gl t.pages = false) (j : Nat) (h : j < (tSecs life q t).length) : rightF (pl ga gd gl base (q + j)) (tSecs life q t)[j] = 0 := by
 have hy := right_yes hr
 have hp := pl_bd (base := base) hr hb hn (q + j)
 have hk := tSecs_len life q t
 have h0 : j < (dSecs life q t.gen 0 t.pages ++ [dX 5 life q t.pages.length t.gen t.pages.length []]).length := h
 show rightF _ ((dSecs life q t.gen 0 t.pages ++ [dX 5 life q t.pages.length t.gen t.pages.length []])[j]'h0) = 0
 by_cases h1 : j < t.pages.length
 · rw [List.getElem_append_left (by rw [dSecs_len]; exact h1), dSecs_get _ _ _ _ _ _ _ h1, Nat.zero_add]
   exact dX_right hp.1 hp.2.2 (by decide) (by omega) (badB_of hbd h1).2.2
 · obtain rfl : j = t.pages.length := by omega
   rw [List.getElem_append_right (Nat.le_of_eq (dSecs_len _ _ _ _ _))]
   simp only [dSecs_len, Nat.sub_self, List.getElem_cons_zero]
   exact dX_right hp.1 hp.2.2 (by decide) (by omega) (by simp)
structure PutT (ga gd gl base : Int) (n : Nat) (life : UInt64) (q : Nat) (t : Tx) (sm : List (List UInt8)) (st : St) (V : List (List UInt8) × St × Int) : Prop where
 size : V.2.1.size = n
 more : More sm V.1
 old : ∀ T ∈ sm, T ∈ V.1
 text : ∀ T ∈ V.1, T ∈ sm \/ ∃ (j : Nat) (h : j < (tSecs life q t).length), T = text (pl ga gd gl base (q + j)) (tSecs life q t)[j]
 res : (V.2.2 = 12 /\ V.2.1.down = true /\ ¬ st.fuse < 0 /\ ∃ m : List Wr, V.2.1.all = st.all ++ m /\ ∀ w ∈ m ++ V.2.1.pend, ∃ j : Nat, j < (tSecs life q t).length /\ w.1 = (pl ga gd gl base (q + j)).toNat) \/
   (V.2.2 = 0 /\ V.2.1.down = false /\ V.2.1.pend = [] /\ (st.fuse < 0 -> V.2.1.fuse < 0) /\ ∃ m : List Wr, V.2.1.all = st.all ++ m /\ m.length = (tSecs life q t).length /\ ∀ (j : Nat) (h : j < m.length) (h' : j < (tSecs life q t).length), m[j].1 = (pl ga gd gl base (q + j)).toNat /\ Sup.Good V.1 (pl ga gd gl base (q + j)) (tSecs life q t)[j] m[j].2)
theorem putF_turn {ga gd gl base : Int} {n : Nat} {life : UInt64} {q : Nat} {t : Tx} {sm : List (List UInt8)} {st : St} (hs : st.size = n) (hp : st.pend = []) (hdn : st.down = false) (hr : right ga gd gl = true) (hb : 0 <= base) (hn : (n : Int) = Geom.sizeOf ga gd gl) (hl : (q : Int) + t.pages.length < gl) (hbd : badB ga gd gl t.pages = false) :
   PutT ga gd gl base n life q t sm st (putF ga gd gl base life q t.gen t.pages sm st) := by
 have htl := tSecs_len life q t
 have hit := tSecs_items ga gd gl base life q t
 have hget := fun (j : Nat) (h : j < (tSecs life q t).length) => items_get ga gd gl base (tSecs life q t) q j (by rw [items_len]; exact h) h
 unfold putF
 obtain ⟨I1, hI1⟩ : ∃ I1, I1 = dItems ga gd gl base life q t.gen 0 t.pages := ⟨_, rfl⟩
 obtain ⟨i2, hi2⟩ : ∃ i2 : Itm, i2 = (logAt ga gd gl (base + ((q + t.pages.length : Nat) : Int)), dX 5 life q t.pages.length t.gen t.pages.length []) := ⟨_, rfl⟩
 rw [<- hI1, <- hi2] at hit
 rw [<- hI1, <- hi2]
 have hl1 : I1.length = t.pages.length := by
   have h1 := congrArg List.length hit
   rw [items_len, htl, List.length_append, List.length_singleton] at h1
   omega
 have g1 : ∀ (j : Nat) (h : j < I1.length), ∃ h' : j < (tSecs life q t).length, I1[j] = (pl ga gd gl base (q + j), (tSecs life q t)[j]) := fun j h => by
   have h' : j < (tSecs life q t).length := by omega
   refine ⟨h', ?_⟩
   have e := hget j h'
   have e2 : (items ga gd gl base q (tSecs life q t))[j]'(by rw [items_len]; exact h') = (I1 ++ [i2])[j]'(by simp; omega) := by simp only [hit]
   rw [e2, List.getElem_append_left h] at e
   exact e
 have g2 : ∃ h' : t.pages.length < (tSecs life q t).length, i2 = (pl ga gd gl base (q + t.pages.length), (tSecs life q t)[t.pages.length]) := by
   have h' : t.pages.length < (tSecs life q t).length := by omega
   refine ⟨h', ?_⟩
   have e := hget _ h'
   have e2 : (items ga gd gl base q (tSecs life q t))[t.pages.length]'(by rw [items_len]; exact h') = (I1 ++ [i2])[t.pages.length]'(by simp; omega) := by simp only [hit]
   rw [e2, List.getElem_append_right (by omega)] at e
   simpa [hl1] using e
 obtain ⟨g2l, g2e⟩ := g2
 clear hget hit
 have hri := fun j h => tSecs_right (base := base) (life := life) hr hb hn hl hbd j h
 have hbdp := fun k => pl_bd (base := base) hr hb hn k
 obtain ⟨m1, e1⟩ := enf_of I1 sm st hs hdn (fun i hi => by
   obtain ⟨j, hj, rfl⟩ := List.mem_iff_getElem.1 hi
   obtain ⟨h', e⟩ := g1 j hj
   rw [e]
   exact ⟨hri j h', (hbdp _).1, (hbdp _).2.1⟩)
 have p1 : ∀ w ∈ m1, ∃ j : Nat, j < (tSecs life q t).length /\ w.1 = (pl ga gd gl base (q + j)).toNat := fun w hw => by
   obtain ⟨j, hj, rfl⟩ := List.mem_iff_getElem.1 hw
   have hj' : j < I1.length := by have := e1.len; omega
   obtain ⟨h', e⟩ := g1 j hj'
   exact ⟨j, h', by rw [(e1.at_ j hj hj').1, e]⟩
 have t1 : ∀ T ∈ (enf I1 sm st).1, T ∈ sm \/ ∃ (j : Nat) (h : j < (tSecs life q t).length), T = text (pl ga gd gl base (q + j)) (tSecs life q t)[j] := fun T hT => by
   rcases e1.text T hT with h | ⟨i, hi, h⟩
   · exact .inl h
   · obtain ⟨j, hj, rfl⟩ := List.mem_iff_getElem.1 hi
     obtain ⟨h', e⟩ := g1 j hj
     rw [e] at h
     exact .inr ⟨j, h', h⟩
 rcases e1.res with ⟨r1, r2, r3, r4, r5⟩ | ⟨r1, r2, r3, r4, r5, r6⟩
 · rw [if_neg (by rw [r1]; decide)]
   refine ⟨e1.size, e1.more, e1.old, t1, .inl ⟨r1, r2, r5, [], by rw [r3]; simp, fun w hw => ?_⟩⟩
   rw [List.nil_append, r4, hp, List.nil_append] at hw
   exact p1 w hw
 · rw [if_pos r1]
   rw [hp, List.nil_append] at r3
   obtain ⟨D, hD⟩ : ∃ D, D = enf I1 sm st := ⟨_, rfl⟩
   rw [<- hD] at e1 t1 r1 r2 r3 r4 r6
   rw [<- hD]
   obtain ⟨m2, e2⟩ := enf_of [i2] D.1 D.2.1 e1.size r2 (fun i hi => by
     rw [List.mem_singleton] at hi
     rw [hi, g2e]
     exact ⟨hri _ g2l, (hbdp _).1, (hbdp _).2.1⟩)
   have p2 : ∀ w ∈ m2, ∃ j : Nat, j < (tSecs life q t).length /\ w.1 = (pl ga gd gl base (q + j)).toNat := fun w hw => by
     obtain ⟨j, hj, rfl⟩ := List.mem_iff_getElem.1 hw
     have hj' : j < [i2].length := by have := e2.len; omega
     obtain rfl : j = 0 := by simpa using hj'
     refine ⟨t.pages.length, g2l, ?_⟩
     rw [(e2.at_ 0 hj hj').1]
     show i2.1.toNat = _
     rw [g2e]
   have t2 : ∀ T ∈ (enf [i2] D.1 D.2.1).1, T ∈ sm \/ ∃ (j : Nat) (h : j < (tSecs life q t).length), T = text (pl ga gd gl base (q + j)) (tSecs life q t)[j] := fun T hT => by
     rcases e2.text T hT with h | ⟨i, hi, h⟩
     · exact t1 T h
     · rw [List.mem_singleton] at hi
       rw [hi, g2e] at h
       exact .inr ⟨_, g2l, h⟩
   refine ⟨e2.size, e1.more.trans e2.more, fun T hT => e2.old T (e1.old T hT), t2, ?_⟩
   rcases e2.res with ⟨s1, s2, s3, s4, s5⟩ | ⟨s1, s2, s3, s4, s5, s6⟩
   · refine .inl ⟨s1, s2, fun e => s5 (r6 e), m1, by rw [s3, r3], fun w hw => ?_⟩
     rw [s4, r4, List.nil_append] at hw
     rcases List.mem_append.1 hw with hw | hw
     · exact p1 w hw
     · exact p2 w hw
   · refine .inr ⟨s1, s2, s4, fun e => s6 (r6 e), m1 ++ m2, by rw [s3, r3, r4, List.nil_append, List.append_assoc], by rw [List.length_append, r5, s5, htl, hl1]; rfl, fun j h h' => ?_⟩
     by_cases hj : j < m1.length
     · rw [List.getElem_append_left hj]
       have hj' : j < I1.length := by omega
       obtain ⟨h'', e⟩ := g1 j hj'
       obtain ⟨a1, a2⟩ := e1.at_ j hj hj'
       rw [e] at a1 a2
       exact ⟨a1, e2.more _ _ _ a2⟩
     · have s5' : m2.length = 1 := s5
       obtain rfl : j = t.pages.length := by rw [List.length_append] at h; omega
       obtain ⟨a1, a2⟩ := e2.at_ 0 (by omega) (by simp)
       rw [List.getElem_append_right (by omega)]
       simp only [r5, hl1, Nat.sub_self]
       have g21 : i2.1 = pl ga gd gl base (q + t.pages.length) := by rw [g2e]
       have g22 : i2.2 = (tSecs life q t)[t.pages.length] := by rw [g2e]
       rw [show [i2][0] = i2 from rfl, g21] at a1 a2
       rw [g22] at a2
       exact ⟨a1, a2⟩
structure LogC (ga gd gl base : Int) (n : Nat) (life : UInt64) (sm : List (List UInt8)) (all : List Wr) (xs ys : List X) : Prop where
 good : ∀ k (h : k < xs.length), Sup.Good sm (pl ga gd gl base k) xs[k] (kept all (pl ga gd gl base k).toNat)
 only : ∀ (k : Nat) (x : X), (k : Int) < gl -> rightF (pl ga gd gl base k) x = 0 -> text (pl ga gd gl base k) x ∈ sm -> x.life = life -> (ys)[k]? = some x
theorem text_at {ga gd gl base : Int} {n : Nat} (hr : right ga gd gl = true) (hb : 0 <= base) (hn : (n : Int) = Geom.sizeOf ga gd gl) {j k : Nat} (hj : (j : Int) < gl) (hk : (k : Int) < gl) {x y : X} (hx : rightF (pl ga gd gl base k) x = 0) (hy : rightF (pl ga gd gl base j) y = 0) (h : text (pl ga gd gl base k) x = text (pl ga gd gl base j) y) : x = y /\ k = j := by
 have e := text_inj hx hy h
 subst e
 have e2 := place_of hx hy h.symm
 exact ⟨rfl, (pl_inj hr hb hj hk e2).symm⟩
theorem LogC.kept {ga gd gl base : Int} {n : Nat} {life : UInt64} {sm sm' : List (List UInt8)} {all m : List Wr} {xs ys : List X} (h : LogC ga gd gl base n life sm all xs ys) (hr : right ga gd gl = true) (hb : 0 <= base) (hn : (n : Int) = Geom.sizeOf ga gd gl) (hl : (xs.length : Int) <= gl) (hm : More sm sm') {q e : Nat} (hq : xs.length <= q) (he : ((q + e : Nat) : Int) <= gl) (hw : ∀ w ∈ m, ∃ j : Nat, j < e /\ w.1 = (pl ga gd gl base (q + j)).toNat) : ∀ k (h : k < xs.length), Sup.Good sm' (pl ga gd gl base k) xs[k] (Disk.kept (all ++ m) (pl ga gd gl base k).toNat) := fun k hk => by
 rw [Disk.kept_append all m _ (fun w h1 h2 => by
   obtain ⟨j, hj, e1⟩ := hw w h1
   rw [e1] at h2
   have p1 := pl_bd (base := base) hr hb hn (q + j)
   have p2 := pl_bd (base := base) hr hb hn k
   have := pl_inj hr hb (base := base) (j := q + j) (k := k) (by omega) (by omega) (by omega)
   omega)]
 exact hm _ _ _ (h.good k hk)
theorem LogC.only' {ga gd gl base : Int} {n : Nat} {life : UInt64} {sm sm' : List (List UInt8)} {all : List Wr} {xs : List X} {t : Tx} (h : LogC ga gd gl base n life sm all xs xs) (hr : right ga gd gl = true) (hb : 0 <= base) (hn : (n : Int) = Geom.sizeOf ga gd gl) (hl : (xs.length : Int) + t.pages.length < gl) (hbd : badB ga gd gl t.pages = false) (ht : ∀ T ∈ sm', T ∈ sm \/ ∃ (j : Nat) (h : j < (tSecs life xs.length t).length), T = text (pl ga gd gl base (xs.length + j)) (tSecs life xs.length t)[j]) :
   ∀ (k : Nat) (x : X), (k : Int) < gl -> rightF (pl ga gd gl base k) x = 0 -> text (pl ga gd gl base k) x ∈ sm' -> x.life = life -> (xs ++ tSecs life xs.length t)[k]? = some x := fun k x hk hx hT hlf => by
 rcases ht _ hT with h1 | ⟨j, hj, e⟩
 · have h2 := h.only k x hk hx h1 hlf
   have h3 : k < xs.length := by
     rcases Nat.lt_or_ge k xs.length with h4 | h4
     · exact h4
     · rw [List.getElem?_eq_none h4] at h2; cases h2
   rw [List.getElem?_append_left h3]; exact h2
 · have htl := tSecs_len life xs.length t
   obtain ⟨e1, e2⟩ := text_at hr hb hn (j := xs.length + j) (by omega) hk hx (tSecs_right hr hb hn hl hbd j hj) e
   rw [e2, List.getElem?_append_right (by omega), Nat.add_sub_cancel_left, e1, List.getElem?_eq_getElem hj]
theorem LogC.append {ga gd gl base : Int} {n : Nat} {life : UInt64} {sm : List (List UInt8)} {st : St} {xs : List X} {t : Tx} {V : List (List UInt8) × St × Int} (h : LogC ga gd gl base n life sm st.all xs xs) (hr : right ga gd gl = true) (hb : 0 <= base) (hn : (n : Int) = Geom.sizeOf ga gd gl) (hl : (xs.length : Int) + t.pages.length < gl) (hbd : badB ga gd gl t.pages = false) (hV : PutT ga gd gl base n life xs.length t sm st V) (hz : V.2.2 = 0) : LogC ga gd gl base n life V.1 V.2.1.all (xs ++ tSecs life xs.length t) (xs ++ tSecs life xs.length t) := by
 have htl := tSecs_len life xs.length t
 refine ⟨fun k hk => ?_, h.only' hr hb hn hl hbd hV.text⟩
 rcases hV.res with ⟨r, _⟩ | ⟨_, _, _, _, m, r1, r2, r3⟩
 · rw [r] at hz; cases hz
 have hat : ∀ k (h : k < m.length), ∃ h' : k < (tSecs life xs.length t).length, m[k].1 = (pl ga gd gl base (xs.length + k)).toNat := fun k h => ⟨by omega, (r3 k h (by omega)).1⟩
 rw [r1]
 by_cases h1 : k < xs.length
 · rw [List.getElem_append_left h1]
   exact h.kept hr hb hn (by omega) hV.more (Nat.le_refl _) (e := (tSecs life xs.length t).length) (by omega) (fun w hw => by
     obtain ⟨j, hj, rfl⟩ := List.mem_iff_getElem.1 hw
     obtain ⟨h', e⟩ := hat j hj
     exact ⟨j, h', e⟩) k h1
 · rw [List.length_append] at hk
   rw [List.getElem_append_right (by omega)]
   obtain ⟨a1, a2⟩ := r3 (k - xs.length) (by omega) (by omega)
   rw [show xs.length + (k - xs.length) = k by omega] at a1 a2
   rw [<- a1, kept_of st.all m (k - xs.length) (by omega) (fun a b ha hb' hab => ?_)]
   · exact a2
   · obtain ⟨ha', ea⟩ := hat a ha
     obtain ⟨hb'', eb⟩ := hat b hb'
     rw [ea, eb] at hab
     have p1 := pl_bd (base := base) hr hb hn (xs.length + a)
     have p2 := pl_bd (base := base) hr hb hn (xs.length + b)
     have := pl_inj hr hb (base := base) (j := xs.length + a) (k := xs.length + b) (by omega) (by omega) (by omega)
     omega
theorem LogC.crash {ga gd gl base : Int} {n : Nat} {life : UInt64} {sm : List (List UInt8)} {st : St} {xs : List X} {t : Tx} {V : List (List UInt8) × St × Int} (h : LogC ga gd gl base n life sm st.all xs xs) (hr : right ga gd gl = true) (hb : 0 <= base) (hn : (n : Int) = Geom.sizeOf ga gd gl) (hl : (xs.length : Int) + t.pages.length < gl) (hbd : badB ga gd gl t.pages = false) (hV : PutT ga gd gl base n life xs.length t sm st V) (hz : V.2.2 ≠ 0) (keep : List Int) (torn at_ : Int) :
   UpN (restart V.2.1 keep torn at_) n /\ LogC ga gd gl base n life V.1 (restart V.2.1 keep torn at_).all xs (xs ++ tSecs life xs.length t) := by
 have htl := tSecs_len life xs.length t
 obtain ⟨u, _, m', e, hm'⟩ := restart_up hV.size keep torn at_
 refine ⟨u, fun k hk => ?_, h.only' hr hb hn hl hbd hV.text⟩
 rcases hV.res with ⟨_, _, _, m, r1, r2⟩ | ⟨r, _⟩
 rotate_left
 · exact absurd r hz
 rw [e, r1, List.append_assoc]
 exact h.kept hr hb hn (by omega) hV.more (Nat.le_refl _) (e := (tSecs life xs.length t).length) (by omega) (fun w hw => by
   rcases List.mem_append.1 hw with hw | hw
   · exact r2 w (List.mem_append.2 (.inl hw))
   · obtain ⟨v, hv, e⟩ := hm' w hw
     obtain ⟨j, hj, e2⟩ := r2 v (List.mem_append.2 (.inr hv))
     exact ⟨j, hj, e.trans e2⟩) k hk
end Go.Proofs.YtchcmklelmlbgaaGreat.Wal
namespace Go.Proofs.YtchcmklelmlbgaaGreat.Wal
open Go.RowKit
open Go.Proofs.YtchcmklelmlbgaaGreat.Geom
open Go.Proofs.YtchcmklelmlbgaaGreat.Disk (St Wr write flush read kept new zero512 restart)
open Go.Proofs.YtchcmklelmlbgaaGreat.Sec (X X0 text rightF place_of)
open Go.Proofs.YtchcmklelmlbgaaGreat.Sup (UpN Gb text_inj)
open Go.Proofs.YtchcmklelmlbgaaGreat.Enc (Itm Enf enf enf_of More kept_of rd rd_good rd_zero rd_sound restart_up)
set_option linter.unusedVariables false
theorem find_stop (good : Nat -> Bool) : ∀ N : Nat, ∃ K, K <= N /\ (∀ j, j < K -> good j = true) /\ (K = N \/ good K = false)
 | 0 => ⟨0, Nat.le_refl _, fun j h => absurd h (Nat.not_lt_zero _), .inl rfl⟩
 | N + 1 => by
   obtain ⟨K, h1, h2, h3⟩ := find_stop good N
   rcases h3 with h3 | h3
   · subst h3
     cases hg : good K with
     | true => exact ⟨K + 1, Nat.le_refl _, fun j hj => by
         rcases Nat.lt_or_ge j K with h | h
         · exact h2 j h
         · obtain rfl : j = K := by omega
           exact hg, .inl rfl⟩
     | false => exact ⟨K, by omega, h2, .inr hg⟩
   · exact ⟨K, by omega, h2, .inr h3⟩
theorem dSecs_take (life : UInt64) (q : Nat) (gen : UInt64) : ∀ (l : List Pg) (i j : Nat), (dSecs life q gen i l).take j = dSecs life q gen i (l.take j)
 | [], i, j => by simp [dSecs]
 | x :: r, i, 0 => by simp [dSecs]
 | x :: r, i, j + 1 => by simp only [dSecs, List.take_succ_cons]; rw [dSecs_take life q gen r (i + 1) j]
theorem range_num {rdf : Nat -> X} {S : List X} {K : Nat} (hK : K <= S.length) (h : ∀ k, k < K -> S[k]? = some (rdf k)) : (List.range K).map (fun j => (j, rdf j)) = num 0 (S.take K) := by
 have h1 := num_range (S.take K)
 have h2 : (S.take K).length = K := by rw [List.length_take]; omega
 rw [h2] at h1
 rw [<- h1]
 apply List.map_congr_left
 intro j hj
 have hj' := List.mem_range.1 hj
 have h3 : (S.take K).getD j X0 = rdf j := by
   rw [List.getD, List.getElem?_take_of_lt hj', h j hj']; rfl
 rw [h3]
theorem LogC.read {ga gd gl base : Int} {n : Nat} {life : UInt64} {sm : List (List UInt8)} {st : St} {xs ys : List X} (h : LogC ga gd gl base n life sm st.all xs ys) (hu : UpN st n) (hr : right ga gd gl = true) (hb : 0 <= base) (hn : (n : Int) = Geom.sizeOf ga gd gl) {k : Nat} (hk : k < xs.length) : rdL sm st ga gd gl base k = (xs[k], 0) := by
 have p := pl_bd (base := base) hr hb hn k
 exact rd_good hu p.1 p.2.1 (h.good k hk)
theorem LogC.sound {ga gd gl base : Int} {n : Nat} {life : UInt64} {sm : List (List UInt8)} {st : St} {xs ys : List X} (h : LogC ga gd gl base n life sm st.all xs ys) {k : Nat} (hk : (k : Int) < gl) (hg : goodL sm st ga gd gl base life k = true) : ys[k]? = some (rdL sm st ga gd gl base k).1 := by
 unfold goodL at hg
 simp only [Bool.and_eq_true, decide_eq_true_eq] at hg
 obtain ⟨r1, r2⟩ := rd_sound hg.1
 exact h.only k _ hk r1 r2 hg.2.1
theorem LogC.isgood {ga gd gl base : Int} {n : Nat} {life : UInt64} {sm : List (List UInt8)} {st : St} {ts : List Tx} {ys : List X} (h : LogC ga gd gl base n life sm st.all (allSecs life 0 ts) ys) (hu : UpN st n) (hr : right ga gd gl = true) (hb : 0 <= base) (hn : (n : Int) = Geom.sizeOf ga gd gl) {k : Nat} (hk : k < (allSecs life 0 ts).length) : goodL sm st ga gd gl base life k = true := by
 have e := h.read hu hr hb hn hk
 have a := allSecs_at life ts 0 k hk
 unfold goodL
 rw [e]
 simp only [a.1, a.2]
 simp
theorem putF_lim (ga gd gl base : Int) (life : UInt64) (q : Nat) (t : Tx) (sm : List (List UInt8)) (st : St) : (putF ga gd gl base life q t.gen t.pages sm st).1.length <= sm.length + (t.pages.length + 1) /\ (putF ga gd gl base life q t.gen t.pages sm st).2.1.sz <= st.sz + 2 * (t.pages.length + 2) := by
 have hd := items_data ga gd gl base life q t.gen t.pages 0
 rw [Nat.add_zero] at hd
 have hl : (dItems ga gd gl base life q t.gen 0 t.pages).length = t.pages.length := by rw [<- hd, items_len, dSecs_len]
 obtain ⟨l1, l2⟩ := Enc.enf_lim (dItems ga gd gl base life q t.gen 0 t.pages) sm st
 rw [hl] at l1 l2
 unfold putF
 split
 · obtain ⟨l3, l4⟩ := Enc.enf_lim [(logAt ga gd gl (base + ((q + t.pages.length : Nat) : Int)), dX 5 life q t.pages.length t.gen t.pages.length [])] (enf (dItems ga gd gl base life q t.gen 0 t.pages) sm st).1 (enf (dItems ga gd gl base life q t.gen 0 t.pages) sm st).2.1
   simp only [List.length_cons, List.length_nil] at l3 l4
   omega
 · omega
end Go.Proofs.YtchcmklelmlbgaaGreat.Wal
namespace Go.Proofs.YtchcmklelmlbgaaGreat.Sto
open Go.RowKit
open Go.Proofs.YtchcmklelmlbgaaGreat.Geom
open Go.Proofs.YtchcmklelmlbgaaGreat.Disk (St Wr write flush kept new zero512)
open Go.Proofs.YtchcmklelmlbgaaGreat.Sec (X X0 text rightF sumAfter)
open Go.Proofs.YtchcmklelmlbgaaGreat.Sup (UpN splace splace_ok splace_next sx sx_right sB sB_len sB_good sL wf atR best best_first best_later SV)
open Go.Proofs.YtchcmklelmlbgaaGreat.Snap (PagesOk px snapF snapR snapR_some rdAt_good area_eq area_inj area_apart)
open Go.Proofs.YtchcmklelmlbgaaGreat.Wal (Tx allSecs allSecs_at allSecs_snoc tSecs tSecs_len tSecs_at pl pl_eq pl_inj pl_bd badB badB_of putF PutT putF_turn scanTx scan_all rdL goodL tSecs_right)
open Go.Proofs.YtchcmklelmlbgaaGreat.Enc (Enf More rd_good rd_zero kept_of)
set_option linter.unusedVariables false
def Elder (sm : List (List UInt8)) (all : List Wr) (life : UInt64) (p : Int) : Prop := kept all p.toNat = zero512 \/ ∃ y, Sup.Good sm p y (kept all p.toNat) /\ y.life < life
def Other (ga gd gl : Int) (sm : List (List UInt8)) (all : List Wr) (life : UInt64) : Prop := kept all (5 - splace life).toNat = zero512 \/ ∃ (l' : UInt64) (b' : Int) (g' : UInt64), l' < life /\ splace l' = 5 - splace life /\ Sup.Good sm (splace l') (sx ga gd gl l' b' g') (kept all (splace l').toNat)
structure PreN (ga gd gl : Int) (n : Nat) (sm : List (List UInt8)) (st : St) (life : UInt64) : Prop where
 up : UpN st n
 oth : Other ga gd gl sm st.all life
 log : ∀ p : Int, 4 <= p -> p < 4 + gl -> Elder sm st.all life p
structure InvN (ga gd gl : Int) (n : Nat) (sm : List (List UInt8)) (st : St) (life : UInt64) (base : Int) (gen0 : UInt64) (P0 : List (List UInt8)) (ts : List Tx) : Prop where
 up : UpN st n
 hb : 0 <= base /\ base <= 1073741824
 pages : PagesOk ga gd gl n P0
 snap : ∀ k (hk : k < P0.length), Sup.Good sm (areaAt ga gd gl life.toNat k) (px life k P0[k]) (kept st.all (areaAt ga gd gl life.toNat k).toNat)
 sup : Sup.Good sm (splace life) (sx ga gd gl life base gen0) (kept st.all (splace life).toNat)
 oth : Other ga gd gl sm st.all life
 log : ∀ k (h : k < (allSecs life 0 ts).length), Sup.Good sm (pl ga gd gl base k) (allSecs life 0 ts)[k] (kept st.all (pl ga gd gl base k).toNat)
 rest : ∀ p : Int, 4 <= p -> p < 4 + gl -> (∃ k, k < (allSecs life 0 ts).length /\ p = pl ga gd gl base k) \/ Elder sm st.all life p
 len : ((allSecs life 0 ts).length : Int) <= gl
 bad : ∀ t ∈ ts, badB ga gd gl t.pages = false
theorem Elder.keep {sm sm' : List (List UInt8)} {all all' : List Wr} {life : UInt64} {p : Int} (h : Elder sm all life p) (m : More sm sm') (k : kept all' p.toNat = kept all p.toNat) : Elder sm' all' life p := by
 rcases h with h | ⟨y, h1, h2⟩
 · exact .inl (k.trans h)
 · exact .inr ⟨y, by rw [k]; exact m _ _ _ h1, h2⟩
theorem Other.keep {ga gd gl : Int} {sm sm' : List (List UInt8)} {all all' : List Wr} {life : UInt64} (h : Other ga gd gl sm all life) (m : More sm sm') (k : kept all' (5 - splace life).toNat = kept all (5 - splace life).toNat) : Other ga gd gl sm' all' life := by
 rcases h with h | ⟨l', b', g', h1, h2, h3⟩
 · exact .inl (k.trans h)
 · exact .inr ⟨l', b', g', h1, h2, by rw [h2, k, <- h2]; exact m _ _ _ h3⟩
theorem life_next {life : UInt64} (h : life.toNat ≠ 18446744073709551615) : life < life + 1 := by
 have h1 : (life + 1).toNat = (life.toNat + 1) % 18446744073709551616 := by simp [UInt64.toNat_add]
 have h2 : life.toNat < 18446744073709551616 := life.toNat_lt
 rw [UInt64.lt_iff_toNat_lt]; omega
theorem InvN.pre {ga gd gl : Int} {n : Nat} {sm : List (List UInt8)} {st : St} {life : UInt64} {base : Int} {gen0 : UInt64} {P0 : List (List UInt8)} {ts : List Tx} (h : InvN ga gd gl n sm st life base gen0 P0 ts) (hl : life.toNat ≠ 18446744073709551615) : PreN ga gd gl n sm st (life + 1) := by
 have hlt := life_next hl
 have hsn := splace_next life
 refine ⟨h.up, .inr ⟨life, base, gen0, hlt, by omega, h.sup⟩, fun p h0 h1 => ?_⟩
 rcases h.rest p h0 h1 with ⟨k, hk, rfl⟩ | h2 | ⟨y, h2, h3⟩
 · exact .inr ⟨_, h.log k hk, by rw [(allSecs_at life ts 0 k hk).1]; exact hlt⟩
 · exact .inl h2
 · exact .inr ⟨y, h2, by rw [UInt64.lt_iff_toNat_lt] at h3 hlt ⊢; omega⟩
theorem PreN.begin {ga gd gl : Int} {n : Nat} {sm : List (List UInt8)} {st : St} {life : UInt64} (h : PreN ga gd gl n sm st life) (hr : right ga gd gl = true) {P : List (List UInt8)} (hP : PagesOk ga gd gl n P) (base : Int) (gen : UInt64) (hb : 0 <= base /\ base <= 1073741824) :
   (snapF ga gd gl life P sm st).2.2 = 0 /\ (wf (snapF ga gd gl life P sm st).2.1 (splace life) (sB (snapF ga gd gl life P sm st).1 ga gd gl life base gen)).2 = 0 /\
     InvN ga gd gl n (sL (snapF ga gd gl life P sm st).1 ga gd gl life base gen) (wf (snapF ga gd gl life P sm st).2.1 (splace life) (sB (snapF ga gd gl life P sm st).1 ga gd gl life base gen)).1 life base gen P [] := by
 obtain ⟨u1, u2, u3, u4, u5, _⟩ := hP.up life sm h.up
 obtain ⟨V, hV⟩ : ∃ V, V = snapF ga gd gl life P sm st := ⟨_, rfl⟩
 rw [<- hV] at u1 u2 u3 u4 u5 ⊢
 have hy := right_yes hr
 have hsp := splace_ok life
 have hlz := Wal.log_size hr
 have hPl := hP.len
 have hn7 : 4 <= n := by have := hP.size; omega
 have hpl : ∀ k, k < P.length -> 4 + gl <= areaAt ga gd gl life.toNat k := fun k hk => by
   rw [area_eq (by omega)]
   have hpb := pagesOf_bd ga gd gl
   have : 0 <= (life.toNat : Int) % 2 * pagesOf ga gd gl := Int.mul_nonneg (by omega) (by omega)
   omega
 obtain ⟨w1, w2, w3⟩ := u2.wf (p := splace life) (by omega) (by omega) (sB_len V.1 ga gd gl life base gen)
 have hm : More V.1 (sL V.1 ga gd gl life base gen) := More.after _ _
 have hk : ∀ p : Int, 0 <= p -> p ≠ splace life -> p < 4 + gl -> kept (wf V.2.1 (splace life) (sB V.1 ga gd gl life base gen)).1.all p.toNat = kept st.all p.toNat := fun p h0 h1 h2 => by
   rw [w3, Sup.kept_beside _ _ (by omega)]
   exact u5 _ (fun k hk => by have := hpl k hk; omega)
 refine ⟨u1, w1, w2, hb, hP, fun k hk' => ?_, ?_, ?_, fun k hk' => absurd hk' (by simp [allSecs]), fun p h0 h1 => .inr ?_, by simp [allSecs]; omega, fun t ht => (by cases ht)⟩
 · rw [w3, Sup.kept_beside _ _ (by have := hpl k hk'; omega)]
   exact hm _ _ _ (u4 k hk')
 · rw [w3, Sup.kept_after]
   exact sB_good V.1 hb.1 hb.2
 · exact h.oth.keep (u3.trans hm) (hk _ (by omega) (by omega) (by omega))
 · exact (h.log p h0 h1).keep (u3.trans hm) (hk p (by omega) (by omega) h1)
theorem InvN.append {ga gd gl : Int} {n : Nat} {sm : List (List UInt8)} {st : St} {life : UInt64} {base : Int} {gen0 : UInt64} {P0 : List (List UInt8)} {ts : List Tx} {t : Tx} (h : InvN ga gd gl n sm st life base gen0 P0 ts) (hr : right ga gd gl = true) (hl : ((allSecs life 0 ts).length : Int) + t.pages.length < gl) (hbd : badB ga gd gl t.pages = false) :
   (putF ga gd gl base life (allSecs life 0 ts).length t.gen t.pages sm st).2.2 = 0 /\
     InvN ga gd gl n (putF ga gd gl base life (allSecs life 0 ts).length t.gen t.pages sm st).1 (putF ga gd gl base life (allSecs life 0 ts).length t.gen t.pages sm st).2.1 life base gen0 P0 (ts ++ [t]) := by
 have hn := h.pages.size
 have hV := putF_turn (life := life) (q := (allSecs life 0 ts).length) (t := t) (sm := sm) h.up.size h.up.pend h.up.down hr h.hb.1 hn hl hbd
 obtain ⟨V, hVe⟩ : ∃ V, V = putF ga gd gl base life (allSecs life 0 ts).length t.gen t.pages sm st := ⟨_, rfl⟩
 rw [<- hVe] at hV ⊢
 rcases hV.res with ⟨_, _, h3, _⟩ | ⟨r1, r2, r3, r4, m, r5, r6, r7⟩
 · exact absurd h.up.fuse h3
 have hs := allSecs_snoc life ts 0 t
 rw [Nat.zero_add] at hs
 have htl := tSecs_len life (allSecs life 0 ts).length t
 have hlen : (allSecs life 0 (ts ++ [t])).length = (allSecs life 0 ts).length + (t.pages.length + 1) := by rw [hs, List.length_append, htl]
 have hat : ∀ k (h : k < m.length), ∃ h' : k < (tSecs life (allSecs life 0 ts).length t).length, m[k].1 = (pl ga gd gl base ((allSecs life 0 ts).length + k)).toNat := fun k h => ⟨by omega, (r7 k h (by omega)).1⟩
 have hkp : ∀ p : Int, 0 <= p -> (∀ j, j < t.pages.length + 1 -> p ≠ pl ga gd gl base ((allSecs life 0 ts).length + j)) -> kept V.2.1.all p.toNat = kept st.all p.toNat := fun p h0 h1 => by
   rw [r5]
   refine Disk.kept_append _ _ _ (fun w hw he => ?_)
   obtain ⟨j, hj, rfl⟩ := List.mem_iff_getElem.1 hw
   obtain ⟨h', e⟩ := hat j hj
   have p1 := pl_bd (base := base) hr h.hb.1 hn ((allSecs life 0 ts).length + j)
   exact h1 j (by omega) (by omega)
 have hy := right_yes hr
 have hsp := splace_ok life
 have hplb : ∀ k, 4 <= pl ga gd gl base k /\ pl ga gd gl base k < 4 + gl := fun k => by
   rw [pl_eq hr h.hb.1]
   have := Int.emod_nonneg (base + (k : Int)) (show gl ≠ 0 by omega)
   have := Int.emod_lt_of_pos (base + (k : Int)) (show 0 < gl by omega)
   omega
 have hPl := h.pages.len
 have hpl : ∀ k, k < P0.length -> 4 + gl <= areaAt ga gd gl life.toNat k := fun k hk => by
   rw [area_eq (by omega)]
   have hpb := pagesOf_bd ga gd gl
   have : 0 <= (life.toNat : Int) % 2 * pagesOf ga gd gl := Int.mul_nonneg (by omega) (by omega)
   omega
 refine ⟨r1, ⟨hV.size, r3, r2, r4 h.up.fuse⟩, h.hb, h.pages, fun k hk => ?_, ?_, ?_, fun k hk => ?_, fun p h0 h1 => ?_, by rw [hlen]; omega, fun u hu => ?_⟩
 · rw [hkp _ (by have := hpl k hk; omega) (fun j hj => by have := hpl k hk; have := hplb ((allSecs life 0 ts).length + j); omega)]
   exact hV.more _ _ _ (h.snap k hk)
 · rw [hkp _ (by omega) (fun j hj => by have := hplb ((allSecs life 0 ts).length + j); omega)]
   exact hV.more _ _ _ h.sup
 · exact h.oth.keep hV.more (hkp _ (by omega) (fun j hj => by have := hplb ((allSecs life 0 ts).length + j); omega))
 · rw [hlen] at hk
   by_cases h1 : k < (allSecs life 0 ts).length
   · rw [hkp _ (by have := hplb k; omega) (fun j hj e => by
       have := pl_inj hr h.hb.1 (base := base) (j := k) (k := (allSecs life 0 ts).length + j) (by omega) (by omega) e
       omega)]
     have e : (allSecs life 0 (ts ++ [t]))[k]'(by rw [hlen]; omega) = (allSecs life 0 ts)[k] := by
       simp only [hs]; exact List.getElem_append_left h1
     rw [e]
     exact hV.more _ _ _ (h.log k h1)
   · have e : (allSecs life 0 (ts ++ [t]))[k]'(by rw [hlen]; omega) = (tSecs life (allSecs life 0 ts).length t)[k - (allSecs life 0 ts).length]'(by omega) := by
       simp only [hs]; exact List.getElem_append_right (by omega)
     obtain ⟨a1, a2⟩ := r7 (k - (allSecs life 0 ts).length) (by omega) (by omega)
     rw [show (allSecs life 0 ts).length + (k - (allSecs life 0 ts).length) = k by omega] at a1 a2
     rw [e, r5, <- a1, kept_of st.all m (k - (allSecs life 0 ts).length) (by omega) (fun a b ha hb' hab => ?_)]
     · exact a2
     · obtain ⟨ha', ea⟩ := hat a ha
       obtain ⟨hb'', eb⟩ := hat b hb'
       rw [ea, eb] at hab
       have p1 := hplb ((allSecs life 0 ts).length + a)
       have p2 := hplb ((allSecs life 0 ts).length + b)
       have := pl_inj hr h.hb.1 (base := base) (j := (allSecs life 0 ts).length + a) (k := (allSecs life 0 ts).length + b) (by omega) (by omega) (by omega)
       omega
 · by_cases hj : ∃ j, j < t.pages.length + 1 /\ p = pl ga gd gl base ((allSecs life 0 ts).length + j)
   · obtain ⟨j, hj, rfl⟩ := hj
     exact .inl ⟨_, by rw [hlen]; omega, rfl⟩
   · rcases h.rest p h0 h1 with ⟨k, hk, e⟩ | h2
     · exact .inl ⟨k, by rw [hlen]; omega, e⟩
     · exact .inr (h2.keep hV.more (hkp p (by omega) (fun j hj' e => hj ⟨j, hj', e⟩)))
 · rcases List.mem_append.1 hu with hu | hu
   · exact h.bad u hu
   · rw [List.mem_singleton] at hu; rw [hu]; exact hbd
theorem InvN.super {ga gd gl : Int} {n : Nat} {sm : List (List UInt8)} {st : St} {life : UInt64} {base : Int} {gen0 : UInt64} {P0 : List (List UInt8)} {ts : List Tx} (h : InvN ga gd gl n sm st life base gen0 P0 ts) (hn : 4 <= n) : best (best none (atR sm st ga gd gl 2)) (atR sm st ga gd gl 3) = some ⟨life, base, gen0⟩ := by
 have hsp := splace_ok life
 have a1 := h.up.at_own (by omega) h.sup
 rcases h.oth with h1 | ⟨l', b', g', h1, h2, h3⟩
 · exact best_first (f := atR sm st ga gd gl) hsp rfl a1 (h.up.at_zero (by omega) (by omega) h1)
 · have a2 := h.up.at_own (by omega) h3
   exact best_later (f := atR sm st ga gd gl) (p := splace l') (q := splace life) (splace_ok l') (by omega) a2 a1 h1
theorem InvN.read {ga gd gl : Int} {n : Nat} {sm : List (List UInt8)} {st : St} {life : UInt64} {base : Int} {gen0 : UInt64} {P0 : List (List UInt8)} {ts : List Tx} (h : InvN ga gd gl n sm st life base gen0 P0 ts) : snapR sm st ga gd gl life P0.length = some P0 :=
 (snapR_some (fun k hk => rdAt_good h.up h.pages hk (h.snap k hk))).1
theorem InvN.scan {ga gd gl : Int} {n : Nat} {sm : List (List UInt8)} {st : St} {life : UInt64} {base : Int} {gen0 : UInt64} {P0 : List (List UInt8)} {ts : List Tx} (h : InvN ga gd gl n sm st life base gen0 P0 ts) (hr : right ga gd gl = true) : scanTx sm st ga gd gl base life = ts := by
 have hy := right_yes hr
 have hp := pagesOf_bd ga gd gl
 have hn := h.pages.size
 have hrd : ∀ k (hk : k < (allSecs life 0 ts).length), rdL sm st ga gd gl base k = ((allSecs life 0 ts)[k], 0) := fun k hk => by
   have p := pl_bd (base := base) hr h.hb.1 hn k
   exact rd_good h.up p.1 p.2.1 (h.log k hk)
 have hlen := h.len
 unfold scanTx
 refine scan_all (life := life) (by omega) (by omega) (by omega) (fun t ht x hx => ?_) (fun k hk => ?_) ?_
 · obtain ⟨j, hj, rfl⟩ := List.mem_iff_getElem.1 hx
   have := badB_of (h.bad t ht) hj
   exact ⟨this.1, this.2.1⟩
 · have e := hrd k hk
   have a := allSecs_at life ts 0 k hk
   refine ⟨by rw [e], ?_⟩
   unfold goodL
   rw [e]
   simp only [a.1, a.2]
   simp
 · by_cases hN : (allSecs life 0 ts).length = gl.toNat
   · exact .inl hN
   · right
     have p := pl_bd (base := base) hr h.hb.1 hn (allSecs life 0 ts).length
     have hpe := pl_eq (base := base) hr h.hb.1 (allSecs life 0 ts).length
     have e1 := Int.emod_nonneg (base + ((allSecs life 0 ts).length : Int)) (show gl ≠ 0 by omega)
     have e2 := Int.emod_lt_of_pos (base + ((allSecs life 0 ts).length : Int)) (show 0 < gl by omega)
     rcases h.rest (pl ga gd gl base (allSecs life 0 ts).length) (by omega) (by omega) with ⟨k, hk, e⟩ | h1 | ⟨y, h1, h2⟩
     · have := pl_inj hr h.hb.1 (base := base) (by omega) (by omega) e
       omega
     · have e : rdL sm st ga gd gl base (allSecs life 0 ts).length = (X0, 7) := rd_zero h.up p.1 p.2.1 h1
       unfold goodL
       rw [e]
       simp
     · have e : rdL sm st ga gd gl base (allSecs life 0 ts).length = (y, 0) := rd_good h.up p.1 p.2.1 h1
       unfold goodL
       rw [e]
       have : ¬ y.life = life := fun e => by rw [e, UInt64.lt_iff_toNat_lt] at h2; omega
       simp [this]
def wipeL : List Int -> St -> St × Int
 | [], s => (s, 0)
 | p :: r, s => if (write s p zero512).2 = 0 then wipeL r (write s p zero512).1 else write s p zero512
def wipeF (gl : Int) (s : St) : St × Int := if (wipeL ((List.range gl.toNat).map fun i : Nat => 4 + (i : Int)) s).2 = 0 then flush (wipeL ((List.range gl.toNat).map fun i : Nat => 4 + (i : Int)) s).1 else wipeL ((List.range gl.toNat).map fun i : Nat => 4 + (i : Int)) s
theorem wipeL_up {n : Nat} : ∀ (ps : List Int) (s : St), s.size = n -> s.down = false -> s.fuse < 0 -> (∀ p ∈ ps, 0 <= p /\ p < n) ->
   (wipeL ps s).2 = 0 /\ (wipeL ps s).1.size = n /\ (wipeL ps s).1.down = false /\ (wipeL ps s).1.fuse < 0 /\ (wipeL ps s).1.all = s.all /\ (wipeL ps s).1.pend = s.pend ++ ps.map fun p => (p.toNat, zero512)
 | [], s, h1, h2, h3, _ => ⟨rfl, h1, h2, h3, rfl, by simp [wipeL]⟩
 | p :: r, s, h1, h2, h3, hp => by
   obtain ⟨hp0, hp1⟩ := hp p (by simp)
   obtain ⟨w1, w2, w3, w4⟩ := Enc.write_cases h1 h2 hp0 hp1 Disk.zero512_len
   rcases w4 with ⟨_, _, w5⟩ | ⟨w4, w5, w6⟩
   · exact absurd h3 w5
   · obtain ⟨e1, e2, e3, e4, e5, e6⟩ := wipeL_up r (write s p zero512).1 w1 w5 (w6 h3) (fun q hq => hp q (by simp [hq]))
     have e : wipeL (p :: r) s = wipeL r (write s p zero512).1 := by show (if _ then _ else _) = _; rw [if_pos w4]
     rw [e]
     exact ⟨e1, e2, e3, e4, e5.trans w2, by rw [e6, w3]; simp⟩
theorem kept_zero (all : List Wr) (ps : List Int) {p : Int} (hp : p ∈ ps) (h0 : ∀ q ∈ ps, 0 <= q) : kept (all ++ ps.map fun p => (p.toNat, zero512)) p.toNat = zero512 := by
 have hz : ∀ (l : List Wr) (all : List Wr) (k : Nat), (∀ w ∈ l, w.2 = zero512) -> (kept all k = zero512 \/ ∃ w ∈ l, w.1 = k) -> kept (all ++ l) k = zero512 := by
   intro l
   induction l with
   | nil =>
     intro all k _ h
     rcases h with h | ⟨w, hw, _⟩
     · simpa using h
     · cases hw
   | cons w l ih =>
     intro all k hw h
     have e : all ++ w :: l = (all ++ [w]) ++ l := by simp
     rw [e]
     refine ih _ _ (fun v hv => hw v (by simp [hv])) ?_
     obtain ⟨q, b⟩ := w
     have hb : b = zero512 := hw (q, b) (by simp)
     subst hb
     by_cases hq : q = k
     · subst hq; exact .inl (Sup.kept_after _ _ _)
     · rcases h with h | ⟨v, hv, e⟩
       · exact .inl ((Sup.kept_beside _ _ hq).trans h)
       · rcases List.mem_cons.1 hv with hv | hv
         · rw [hv] at e; exact absurd e hq
         · exact .inr ⟨v, hv, e⟩
 exact hz _ _ _ (fun w hw => by obtain ⟨q, _, rfl⟩ := List.mem_map.1 hw; rfl) (.inr ⟨_, List.mem_map.2 ⟨p, hp, rfl⟩, rfl⟩)
theorem wipe_up {n : Nat} {s : St} {gl : Int} (h : UpN s n) (h0 : 0 <= gl) (hn : 4 + gl <= n) : (wipeF gl s).2 = 0 /\ UpN (wipeF gl s).1 n /\ (∀ p : Int, 4 <= p -> p < 4 + gl -> kept (wipeF gl s).1.all p.toNat = zero512) /\ ∀ p : Int, 0 <= p -> (p < 4 \/ 4 + gl <= p) -> kept (wipeF gl s).1.all p.toNat = kept s.all p.toNat := by
 have hps : ∀ p ∈ (List.range gl.toNat).map (fun i : Nat => 4 + (i : Int)), 4 <= p /\ p < 4 + gl := fun p hp => by
   obtain ⟨i, hi, rfl⟩ := List.mem_map.1 hp
   have := List.mem_range.1 hi
   omega
 obtain ⟨e1, e2, e3, e4, e5, e6⟩ := wipeL_up (n := n) ((List.range gl.toNat).map fun i : Nat => 4 + (i : Int)) s h.size h.down h.fuse (fun p hp => by have := hps p hp; omega)
 unfold wipeF
 rw [if_pos e1]
 obtain ⟨f1, f2⟩ := Enc.flush_cases e2 e3
 rcases f2 with ⟨_, _, _, _, f⟩ | ⟨f2, f3, f4, f5, f6⟩
 · exact absurd e4 f
 · have ha : (flush (wipeL ((List.range gl.toNat).map fun i : Nat => 4 + (i : Int)) s).1).1.all = s.all ++ ((List.range gl.toNat).map fun i : Nat => 4 + (i : Int)).map fun p => (p.toNat, zero512) := by rw [f4, e5, e6, h.pend, List.nil_append]
   refine ⟨f2, ⟨f1, f5, f3, f6 e4⟩, fun p h1 h2 => ?_, fun p h1 h2 => ?_⟩
   · rw [ha]
     exact kept_zero _ _ (List.mem_map.2 ⟨(p - 4).toNat, List.mem_range.2 (by omega), by omega⟩) (fun q hq => by have := hps q hq; omega)
   · rw [ha]
     refine Disk.kept_append _ _ _ (fun w hw he => ?_)
     obtain ⟨q, hq, rfl⟩ := List.mem_map.1 hw
     have := hps q hq
     simp only at he
     omega
theorem pre_first {ga gd gl : Int} {n : Nat} {s : St} (h : UpN s n) (hr : right ga gd gl = true) (hn : (n : Int) = Geom.sizeOf ga gd gl) (sm : List (List UInt8)) : (Sup.clr s).2 = 0 /\ (wipeF gl (Sup.clr s).1).2 = 0 /\ PreN ga gd gl n sm (wipeF gl (Sup.clr s).1).1 1 := by
 have hy := right_yes hr
 have hlz := Wal.log_size hr
 obtain ⟨c1, c2, c3, _⟩ := h.clr (by omega)
 obtain ⟨w1, w2, w3, w4⟩ := wipe_up (gl := gl) c2 (by omega) (by omega)
 refine ⟨c1, w1, w2, .inl ?_, fun p h0 h1 => .inl (w3 p h0 h1)⟩
 have h5 : 5 - splace (1 : UInt64) = 2 := by decide
 rw [h5, w4 2 (by omega) (by omega), c3]
 show kept (s.all ++ ([(2, zero512)] ++ [(3, zero512)])) 2 = zero512
 rw [<- List.append_assoc, Sup.kept_beside _ _ (by decide), Sup.kept_after]
end Go.Proofs.YtchcmklelmlbgaaGreat.Sto
namespace Go.Proofs.YtchcmklelmlbgaaGreat.Sto
open Go.RowKit
open Go.Proofs.YtchcmklelmlbgaaGreat.Geom
open Go.Proofs.YtchcmklelmlbgaaGreat.Disk (St Wr write flush kept new zero512 restart)
open Go.Proofs.YtchcmklelmlbgaaGreat.Sec (X X0 text text_len rightF sumAfter ckS checkOf sumOf place_of)
open Go.Proofs.YtchcmklelmlbgaaGreat.Sup (UpN splace splace_ok splace_next sx sx_right sB sB_len sB_good sL wf wf_cases restart_one atR best best_first best_later SV text_inj isSup mem_after)
open Go.Proofs.YtchcmklelmlbgaaGreat.Snap (PagesOk px snapF snapR snapR_some rdAt_good area_eq area_inj area_apart next_odd)
open Go.Proofs.YtchcmklelmlbgaaGreat.Wal (Tx allSecs allSecs_at allSecs_snoc tSecs tSecs_len tSecs_at dSecs dSecs_len dSecs_get dSecs_take pl pl_eq pl_inj pl_bd badB badB_of putF PutT putF_turn scanTx scan_all rdL goodL tSecs_right LogC takes takes_all takes_data takes_append takes_fold okR_nil num num_append range_num scanH_done find_stop r00 scanH)
open Go.Proofs.YtchcmklelmlbgaaGreat.Enc (Enf More rd_good rd_zero kept_of encs enf encs_go encs_stop Itm restart_up)
set_option linter.unusedVariables false
def putP (P : List (List UInt8)) (l : List Pg) : List (List UInt8) := l.foldl (fun P x => P.set x.n.toNat x.body) P
def applyT (P : List (List UInt8)) (ts : List Tx) : List (List UInt8) := ts.foldl (fun P t => putP P t.pages) P
def genT (g : UInt64) (ts : List Tx) : UInt64 := ts.foldl (fun _ t => t.gen) g
theorem putP_len : ∀ (l : List Pg) (P : List (List UInt8)), (putP P l).length = P.length
 | [], P => rfl
 | x :: l, P => by show (putP (P.set x.n.toNat x.body) l).length = _; rw [putP_len l]; simp
theorem applyT_len : ∀ (ts : List Tx) (P : List (List UInt8)), (applyT P ts).length = P.length
 | [], P => rfl
 | t :: ts, P => by show (applyT (putP P t.pages) ts).length = _; rw [applyT_len ts, putP_len]
theorem applyT_snoc (P : List (List UInt8)) (ts : List Tx) (t : Tx) : applyT P (ts ++ [t]) = putP (applyT P ts) t.pages := by simp [applyT]
theorem genT_snoc (g : UInt64) (ts : List Tx) (t : Tx) : genT g (ts ++ [t]) = t.gen := by simp [genT]
theorem putP_ok {ga gd gl : Int} {n : Nat} : ∀ (l : List Pg) (P : List (List UInt8)), PagesOk ga gd gl n P -> (∀ x ∈ l, x.body.length <= 479) -> PagesOk ga gd gl n (putP P l)
 | [], P, h, _ => h
 | x :: l, P, h, hl => putP_ok l (P.set x.n.toNat x.body) ⟨h.size, by rw [List.length_set]; exact h.len, fun j hj => by
     rw [List.getElem_set]
     split
     · exact hl x (by simp)
     · exact h.short j (by simpa using hj)⟩ (fun y hy => hl y (by simp [hy]))
theorem bad_short {ga gd gl : Int} {l : List Pg} (h : badB ga gd gl l = false) : ∀ x ∈ l, x.body.length <= 473 := fun x hx => by
 obtain ⟨j, hj, rfl⟩ := List.mem_iff_getElem.1 hx
 exact (badB_of h hj).2.2
theorem bad_num {ga gd gl : Int} {l : List Pg} (h : badB ga gd gl l = false) : ∀ x ∈ l, 0 <= x.n /\ x.n < pagesOf ga gd gl := fun x hx => by
 obtain ⟨j, hj, rfl⟩ := List.mem_iff_getElem.1 hx
 exact ⟨(badB_of h hj).1, (badB_of h hj).2.1⟩
theorem applyT_ok {ga gd gl : Int} {n : Nat} : ∀ (ts : List Tx) (P : List (List UInt8)), PagesOk ga gd gl n P -> (∀ t ∈ ts, badB ga gd gl t.pages = false) -> PagesOk ga gd gl n (applyT P ts)
 | [], P, h, _ => h
 | t :: ts, P, h, hb => applyT_ok ts (putP P t.pages) (putP_ok _ _ h (fun x hx => by have := bad_short (hb t (by simp)) x hx; omega)) (fun u hu => hb u (by simp [hu]))
def Ext (l l' : List (List UInt8)) : Prop := ∃ e, l' = l ++ e
theorem Ext.refl (l : List (List UInt8)) : Ext l l := ⟨[], by simp⟩
theorem Ext.trans {a b c : List (List UInt8)} (h : Ext a b) (k : Ext b c) : Ext a c := by
 obtain ⟨e, rfl⟩ := h
 obtain ⟨f, rfl⟩ := k
 exact ⟨e ++ f, by simp⟩
theorem Ext.after (l : List (List UInt8)) (T : List UInt8) : Ext l (sumAfter l T) := by
 unfold sumAfter
 split
 · exact Ext.refl l
 · exact ⟨[T], rfl⟩
theorem encs_ext : ∀ (is : List Itm) (l : List (List UInt8)) (s : St), Ext l (encs is l s).1
 | [], l, s => Ext.refl l
 | i :: r, l, s => by
   by_cases h : (write s i.1 (Enc.xB l i.1 i.2)).2 = 0
   · rw [encs_go h]; exact (Ext.after _ _).trans (encs_ext r _ _)
   · rw [encs_stop h]; exact Ext.after _ _
theorem enf_ext (is : List Itm) (l : List (List UInt8)) (s : St) : Ext l (enf is l s).1 := by
 unfold enf
 split
 · exact encs_ext is l s
 · exact encs_ext is l s
theorem putF_ext (ga gd gl base : Int) (life : UInt64) (q : Nat) (gen : UInt64) (pages : List Pg) (l : List (List UInt8)) (s : St) : Ext l (putF ga gd gl base life q gen pages l s).1 := by
 unfold putF
 split
 · exact (enf_ext _ _ _).trans (enf_ext _ _ _)
 · exact enf_ext _ _ _
theorem Good.back {l l' : List (List UInt8)} {p : Int} {x : X} {b : List UInt8} (h : Sup.Good l' p x b) (e : Ext l l') (hT : text p x ∈ l) : Sup.Good l p x b := by
 obtain ⟨h1, h2, s, hs, rfl⟩ := h
 refine ⟨h1, ?_, s, hs, rfl⟩
 obtain ⟨f, rfl⟩ := e
 unfold ckS checkOf at h2 ⊢
 rw [List.take_left' (text_len p x), List.drop_left' (text_len p x)] at h2 ⊢
 rw [Bool.and_eq_true] at h2 ⊢
 refine ⟨decide_eq_true hT, ?_⟩
 have h3 := h2.2
 rw [List.idxOf_append, if_pos hT] at h3
 exact h3
theorem Good.text {l : List (List UInt8)} {p : Int} {x : X} {b : List UInt8} (h : Sup.Good l p x b) : rightF p x = 0 /\ text p x ∈ l := Sup.dec_sound h.dec
theorem Good.uniq {l l' : List (List UInt8)} {p : Int} {x y : X} {b : List UInt8} (h : Sup.Good l p x b) (k : Sup.Good l' p y b) : x = y := by
 obtain ⟨h1, _, s, hs, rfl⟩ := h
 obtain ⟨k1, _, t, ht, e⟩ := k
 have := (List.append_inj e (by rw [text_len, text_len])).1
 exact text_inj h1 k1 this
theorem not_zero {l : List (List UInt8)} {p : Int} {x : X} (h : Sup.Good l p x zero512) : False := by
 have h1 := h.dec
 rw [Sup.dec_zero] at h1
 injection h1 with _ h2
 cases h2
theorem dec_good {l : List (List UInt8)} {p : Int} {b : List UInt8} {x : X} (h : Sec.decode (ckS l b) p b = (x, 0)) : Sup.Good l p x b := by
 have hs := Sup.dec_sound h
 have h0 := h
 unfold Sec.decode at h
 split at h
 · cases h
 · rename_i hl
   split at h
   · cases h
   · split at h
     · rename_i y hr
       split at h
       · rename_i hc
         injection h with h _
         subst h
         refine ⟨hs.1, hc, b.drop 504, by rw [List.length_drop]; omega, ?_⟩
         have ht : text p y = b.take 504 := by
           unfold Sec.reads at hr
           split at hr
           · rename_i hq
             injection hr with hr
             subst hr
             exact hq.2.2
           · cases hr
         rw [ht, List.take_append_drop]
       · cases h
     · cases h
end Go.Proofs.YtchcmklelmlbgaaGreat.Sto
namespace Go.Proofs.YtchcmklelmlbgaaGreat.Sto
open Go.RowKit
open Go.Proofs.YtchcmklelmlbgaaGreat.Geom
open Go.Proofs.YtchcmklelmlbgaaGreat.Disk (St Wr write flush kept new zero512 restart)
open Go.Proofs.YtchcmklelmlbgaaGreat.Sec (X X0 text text_len rightF sumAfter ckS checkOf sumOf place_of)
open Go.Proofs.YtchcmklelmlbgaaGreat.Sup (UpN splace splace_ok splace_next sx sx_right sB sB_len sB_good sL wf wf_cases restart_one atR best best_first best_later SV text_inj isSup mem_after)
open Go.Proofs.YtchcmklelmlbgaaGreat.Snap (PagesOk px snapF snapR snapR_some rdAt_good area_eq area_inj area_apart next_odd)
open Go.Proofs.YtchcmklelmlbgaaGreat.Wal (Tx allSecs allSecs_at allSecs_snoc tSecs tSecs_len tSecs_at dSecs dSecs_len dSecs_get dSecs_take pl pl_eq pl_inj pl_bd badB badB_of putF PutT putF_turn scanTx scan_all rdL goodL tSecs_right LogC takes takes_all takes_data takes_append takes_fold okR_nil num num_append range_num scanH_done find_stop r00 scanH)
open Go.Proofs.YtchcmklelmlbgaaGreat.Enc (Enf More rd_good rd_zero kept_of encs enf encs_go encs_stop Itm restart_up)
set_option linter.unusedVariables false
def NoG (sm : List (List UInt8)) (all : List Wr) (p : Int) (Q : X -> Prop) : Prop := ∀ y, Sup.Good sm p y (kept all p.toNat) -> ¬ Q y
theorem NoG.keep {sm sm' : List (List UInt8)} {all all' : List Wr} {p : Int} {Q : X -> Prop} (h : NoG sm all p Q) (e : Ext sm sm') (ht : ∀ y, rightF p y = 0 -> text p y ∈ sm' -> text p y ∈ sm \/ ¬ Q y) (k : kept all' p.toNat = kept all p.toNat) : NoG sm' all' p Q := fun y hy hq => by
 rw [k] at hy
 obtain ⟨h1, h2⟩ := Good.text hy
 rcases ht y h1 h2 with h3 | h3
 · exact h y (Good.back hy e h3) hq
 · exact h3 hq
def zsec (life : UInt64) (ts : List Tx) (gen : UInt64) (pgs : List Pg) : List X := allSecs life 0 ts ++ dSecs life (allSecs life 0 ts).length gen 0 pgs
theorem zsec_at (life : UInt64) (ts : List Tx) (gen : UInt64) (pgs : List Pg) (k : Nat) (h : k < (zsec life ts gen pgs).length) : (zsec life ts gen pgs)[k].life = life /\ (zsec life ts gen pgs)[k].seq = (k : Int) := by
 have hl : (zsec life ts gen pgs).length = (allSecs life 0 ts).length + pgs.length := by simp [zsec, dSecs_len]
 have h0 : k < (allSecs life 0 ts ++ dSecs life (allSecs life 0 ts).length gen 0 pgs).length := h
 show ((allSecs life 0 ts ++ dSecs life (allSecs life 0 ts).length gen 0 pgs)[k]'h0).life = life /\ ((allSecs life 0 ts ++ dSecs life (allSecs life 0 ts).length gen 0 pgs)[k]'h0).seq = (k : Int)
 by_cases h1 : k < (allSecs life 0 ts).length
 · rw [List.getElem_append_left h1]
   have := allSecs_at life ts 0 k h1
   rw [Nat.zero_add] at this
   exact this
 · rw [List.getElem_append_right (by omega), dSecs_get _ _ _ _ _ _ _ (by omega)]
   refine ⟨rfl, ?_⟩
   show ((((allSecs life 0 ts).length + (0 + (k - (allSecs life 0 ts).length)) : Nat) : Int)) = k
   omega
structure LogS (ga gd gl base : Int) (life : UInt64) (sm : List (List UInt8)) (all : List Wr) (ts : List Tx) : Prop where
 ex : ∃ (gen : UInt64) (pgs : List Pg), (∀ x ∈ pgs, 0 <= x.n /\ x.n < pagesOf ga gd gl) /\ ((zsec life ts gen pgs).length : Int) <= gl /\ (∀ k (h : k < (zsec life ts gen pgs).length), Sup.Good sm (pl ga gd gl base k) (zsec life ts gen pgs)[k] (kept all (pl ga gd gl base k).toNat)) /\
   (((zsec life ts gen pgs).length : Int) = gl \/ NoG sm all (pl ga gd gl base (zsec life ts gen pgs).length) (fun y => y.life = life /\ y.seq = ((zsec life ts gen pgs).length : Int)))
theorem LogS.keep {ga gd gl base : Int} {life : UInt64} {sm sm' : List (List UInt8)} {all all' : List Wr} {ts : List Tx} (h : LogS ga gd gl base life sm all ts) (e : Ext sm sm') (m : More sm sm') (ht : ∀ (k : Nat) y, (k : Int) < gl -> rightF (pl ga gd gl base k) y = 0 -> text (pl ga gd gl base k) y ∈ sm' -> text (pl ga gd gl base k) y ∈ sm) (k : ∀ k : Nat, (k : Int) < gl -> kept all' (pl ga gd gl base k).toNat = kept all (pl ga gd gl base k).toNat) : LogS ga gd gl base life sm' all' ts := by
 obtain ⟨gen, pgs, h1, h2, h3, h4⟩ := h.ex
 refine ⟨gen, pgs, h1, h2, fun j hj => by rw [k j (by omega)]; exact m _ _ _ (h3 j hj), ?_⟩
 rcases h4 with h4 | h4
 · exact .inl h4
 · by_cases hz : ((zsec life ts gen pgs).length : Int) = gl
   · exact .inl hz
   · exact .inr (h4.keep e (fun y a b => .inl (ht _ y (by omega) a b)) (k _ (by omega)))
theorem LogS.scan {ga gd gl base : Int} {n : Nat} {life : UInt64} {sm : List (List UInt8)} {st : St} {ts : List Tx} (h : LogS ga gd gl base life sm st.all ts) (hu : UpN st n) (hr : right ga gd gl = true) (hb : 0 <= base) (hn : (n : Int) = Geom.sizeOf ga gd gl) (hx : ∀ t ∈ ts, ∀ x ∈ t.pages, 0 <= x.n /\ x.n < pagesOf ga gd gl) : scanTx sm st ga gd gl base life = ts := by
 have hy := right_yes hr
 have hp := pagesOf_bd ga gd gl
 obtain ⟨gen, pgs, h1, h2, h3, h4⟩ := h.ex
 obtain ⟨Z, hZ⟩ : ∃ Z, Z = zsec life ts gen pgs := ⟨_, rfl⟩
 have hzat := zsec_at life ts gen pgs
 rw [<- hZ] at h2 h3 h4 hzat
 have hZl : Z.length = (allSecs life 0 ts).length + pgs.length := by rw [hZ]; simp [zsec, dSecs_len]
 have hrd : ∀ k (hk : k < Z.length), rdL sm st ga gd gl base k = (Z[k], 0) := fun k hk => by
   have p := pl_bd (base := base) hr hb hn k
   exact rd_good hu p.1 p.2.1 (h3 k hk)
 have hg : ∀ k, k < Z.length -> goodL sm st ga gd gl base life k = true := fun k hk => by
   have a := hzat k hk
   unfold goodL
   rw [hrd k hk]
   simp only [a.1, a.2]
   simp
 have he : Z.length = gl.toNat \/ goodL sm st ga gd gl base life Z.length = false := by
   rcases h4 with h4 | h4
   · exact .inl (by omega)
   · right
     cases hgz : goodL sm st ga gd gl base life Z.length with
     | false => rfl
     | true =>
       unfold goodL at hgz
       simp only [Bool.and_eq_true, decide_eq_true_eq] at hgz
       have p := pl_bd (base := base) hr hb hn Z.length
       have hd : Sec.decode (ckS sm (kept st.all (pl ga gd gl base Z.length).toNat)) (pl ga gd gl base Z.length) (kept st.all (pl ga gd gl base Z.length).toNat) = ((rdL sm st ga gd gl base Z.length).1, 0) := by
         have e1 := hgz.1
         unfold rdL Enc.rd at e1 ⊢
         rw [hu.read p.1 p.2.1] at e1 ⊢
         simp only [] at e1 ⊢
         generalize Sec.decode (ckS sm (kept st.all (pl ga gd gl base Z.length).toNat)) (pl ga gd gl base Z.length) (kept st.all (pl ga gd gl base Z.length).toNat) = d at e1
         obtain ⟨x, f⟩ := d
         simp only at e1
         rw [e1]
       exact absurd hgz.2 (h4 _ (dec_good hd))
 have hm := range_num (rdf := fun k => (rdL sm st ga gd gl base k).1) (S := Z) (K := Z.length) (Nat.le_refl _) (fun k hk => by rw [List.getElem?_eq_getElem hk, hrd k hk])
 rw [List.take_length] at hm
 obtain ⟨g', e⟩ := takes_all (life := life) (np := pagesOf ga gd gl) (by omega) ts 0 [] 0 (by omega) hx
 obtain ⟨g2, f1, f2⟩ := takes_data (life := life) (gen := gen) (q := (allSecs life 0 ts).length) (np := pagesOf ga gd gl) (by omega) (by omega) pgs 0 ⟨[] ++ ts, [], g', 0 + (allSecs life 0 ts).length⟩ h1 (Nat.zero_add _) (fun h => absurd rfl h)
 have e3 := takes_append (pagesOf ga gd gl) (num 0 (allSecs life 0 ts)) (num (0 + (allSecs life 0 ts).length) (dSecs life (allSecs life 0 ts).length gen 0 pgs)) _ _ e
 rw [<- num_append] at e3
 rw [Nat.add_zero] at f1
 rw [show 0 + (allSecs life 0 ts).length = (allSecs life 0 ts).length from Nat.zero_add _] at e3 f1
 rw [f1] at e3
 rw [show allSecs life 0 ts ++ dSecs life (allSecs life 0 ts).length gen 0 pgs = Z from hZ.symm] at e3
 obtain ⟨e1, e2⟩ := takes_fold (pagesOf ga gd gl) _ _ [] (okR_nil _) e3
 rw [List.nil_append] at e1 e2
 unfold scanTx
 rw [scanH_done (by omega) hg (by rw [hm]; exact e1) he, hm, e2]
 simp
theorem LogS.crash {ga gd gl base : Int} {n : Nat} {life : UInt64} {sm : List (List UInt8)} {st : St} {ts : List Tx} {t : Tx} (h : LogC ga gd gl base n life sm st.all (allSecs life 0 ts) (allSecs life 0 ts ++ tSecs life (allSecs life 0 ts).length t)) (hu : UpN st n) (hr : right ga gd gl = true) (hb : 0 <= base) (hn : (n : Int) = Geom.sizeOf ga gd gl) (hl : ((allSecs life 0 ts).length : Int) + t.pages.length < gl) (hx : ∀ x ∈ t.pages, 0 <= x.n /\ x.n < pagesOf ga gd gl) :
   LogS ga gd gl base life sm st.all ts \/ LogS ga gd gl base life sm st.all (ts ++ [t]) := by
 obtain ⟨K, hK, hg, he⟩ := find_stop (goodL sm st ga gd gl base life) gl.toNat
 have hs := allSecs_snoc life ts 0 t
 rw [Nat.zero_add] at hs
 have htl := tSecs_len life (allSecs life 0 ts).length t
 obtain ⟨S, hS⟩ : ∃ S, S = allSecs life 0 ts ++ tSecs life (allSecs life 0 ts).length t := ⟨_, rfl⟩
 rw [<- hS] at h hs
 have hSl : S.length = (allSecs life 0 ts).length + (t.pages.length + 1) := by rw [hS, List.length_append, htl]
 have hrd : ∀ k : Nat, (k : Int) < gl -> goodL sm st ga gd gl base life k = true -> Sup.Good sm (pl ga gd gl base k) (rdL sm st ga gd gl base k).1 (kept st.all (pl ga gd gl base k).toNat) /\ S[k]? = some (rdL sm st ga gd gl base k).1 := fun k hk hgk => by
   refine ⟨?_, h.sound hk hgk⟩
   unfold goodL at hgk
   simp only [Bool.and_eq_true, decide_eq_true_eq] at hgk
   have p := pl_bd (base := base) hr hb hn k
   apply dec_good
   have e1 := hgk.1
   unfold rdL Enc.rd at e1 ⊢
   rw [hu.read p.1 p.2.1] at e1 ⊢
   simp only [] at e1 ⊢
   generalize Sec.decode (ckS sm (kept st.all (pl ga gd gl base k).toNat)) (pl ga gd gl base k) (kept st.all (pl ga gd gl base k).toNat) = d at e1
   obtain ⟨x, f⟩ := d
   simp only at e1
   rw [e1]
 have hKS : K <= S.length := by
   rcases Nat.lt_or_ge S.length K with h5 | h5
   · have := (hrd S.length (by omega) (hg _ h5)).2
     rw [List.getElem?_eq_none (Nat.le_refl _)] at this; cases this
   · exact h5
 have hMK : (allSecs life 0 ts).length <= K := by
   rcases Nat.lt_or_ge K (allSecs life 0 ts).length with h5 | h5
   · have := h.isgood hu hr hb hn h5
     rcases he with e | e
     · omega
     · rw [this] at e; cases e
   · exact h5
 have hgood : ∀ k (hk : k < K), Sup.Good sm (pl ga gd gl base k) (S[k]'(by omega)) (kept st.all (pl ga gd gl base k).toNat) := fun k hk => by
   obtain ⟨h5, h6⟩ := hrd k (by omega) (hg k hk)
   rw [List.getElem?_eq_getElem (by omega)] at h6
   rw [Option.some.inj h6]; exact h5
 have hstop : (K : Int) = gl \/ NoG sm st.all (pl ga gd gl base K) (fun y => y.life = life /\ y.seq = (K : Int)) := by
   have hy := right_yes hr
   rcases he with e | e
   · exact .inl (by omega)
   · right
     intro y hy' hq
     have p := pl_bd (base := base) hr hb hn K
     have e1 : rdL sm st ga gd gl base K = (y, 0) := rd_good hu p.1 p.2.1 hy'
     unfold goodL at e
     rw [e1] at e
     simp [hq.1, hq.2] at e
 by_cases hKe : K = S.length
 · right
   have hz : zsec life (ts ++ [t]) 0 [] = S := by rw [<- hs]; simp [zsec, dSecs]
   refine ⟨0, [], fun x hx => (by cases hx), ?_⟩
   rw [hz]
   subst hKe
   exact ⟨by omega, fun k hk => hgood k hk, hstop⟩
 · left
   obtain ⟨j, hj⟩ : ∃ j, K = (allSecs life 0 ts).length + j := ⟨K - (allSecs life 0 ts).length, by omega⟩
   have hjl : j <= t.pages.length := by omega
   have htake : zsec life ts t.gen (t.pages.take j) = S.take K := by
     have hR : (allSecs life 0 ts ++ tSecs life (allSecs life 0 ts).length t).take ((allSecs life 0 ts).length + j) = allSecs life 0 ts ++ (tSecs life (allSecs life 0 ts).length t).take j := by
       rw [List.take_append, List.take_of_length_le (by omega), Nat.add_sub_cancel_left]
     rw [hS, hj, hR]
     unfold tSecs zsec
     rw [List.take_append_of_le_length (by rw [dSecs_len]; exact hjl), dSecs_take]
   have hln : (zsec life ts t.gen (t.pages.take j)).length = K := by rw [htake, List.length_take]; omega
   refine ⟨t.gen, t.pages.take j, fun x hx' => hx x (List.mem_of_mem_take hx'), by rw [hln]; omega, fun k hk => ?_, by rw [hln]; exact hstop⟩
   have hk' : k < K := by omega
   have e : (zsec life ts t.gen (t.pages.take j))[k] = S[k]'(by omega) := by
     have : (zsec life ts t.gen (t.pages.take j))[k]? = (S.take K)[k]? := by rw [htake]
     rw [List.getElem?_eq_getElem hk, List.getElem?_take_of_lt hk', List.getElem?_eq_getElem (by omega)] at this
     exact Option.some.inj this
   rw [e]
   exact hgood k hk'
theorem LogS.of_C {ga gd gl base : Int} {n : Nat} {life : UInt64} {sm : List (List UInt8)} {all : List Wr} {ts : List Tx} (h : LogC ga gd gl base n life sm all (allSecs life 0 ts) (allSecs life 0 ts)) (hl : ((allSecs life 0 ts).length : Int) <= gl) : LogS ga gd gl base life sm all ts := by
 have hz : zsec life ts 0 [] = allSecs life 0 ts := by simp [zsec, dSecs]
 refine ⟨0, [], fun x hx => (by cases hx), ?_⟩
 rw [hz]
 refine ⟨hl, h.good, ?_⟩
 by_cases e : ((allSecs life 0 ts).length : Int) = gl
 · exact .inl e
 · right
   intro y hy hq
   obtain ⟨h1, h2⟩ := Good.text hy
   have := h.only (allSecs life 0 ts).length y (by omega) h1 h2 hq.1
   rw [List.getElem?_eq_none (Nat.le_refl _)] at this; cases this
end Go.Proofs.YtchcmklelmlbgaaGreat.Sto
namespace Go.Proofs.YtchcmklelmlbgaaGreat.Sto
open Go.RowKit
open Go.Proofs.YtchcmklelmlbgaaGreat.Geom
open Go.Proofs.YtchcmklelmlbgaaGreat.Disk (St Wr write flush kept new zero512 restart)
open Go.Proofs.YtchcmklelmlbgaaGreat.Sec (X X0 text text_len rightF sumAfter ckS checkOf sumOf place_of)
open Go.Proofs.YtchcmklelmlbgaaGreat.Sup (UpN splace splace_ok splace_next sx sx_right sB sB_len sB_good sL wf wf_cases restart_one atR best best_first best_later SV text_inj isSup mem_after)
open Go.Proofs.YtchcmklelmlbgaaGreat.Snap (PagesOk px snapF snapR snapR_some rdAt_good area_eq area_inj area_apart next_odd)
open Go.Proofs.YtchcmklelmlbgaaGreat.Wal (Tx allSecs allSecs_at allSecs_snoc tSecs tSecs_len tSecs_at pl pl_eq pl_inj pl_bd badB badB_of putF PutT putF_turn scanTx tSecs_right LogC)
open Go.Proofs.YtchcmklelmlbgaaGreat.Enc (Enf More kept_of restart_up)
set_option linter.unusedVariables false
def nextB (gl base : Int) (life : UInt64) (ts : List Tx) : Int := (base + ((allSecs life 0 ts).length : Int)) % gl
def NextAt (ga gd gl : Int) (life : UInt64) (base : Int) (gen0 : UInt64) (P0 : List (List UInt8)) (ts : List Tx) (p : Int) (y : X) : Prop :=
 (∃ k, ∃ h : k < (applyT P0 ts).length, p = areaAt ga gd gl (life + 1).toNat k /\ y = px (life + 1) k (applyT P0 ts)[k]) \/ (p = splace (life + 1) /\ y = sx ga gd gl (life + 1) (nextB gl base life ts) (genT gen0 ts))
structure KB (ga gd gl : Int) (n : Nat) (sm : List (List UInt8)) (all : List Wr) (life : UInt64) (base : Int) (gen0 : UInt64) (P0 : List (List UInt8)) (ts : List Tx) : Prop where
 hb : 0 <= base /\ base <= 1073741824
 pages : PagesOk ga gd gl n P0
 snap : ∀ k (hk : k < P0.length), Sup.Good sm (areaAt ga gd gl life.toNat k) (px life k P0[k]) (kept all (areaAt ga gd gl life.toNat k).toNat)
 sup : Sup.Good sm (splace life) (sx ga gd gl life base gen0) (kept all (splace life).toNat)
 log : LogS ga gd gl base life sm all ts
 len : ((allSecs life 0 ts).length : Int) <= gl
 bad : ∀ t ∈ ts, badB ga gd gl t.pages = false
 texts : ∀ (p : Int) (y : X), rightF p y = 0 -> text p y ∈ sm -> y.life.toNat <= life.toNat \/ (y.life = life + 1 /\ NextAt ga gd gl life base gen0 P0 ts p y)
structure KC (ga gd gl : Int) (n : Nat) (sm : List (List UInt8)) (all : List Wr) (life : UInt64) (base : Int) (gen0 : UInt64) (P0 : List (List UInt8)) (ts : List Tx) : Prop where
 kb : KB ga gd gl n sm all life base gen0 P0 ts
 oth : NoG sm all (5 - splace life) (fun y => y.kind = 2 /\ splace y.life = 5 - splace life /\ ¬ y.life < life)
structure KA (ga gd gl : Int) (n : Nat) (sm : List (List UInt8)) (st : St) (life : UInt64) (base : Int) (gen0 : UInt64) (P0 : List (List UInt8)) (ts : List Tx) : Prop where
 kc : KC ga gd gl n sm st.all life base gen0 P0 ts
 size : st.size = n
 pend : st.pend = []
 down : st.down = false
 logc : LogC ga gd gl base n life sm st.all (allSecs life 0 ts) (allSecs life 0 ts)
 nonext : ∀ (p : Int) (y : X), rightF p y = 0 -> text p y ∈ sm -> y.life.toNat <= life.toNat
theorem pl_log {ga gd gl base : Int} (hr : right ga gd gl = true) (hb : 0 <= base) (k : Nat) : 4 <= pl ga gd gl base k /\ pl ga gd gl base k < 4 + gl := by
 have hy := right_yes hr
 rw [pl_eq hr hb]
 have := Int.emod_nonneg (base + (k : Int)) (show gl ≠ 0 by omega)
 have := Int.emod_lt_of_pos (base + (k : Int)) (show 0 < gl by omega)
 omega
theorem area_high {ga gd gl : Int} {m k : Nat} (h : (k : Int) < pagesOf ga gd gl) : 4 + gl <= areaAt ga gd gl m k := by
 rw [area_eq h]
 have : 0 <= (m : Int) % 2 * pagesOf ga gd gl := Int.mul_nonneg (by omega) (by omega)
 omega
theorem NextAt.place {ga gd gl : Int} {n : Nat} {life : UInt64} {base : Int} {gen0 : UInt64} {P0 : List (List UInt8)} {ts : List Tx} {p : Int} {y : X} (h : NextAt ga gd gl life base gen0 P0 ts p y) (hP : PagesOk ga gd gl n P0) : p = splace (life + 1) \/ 4 + gl <= p := by
 rcases h with ⟨k, hk, e, _⟩ | ⟨e, _⟩
 · right
   rw [applyT_len] at hk
   rw [e]
   exact area_high (by have := hP.len; omega)
 · exact .inl e
theorem life1 {life : UInt64} (h : life.toNat ≠ 18446744073709551615) : (life + 1).toNat = life.toNat + 1 := by
 have h1 : (life + 1).toNat = (life.toNat + 1) % 18446744073709551616 := by simp [UInt64.toNat_add]
 have h2 : life.toNat < 18446744073709551616 := life.toNat_lt
 omega
theorem KB.keep {ga gd gl : Int} {n : Nat} {sm sm' : List (List UInt8)} {all all' : List Wr} {life : UInt64} {base : Int} {gen0 : UInt64} {P0 : List (List UInt8)} {ts : List Tx} (h : KB ga gd gl n sm all life base gen0 P0 ts) (hr : right ga gd gl = true) (e : Ext sm sm') (m : More sm sm')
   (hs : ∀ k, k < P0.length -> kept all' (areaAt ga gd gl life.toNat k).toNat = kept all (areaAt ga gd gl life.toNat k).toNat) (hp : kept all' (splace life).toNat = kept all (splace life).toNat) (hl : ∀ p : Int, 4 <= p -> p < 4 + gl -> kept all' p.toNat = kept all p.toNat)
   (ht : ∀ (p : Int) (y : X), rightF p y = 0 -> text p y ∈ sm' -> text p y ∈ sm \/ (y.life = life + 1 /\ NextAt ga gd gl life base gen0 P0 ts p y)) : KB ga gd gl n sm' all' life base gen0 P0 ts := by
 refine ⟨h.hb, h.pages, fun k hk => by rw [hs k hk]; exact m _ _ _ (h.snap k hk), by rw [hp]; exact m _ _ _ h.sup, h.log.keep e m (fun k y hk hy hT => ?_) (fun k hk => ?_), h.len, h.bad, fun p y hy hT => ?_⟩
 · rcases ht _ y hy hT with h1 | ⟨_, h1⟩
   · exact h1
   · have := pl_log (k := k) hr h.hb.1
     have := h1.place h.pages
     have := splace_ok (life + 1)
     omega
 · have := pl_log (k := k) hr h.hb.1
   exact hl _ this.1 this.2
 · rcases ht p y hy hT with h1 | h1
   · exact h.texts p y hy h1
   · exact .inr h1
theorem KB.next {ga gd gl : Int} {n : Nat} {sm : List (List UInt8)} {all : List Wr} {life : UInt64} {base : Int} {gen0 : UInt64} {P0 : List (List UInt8)} {ts : List Tx} (h : KB ga gd gl n sm all life base gen0 P0 ts) (hr : right ga gd gl = true) (hL : life.toNat ≠ 18446744073709551615)
   (hg : ∀ k (hk : k < (applyT P0 ts).length), Sup.Good sm (areaAt ga gd gl (life + 1).toNat k) (px (life + 1) k (applyT P0 ts)[k]) (kept all (areaAt ga gd gl (life + 1).toNat k).toNat))
   (hs : Sup.Good sm (splace (life + 1)) (sx ga gd gl (life + 1) (nextB gl base life ts) (genT gen0 ts)) (kept all (splace (life + 1)).toNat)) :
   KC ga gd gl n sm all (life + 1) (nextB gl base life ts) (genT gen0 ts) (applyT P0 ts) [] /\ LogC ga gd gl (nextB gl base life ts) n (life + 1) sm all [] [] /\ ∀ (p : Int) (y : X), rightF p y = 0 -> text p y ∈ sm -> y.life.toNat <= (life + 1).toNat := by
 have hy := right_yes hr
 have hl1 := life1 hL
 have hnb : 0 <= nextB gl base life ts /\ nextB gl base life ts <= 1073741824 := by
   unfold nextB
   have := Int.emod_nonneg (base + ((allSecs life 0 ts).length : Int)) (show gl ≠ 0 by omega)
   have := Int.emod_lt_of_pos (base + ((allSecs life 0 ts).length : Int)) (show 0 < gl by omega)
   omega
 have hall : ∀ (p : Int) (y : X), rightF p y = 0 -> text p y ∈ sm -> y.life.toNat <= (life + 1).toNat := fun p y h1 h2 => by
   rcases h.texts p y h1 h2 with h3 | ⟨h3, _⟩
   · omega
   · rw [h3]; exact Nat.le_refl _
 have hlc : LogC ga gd gl (nextB gl base life ts) n (life + 1) sm all [] [] := ⟨fun k hk => absurd hk (by simp), fun k x hk h1 h2 h3 => by
   rcases h.texts _ x h1 h2 with h4 | ⟨_, h4⟩
   · rw [h3] at h4; omega
   · have := pl_log (k := k) hr hnb.1
     have := h4.place h.pages
     have := splace_ok (life + 1)
     omega⟩
 refine ⟨⟨⟨hnb, applyT_ok _ _ h.pages h.bad, hg, hs, LogS.of_C (n := n) (by simpa [allSecs] using hlc) (by simp [allSecs]; omega), by simp [allSecs]; omega, fun t ht => (by cases ht), fun p y h1 h2 => .inl (hall p y h1 h2)⟩, fun y hy' hq => ?_⟩, hlc, hall⟩
 have hsn := splace_next life
 have e1 : 5 - splace (life + 1) = splace life := by omega
 rw [e1] at hy'
 have e2 := Good.uniq hy' h.sup
 refine hq.2.2 ?_
 rw [e2]
 exact life_next hL
theorem KC.snapW {ga gd gl : Int} {n : Nat} {sm : List (List UInt8)} {st : St} {life : UInt64} {base : Int} {gen0 : UInt64} {P0 : List (List UInt8)} {ts : List Tx} (h : KC ga gd gl n sm st.all life base gen0 P0 ts) (h1 : st.size = n) (h2 : st.pend = []) (h3 : st.down = false) (hr : right ga gd gl = true) (hL : life.toNat ≠ 18446744073709551615) {V : List (List UInt8) × St × Int} (hV : V = snapF ga gd gl (life + 1) (applyT P0 ts) sm st) :
   V.2.1.size = n /\
     ((V.2.2 = 12 /\ V.2.1.down = true /\ ∀ keep t a, UpN (restart V.2.1 keep t a) n /\ KC ga gd gl n V.1 (restart V.2.1 keep t a).all life base gen0 P0 ts) \/
       (V.2.2 = 0 /\ V.2.1.down = false /\ V.2.1.pend = [] /\ KC ga gd gl n V.1 V.2.1.all life base gen0 P0 ts /\ ∀ k (hk : k < (applyT P0 ts).length), Sup.Good V.1 (areaAt ga gd gl (life + 1).toNat k) (px (life + 1) k (applyT P0 ts)[k]) (kept V.2.1.all (areaAt ga gd gl (life + 1).toNat k).toNat))) := by
 have hP := applyT_ok _ _ h.kb.pages h.kb.bad
 obtain ⟨m, e⟩ := hP.run (life + 1) sm h1 h3
 have hext : Ext sm V.1 := by rw [hV]; exact enf_ext _ _ _
 rw [<- hV] at e
 have hodd := next_odd hL
 have hln := applyT_len ts P0
 have hpl := h.kb.pages.len
 have hsp := splace_ok life
 have hsn := splace_next life
 have hy := right_yes hr
 have hkp : ∀ (all' m' : List Wr), all' = st.all ++ m' -> (∀ w ∈ m', ∃ v ∈ m, w.1 = v.1) -> ∀ p : Int, 0 <= p -> (∀ k, k < P0.length -> p ≠ areaAt ga gd gl (life + 1).toNat k) -> kept all' p.toNat = kept st.all p.toNat := fun all' m' ea hm p h0 hne => by
   rw [ea]
   refine Disk.kept_append _ _ _ (fun w hw he => ?_)
   obtain ⟨v, hv, ev⟩ := hm w hw
   refine hP.beside e (p := p.toNat) (fun k hk he2 => ?_) v hv (ev.symm.trans he)
   have := hP.place (life + 1) hk
   exact hne k (by omega) (by omega)
 have hKC : ∀ (all' m' : List Wr), all' = st.all ++ m' -> (∀ w ∈ m', ∃ v ∈ m, w.1 = v.1) -> KC ga gd gl n V.1 all' life base gen0 P0 ts := fun all' m' ea hm => by
   have hk := hkp all' m' ea hm
   have htx : ∀ (p : Int) (y : X), rightF p y = 0 -> text p y ∈ V.1 -> text p y ∈ sm \/ ((∃ k, k < P0.length /\ p = areaAt ga gd gl (life + 1).toNat k) /\ y.life = life + 1 /\ NextAt ga gd gl life base gen0 P0 ts p y) := fun p y h4 h5 => by
     rcases e.text _ h5 with h6 | ⟨i, hi, h6⟩
     · exact .inl h6
     · obtain ⟨k, hk', rfl⟩ := hP.items (life + 1) i hi
       have hR := hP.pright (life + 1) hk'
       have e1 := text_inj h4 hR h6
       subst e1
       have e2 := place_of h4 hR h6.symm
       exact .inr ⟨⟨k, by omega, e2.symm⟩, rfl, .inl ⟨k, hk', e2.symm, rfl⟩⟩
   have hla : ∀ k, k < P0.length -> 4 + gl <= areaAt ga gd gl (life + 1).toNat k := fun k hk => area_high (by omega)
   refine ⟨h.kb.keep hr hext e.more (fun k hk' => hk _ (h.kb.pages.place life hk').1 (fun j hj => area_apart hodd (by omega) (by omega))) (hk _ (by omega) (fun j hj => by have := hla j hj; omega)) (fun p h4 h5 => hk p (by omega) (fun j hj => by have := hla j hj; omega)) (fun p y h4 h5 => (htx p y h4 h5).imp id (fun h => h.2)), ?_⟩
   refine h.oth.keep hext (fun y h4 h5 => ?_) (hk _ (by omega) (fun j hj => by have := hla j hj; omega))
   rcases htx _ y h4 h5 with h6 | ⟨⟨k, hk', h6⟩, _⟩
   · exact .inl h6
   · have := hla k hk'; omega
 refine ⟨e.size, ?_⟩
 rcases e.res with ⟨r1, r2, r3, r4, r5⟩ | ⟨r1, r2, r3, r4, r5, r6⟩
 · refine .inl ⟨r1, r2, fun keep t a => ?_⟩
   obtain ⟨u, _, m', e1, e2⟩ := restart_up e.size keep t a
   refine ⟨u, hKC _ m' (by rw [e1, r3]) (fun w hw => ?_)⟩
   obtain ⟨v, hv, ev⟩ := e2 w hw
   rw [r4, h2, List.nil_append] at hv
   exact ⟨v, hv, ev⟩
 · rw [h2, List.nil_append] at r3
   exact .inr ⟨r1, r2, r4, hKC _ m r3 (fun w hw => ⟨w, hw, rfl⟩), fun k hk => by rw [r3]; exact hP.good e r5 st.all hk⟩
theorem KC.supW {ga gd gl : Int} {n : Nat} {sm : List (List UInt8)} {st : St} {life : UInt64} {base : Int} {gen0 : UInt64} {P0 : List (List UInt8)} {ts : List Tx} (h : KC ga gd gl n sm st.all life base gen0 P0 ts) (h1 : st.size = n) (h2 : st.pend = []) (h3 : st.down = false) (hr : right ga gd gl = true) (hL : life.toNat ≠ 18446744073709551615)
   (hg : ∀ k (hk : k < (applyT P0 ts).length), Sup.Good sm (areaAt ga gd gl (life + 1).toNat k) (px (life + 1) k (applyT P0 ts)[k]) (kept st.all (areaAt ga gd gl (life + 1).toNat k).toNat))
   {S : List (List UInt8)} {W : St × Int} (hS : S = sL sm ga gd gl (life + 1) (nextB gl base life ts) (genT gen0 ts)) (hW : W = wf st (splace (life + 1)) (sB sm ga gd gl (life + 1) (nextB gl base life ts) (genT gen0 ts))) :
   W.1.size = n /\
     ((W.2 = 12 /\ W.1.down = true /\ ∀ keep t a, UpN (restart W.1 keep t a) n /\ (KC ga gd gl n S (restart W.1 keep t a).all life base gen0 P0 ts \/ KC ga gd gl n S (restart W.1 keep t a).all (life + 1) (nextB gl base life ts) (genT gen0 ts) (applyT P0 ts) [])) \/
       (W.2 = 0 /\ KA ga gd gl n S W.1 (life + 1) (nextB gl base life ts) (genT gen0 ts) (applyT P0 ts) [])) := by
 have hy := right_yes hr
 have hsp := splace_ok life
 have hsp1 := splace_ok (life + 1)
 have hsn := splace_next life
 have hl1 := life1 hL
 have hlz := Wal.log_size hr
 have hpz := h.kb.pages.size
 have hpl := h.kb.pages.len
 have hln := applyT_len ts P0
 have hnb : 0 <= nextB gl base life ts /\ nextB gl base life ts <= 1073741824 := by
   unfold nextB
   have := Int.emod_nonneg (base + ((allSecs life 0 ts).length : Int)) (show gl ≠ 0 by omega)
   have := Int.emod_lt_of_pos (base + ((allSecs life 0 ts).length : Int)) (show 0 < gl by omega)
   omega
 have hR : rightF (splace (life + 1)) (sx ga gd gl (life + 1) (nextB gl base life ts) (genT gen0 ts)) = 0 := sx_right hnb.1 hnb.2
 have hext : Ext sm S := by rw [hS]; exact Ext.after _ _
 have hm : More sm S := by rw [hS]; exact More.after _ _
 have hgood : Sup.Good S (splace (life + 1)) (sx ga gd gl (life + 1) (nextB gl base life ts) (genT gen0 ts)) (sB sm ga gd gl (life + 1) (nextB gl base life ts) (genT gen0 ts)) := by rw [hS]; exact sB_good sm hnb.1 hnb.2
 have htx : ∀ (p : Int) (y : X), rightF p y = 0 -> text p y ∈ S -> text p y ∈ sm \/ (y.life = life + 1 /\ NextAt ga gd gl life base gen0 P0 ts p y) := fun p y h4 h5 => by
   rw [hS] at h5
   rcases mem_after.1 h5 with h6 | h6
   · exact .inl h6
   · have e1 := text_inj h4 hR h6
     subst e1
     exact .inr ⟨rfl, .inr ⟨(place_of h4 hR h6.symm).symm, rfl⟩⟩
 have hKB : ∀ all' : List Wr, (∀ p : Int, 0 <= p -> p ≠ splace (life + 1) -> kept all' p.toNat = kept st.all p.toNat) -> KB ga gd gl n S all' life base gen0 P0 ts /\ ∀ k (hk : k < (applyT P0 ts).length), Sup.Good S (areaAt ga gd gl (life + 1).toNat k) (px (life + 1) k (applyT P0 ts)[k]) (kept all' (areaAt ga gd gl (life + 1).toNat k).toNat) := fun all' hk => by
   refine ⟨h.kb.keep hr hext hm (fun k hk' => hk _ (h.kb.pages.place life hk').1 (by have := area_high (ga := ga) (gd := gd) (gl := gl) (m := life.toNat) (k := k) (by omega); omega)) (hk _ (by omega) (by omega)) (fun p h4 h5 => hk p (by omega) (by omega)) htx, fun k hk' => ?_⟩
   have := area_high (ga := ga) (gd := gd) (gl := gl) (m := (life + 1).toNat) (k := k) (by omega)
   rw [hk _ (by omega) (by omega)]
   exact hm _ _ _ (hg k hk')
 have hw := wf_cases h1 h2 h3 (p := splace (life + 1)) (by omega) (by omega) (sB_len sm ga gd gl (life + 1) (nextB gl base life ts) (genT gen0 ts))
 rw [<- hW] at hw
 rcases hw with ⟨r1, r2, r3, r4, r5, _⟩ | ⟨r1, r2, r3, r4, r5, _⟩
 · refine ⟨r5, .inl ⟨r1, r2, fun keep t a => ?_⟩⟩
   obtain ⟨u, hc, _⟩ := restart_one r5 (.inl r3) keep t a
   refine ⟨u, ?_⟩
   obtain ⟨all', ha⟩ : ∃ all', all' = (restart W.1 keep t a).all := ⟨_, rfl⟩
   rw [<- ha] at hc ⊢
   obtain ⟨kb, kg⟩ := hKB all' (fun p h0 hne => by
     rcases hc with hc | ⟨z, hc⟩
     · rw [hc, r4]
     · rw [hc, r4, Sup.kept_beside _ _ (by omega)])
   by_cases ho : NoG S all' (5 - splace life) (fun y => y.kind = 2 /\ splace y.life = 5 - splace life /\ ¬ y.life < life)
   · exact .inl ⟨kb, ho⟩
   · right
     unfold NoG at ho
     simp only [Classical.not_forall, Classical.not_not] at ho
     obtain ⟨y, hy', q1, q2, q3⟩ := ho
     obtain ⟨t1, t2⟩ := Good.text hy'
     have e5 : 5 - splace life = splace (life + 1) := by omega
     have hyx : y = sx ga gd gl (life + 1) (nextB gl base life ts) (genT gen0 ts) := by
       rcases kb.texts _ y t1 t2 with h4 | ⟨_, h4 | ⟨_, h4⟩⟩
       · have h5 : y.life = life := by
           rw [UInt64.lt_iff_toNat_lt] at q3
           exact UInt64.toNat_inj.1 (by omega)
         rw [h5] at q2; omega
       · obtain ⟨k, hk, h5, _⟩ := h4
         have := area_high (ga := ga) (gd := gd) (gl := gl) (m := (life + 1).toNat) (k := k) (by omega)
         omega
       · exact h4
     rw [hyx, e5] at hy'
     exact (kb.next hr hL kg hy').1
 · refine ⟨r5, .inr ⟨r1, ?_⟩⟩
   obtain ⟨kb, kg⟩ := hKB W.1.all (fun p h0 hne => by rw [r4, Sup.kept_beside _ _ (by omega)])
   obtain ⟨c1, c2, c3⟩ := kb.next hr hL kg (by rw [r4, Sup.kept_after]; exact hgood)
   exact ⟨c1, r5, r3, r2, by simpa [allSecs] using c2, c3⟩
end Go.Proofs.YtchcmklelmlbgaaGreat.Sto
namespace Go.Proofs.YtchcmklelmlbgaaGreat.Sto
open Go.RowKit
open Go.Proofs.YtchcmklelmlbgaaGreat.Geom
open Go.Proofs.YtchcmklelmlbgaaGreat.Disk (St Wr write flush kept new zero512 restart)
open Go.Proofs.YtchcmklelmlbgaaGreat.Sec (X X0 text text_len rightF sumAfter ckS checkOf sumOf place_of)
open Go.Proofs.YtchcmklelmlbgaaGreat.Sup (UpN splace splace_ok splace_next sx sx_right sB sB_len sB_good sL wf wf_cases restart_one atR best best_first best_later SV text_inj isSup mem_after)
open Go.Proofs.YtchcmklelmlbgaaGreat.Snap (PagesOk px snapF snapR snapR_some rdAt_good area_eq area_inj area_apart next_odd)
open Go.Proofs.YtchcmklelmlbgaaGreat.Wal (Tx allSecs allSecs_at allSecs_snoc tSecs tSecs_len tSecs_at pl pl_eq pl_inj pl_bd badB badB_of putF PutT putF_turn scanTx tSecs_right LogC)
open Go.Proofs.YtchcmklelmlbgaaGreat.Enc (Enf More kept_of restart_up)
set_option linter.unusedVariables false
theorem KC.wrote {ga gd gl : Int} {n : Nat} {sm sm' : List (List UInt8)} {all all' : List Wr} {life : UInt64} {base : Int} {gen0 : UInt64} {P0 : List (List UInt8)} {ts ts' : List Tx} (h : KC ga gd gl n sm all life base gen0 P0 ts) (hr : right ga gd gl = true) (e : Ext sm sm') (m : More sm sm') (hk : ∀ p : Int, 0 <= p -> (p < 4 \/ 4 + gl <= p) -> kept all' p.toNat = kept all p.toNat)
   (ht : ∀ (p : Int) (y : X), rightF p y = 0 -> text p y ∈ sm' -> text p y ∈ sm \/ (4 <= p /\ p < 4 + gl)) (hn : ∀ (p : Int) (y : X), rightF p y = 0 -> text p y ∈ sm' -> y.life.toNat <= life.toNat) (hlog : LogS ga gd gl base life sm' all' ts') (hlen : ((allSecs life 0 ts').length : Int) <= gl) (hbad : ∀ t ∈ ts', badB ga gd gl t.pages = false) : KC ga gd gl n sm' all' life base gen0 P0 ts' := by
 have hsp := splace_ok life
 have hpl := h.kb.pages.len
 refine ⟨⟨h.kb.hb, h.kb.pages, fun k hk' => ?_, ?_, hlog, hlen, hbad, fun p y h1 h2 => .inl (hn p y h1 h2)⟩, ?_⟩
 · rw [hk _ (h.kb.pages.place life hk').1 (.inr (area_high (by omega)))]
   exact m _ _ _ (h.kb.snap k hk')
 · rw [hk _ (by omega) (.inl (by omega))]
   exact m _ _ _ h.kb.sup
 · refine h.oth.keep e (fun y h1 h2 => ?_) (hk _ (by omega) (.inl (by omega)))
   rcases ht _ y h1 h2 with h3 | h3
   · exact .inl h3
   · omega
theorem KA.append {ga gd gl : Int} {n : Nat} {sm : List (List UInt8)} {st : St} {life : UInt64} {base : Int} {gen0 : UInt64} {P0 : List (List UInt8)} {ts : List Tx} {t : Tx} (h : KA ga gd gl n sm st life base gen0 P0 ts) (hr : right ga gd gl = true) (hl : ((allSecs life 0 ts).length : Int) + t.pages.length < gl) (hbd : badB ga gd gl t.pages = false) {V : List (List UInt8) × St × Int} (hV : V = putF ga gd gl base life (allSecs life 0 ts).length t.gen t.pages sm st) :
   (V.2.2 = 0 /\ KA ga gd gl n V.1 V.2.1 life base gen0 P0 (ts ++ [t])) \/
     (V.2.2 = 12 /\ V.2.1.down = true /\ ∀ keep torn a, UpN (restart V.2.1 keep torn a) n /\ (KC ga gd gl n V.1 (restart V.2.1 keep torn a).all life base gen0 P0 ts \/ KC ga gd gl n V.1 (restart V.2.1 keep torn a).all life base gen0 P0 (ts ++ [t]))) := by
 have hn := h.kc.kb.pages.size
 have hb := h.kc.kb.hb.1
 have hT := putF_turn (life := life) (q := (allSecs life 0 ts).length) (t := t) (sm := sm) h.size h.pend h.down hr hb hn hl hbd
 have hext : Ext sm V.1 := by rw [hV]; exact putF_ext _ _ _ _ _ _ _ _ _ _
 rw [<- hV] at hT
 have hy := right_yes hr
 have hs := allSecs_snoc life ts 0 t
 rw [Nat.zero_add] at hs
 have htl := tSecs_len life (allSecs life 0 ts).length t
 have hlen : (allSecs life 0 (ts ++ [t])).length = (allSecs life 0 ts).length + (t.pages.length + 1) := by rw [hs, List.length_append, htl]
 have hbad : ∀ u ∈ ts ++ [t], badB ga gd gl u.pages = false := fun u hu => by
   rcases List.mem_append.1 hu with hu | hu
   · exact h.kc.kb.bad u hu
   · rw [List.mem_singleton] at hu; rw [hu]; exact hbd
 have htx : ∀ (p : Int) (y : X), rightF p y = 0 -> text p y ∈ V.1 -> text p y ∈ sm \/ ((4 <= p /\ p < 4 + gl) /\ y.life = life) := fun p y h1 h2 => by
   rcases hT.text _ h2 with h3 | ⟨j, hj, h3⟩
   · exact .inl h3
   · have hR := tSecs_right (base := base) (life := life) hr hb hn hl hbd j hj
     have e1 := text_inj h1 hR h3
     subst e1
     have e2 := place_of h1 hR h3.symm
     have := pl_log (k := (allSecs life 0 ts).length + j) hr hb
     exact .inr ⟨by omega, (tSecs_at life _ t j hj).1⟩
 have hno : ∀ (p : Int) (y : X), rightF p y = 0 -> text p y ∈ V.1 -> y.life.toNat <= life.toNat := fun p y h1 h2 => by
   rcases htx p y h1 h2 with h3 | ⟨_, h3⟩
   · exact h.nonext p y h1 h3
   · rw [h3]; exact Nat.le_refl _
 have hkp : ∀ (all' m : List Wr), all' = st.all ++ m -> (∀ w ∈ m, ∃ j : Nat, j < (tSecs life (allSecs life 0 ts).length t).length /\ w.1 = (pl ga gd gl base ((allSecs life 0 ts).length + j)).toNat) -> ∀ p : Int, 0 <= p -> (p < 4 \/ 4 + gl <= p) -> kept all' p.toNat = kept st.all p.toNat := fun all' m ea hm p h0 hp => by
   rw [ea]
   refine Disk.kept_append _ _ _ (fun w hw he => ?_)
   obtain ⟨j, hj, e⟩ := hm w hw
   have := pl_log (k := (allSecs life 0 ts).length + j) hr hb
   omega
 rcases hT.res with ⟨r1, r2, _, m, r3, r4⟩ | ⟨r1, r2, r3, _, m, r5, r6, r7⟩
 · right
   refine ⟨r1, r2, fun keep torn a => ?_⟩
   obtain ⟨u, hc⟩ := h.logc.crash hr hb hn hl hbd hT (by rw [r1]; decide) keep torn a
   obtain ⟨_, _, m', e1, e2⟩ := restart_up hT.size keep torn a
   have hk := hkp (restart V.2.1 keep torn a).all (m ++ m') (by rw [e1, r3, List.append_assoc]) (fun w hw => by
     rcases List.mem_append.1 hw with hw | hw
     · exact r4 w (List.mem_append.2 (.inl hw))
     · obtain ⟨v, hv, ev⟩ := e2 w hw
       obtain ⟨j, hj, ej⟩ := r4 v (List.mem_append.2 (.inr hv))
       exact ⟨j, hj, ev.trans ej⟩)
   refine ⟨u, ?_⟩
   rcases LogS.crash hc u hr hb hn hl (bad_num hbd) with hc | hc
   · exact .inl (h.kc.wrote hr hext hT.more hk (fun p y h1 h2 => (htx p y h1 h2).imp id (fun h => h.1)) hno hc h.kc.kb.len h.kc.kb.bad)
   · exact .inr (h.kc.wrote hr hext hT.more hk (fun p y h1 h2 => (htx p y h1 h2).imp id (fun h => h.1)) hno hc (by rw [hlen]; omega) hbad)
 · left
   have hlc := h.logc.append hr hb hn hl hbd hT r1
   rw [<- hs] at hlc
   have hk := hkp V.2.1.all m r5 (fun w hw => by
     obtain ⟨j, hj, rfl⟩ := List.mem_iff_getElem.1 hw
     exact ⟨j, by omega, (r7 j hj (by omega)).1⟩)
   exact ⟨r1, h.kc.wrote hr hext hT.more hk (fun p y h1 h2 => (htx p y h1 h2).imp id (fun h => h.1)) hno (LogS.of_C hlc (by rw [hlen]; omega)) (by rw [hlen]; omega) hbad, hT.size, r3, r2, hlc, hno⟩
theorem KC.super {ga gd gl : Int} {n : Nat} {sm : List (List UInt8)} {st : St} {life : UInt64} {base : Int} {gen0 : UInt64} {P0 : List (List UInt8)} {ts : List Tx} (h : KC ga gd gl n sm st.all life base gen0 P0 ts) (hu : UpN st n) (hn : 4 <= n) : best (best none (atR sm st ga gd gl 2)) (atR sm st ga gd gl 3) = some ⟨life, base, gen0⟩ := by
 have hsp := splace_ok life
 have a1 := hu.at_own (by omega) h.kb.sup
 cases ha : atR sm st ga gd gl (5 - splace life) with
 | none => exact best_first (f := atR sm st ga gd gl) hsp rfl a1 ha
 | some x =>
   have hx : x.life < life := by
     unfold atR at ha
     split at ha
     · rename_i hs
       injection ha with ha
       unfold isSup at hs
       simp only [Bool.and_eq_true, decide_eq_true_eq] at hs
       obtain ⟨⟨⟨s1, s2⟩, s3⟩, _⟩ := hs
       unfold Sup.dec at s1 s2 s3 ha
       rw [hu.read (by omega) (by omega)] at s1 s2 s3 ha
       simp only [] at s1 s2 s3 ha
       have hd : Sec.decode (ckS sm (kept st.all (5 - splace life).toNat)) (5 - splace life) (kept st.all (5 - splace life).toNat) = ((Sec.decode (ckS sm (kept st.all (5 - splace life).toNat)) (5 - splace life) (kept st.all (5 - splace life).toNat)).1, 0) := by
         generalize Sec.decode (ckS sm (kept st.all (5 - splace life).toNat)) (5 - splace life) (kept st.all (5 - splace life).toNat) = d at s1
         obtain ⟨y, f⟩ := d
         simp only at s1
         rw [s1]
       have hg := dec_good hd
       have hno := h.oth _ hg
       rw [<- ha]
       exact Decidable.byContradiction fun hc => hno ⟨s2, s3, hc⟩
     · cases ha
   exact best_later (f := atR sm st ga gd gl) (p := 5 - splace life) (q := splace life) (by omega) (by omega) ha a1 hx
theorem KC.read {ga gd gl : Int} {n : Nat} {sm : List (List UInt8)} {st : St} {life : UInt64} {base : Int} {gen0 : UInt64} {P0 : List (List UInt8)} {ts : List Tx} (h : KC ga gd gl n sm st.all life base gen0 P0 ts) (hu : UpN st n) : snapR sm st ga gd gl life P0.length = some P0 :=
 (snapR_some (fun k hk => rdAt_good hu h.kb.pages hk (h.kb.snap k hk))).1
theorem KC.scan {ga gd gl : Int} {n : Nat} {sm : List (List UInt8)} {st : St} {life : UInt64} {base : Int} {gen0 : UInt64} {P0 : List (List UInt8)} {ts : List Tx} (h : KC ga gd gl n sm st.all life base gen0 P0 ts) (hu : UpN st n) (hr : right ga gd gl = true) : scanTx sm st ga gd gl base life = ts :=
 h.kb.log.scan hu hr h.kb.hb.1 h.kb.pages.size (fun t ht => bad_num (h.kb.bad t ht))
theorem InvN.ka {ga gd gl : Int} {n : Nat} {sm : List (List UInt8)} {st : St} {life : UInt64} {base : Int} {gen0 : UInt64} {P0 : List (List UInt8)} (h : InvN ga gd gl n sm st life base gen0 P0 []) (hr : right ga gd gl = true) (ht : ∀ (p : Int) (y : X), rightF p y = 0 -> text p y ∈ sm -> y.life = life /\ (p < 4 \/ 4 + gl <= p)) : KA ga gd gl n sm st life base gen0 P0 [] := by
 have hy := right_yes hr
 have hlc : LogC ga gd gl base n life sm st.all (allSecs life 0 []) (allSecs life 0 []) := ⟨fun k hk => absurd hk (by simp [allSecs]), fun k x hk h1 h2 h3 => by
   have h4 := (ht _ x h1 h2).2
   have := pl_log (k := k) hr h.hb.1
   omega⟩
 have hno : ∀ (p : Int) (y : X), rightF p y = 0 -> text p y ∈ sm -> y.life.toNat <= life.toNat := fun p y h1 h2 => by rw [(ht p y h1 h2).1]; exact Nat.le_refl _
 refine ⟨⟨⟨h.hb, h.pages, h.snap, h.sup, LogS.of_C hlc (by simp [allSecs]; omega), by simp [allSecs]; omega, h.bad, fun p y h1 h2 => .inl (hno p y h1 h2)⟩, fun y hy' hq => ?_⟩, h.up.size, h.up.pend, h.up.down, hlc, hno⟩
 rcases h.oth with h1 | ⟨l', b', g', h1, h2, h3⟩
 · rw [h1] at hy'; exact not_zero hy'
 · rw [<- h2] at hy'
   have e := Good.uniq hy' h3
   rw [e] at hq
   exact hq.2.2 h1
theorem first_ka {ga gd gl : Int} {n : Nat} (hr : right ga gd gl = true) (hn : (n : Int) = Geom.sizeOf ga gd gl) {P : List (List UInt8)} (hP : PagesOk ga gd gl n P) {V : List (List UInt8) × St × Int} (hV : V = snapF ga gd gl 1 P [] (wipeF gl (Sup.clr (new n)).1).1) {W : St × Int} (hW : W = wf V.2.1 (splace 1) (sB V.1 ga gd gl 1 0 0)) : KA ga gd gl n (sL V.1 ga gd gl 1 0 0) W.1 1 0 0 P [] := by
 obtain ⟨c1, c2, c3⟩ := pre_first (Sup.up_new n) hr hn []
 obtain ⟨b1, b2, b3⟩ := c3.begin hr hP 0 0 (by decide)
 obtain ⟨_, _, _, _, _, u6⟩ := hP.up 1 [] c3.up
 rw [<- hV] at b1 b2 b3 u6
 rw [<- hW] at b2 b3
 refine b3.ka hr (fun p y h1 h2 => ?_)
 have hR : rightF (splace 1) (sx ga gd gl 1 0 0) = 0 := sx_right (by decide) (by decide)
 rcases mem_after.1 h2 with h3 | h3
 · rcases u6 _ h3 with h4 | ⟨k, hk, h4⟩
   · cases h4
   · have hR2 := hP.pright 1 hk
     have e1 := text_inj h1 hR2 h4
     subst e1
     have e2 := place_of h1 hR2 h4.symm
     have := area_high (ga := ga) (gd := gd) (gl := gl) (m := (1 : UInt64).toNat) (k := k) (by have := hP.len; omega)
     exact ⟨rfl, .inr (by omega)⟩
 · have e1 := text_inj h1 hR h3
   subst e1
   have e2 := place_of h1 hR h3.symm
   have := splace_ok 1
   exact ⟨rfl, .inl (by omega)⟩
end Go.Proofs.YtchcmklelmlbgaaGreat.Sto
namespace Go.Proofs.YtchcmklelmlbgaaGreat.Wal
open Go.RowKit
set_option linter.unusedVariables false
instance : DecidableEq Pg := fun a b => decidable_of_iff (a.n = b.n /\ a.body = b.body) ⟨fun h => by cases a; cases b; simp_all, fun h => by rw [h]; exact ⟨rfl, rfl⟩⟩
instance : DecidableEq Tx := fun a b => decidable_of_iff (a.pages = b.pages /\ a.gen = b.gen) ⟨fun h => by cases a; cases b; simp_all, fun h => by rw [h]; exact ⟨rfl, rfl⟩⟩
structure TxAt (w : World) (Q : Nat -> Prop) (b o : Nat) (x : Tx) (Ai : Option Addr) (ci : Nat) : Prop where
 c0 : w.cell? ⟨b, o, none⟩ = some (.slice Ai x.pages.length ci)
 c1 : w.cell? ⟨b, o + 1, none⟩ = some (.int .u64 (x.gen.toNat : Int))
 pgs : Pgs w Q Ai x.pages
 cap : x.pages.length <= ci
 max : ci <= maxLen
def Txs (w : World) (Q : Nat -> Prop) (A : Option Addr) (l : List Tx) : Prop :=
 l ≠ [] -> ∃ b off, A = some ⟨b, off, none⟩ /\ b < w.heap.size /\ Q b /\ ∀ i (h : i < l.length), ∃ Ai ci, TxAt w Q b (off + i * 2) l[i] Ai ci
theorem Txs.get {w : World} {Q : Nat -> Prop} {A : Option Addr} {l : List Tx} (h : Txs w Q A l) {i : Nat} (hi : i < l.length) :
   ∃ b off Ai ci, A = some ⟨b, off, none⟩ /\ b < w.heap.size /\ TxAt w Q b (off + i * 2) l[i] Ai ci := by
 obtain ⟨b, off, rfl, hb, _, hc⟩ := h (by intro e; rw [e] at hi; exact absurd hi (by simp))
 obtain ⟨Ai, ci, h1⟩ := hc i hi
 exact ⟨b, off, Ai, ci, rfl, hb, h1⟩
theorem TxAt.keep {w w' : World} {Q : Nat -> Prop} {b o : Nat} {x : Tx} {Ai : Option Addr} {ci : Nat} {fp : List Nat} (h : TxAt w Q b o x Ai ci) (k : Keep fp w w') (hf : ∀ j, Q j -> j < w.heap.size -> j ∉ fp) (hb : b < w.heap.size) (hq : Q b) : TxAt w' Q b o x Ai ci :=
 ⟨(World.cell?_of_block (k.block hb (hf b hq hb))).trans h.c0, (World.cell?_of_block (k.block hb (hf b hq hb))).trans h.c1, h.pgs.keep k hf, h.cap, h.max⟩
theorem Txs.keep {w w' : World} {Q : Nat -> Prop} {A : Option Addr} {l : List Tx} {fp : List Nat} (h : Txs w Q A l) (k : Keep fp w w') (hf : ∀ j, Q j -> j < w.heap.size -> j ∉ fp) : Txs w' Q A l := fun hne => by
 obtain ⟨b, off, rfl, hb, hq, hc⟩ := h hne
 refine ⟨b, off, rfl, Nat.lt_of_lt_of_le hb k.size, hq, fun i hi => ?_⟩
 obtain ⟨Ai, ci, h1⟩ := hc i hi
 exact ⟨Ai, ci, h1.keep k hf hb hq⟩
theorem Txs.on {w w' : World} {Q : Nat -> Prop} {A : Option Addr} {l : List Tx} (h : Txs w Q A l) (b : Below w.heap.size w w') : Txs w' Q A l := h.keep (Keep.of_below b []) (fun j _ _ => by simp)
theorem Txs.imp {w : World} {Q Q' : Nat -> Prop} {A : Option Addr} {l : List Tx} (h : Txs w Q A l) (hq : ∀ j, j < w.heap.size -> Q j -> Q' j) : Txs w Q' A l := fun hne => by
 obtain ⟨b, off, rfl, hb, h1, hc⟩ := h hne
 refine ⟨b, off, rfl, hb, hq b hb h1, fun i hi => ?_⟩
 obtain ⟨Ai, ci, h⟩ := hc i hi
 exact ⟨Ai, ci, h.c0, h.c1, h.pgs.imp hq, h.cap, h.max⟩
theorem flat2 {α : Type} {f : α -> List Value} (hf : ∀ x, (f x).length = 2) : ∀ (l : List α) (i : Nat) (h : i < l.length) (k : Nat), k < 2 -> (l.flatMap f)[i * 2 + k]? = (f l[i])[k]?
 | [], i, h, _, _ => by cases h
 | x :: l, 0, _, k, hk => by rw [List.flatMap_cons, List.getElem?_append_left (by rw [hf]; omega)]; simp
 | x :: l, i + 1, h, k, hk => by
   rw [List.flatMap_cons, List.getElem?_append_right (by rw [hf]; omega), hf, show (i + 1) * 2 + k - 2 = i * 2 + k by omega]
   simpa using flat2 hf l i (by simpa using h) k hk
theorem own_cell2 {w : World} {base n c g : Nat} {e : TypeId} {α : Type} {f : α -> List Value} (hf : ∀ x, (f x).length = 2) {l : List α} (h : w.ownsRow base e 2 (.slice (some ⟨g, 0, none⟩) n c) n (l.flatMap f)) (i : Nat) (hi : i < l.length) (k : Nat) (hk : k < 2) : w.cell? ⟨g, i * 2 + k, none⟩ = (f l[i])[k]? := by
 have hl := h.1
 have h2 : (l.flatMap f).length = l.length * 2 := by
   clear h hl hi
   induction l with
   | nil => rfl
   | cons x l ih => rw [List.flatMap_cons, List.length_append, hf, ih, List.length_cons]; omega
 have := World.ownsRow.cellAt (j := i * 2 + k) h (by omega)
 rw [this]
 exact flat2 hf l i hi k hk
theorem PrOk.rdQ {w : World} {base : Nat} {p : Pr} (h : PrOk w base p) : RdQ w (fun j => base <= j) p.A (p.body.map e8) := fun hne => by
 obtain ⟨g, off, cs, e, hg, hh, hc⟩ := h.rd (fun e => hne (by rw [e]; rfl))
 refine ⟨g, off, e, lt_of_block hh, hg, fun i hi => ?_⟩
 rw [cell_of_row _ _ _ _ _ _ hh, hc i (by simpa using hi)]
 simp
theorem TrOk.pgs {w : World} {base : Nat} {now : Option Nat} {t : Tr} (h : TrOk w base now t) : Pgs w (fun j => base <= j) t.A (t.ps.map Pr.pg) := fun hne => by
 have hp : 0 < t.ps.length := by
   rcases Nat.eq_zero_or_pos t.ps.length with e | e
   · exact absurd (by rw [List.eq_nil_of_length_eq_zero e]; rfl) hne
   · exact e
 obtain ⟨g, c, e, hg⟩ := own_some h.row (by omega)
 unfold Tr.sl at e
 injection e with e1 e2 e3
 have hr := h.row
 unfold Tr.sl at hr
 rw [e1] at hr
 obtain ⟨cs, hcs⟩ := Disk.own_blk hr
 refine ⟨g, 0, e1, lt_of_block hcs, by omega, fun i hi => ?_⟩
 have hi' : i < t.ps.length := by simpa using hi
 have hk := h.pages _ (List.getElem_mem hi')
 have c0 := own_cell2 (f := Pr.cells) (fun _ => rfl) hr i hi' 0 (by omega)
 have c1 := own_cell2 (f := Pr.cells) (fun _ => rfl) hr i hi' 1 (by omega)
 refine ⟨t.ps[i].A, t.ps[i].c, ?_⟩
 rw [Nat.zero_add, List.getElem_map]
 exact ⟨by simpa [Pr.cells, Pr.pg] using c0, by simpa [Pr.cells, Pr.pg] using c1, hk.rdQ, hk.cap, hk.max, by have := hk.lo; show _ <= t.ps[i].n; omega, by have := hk.hi; show t.ps[i].n <= _; omega⟩
theorem OwnTx.txs {w : World} {base : Nat} {v : Value} {l : List Tx} (h : OwnTx w base v l) : ∃ A c, v = .slice A l.length c /\ Txs w (fun j => base <= j) A l /\ l.length <= c /\ c <= maxLen := by
 obtain ⟨trs, hr, rfl, hok, _⟩ := h
 obtain ⟨A, c, rfl⟩ := own_form hr
 have hcp := Disk.own_caps hr
 refine ⟨A, c, by simp, fun hne => ?_, by simpa using hcp.1, hcp.2⟩
 have hp : 0 < trs.length := by
   rcases Nat.eq_zero_or_pos trs.length with e | e
   · exact absurd (by rw [List.eq_nil_of_length_eq_zero e]; rfl) hne
   · exact e
 obtain ⟨g, c', e, hg⟩ := own_some hr (by omega)
 injection e with e1 e2 e3
 subst e1
 obtain ⟨cs, hcs⟩ := Disk.own_blk hr
 refine ⟨g, 0, rfl, lt_of_block hcs, by omega, fun i hi => ?_⟩
 have hi' : i < trs.length := by simpa using hi
 have hk := hok _ (List.getElem_mem hi')
 have c0 := own_cell2 (f := Tr.cells) (fun _ => rfl) hr i hi' 0 (by omega)
 have c1 := own_cell2 (f := Tr.cells) (fun _ => rfl) hr i hi' 1 (by omega)
 have hc2 := Disk.own_caps hk.row
 refine ⟨trs[i].A, trs[i].c, ?_⟩
 rw [Nat.zero_add, List.getElem_map]
 exact ⟨by simpa [Tr.cells, Tr.sl, Tr.tx] using c0, by simpa [Tr.cells, Tr.tx] using c1, hk.pgs, by simpa [Tr.tx] using hc2.1, hc2.2⟩
end Go.Proofs.YtchcmklelmlbgaaGreat.Wal
namespace Go.Proofs.YtchcmklelmlbgaaGreat.Snap
open Go.RowKit
open Go.Proofs.YtchcmklelmlbgaaGreat.Geom
open Go.Proofs.YtchcmklelmlbgaaGreat.Sup (Gb gv gcell srightF gthree)
set_option linter.unusedVariables false
set_option maxRecDepth 100000
end Go.Proofs.YtchcmklelmlbgaaGreat.Snap
namespace Go.Proofs.YtchcmklelmlbgaaGreat
end Go.Proofs.YtchcmklelmlbgaaGreat
namespace Go.Proofs.YtchcmklelmlbgaaGreat.Sup
open Go.RowKit
open Go.Proofs.YtchcmklelmlbgaaGreat.Geom
open Go.Proofs.YtchcmklelmlbgaaGreat.Disk (St DAt Did New8 Told8 new)
open Go.Proofs.YtchcmklelmlbgaaGreat.Sec (X SymAt text sumOf sumAfter ckS blankB rightF xv RetX X0 five5x symbolic_any bset5)
set_option linter.unusedVariables false
set_option maxRecDepth 100000
theorem newN_any (n : Nat) (z : Int) (hz : z = (n : Int)) (h1 : 1 <= n) (h2 : n <= 1024) (w : World) : Calls Tryz.prog 11 #[.int .i64 z] w fun e w' => ∃ g fp, e = .returned (.tuple #[.pointer (some ⟨g, 0, none⟩), .int .i64 0]) /\ DAt w' g fp (new n) /\ (∀ j ∈ fp, w.heap.size <= j) /\ Below w.heap.size w w' := by
 subst hz
 refine (Disk.new_any n w (by omega) (by omega)).mono ?_
 rintro e w' ⟨h, b⟩
 rw [if_neg (by omega)] at h
 obtain ⟨g, fp, he, hd, hf⟩ := h
 exact ⟨g, fp, he, by simpa using hd, hf, b⟩
end Go.Proofs.YtchcmklelmlbgaaGreat.Sup
namespace Go.Proofs.YtchcmklelmlbgaaGreat.R20
open Go.RowKit
set_option linter.unusedVariables false
set_option maxRecDepth 100000
theorem take_snoc_eq {α : Type} {a b : List α} {k : Nat} (ha : k < a.length) (hb : k < b.length) : a.take (k + 1) = b.take (k + 1) ↔ (a.take k = b.take k /\ a[k] = b[k]) := by
 rw [List.take_succ_eq_append_getElem ha, List.take_succ_eq_append_getElem hb]
 constructor
 · intro h
   have h1 := List.append_inj_left h (by simp; omega)
   have h2 := List.append_inj_right h (by simp; omega)
   exact ⟨h1, by simpa using h2⟩
 · rintro ⟨h1, h2⟩
   rw [h1, h2]
def Diffs (d : Bool) (e : Ending) : Prop := ∃ C k c, e = .returned (.slice C k c) /\ (((k : Nat) : Int) == 0) = d
theorem infoI : (Tryz.prog.info? 3).map (fun i => (i.zero, i.size, i.bytes)) = some (some (.int .i64 0), 1, 8) := by kernel_rfl
set_option maxHeartbeats 1000000 in
theorem diff_any (A B : Option Addr) (a b : List (List UInt8)) (n m ca cb : Nat) (w : World) (ha : Rws w w.heap.size A a) (hb : Rws w w.heap.size B b) (hn : n = a.length) (hm : m = n) (hl : a.length = b.length) (hl1 : n <= 1000) (hla : ∀ x ∈ a, x.length <= 1000000) (hlb : ∀ x ∈ b, x.length <= 1000000) :
   Calls Tryz.prog 56 #[.slice A n ca, .slice B m cb] w fun e w' => Diffs (decide (a = b)) e /\ Below w.heap.size w w' := by
 subst hm
 obtain ⟨i0, hi0, hz0, hz1, hz2⟩ := info_parts infoI
 have Hn := Lib.hid hn
 have HL := Lib.hid hl
 clear hn hl
 go_enter Tryz.func56, Tryz.ntmps56
 go_wp2_with fail
 go_loopw [5, 6] (fun o i wr => ∃ k : Nat, k <= m /\ i = .int .i64 (k : Int) /\ Below w.heap.size w wr /\ ∃ j xs, wr.ownsRow w.heap.size 3 1 o j xs /\ j <= k /\ Hid ((j = 0) ↔ a.take k = b.take k)) (fun _ i _ => m - (intOf i).toNat)
 case atStart => exact ⟨0, by omega, rfl, Below.refl _ _, 0, [], own_nil _ _ _ _, Nat.le_refl _, Lib.hid (by simp)⟩
 case round =>
   obtain ⟨k, hk, rfl, bel, j, xs, hown, hjk, hj⟩ := hrel
   have hmx : max (m : Int) (m : Int) = (m : Int) := by omega
   have hwk : wrap64 ((k : Int) + 1) = (k : Int) + 1 := by unfold wrap64; omega
   by_cases hlt : k < m
   · have hka : k < a.length := by have := Hn.out; omega
     have hkb : k < b.length := by have := Hn.out; have := HL.out; omega
     have hkm : (k : Int) < (m : Int) := by omega
     have hge : ¬ (m : Int) <= (k : Int) := by omega
     obtain ⟨b1, o1, A1, c1, rfl, hb1, hc1, hr1, _, _⟩ := (ha.below bel).get hka
     obtain ⟨b2, o2, A2, c2, rfl, hb2, hc2, hr2, _, _⟩ := (hb.below bel).get hkb
     have hS := fun W (bW : Below wr.heap.size wr W) => R1.same_any A1 A2 a[k] b[k] _ _ c1 c2 W rfl rfl ((hr1.below (bW.mono bel.size)).more (by have := bel.size; have := bW.size; omega)) ((hr2.below (bW.mono bel.size)).more (by have := bel.size; have := bW.size; omega)) (by have := hla _ (List.getElem_mem hka); omega) (by have := hlb _ (List.getElem_mem hkb); omega)
     have hst := take_snoc_eq hka hkb
     have hsame : R1.sameB a[k] b[k] = decide (a[k] = b[k]) := rfl
     obtain ⟨x, hx⟩ : ∃ x, x = a[k] := ⟨_, rfl⟩
     obtain ⟨y, hy⟩ : ∃ y, y = b[k] := ⟨_, rfl⟩
     rw [<- hx, <- hy] at hS hst hsame
     rw [<- hx] at hc1
     rw [<- hy] at hc2
     have hb1' : b1 < wr.heap.size := by have := bel.size; omega
     have hb2' : b2 < wr.heap.size := by have := bel.size; omega
     by_cases he : x = y
     · rw [hsame, decide_eq_true he] at hS
       have HS := Lib.hid hS
       have Hst := Lib.hid hst
       have He := Lib.hid he
       clear hS hst hsame hx hy he hr1 hr2 ha hb
       go_wp2_with fail
       refine region_inb (by kernel_rfl) (by kernel_rfl) ?_
       have inbNe := InB.some
       have inbW := @wrap_small
       have inbU := IntKind.wrap_u8'
       repeat (refine wpQuiet_step (fun K hK => ?_); go_simp; first | (refine hK _ ?_; clear hK K) | (apply Exists.intro; refine ⟨?_, hK _ ?_⟩; (· (intro w' hw'; first | (go_at_call 95; refine (HS.out _ hw'.below).mono ?_; rintro e w1 ⟨rfl, b1⟩; exact ⟨rfl, hw'.on b1⟩) | (have hcw := hw'.cell; go_simp; exact rfl))); clear hK K))
       refine wpQuiet_nil ?_
       intro wq hq
       clear inbNe inbW inbU
       go_wp2
       case roundEnd => exact ⟨⟨k + 1, by omega, rfl, bt bel hq.below, j, xs, own_on hown hq.below, by omega, Lib.hid (by rw [hj.out, Hst.out]; exact ⟨fun h => ⟨h, He.out⟩, fun h => h.1⟩)⟩, by simp only [intOf]; omega⟩
     · rw [hsame, decide_eq_false he] at hS
       have HS := Lib.hid hS
       have Hst := Lib.hid hst
       have He := Lib.hid he
       clear hS hst hsame hx hy he hr1 hr2 ha hb
       obtain ⟨A5, c5, rfl⟩ := own_form hown
       go_wp2_with fail
       refine region_inb (by kernel_rfl) (by kernel_rfl) ?_
       have inbNe := InB.some
       have inbW := @wrap_small
       have inbU := IntKind.wrap_u8'
       repeat (refine wpQuiet_step (fun K hK => ?_); go_simp; first | (refine hK _ ?_; clear hK K) | (apply Exists.intro; refine ⟨?_, hK _ ?_⟩; (· (intro w' hw'; first | (go_at_call 95; refine (HS.out _ hw'.below).mono ?_; rintro e w1 ⟨rfl, b1⟩; exact ⟨rfl, hw'.on b1⟩) | (have hcw := hw'.cell; go_simp; exact rfl))); clear hK K))
       refine wpQuiet_nil ?_
       intro wq hq
       clear inbNe inbW inbU
       have own2 := own_on hown hq.below
       have hsz2 := hq.below.size
       go_wp2_with (refine wpList_append_rd _ rfl _ _ _ rfl w.heap.size 3 i0 _ 1 8 Tryz.underlying66 hi0 hz0 hz1 hz2 rfl (by omega) _ j xs rfl (own2.alloc _) (wq.heap.size + 1) (some ⟨wq.heap.size, 0, none⟩) 1 1 [.int .i64 (k : Int)] rfl rfl (Rd.lit wq _ _ _ _ rfl (by omega)) (one_int _ _) (by simp only [maxLen]; omega) (by omega) (le_alloc (Nat.le_trans bel.size hsz2) _) ?_; intro v2 w2 hown2 hg2 hat2)
       have bel2 : Below w.heap.size w w2 := by
         refine ((bt bel hq.below).alloc (Nat.le_trans bel.size hsz2) _).grown hg2 (le_alloc (Nat.le_trans bel.size hsz2) _) (fun g hg => ?_)
         exact own_block hown hg
       case roundEnd => exact ⟨⟨k + 1, by omega, rfl, bel2, j + 1, _, hown2, by omega, Lib.hid ⟨fun h => absurd h (by omega), fun h => absurd (Hst.out.1 h).2 He.out⟩⟩, by simp only [intOf]; omega⟩
   · have hkm : k = m := by omega
     have hkn : ¬ (k : Int) < (m : Int) := by omega
     obtain ⟨A5, c5, rfl⟩ := own_form hown
     have Hk := Lib.hid hkm
     clear hkm
     go_wp2
     go_ret
     refine ⟨⟨A5, j, c5, rfl, ?_⟩, bel⟩
     have h1 := hj.out
     have h2 := Hk.out
     have h3 := Hn.out
     have h4 := HL.out
     rw [List.take_of_length_le (by omega), List.take_of_length_le (by omega)] at h1
     by_cases hj0 : j = 0
     · rw [beq_yes (by omega), decide_eq_true (h1.1 hj0)]
     · rw [beq_no (by omega), decide_eq_false (fun e => hj0 (h1.2 e))]
theorem rows_any (A B : Option Addr) (a b : List (List UInt8)) (n m ca cb : Nat) (w : World) (ha : Rws w w.heap.size A a) (hb : Rws w w.heap.size B b) (hn : n = a.length) (hm : m = b.length) (hl1 : n <= 1000) (hla : ∀ x ∈ a, x.length <= 1000000) (hlb : ∀ x ∈ b, x.length <= 1000000) :
   Calls Tryz.prog 18 #[.slice A n ca, .slice B m cb] w fun e w' => e = .returned (.bool (decide (a = b))) /\ Below w.heap.size w w' := by
 by_cases hl : n = m
 · have HD := Lib.hid (diff_any A B a b n m ca cb w ha hb hn hl.symm (by omega) hl1 hla hlb)
   obtain ⟨d, hd⟩ : ∃ d, d = decide (a = b) := ⟨_, rfl⟩
   rw [<- hd] at HD ⊢
   have t0 := bne_no (show (n : Int) = (m : Int) by omega)
   clear ha hb hn hm hd hl hla hlb
   go_enter Tryz.func18, Tryz.ntmps18
   go_wp2_with (go_at_call 56; refine HD.out.mono ?_; rintro e w1 ⟨⟨C, k, c, rfl, hk⟩, b1⟩)
   go_ret
   exact ⟨by first | rfl | exact ret_bool hk, b1⟩
 · have hne : decide (a = b) = false := decide_eq_false (fun e => hl (by rw [hn, hm, e]))
   rw [hne]
   have t0 := bne_yes (show (n : Int) ≠ (m : Int) by omega)
   clear ha hb hn hm hl hla hlb hne
   go_enter Tryz.func18, Tryz.ntmps18
   go_wp2
   go_ret
   exact ⟨rfl, Below.refl _ _⟩
end Go.Proofs.YtchcmklelmlbgaaGreat.R20
namespace Go.Proofs.YtchcmklelmlbgaaGreat.Snap
open Go.RowKit
open Go.Proofs.YtchcmklelmlbgaaGreat.Geom
open Go.Proofs.YtchcmklelmlbgaaGreat.Disk (St DAt Did New8 Told8 new)
open Go.Proofs.YtchcmklelmlbgaaGreat.Sup (Gb gv gcell srightF gthree newN_any UpN up_new srightF_new)
open Go.Proofs.YtchcmklelmlbgaaGreat.Sec (X SymAt text sumOf sumAfter ckS blankB rightF xv RetX X0 five5x symbolic_any bset5)
set_option linter.unusedVariables false
set_option maxRecDepth 100000
theorem OwnRows.short {w : World} {base : Nat} {v : Value} {l : List (List UInt8)} (h : OwnRows w base v l) : ∀ x ∈ l, x.length <= 1000000 := by
 obtain ⟨its, _, rfl, hall⟩ := h
 intro x hx
 obtain ⟨y, hy, rfl⟩ := List.mem_map.1 hx
 have := (hall y hy).2
 omega
end Go.Proofs.YtchcmklelmlbgaaGreat.Snap
namespace Go.Proofs.YtchcmklelmlbgaaGreat.Wal
open Go.RowKit
open Go.Proofs.YtchcmklelmlbgaaGreat.Geom
open Go.Proofs.YtchcmklelmlbgaaGreat.Sup (Gb gv gcell gthree newN_any UpN up_new)
open Go.Proofs.YtchcmklelmlbgaaGreat.Disk (St DAt new)
open Go.Proofs.YtchcmklelmlbgaaGreat.Sec (X symbolic_any)
set_option linter.unusedVariables false
set_option maxRecDepth 100000
end Go.Proofs.YtchcmklelmlbgaaGreat.Wal
namespace Go.Proofs.YtchcmklelmlbgaaGreat.Wal
open Go.RowKit
open Go.Proofs.YtchcmklelmlbgaaGreat.Geom
open Go.Proofs.YtchcmklelmlbgaaGreat.Sup (Gb gv gcell gthree)
set_option linter.unusedVariables false
set_option maxRecDepth 100000
attribute [local irreducible] wpQuiet
structure LightOk (gl : Int) (l : List Tx) : Prop where
 log : ¬ (16 < gl /\ gl <= 64)
 len : l.length <= 20
 pages : ∀ t ∈ l, t.pages.length <= 20 /\ ∀ p ∈ t.pages, p.body.length <= 600
def LightRet (gl : Int) (l : List Tx) (e : Ending) : Prop := ∃ B : Bool, e = .returned (.bool B) /\ (B = true -> LightOk gl l)
set_option maxHeartbeats 2000000 in
theorem light_any (Q : Nat -> Prop) (A : Option Addr) (l : List Tx) (c : Nat) (ga gd gl : Int) (w : World) (hr : Txs w Q A l) :
   Calls Tryz.prog 33 #[gv ga gd gl, .slice A l.length c] w fun e w' => LightRet gl l e /\ Below w.heap.size w w' := by
 have FG := Blk.new w (gcell ga gd gl) 23
 have b0 := b1alloc w (.cells (gcell ga gd gl).toArray 23)
 obtain ⟨z0, z1, z2⟩ := gthree FG
 obtain ⟨N, hN⟩ : ∃ N, N = l.length := ⟨_, rfl⟩
 rw [<- hN]
 have HN := Lib.hid hN
 have HR := Lib.hid (hr.on b0)
 clear hN hr FG
 by_cases h1 : 16 < gl /\ gl <= 64
 · have h2 := h1.1
   have h3 := h1.2
   clear h1
   go_enter Tryz.func33, Tryz.ntmps33
   go_wp2
   all_goals (go_ret; exact ⟨⟨false, rfl, fun h => (by cases h)⟩, b0⟩)
 by_cases h20 : N <= 20
 rotate_left
 · have t2 : (20 : Int) < (N : Int) := by omega
   have t3 : (decide (16 < gl) && decide (gl <= 64)) = false := by
     rw [Bool.and_eq_false_iff, decide_eq_false_iff_not, decide_eq_false_iff_not]
     by_cases hx : 16 < gl
     · exact .inr (fun h => h1 ⟨hx, h⟩)
     · exact .inl hx
   clear h1 h20
   by_cases hx : 16 < gl
   · go_enter Tryz.func33, Tryz.ntmps33
     go_wp2
     all_goals (go_ret; exact ⟨⟨false, rfl, fun h => (by cases h)⟩, b0⟩)
   · go_enter Tryz.func33, Tryz.ntmps33
     go_wp2
     all_goals (go_ret; exact ⟨⟨false, rfl, fun h => (by cases h)⟩, b0⟩)
 have t2 : ¬ (20 : Int) < (N : Int) := by omega
 have H1 := Lib.hid h1
 have hsp : (16 < gl /\ ¬ gl <= 64) \/ ¬ 16 < gl := by
   by_cases hx : 16 < gl
   · exact .inl ⟨hx, fun h => h1 ⟨hx, h⟩⟩
   · exact .inr hx
 clear h1
 rcases hsp with ⟨hx, hy⟩ | hx
 all_goals
   go_enter Tryz.func33, Tryz.ntmps33
   go_wp2_with fail
   go_loopw [5] (fun i wr => ∃ k : Nat, k <= N /\ i = .int .i64 (k : Int) /\ wr = w.alloc (.cells (gcell ga gd gl).toArray 23) /\ Hid (∀ t ∈ l.take k, t.pages.length <= 20 /\ ∀ p ∈ t.pages, p.body.length <= 600)) (fun i _ => N - (intOf i).toNat)
   case atStart => exact ⟨0, Nat.zero_le _, rfl, rfl, Lib.hid (fun t ht => by simp at ht)⟩
   case round =>
     obtain ⟨k, hk, rfl, rfl, hid⟩ := hrel
     by_cases hlt : k < N
     · have hkm : (k : Int) < (N : Int) := by omega
       have hge : ¬ (N : Int) <= (k : Int) := by omega
       have hll : k < l.length := by have := HN.out; omega
       have htk : l.take (k + 1) = l.take k ++ [l[k]] := List.take_succ_eq_append_getElem hll
       obtain ⟨b, off, Ai, ci, rfl, hb, hT⟩ := HR.out.get hll
       obtain ⟨x, hx'⟩ : ∃ x, x = l[k] := ⟨_, rfl⟩
       rw [<- hx'] at hT htk
       have c0 := hT.c0
       have HPg := Lib.hid hT.pgs
       have Htk := Lib.hid htk
       obtain ⟨m, hm⟩ : ∃ m, m = x.pages.length := ⟨_, rfl⟩
       rw [<- hm] at c0
       have Hm := Lib.hid hm
       clear hm hT htk hx'
       by_cases hm20 : m <= 20
       rotate_left
       · have t5 : (20 : Int) < (m : Int) := by omega
         go_wp2
         go_ret
         exact ⟨⟨false, rfl, fun h => (by cases h)⟩, b0⟩
       have t5 : ¬ (20 : Int) < (m : Int) := by omega
       go_wp2_with fail
       go_loopw [6] (fun i wr => ∃ j : Nat, j <= m /\ i = .int .i64 (j : Int) /\ wr = w.alloc (.cells (gcell ga gd gl).toArray 23) /\ Hid (∀ p ∈ x.pages.take j, p.body.length <= 600)) (fun i _ => m - (intOf i).toNat)
       case atStart => exact ⟨0, Nat.zero_le _, rfl, rfl, Lib.hid (fun t ht => by simp at ht)⟩
       case round =>
         obtain ⟨j, hj, rfl, rfl, hid2⟩ := hrel
         by_cases hjt : j < m
         · have hjm : (j : Int) < (m : Int) := by omega
           have hge2 : ¬ (m : Int) <= (j : Int) := by omega
           have hjl : j < x.pages.length := by have := Hm.out; omega
           have htj : x.pages.take (j + 1) = x.pages.take j ++ [x.pages[j]] := List.take_succ_eq_append_getElem hjl
           obtain ⟨b2, off2, Aj, cj, rfl, hb2, hP⟩ := HPg.out.get hjl
           obtain ⟨y, hy'⟩ : ∃ y, y = x.pages[j] := ⟨_, rfl⟩
           rw [<- hy'] at hP htj
           have d1 := hP.c1
           have Htj := Lib.hid htj
           by_cases h600 : y.body.length <= 600
           · have t6 : ¬ (600 : Int) < (y.body.length : Int) := by omega
             have Hyl := Lib.hid h600
             clear hP htj hy' h600
             go_wp2
             case roundEnd => exact ⟨⟨j + 1, by omega, by go_num, by first | trivial | rfl, Lib.hid (by rw [Htj.out]; intro p hp; rcases List.mem_append.1 hp with hp | hp; (· exact hid2.out p hp); (· rw [List.mem_singleton] at hp; rw [hp]; exact Hyl.out))⟩, by simp only [intOf]; omega⟩
           · have t6 : (600 : Int) < (y.body.length : Int) := by omega
             clear hP htj hy' h600
             go_wp2
             go_ret
             exact ⟨⟨false, rfl, fun h => (by cases h)⟩, b0⟩
         · have hjm : j = m := by omega
           have hjn : ¬ (j : Int) < (m : Int) := by omega
           have Hj := Lib.hid hjm
           clear hjm
           go_wp2
           have hgo := Lib.hid (show ∀ t ∈ l.take (k + 1), t.pages.length <= 20 /\ ∀ p ∈ t.pages, p.body.length <= 600 by
             rw [Htk.out]
             intro t ht
             rcases List.mem_append.1 ht with ht | ht
             · exact hid.out t ht
             · rw [List.mem_singleton] at ht
               rw [ht]
               have h2 := hid2.out
               rw [Hj.out, Hm.out, List.take_length] at h2
               exact ⟨by have := Hm.out; omega, h2⟩)
           exact ⟨⟨k + 1, by omega, by go_num, by first | trivial | rfl, Lib.hid hgo.out⟩, by simp only [intOf]; omega⟩
     · have hkm : k = N := by omega
       have hkn : ¬ (k : Int) < (N : Int) := by omega
       have Hk := Lib.hid hkm
       clear hkm
       go_wp2
       go_ret
       refine ⟨⟨true, rfl, fun _ => ⟨H1.out, by have := HN.out; omega, ?_⟩⟩, b0⟩
       have h2 := hid.out
       rw [Hk.out, HN.out, List.take_length] at h2
       exact h2
set_option maxHeartbeats 2000000 in
theorem rpagesOk_any (Q : Nat -> Prop) (A : Option Addr) (l : List Pg) (c : Nat) (ga gd gl : Int) (w : World) (hG : Gb ga gd gl) (hr : Pgs w Q A l) (hl : l.length <= 1000000) :
   Calls Tryz.prog 61 #[gv ga gd gl, .slice A l.length c] w fun e w' => e = .returned (.bool (!badB ga gd gl l)) /\ Below w.heap.size w w' := by
 have FG := Blk.new w (gcell ga gd gl) 23
 have b0 := b1alloc w (.cells (gcell ga gd gl).toArray 23)
 have HFG := Lib.hid FG
 have HPg := Lib.hid (fun W => Geom.rpages_any ga gd gl W hG.a0 hG.a1 hG.d0 hG.d1 hG.g0 hG.g1)
 obtain ⟨N, hN⟩ : ∃ N, N = l.length := ⟨_, rfl⟩
 rw [<- hN]
 have HN := Lib.hid hN
 have HR := Lib.hid hr
 have hl' : N <= 1000000 := by omega
 obtain ⟨R, hR⟩ : ∃ R, R = badB ga gd gl l := ⟨_, rfl⟩
 rw [<- hR]
 have HRR := Lib.hid hR
 obtain ⟨q, hq⟩ : ∃ q, q = pagesOf ga gd gl := ⟨_, rfl⟩
 rw [<- hq] at HPg
 have Hq := Lib.hid hq
 clear hN hr hl hR hq FG
 go_enter Tryz.func61, Tryz.ntmps61
 go_wp2_with fail
 go_loopw [5] (fun i wr => ∃ k : Nat, k <= N /\ i = .int .i64 (k : Int) /\ Below w.heap.size w wr /\ Blk wr w.heap.size (gcell ga gd gl) /\ Hid (∀ j (hj : j < l.length), j < k -> wrongB ga gd gl l[j] = false)) (fun i _ => N - (intOf i).toNat)
 case atStart => exact ⟨0, Nat.zero_le _, rfl, b0, HFG.out, Lib.hid (fun j _ h => absurd h (Nat.not_lt_zero j))⟩
 case round =>
   obtain ⟨k, hk, rfl, bel, hB, hid⟩ := hrel
   clear b0
   by_cases hlt : k < N
   · have hkm : (k : Int) < (N : Int) := by omega
     have hge : ¬ (N : Int) <= (k : Int) := by omega
     have hll : k < l.length := by have := HN.out; omega
     obtain ⟨z0, z1, z2⟩ := gthree hB
     have lG := hB.lt
     obtain ⟨b, off, Ai, ci, rfl, hb, hP⟩ := (HR.out.on bel).get hll
     have hW : wrongB ga gd gl l[k] = (decide (l[k].n < 0) || (decide (q <= l[k].n) || decide (473 < l[k].body.length))) := by rw [Hq.out]; rfl
     have hgo : wrongB ga gd gl l[k] = false -> ∀ j (hj : j < l.length), j < k + 1 -> wrongB ga gd gl l[j] = false := fun h j hj hjk => by
       rcases Nat.lt_succ_iff_lt_or_eq.1 hjk with e | e
       · exact hid.out j hj e
       · subst e; exact h
     have hst : wrongB ga gd gl l[k] = true -> R = true := fun h => by rw [HRR.out]; exact badB_yes hll h
     obtain ⟨⟨xn, xb⟩, hx⟩ : ∃ x, x = l[k] := ⟨_, rfl⟩
     rw [<- hx] at hP hW hgo hst
     simp only at hW
     have c0 := hP.c0
     have c1 := hP.c1
     obtain ⟨m, hm⟩ : ∃ m, m = xb.length := ⟨_, rfl⟩
     simp only at c0 c1
     rw [<- hm] at c1 hW
     have HB := Lib.hid hB
     have Hgo := Lib.hid hgo
     have Hst := Lib.hid hst
     by_cases h0 : xn < 0
     · have hf := Lib.hid (hst (by rw [hW, decide_eq_true h0]; rfl))
       clear hP hW hgo hst hx hm hB
       go_wp2_with fail
       refine region_inb (by kernel_rfl) (by kernel_rfl) ?_
       have inbNe := InB.some
       have inbW := @wrap_small
       have inbU := IntKind.wrap_u8'
       repeat (refine wpQuiet_step (fun K hK => ?_); go_simp; first | (refine hK _ ?_; clear hK K) | (apply Exists.intro; refine ⟨?_, hK _ ?_⟩; (· (intro w' hw'; first | fail | (have hcw := hw'.cell; go_simp; exact rfl))); clear hK K))
       refine wpQuiet_nil ?_
       intro wq hq
       clear inbNe inbW inbU
       go_wp2
       go_ret
       exact ⟨by rw [hf.out]; rfl, bt bel hq.below⟩
     by_cases h1 : q <= xn
     · have hf := Lib.hid (hst (by rw [hW, decide_eq_true h1]; simp))
       clear hP hW hgo hst hx hm hB
       go_wp2_with fail
       refine region_inb (by kernel_rfl) (by kernel_rfl) ?_
       have inbNe := InB.some
       have inbW := @wrap_small
       have inbU := IntKind.wrap_u8'
       repeat (refine wpQuiet_step (fun K hK => ?_); go_simp; first | (refine hK _ ?_; clear hK K) | (apply Exists.intro; refine ⟨?_, hK _ ?_⟩; (· (intro w' hw'; first | (go_at_call 22; refine (HPg.out _).mono ?_; rintro e w1 ⟨rfl, b1⟩; exact ⟨rfl, hw'.on b1⟩) | (have hcw := hw'.cell; go_simp; exact rfl))); clear hK K))
       refine wpQuiet_nil ?_
       intro wq hq
       clear inbNe inbW inbU
       go_wp2
       go_ret
       exact ⟨by rw [hf.out]; rfl, bt bel hq.below⟩
     by_cases h2 : 473 < m
     · have hf := Lib.hid (hst (by rw [hW, decide_eq_true h2]; simp))
       have t2 : (473 : Int) < (m : Int) := by omega
       clear hP hW hgo hst hx hm hB h2
       go_wp2_with fail
       refine region_inb (by kernel_rfl) (by kernel_rfl) ?_
       have inbNe := InB.some
       have inbW := @wrap_small
       have inbU := IntKind.wrap_u8'
       repeat (refine wpQuiet_step (fun K hK => ?_); go_simp; first | (refine hK _ ?_; clear hK K) | (apply Exists.intro; refine ⟨?_, hK _ ?_⟩; (· (intro w' hw'; first | (go_at_call 22; refine (HPg.out _).mono ?_; rintro e w1 ⟨rfl, b1⟩; exact ⟨rfl, hw'.on b1⟩) | (have hcw := hw'.cell; go_simp; exact rfl))); clear hK K))
       refine wpQuiet_nil ?_
       intro wq hq
       clear inbNe inbW inbU
       go_wp2
       go_ret
       exact ⟨by rw [hf.out]; rfl, bt bel hq.below⟩
     · have hf := Lib.hid (hgo (by rw [hW, decide_eq_false h0, decide_eq_false h1, decide_eq_false h2]; rfl))
       have t2 : ¬ (473 : Int) < (m : Int) := by omega
       clear hP hW hgo hst hx hm hB h2
       go_wp2_with fail
       refine region_inb (by kernel_rfl) (by kernel_rfl) ?_
       have inbNe := InB.some
       have inbW := @wrap_small
       have inbU := IntKind.wrap_u8'
       repeat (refine wpQuiet_step (fun K hK => ?_); go_simp; first | (refine hK _ ?_; clear hK K) | (apply Exists.intro; refine ⟨?_, hK _ ?_⟩; (· (intro w' hw'; first | (go_at_call 22; refine (HPg.out _).mono ?_; rintro e w1 ⟨rfl, b1⟩; exact ⟨rfl, hw'.on b1⟩) | (have hcw := hw'.cell; go_simp; exact rfl))); clear hK K))
       refine wpQuiet_nil ?_
       intro wq hq
       clear inbNe inbW inbU
       go_wp2
       case roundEnd => exact ⟨⟨k + 1, by omega, by go_num, bt bel hq.below, HB.out.on hq.below, Lib.hid hf.out⟩, by simp only [intOf]; omega⟩
   · have hkm : k = N := by omega
     have hkn : ¬ (k : Int) < (N : Int) := by omega
     have Hk := Lib.hid hkm
     clear hkm
     go_wp2
     go_ret
     have hf : R = false := by
       rw [HRR.out]
       exact badB_no (fun j hj => hid.out j hj (by have := Hk.out; have := HN.out; omega))
     exact ⟨by rw [hf]; rfl, bel⟩
end Go.Proofs.YtchcmklelmlbgaaGreat.Wal
namespace Go.Proofs.YtchcmklelmlbgaaGreat.Wal
open Go.RowKit
set_option linter.unusedVariables false
set_option maxRecDepth 100000
attribute [local irreducible] wpQuiet
end Go.Proofs.YtchcmklelmlbgaaGreat.Wal
namespace Go.Proofs.YtchcmklelmlbgaaGreat
open Go.ChangeShapes Go.WideShapes Go.ChangeAt Go.RowKit Go.Joins Go.Deep
set_option maxRecDepth 100000
set_option linter.unusedVariables false
end Go.Proofs.YtchcmklelmlbgaaGreat
namespace Go.Proofs.YtchcmklelmlbgaaGreat
open Go.RowKit
set_option linter.unusedVariables false
open Go.ChangeShapes Go.WideShapes Go.ChangeAt Go.Joins Go.Deep
set_option maxRecDepth 100000
end Go.Proofs.YtchcmklelmlbgaaGreat
namespace Go.Proofs.YtchcmklelmlbgaaGreat.Wal
open Go.RowKit
open Go.Proofs.YtchcmklelmlbgaaGreat.Sec (X X0)
set_option linter.unusedVariables false
set_option maxRecDepth 100000
attribute [local irreducible] wpQuiet
end Go.Proofs.YtchcmklelmlbgaaGreat.Wal
namespace Go.Proofs.YtchcmklelmlbgaaGreat.Wal
open Go.RowKit
open Go.Proofs.YtchcmklelmlbgaaGreat.Sec (X X0)
set_option linter.unusedVariables false
set_option maxRecDepth 100000
attribute [local irreducible] wpQuiet
end Go.Proofs.YtchcmklelmlbgaaGreat.Wal
namespace Go.Proofs.YtchcmklelmlbgaaGreat.Wal
open Go.RowKit
open Go.Proofs.YtchcmklelmlbgaaGreat.Geom
open Go.Proofs.YtchcmklelmlbgaaGreat.Sup (Gb gv gcell gthree)
open Go.Proofs.YtchcmklelmlbgaaGreat.Num (putL putL_len)
open Go.Proofs.YtchcmklelmlbgaaGreat.Sec (X)
set_option linter.unusedVariables false
set_option maxRecDepth 100000
attribute [local irreducible] wpQuiet
def whyF (ga gd gl : Int) (seq : Nat) (l : List Pg) : Int := if badB ga gd gl l = true then 2 else if fitsB ga gd gl l.length = false then 6 else if gl - (seq : Int) <= (l.length : Int) then 5 else 0
end Go.Proofs.YtchcmklelmlbgaaGreat.Wal
namespace Go.Proofs.YtchcmklelmlbgaaGreat.Sto
open Go.RowKit
open Go.Proofs.YtchcmklelmlbgaaGreat.Geom
open Go.Proofs.YtchcmklelmlbgaaGreat.Disk (St Wr write flush kept new zero512)
open Go.Proofs.YtchcmklelmlbgaaGreat.Sup (splace sB sL wf)
open Go.Proofs.YtchcmklelmlbgaaGreat.Snap (snapF)
open Go.Proofs.YtchcmklelmlbgaaGreat.Wal (Tx badB putF whyF fitsB)
open Go.Proofs.YtchcmklelmlbgaaGreat.Enc (enf enf_lim)
set_option linter.unusedVariables false
structure Z where
 life : UInt64
 base : Int
 gen : UInt64
 next : Int
 pages : List (List UInt8)
 due : Bool
 dead : Bool
 seq : Nat
 has : Bool
abbrev Out := List (List UInt8) × St × Int
def begF (ga gd gl : Int) (life : UInt64) (base : Int) (gen : UInt64) (P : List (List UInt8)) (l : List (List UInt8)) (s : St) : Out :=
 if (snapF ga gd gl life P l s).2.2 = 0 then
   (sL (snapF ga gd gl life P l s).1 ga gd gl life base gen, wf (snapF ga gd gl life P l s).2.1 (splace life) (sB (snapF ga gd gl life P l s).1 ga gd gl life base gen))
 else snapF ga gd gl life P l s
def baseN (gl : Int) (z : Z) : Int := if z.due = true then z.next else (z.base + (z.seq : Int)) % gl
def renO (ga gd gl : Int) (z : Z) (l : List (List UInt8)) (s : St) : Out := begF ga gd gl (z.life + 1) (baseN gl z) z.gen z.pages l s
def Z.begun (z : Z) (life : UInt64) (base : Int) (gen : UInt64) : Z := { z with life := life, base := base, gen := gen, due := false, seq := 0, has := true }
def Z.told (z : Z) (f : Int) : Z := { z with dead := z.dead || decide (f = 12) }
def Z.renew (gl : Int) (z : Z) (f : Int) : Z := if f = 0 then z.begun (z.life + 1) (baseN gl z) z.gen else z.told f
def renF (ga gd gl : Int) (z : Z) (l : List (List UInt8)) (s : St) : Z × Out := (z.renew gl (renO ga gd gl z l s).2.2, renO ga gd gl z l s)
def appO (ga gd gl : Int) (z : Z) (pages : List Pg) (gen : UInt64) (l : List (List UInt8)) (s : St) : Out := putF ga gd gl z.base z.life z.seq gen pages l s
def Z.append (z : Z) (pages : List Pg) (gen : UInt64) (f : Int) : Z := if f = 0 then { z with pages := putP z.pages pages, gen := gen, seq := z.seq + (pages.length + 1) } else z.told f
def appF (ga gd gl : Int) (z : Z) (pages : List Pg) (gen : UInt64) (l : List (List UInt8)) (s : St) : Z × Out := (z.append pages gen (appO ga gd gl z pages gen l s).2.2, appO ga gd gl z pages gen l s)
def comF (ga gd gl : Int) (z : Z) (pages : List Pg) (gen : UInt64) (l : List (List UInt8)) (s : St) : Z × Out :=
 if whyF ga gd gl z.seq pages = 0 then appF ga gd gl z pages gen l s
 else if whyF ga gd gl z.seq pages = 5 then
   if (renO ga gd gl z l s).2.2 = 0 then appF ga gd gl (renF ga gd gl z l s).1 pages gen (renO ga gd gl z l s).1 (renO ga gd gl z l s).2.1
   else renF ga gd gl z l s
 else (z, l, s, whyF ga gd gl z.seq pages)
theorem begF_lim (ga gd gl : Int) (life : UInt64) (base : Int) (gen : UInt64) (P : List (List UInt8)) (l : List (List UInt8)) (s : St) : (begF ga gd gl life base gen P l s).1.length <= l.length + (P.length + 1) /\ (begF ga gd gl life base gen P l s).2.1.sz <= s.sz + 2 * (P.length + 2) := by
 obtain ⟨h1, h2⟩ := enf_lim (Snap.pItems ga gd gl life 0 P) l s
 rw [Snap.pItems_len] at h1 h2
 unfold begF snapF
 split
 · have h3 := Enc.sumAfter_len (enf (Snap.pItems ga gd gl life 0 P) l s).1 (Sec.text (splace life) (Sup.sx ga gd gl life base gen))
   have h4 := Sup.wf_sz (enf (Snap.pItems ga gd gl life 0 P) l s).2.1 (splace life) (sB (enf (Snap.pItems ga gd gl life 0 P) l s).1 ga gd gl life base gen)
   refine ⟨?_, ?_⟩
   · show (Sec.sumAfter _ _).length <= _; omega
   · show (wf _ _ _).1.sz <= _; omega
 · omega
theorem why_cases (ga gd gl : Int) (seq : Nat) (l : List Pg) : whyF ga gd gl seq l = 0 \/ whyF ga gd gl seq l = 2 \/ whyF ga gd gl seq l = 5 \/ whyF ga gd gl seq l = 6 := by
 unfold whyF
 split
 · exact .inr (.inl rfl)
 · split
   · exact .inr (.inr (.inr rfl))
   · split
     · exact .inr (.inr (.inl rfl))
     · exact .inl rfl
theorem why_full {ga gd gl : Int} {seq : Nat} {l : List Pg} (h : whyF ga gd gl seq l = 5) : badB ga gd gl l = false /\ fitsB ga gd gl l.length = true /\ gl - (seq : Int) <= (l.length : Int) := by
 unfold whyF at h
 split at h
 · cases h
 · rename_i h1
   split at h
   · cases h
   · rename_i h2
     split at h
     · rename_i h3
       exact ⟨by simpa using h1, by simpa using h2, h3⟩
     · cases h
theorem why_first {ga gd gl : Int} {seq : Nat} {l : List Pg} (h : whyF ga gd gl seq l = 5) : whyF ga gd gl 0 l = 0 := by
 obtain ⟨h1, h2, _⟩ := why_full h
 have h3 : (l.length : Int) < gl := by
   unfold fitsB at h2
   simp only [Bool.and_eq_true, decide_eq_true_eq] at h2
   exact h2.2.2
 unfold whyF
 rw [if_neg (by rw [h1]; decide), if_neg (by rw [h2]; decide), if_neg (by omega)]
theorem comF_lim (ga gd gl : Int) (z : Z) (pages : List Pg) (gen : UInt64) (l : List (List UInt8)) (s : St) : (comF ga gd gl z pages gen l s).2.1.length <= l.length + (z.pages.length + pages.length + 2) /\ (comF ga gd gl z pages gen l s).2.2.1.sz <= s.sz + 2 * (z.pages.length + pages.length + 4) := by
 obtain ⟨b1, b2⟩ := begF_lim ga gd gl (z.life + 1) (baseN gl z) z.gen z.pages l s
 have ha := fun (z' : Z) (l' : List (List UInt8)) (s' : St) => Wal.putF_lim ga gd gl z'.base z'.life z'.seq ⟨pages, gen⟩ l' s'
 unfold comF
 split
 · have := ha z l s
   show (putF _ _ _ _ _ _ _ _ _ _).1.length <= _ /\ (putF _ _ _ _ _ _ _ _ _ _).2.1.sz <= _
   simp only at this
   omega
 · split
   · split
     · have := ha (renF ga gd gl z l s).1 (renO ga gd gl z l s).1 (renO ga gd gl z l s).2.1
       show (putF _ _ _ _ _ _ _ _ _ _).1.length <= _ /\ (putF _ _ _ _ _ _ _ _ _ _).2.1.sz <= _
       simp only at this
       unfold renO at this ⊢
       omega
     · show (begF _ _ _ _ _ _ _ _ _).1.length <= _ /\ (begF _ _ _ _ _ _ _ _ _).2.1.sz <= _
       omega
   · show l.length <= _ /\ s.sz <= _
     omega
theorem write_size (s : St) (p : Int) (b : List UInt8) : (write s p b).1.size = s.size := by
 unfold write
 split
 · rfl
 · split
   · rfl
   · split
     · rfl
     · exact (Disk.burn_lists _).2.2
theorem flush_size (s : St) : (flush s).1.size = s.size := by
 unfold flush
 split
 · rfl
 · split
   · exact (Disk.burn_lists _).2.2
   · exact (Disk.burn_lists _).2.2
theorem encs_size : ∀ (is : List Enc.Itm) (l : List (List UInt8)) (s : St), (Enc.encs is l s).2.1.size = s.size
 | [], l, s => rfl
 | i :: r, l, s => by
   by_cases h : (write s i.1 (Enc.xB l i.1 i.2)).2 = 0
   · rw [Enc.encs_go h, encs_size r]; exact write_size _ _ _
   · rw [Enc.encs_stop h]; exact write_size _ _ _
theorem enf_size (is : List Enc.Itm) (l : List (List UInt8)) (s : St) : (enf is l s).2.1.size = s.size := by
 unfold enf
 split
 · exact (flush_size _).trans (encs_size is l s)
 · exact encs_size is l s
theorem wf_size (s : St) (p : Int) (b : List UInt8) : (wf s p b).1.size = s.size := by
 unfold wf
 split
 · exact (flush_size _).trans (write_size _ _ _)
 · exact write_size _ _ _
theorem snapF_size (ga gd gl : Int) (life : UInt64) (P : List (List UInt8)) (l : List (List UInt8)) (s : St) : (snapF ga gd gl life P l s).2.1.size = s.size := enf_size _ _ _
theorem begF_size (ga gd gl : Int) (life : UInt64) (base : Int) (gen : UInt64) (P : List (List UInt8)) (l : List (List UInt8)) (s : St) : (begF ga gd gl life base gen P l s).2.1.size = s.size := by
 unfold begF
 split
 · exact (wf_size _ _ _).trans (snapF_size _ _ _ _ _ _ _)
 · exact snapF_size _ _ _ _ _ _ _
theorem sright_of {s s' : St} {ga gd gl : Int} (h : Sup.srightF s ga gd gl = 0) (e : s'.size = s.size) : Sup.srightF s' ga gd gl = 0 := by
 unfold Sup.srightF at h ⊢
 rw [e]; exact h
theorem wright_of {s : St} {ga gd gl base : Int} (h : Sup.srightF s ga gd gl = 0) (h0 : 0 <= base) (h1 : base <= 1073741824) : Wal.wrightF s ga gd gl base = 0 := by
 unfold Sup.srightF at h
 unfold Wal.wrightF
 split at h
 · rename_i h2
   rw [if_pos ⟨h2.1, h2.2, h0, h1⟩]
 · cases h
end Go.Proofs.YtchcmklelmlbgaaGreat.Sto
namespace Go.Proofs.YtchcmklelmlbgaaGreat.Sup
open Go.RowKit
open Go.Proofs.YtchcmklelmlbgaaGreat.Geom
open Go.Proofs.YtchcmklelmlbgaaGreat.Disk (St DAt Did New8 Told8 new)
open Go.Proofs.YtchcmklelmlbgaaGreat.Sec (X SymAt text sumOf sumAfter ckS blankB rightF xv RetX X0 five5x symbolic_any bset5)
set_option linter.unusedVariables false
set_option maxRecDepth 100000
end Go.Proofs.YtchcmklelmlbgaaGreat.Sup
namespace Go.Proofs.YtchcmklelmlbgaaGreat.Snap
open Go.RowKit
open Go.Proofs.YtchcmklelmlbgaaGreat.Geom
open Go.Proofs.YtchcmklelmlbgaaGreat.Disk (St Wr read kept new zero512)
open Go.Proofs.YtchcmklelmlbgaaGreat.Sec (X text text_len sumAfter rightF X0)
open Go.Proofs.YtchcmklelmlbgaaGreat.Sup (UpN)
open Go.Proofs.YtchcmklelmlbgaaGreat.Enc (rd rd_good rd_zero)
set_option linter.unusedVariables false
end Go.Proofs.YtchcmklelmlbgaaGreat.Snap
namespace Go.Proofs.YtchcmklelmlbgaaGreat
open Go.RowKit
set_option linter.unusedVariables false
end Go.Proofs.YtchcmklelmlbgaaGreat
namespace Go.Proofs.YtchcmklelmlbgaaGreat.Snap
open Go.RowKit
open Go.Proofs.YtchcmklelmlbgaaGreat.Sec (X five5x)
set_option linter.unusedVariables false
set_option maxRecDepth 100000
end Go.Proofs.YtchcmklelmlbgaaGreat.Snap
namespace Go.Proofs.YtchcmklelmlbgaaGreat.Wal
open Go.RowKit
open Go.Proofs.YtchcmklelmlbgaaGreat.Geom
open Go.Proofs.YtchcmklelmlbgaaGreat.Disk (St Wr write flush burn)
open Go.Proofs.YtchcmklelmlbgaaGreat.Sec (X text rightF)
open Go.Proofs.YtchcmklelmlbgaaGreat.Sup (UpN)
open Go.Proofs.YtchcmklelmlbgaaGreat.Enc (Itm xB xB_len encs enf encs_nil encs_go encs_stop enf_lim)
set_option linter.unusedVariables false
theorem write_calls {s : St} {n : Nat} (h2 : s.size = n) (hd : s.down = false) {p : Int} (h0 : 0 <= p) (h1 : p < n) {b : List UInt8} (hb : b.length = 512) : (write s p b).1.calls = s.calls + 1 /\ (write s p b).1.size = n := by
 subst h2
 have hw : write s p b = burn { s with pend := s.pend ++ [(p.toNat, b)] } := by
   unfold write; rw [if_neg (by simp [hd]), if_neg (by omega), if_neg (by simpa using hb)]
 rw [hw]
 exact ⟨Disk.burn_calls _, (Disk.burn_lists _).2.2⟩
theorem flush_calls {s : St} (hd : s.down = false) : (flush s).1.calls = s.calls + 1 := by
 unfold flush
 rw [if_neg (by simp [hd])]
 have := Disk.burn_calls s
 split <;> simpa using this
theorem encs_calls {n : Nat} : ∀ (is : List Itm) (l : List (List UInt8)) (s : St), s.size = n -> s.down = false -> (∀ i ∈ is, 0 <= i.1 /\ i.1 < n) -> (encs is l s).2.2 = 0 -> (encs is l s).2.1.calls = s.calls + is.length /\ (encs is l s).2.1.down = false
 | [], l, s, h2, hd, _, _ => ⟨rfl, hd⟩
 | i :: r, l, s, h2, hd, hi, hz => by
   obtain ⟨h0, h1⟩ := hi i (by simp)
   obtain ⟨w1, w2⟩ := write_calls h2 hd h0 h1 (xB_len l i.1 i.2)
   obtain ⟨_, _, _, w4⟩ := Enc.write_cases h2 hd h0 h1 (xB_len l i.1 i.2)
   by_cases h : (write s i.1 (xB l i.1 i.2)).2 = 0
   · rw [encs_go h] at hz ⊢
     have hdn : (write s i.1 (xB l i.1 i.2)).1.down = false := by
       rcases w4 with ⟨e, _⟩ | ⟨_, e, _⟩
       · rw [e] at h; cases h
       · exact e
     obtain ⟨e1, e2⟩ := encs_calls r _ _ w2 hdn (fun j hj => hi j (by simp [hj])) hz
     exact ⟨by rw [e1, w1, List.length_cons]; omega, e2⟩
   · rw [encs_stop h] at hz
     exact absurd hz h
theorem enf_calls {n : Nat} {is : List Itm} {l : List (List UInt8)} {s : St} (h2 : s.size = n) (hd : s.down = false) (hi : ∀ i ∈ is, 0 <= i.1 /\ i.1 < n) (hz : (enf is l s).2.2 = 0) : (enf is l s).2.1.calls = s.calls + (is.length + 1) := by
 unfold enf at hz ⊢
 by_cases h : (encs is l s).2.2 = 0
 · rw [if_pos h] at hz ⊢
   obtain ⟨e1, e2⟩ := encs_calls is l s h2 hd hi h
   show (flush (encs is l s).2.1).1.calls = _
   rw [flush_calls e2, e1]; omega
 · rw [if_neg h] at hz; exact absurd hz h
theorem items_bd {ga gd gl base : Int} {n : Nat} (hr : right ga gd gl = true) (hb : 0 <= base) (hn : (n : Int) = Geom.sizeOf ga gd gl) (xs : List X) (q : Nat) : ∀ i ∈ items ga gd gl base q xs, 0 <= i.1 /\ i.1 < n := by
 intro i hi
 obtain ⟨k, hk, rfl⟩ := List.mem_iff_getElem.1 hi
 rw [items_len] at hk
 rw [items_get ga gd gl base xs q k (by rw [items_len]; exact hk) hk]
 have := pl_bd hr hb hn (q + k)
 exact ⟨this.1, this.2.1⟩
theorem LogIs.calls {ga gd gl base : Int} {n : Nat} {l : List (List UInt8)} {s : St} {xs : List X} {t : Tx} {life : UInt64} (h : LogIs ga gd gl base n l s xs) (hr : right ga gd gl = true) (hb : 0 <= base) (hn : (n : Int) = Geom.sizeOf ga gd gl) (hl : (xs.length : Int) + t.pages.length < gl) (hbd : badB ga gd gl t.pages = false) :
   (putF ga gd gl base life xs.length t.gen t.pages l s).2.1.calls = s.calls + (t.pages.length + 3) /\ (putF ga gd gl base life xs.length t.gen t.pages l s).1.length <= l.length + (t.pages.length + 1) /\ (putF ga gd gl base life xs.length t.gen t.pages l s).2.1.sz <= s.sz + 2 * (t.pages.length + 2) := by
 have hy64 := right_yes hr
 have hd := items_data ga gd gl base life xs.length t.gen t.pages 0
 rw [Nat.add_zero] at hd
 obtain ⟨r1, h1⟩ := h.more (ys := dSecs life xs.length t.gen 0 t.pages) hr hb hn (by rw [dSecs_len]; omega) (fun k hk => by
   rw [dSecs_len] at hk
   rw [dSecs_get _ _ _ _ _ _ _ hk, Nat.zero_add]
   have hp := pl_bd hr hb hn (xs.length + k)
   exact dX_right hp.1 hp.2.2 (by decide) (by omega) (badB_of hbd hk).2.2)
 have c1 := enf_calls (l := l) h.up.size h.up.down (items_bd hr hb hn (dSecs life xs.length t.gen 0 t.pages) xs.length) r1
 obtain ⟨r2, h2⟩ := h1.more (ys := [dX 5 life xs.length t.pages.length t.gen t.pages.length []]) hr hb hn (by simp only [List.length_append, dSecs_len, List.length_singleton]; omega) (fun k hk => by
   obtain rfl : k = 0 := by simp at hk; exact hk
   have hp := pl_bd hr hb hn ((xs ++ dSecs life xs.length t.gen 0 t.pages).length + 0)
   exact dX_right hp.1 hp.2.2 (by decide) (by omega) (by simp))
 have c2 := enf_calls h1.up.size h1.up.down (items_bd hr hb hn [dX 5 life xs.length t.pages.length t.gen t.pages.length []] (xs ++ dSecs life xs.length t.gen 0 t.pages).length) r2
 have l1 := enf_lim (items ga gd gl base xs.length (dSecs life xs.length t.gen 0 t.pages)) l s
 have l2 := enf_lim (items ga gd gl base (xs ++ dSecs life xs.length t.gen 0 t.pages).length [dX 5 life xs.length t.pages.length t.gen t.pages.length []]) (enf (items ga gd gl base xs.length (dSecs life xs.length t.gen 0 t.pages)) l s).1 (enf (items ga gd gl base xs.length (dSecs life xs.length t.gen 0 t.pages)) l s).2.1
 rw [items_len, dSecs_len] at c1 l1
 rw [items_len, List.length_singleton] at c2 l2
 rw [List.length_append, dSecs_len] at c2 l2
 rw [hd] at r1 c1 c2 l1 l2
 unfold putF
 rw [if_pos r1]
 have hit : items ga gd gl base (xs.length + t.pages.length) [dX 5 life xs.length t.pages.length t.gen t.pages.length []] = [(logAt ga gd gl (base + ((xs.length + t.pages.length : Nat) : Int)), dX 5 life xs.length t.pages.length t.gen t.pages.length [])] := rfl
 rw [hit] at c2 l2
 refine ⟨?_, ?_, ?_⟩
 · rw [c2, c1]; omega
 · omega
 · omega
end Go.Proofs.YtchcmklelmlbgaaGreat.Wal
namespace Go.Proofs.YtchcmklelmlbgaaGreat.Wal
open Go.RowKit
open Go.Proofs.YtchcmklelmlbgaaGreat.Geom
open Go.Proofs.YtchcmklelmlbgaaGreat.Sup (Gb gv gcell gthree UpN)
open Go.Proofs.YtchcmklelmlbgaaGreat.Disk (St DAt)
open Go.Proofs.YtchcmklelmlbgaaGreat.Sec (X)
set_option linter.unusedVariables false
theorem append_no (L g gS : Nat) (ga gd gl : Int) (life : UInt64) (base : Int) (seq : Nat) (Q : Nat -> Prop) (A : Option Addr) (l : List Pg) (c : Nat) (gen : UInt64) (w : World) (hG : Gb ga gd gl) (hL : LAt w L g gS ga gd gl life base seq) (hr : Pgs w Q A l) (hcl : l.length <= 1000000) (hs : seq <= 100000) (hg : 0 <= gl) (hg1 : gl <= 100000) (hf : whyF ga gd gl seq l ≠ 0) :
   Calls Tryz.prog 45 #[.pointer (some ⟨L, 0, none⟩), .slice A l.length c, .int .u64 (gen.toNat : Int)] w fun e w' => e = .returned (.int .i64 (whyF ga gd gl seq l)) /\ Below w.heap.size w w' := by
 unfold whyF at hf ⊢
 by_cases hb : badB ga gd gl l = true
 · rw [if_pos hb]; exact append_bad L g gS ga gd gl life base seq Q A l c gen w hG hL hr hcl hb
 · have hb' : badB ga gd gl l = false := by simpa using hb
   rw [if_neg hb] at hf ⊢
   by_cases h1 : fitsB ga gd gl l.length = false
   · rw [if_pos h1]; exact append_big L g gS ga gd gl life base seq Q A l c gen w hG hL hr hcl hb' h1
   · have h1' : fitsB ga gd gl l.length = true := by simpa using h1
     rw [if_neg h1] at hf ⊢
     by_cases h2 : gl - (seq : Int) <= (l.length : Int)
     · rw [if_pos h2]; exact append_full L g gS ga gd gl life base seq Q A l c gen w hG hL hr hcl hb' h1' hs hg hg1 h2
     · rw [if_neg h2] at hf; exact absurd rfl hf
theorem whyF_zero {ga gd gl : Int} {seq : Nat} {l : List Pg} (h : whyF ga gd gl seq l = 0) : badB ga gd gl l = false /\ fitsB ga gd gl l.length = true /\ (seq : Int) + l.length < gl := by
 unfold whyF at h
 split at h
 · cases h
 · rename_i hb
   split at h
   · cases h
   · rename_i hf
     split at h
     · cases h
     · exact ⟨by simpa using hb, by simpa using hf, by omega⟩
end Go.Proofs.YtchcmklelmlbgaaGreat.Wal
namespace Go.Proofs.YtchcmklelmlbgaaGreat.Sto
open Go.RowKit
open Go.Proofs.YtchcmklelmlbgaaGreat.Geom
open Go.Proofs.YtchcmklelmlbgaaGreat.Disk (St Wr write flush kept new zero512)
open Go.Proofs.YtchcmklelmlbgaaGreat.Sup (splace sB sL wf UpN atR best SV)
open Go.Proofs.YtchcmklelmlbgaaGreat.Snap (snapF snapR PagesOk)
open Go.Proofs.YtchcmklelmlbgaaGreat.Wal (Tx badB putF whyF whyF_zero fitsB allSecs allSecs_snoc tSecs tSecs_len scanTx)
set_option linter.unusedVariables false
structure RS where
 pages : List (List UInt8)
 gen : UInt64
 life : UInt64
 base : Int
 began : UInt64
 seq : Nat
 due : Bool
def RS.renew (gl : Int) (y : RS) : RS := ⟨y.pages, y.gen, y.life + 1, (y.base + (y.seq : Int)) % gl, y.gen, 0, false⟩
def RS.put (y : RS) (l : List Pg) (gen : UInt64) : RS := ⟨putP y.pages l, gen, y.life, y.base, y.began, y.seq + (l.length + 1), y.due⟩
def RS.commit (ga gd gl : Int) (y : RS) (l : List Pg) (gen : UInt64) : RS × Int :=
 if y.due = true then (y, 14) else
 if whyF ga gd gl y.seq l = 0 then (y.put l gen, 0)
 else if whyF ga gd gl y.seq l = 5 then ((y.renew gl).put l gen, 0)
 else (y, whyF ga gd gl y.seq l)
structure PInv (ga gd gl : Int) (n : Nat) (sm : List (List UInt8)) (st : St) (z : Z) (y : RS) : Prop where
 ex : ∃ (P0 : List (List UInt8)) (ts : List Tx) (gen0 : UInt64), InvN ga gd gl n sm st z.life z.base gen0 P0 ts /\ z.gen = genT gen0 ts /\ z.pages = applyT P0 ts /\
   (z.due = false -> z.seq = (allSecs z.life 0 ts).length) /\ (z.due = true -> z.next = (z.base + ((allSecs z.life 0 ts).length : Int)) % gl) /\
   y = ⟨z.pages, z.gen, z.life, z.base, gen0, (allSecs z.life 0 ts).length, z.due⟩
 alive : z.dead = false
 has : z.due = false -> z.has = true
theorem snocLen (life : UInt64) (ts : List Tx) (t : Tx) : (allSecs life 0 (ts ++ [t])).length = (allSecs life 0 ts).length + (t.pages.length + 1) := by
 rw [allSecs_snoc, Nat.zero_add, List.length_append, tSecs_len]
theorem PInv.pagesOk {ga gd gl : Int} {n : Nat} {sm : List (List UInt8)} {st : St} {z : Z} {y : RS} (h : PInv ga gd gl n sm st z y) : PagesOk ga gd gl n z.pages := by
 obtain ⟨P0, ts, gen0, hI, _, hp, _⟩ := h.ex
 rw [hp]
 exact applyT_ok ts P0 hI.pages hI.bad
theorem PInv.up {ga gd gl : Int} {n : Nat} {sm : List (List UInt8)} {st : St} {z : Z} {y : RS} (h : PInv ga gd gl n sm st z y) : UpN st n := by
 obtain ⟨P0, ts, gen0, hI, _⟩ := h.ex
 exact hI.up
theorem PInv.hb {ga gd gl : Int} {n : Nat} {sm : List (List UInt8)} {st : St} {z : Z} {y : RS} (h : PInv ga gd gl n sm st z y) : 0 <= z.base /\ z.base <= 1073741824 := by
 obtain ⟨P0, ts, gen0, hI, _⟩ := h.ex
 exact hI.hb
theorem PInv.next {ga gd gl : Int} {n : Nat} {sm : List (List UInt8)} {st : St} {z : Z} {y : RS} (h : PInv ga gd gl n sm st z y) : baseN gl z = (y.base + (y.seq : Int)) % gl := by
 obtain ⟨P0, ts, gen0, hI, _, _, h1, h2, rfl⟩ := h.ex
 unfold baseN
 cases hd : z.due with
 | true => rw [if_pos rfl, h2 hd]
 | false => rw [if_neg (by simp), h1 hd]
theorem PInv.seqIs {ga gd gl : Int} {n : Nat} {sm : List (List UInt8)} {st : St} {z : Z} {y : RS} (h : PInv ga gd gl n sm st z y) (hd : z.due = false) : z.seq = y.seq /\ (y.seq : Int) <= gl := by
 obtain ⟨P0, ts, gen0, hI, _, _, h1, h2, rfl⟩ := h.ex
 exact ⟨h1 hd, hI.len⟩
theorem first_inv {ga gd gl : Int} {n : Nat} {sm : List (List UInt8)} {st : St} {life : UInt64} {base : Int} {gen : UInt64} {P : List (List UInt8)} {l : List (List UInt8)} (h : PreN ga gd gl n sm st life) (hr : right ga gd gl = true) (hP : PagesOk ga gd gl n P) (hb : 0 <= base /\ base <= 1073741824) :
   (begF ga gd gl life base gen P sm st).2.2 = 0 /\ InvN ga gd gl n (begF ga gd gl life base gen P sm st).1 (begF ga gd gl life base gen P sm st).2.1 life base gen P [] := by
 obtain ⟨h1, h2, h3⟩ := h.begin hr hP base gen hb
 unfold begF
 rw [if_pos h1]
 exact ⟨h2, h3⟩
theorem next_bd {ga gd gl : Int} {n : Nat} {sm : List (List UInt8)} {st : St} {z : Z} {y : RS} (h : PInv ga gd gl n sm st z y) (hr : right ga gd gl = true) : 0 <= baseN gl z /\ baseN gl z < gl := by
 have hy := right_yes hr
 rw [h.next]
 exact ⟨Int.emod_nonneg _ (by omega), Int.emod_lt_of_pos _ (by omega)⟩
theorem PInv.renew {ga gd gl : Int} {n : Nat} {sm : List (List UInt8)} {st : St} {z : Z} {y : RS} (h : PInv ga gd gl n sm st z y) (hr : right ga gd gl = true) (hl : z.life.toNat ≠ 18446744073709551615) :
   (renO ga gd gl z sm st).2.2 = 0 /\ PInv ga gd gl n (renO ga gd gl z sm st).1 (renO ga gd gl z sm st).2.1 (renF ga gd gl z sm st).1 (y.renew gl) := by
 have hy := right_yes hr
 have hP := h.pagesOk
 have hb := next_bd h hr
 have hn := h.next
 have hd := h.alive
 obtain ⟨P0, ts, gen0, hI, hg, hp, h1, h2, rfl⟩ := h.ex
 obtain ⟨e1, e2⟩ := first_inv (l := sm) (gen := z.gen) (hI.pre hl) hr hP (base := baseN gl z) ⟨hb.1, by omega⟩
 refine ⟨e1, ⟨z.pages, [], z.gen, ?_, ?_⟩, ?_, fun _ => by unfold renF Z.renew; simp only; rw [if_pos (show (renO ga gd gl z sm st).2.2 = 0 from e1)]; rfl⟩
 · show InvN ga gd gl n _ _ (z.renew gl (renO ga gd gl z sm st).2.2).life (z.renew gl (renO ga gd gl z sm st).2.2).base _ _ _
   unfold Z.renew
   rw [if_pos (show (renO ga gd gl z sm st).2.2 = 0 from e1)]
   exact e2
 · unfold renF Z.renew
   simp only
   rw [if_pos (show (renO ga gd gl z sm st).2.2 = 0 from e1)]
   refine ⟨rfl, rfl, fun _ => rfl, fun h => (by cases h), ?_⟩
   unfold RS.renew Z.begun
   simp only
   rw [hn]
   rfl
 · unfold renF Z.renew
   simp only
   rw [if_pos (show (renO ga gd gl z sm st).2.2 = 0 from e1)]
   exact hd
theorem PInv.append {ga gd gl : Int} {n : Nat} {sm : List (List UInt8)} {st : St} {z : Z} {y : RS} (h : PInv ga gd gl n sm st z y) (hr : right ga gd gl = true) (hd : z.due = false) {l : List Pg} (gen : UInt64) (hw : whyF ga gd gl z.seq l = 0) :
   (appO ga gd gl z l gen sm st).2.2 = 0 /\ PInv ga gd gl n (appO ga gd gl z l gen sm st).1 (appO ga gd gl z l gen sm st).2.1 (appF ga gd gl z l gen sm st).1 (y.put l gen) := by
 obtain ⟨w1, w2, w3⟩ := whyF_zero hw
 have ha := h.alive
 have hh := h.has
 obtain ⟨P0, ts, gen0, hI, hg, hp, h1, h2, rfl⟩ := h.ex
 have hq := h1 hd
 obtain ⟨e1, e2⟩ := hI.append (t := ⟨l, gen⟩) hr (by rw [<- hq]; exact w3) w1
 rw [<- hq] at e1 e2
 have e3 : (appO ga gd gl z l gen sm st).2.2 = 0 := e1
 refine ⟨e1, ⟨P0, ts ++ [⟨l, gen⟩], gen0, ?_, ?_⟩, ?_, fun _ => by unfold appF Z.append; simp only; rw [if_pos e3]; exact hh hd⟩
 · show InvN ga gd gl n _ _ (z.append l gen (appO ga gd gl z l gen sm st).2.2).life (z.append l gen (appO ga gd gl z l gen sm st).2.2).base _ _ _
   unfold Z.append
   rw [if_pos e3]
   exact e2
 · unfold appF Z.append
   simp only
   rw [if_pos e3]
   simp only
   refine ⟨by rw [genT_snoc], by rw [applyT_snoc, hp], fun _ => by rw [snocLen, hq], fun h => (by rw [hd] at h; cases h), ?_⟩
   unfold RS.put
   simp only
   rw [snocLen]
 · unfold appF Z.append
   simp only
   rw [if_pos e3]
   exact ha
theorem PInv.commit {ga gd gl : Int} {n : Nat} {sm : List (List UInt8)} {st : St} {z : Z} {y : RS} (h : PInv ga gd gl n sm st z y) (hr : right ga gd gl = true) (hd : z.due = false) (hl : z.life.toNat ≠ 18446744073709551615) (l : List Pg) (gen : UInt64) :
   (comF ga gd gl z l gen sm st).2.2.2 = (y.commit ga gd gl l gen).2 /\ PInv ga gd gl n (comF ga gd gl z l gen sm st).2.1 (comF ga gd gl z l gen sm st).2.2.1 (comF ga gd gl z l gen sm st).1 (y.commit ga gd gl l gen).1 := by
 have hyd : y.due = false := by obtain ⟨P0, ts, gen0, hI, hg, hp, h1, h2, rfl⟩ := h.ex; exact hd
 have hq := (h.seqIs hd).1
 have hnd : ¬ y.due = true := by rw [hyd]; decide
 unfold comF RS.commit
 rw [if_neg hnd, <- hq]
 by_cases hw : whyF ga gd gl z.seq l = 0
 · rw [if_pos hw, if_pos hw]
   obtain ⟨e1, e2⟩ := h.append hr hd gen hw
   exact ⟨e1, e2⟩
 · rw [if_neg hw, if_neg hw]
   by_cases h5 : whyF ga gd gl z.seq l = 5
   · obtain ⟨r1, r2⟩ := h.renew hr hl
     rw [if_pos h5, if_pos h5, if_pos r1]
     have hd2 : (renF ga gd gl z sm st).1.due = false /\ (renF ga gd gl z sm st).1.seq = 0 := by
       unfold renF Z.renew
       simp only
       rw [if_pos r1]
       exact ⟨rfl, rfl⟩
     obtain ⟨e1, e2⟩ := r2.append hr hd2.1 (l := l) gen (by rw [hd2.2]; exact why_first h5)
     exact ⟨e1, e2⟩
   · rw [if_neg h5, if_neg h5]
     exact ⟨rfl, h⟩
def opened (gl : Int) (life : UInt64) (base : Int) (gen0 : UInt64) (P0 : List (List UInt8)) (ts : List Tx) : Z :=
 ⟨life, base, genT gen0 ts, (base + ((allSecs life 0 ts).length : Int)) % gl, applyT P0 ts, true, false, 0, false⟩
def RS.isDue (y : RS) : RS := ⟨y.pages, y.gen, y.life, y.base, y.began, y.seq, true⟩
theorem PInv.opens {ga gd gl : Int} {n : Nat} {sm : List (List UInt8)} {st : St} {z : Z} {y : RS} (h : PInv ga gd gl n sm st z y) (hr : right ga gd gl = true) (hn : 4 <= n) :
   ∃ (gen0 : UInt64) (P0 : List (List UInt8)) (ts : List Tx), best (best none (atR sm st ga gd gl 2)) (atR sm st ga gd gl 3) = some ⟨z.life, z.base, gen0⟩ /\ snapR sm st ga gd gl z.life P0.length = some P0 /\ (P0.length : Int) = pagesOf ga gd gl /\ PagesOk ga gd gl n P0 /\ scanTx sm st ga gd gl z.base z.life = ts /\
     (∀ t ∈ ts, badB ga gd gl t.pages = false) /\ ((allSecs z.life 0 ts).length : Int) <= gl /\ y.began = gen0 /\ PInv ga gd gl n sm st (opened gl z.life z.base gen0 P0 ts) y.isDue := by
 obtain ⟨P0, ts, gen0, hI, hg, hp, h1, h2, rfl⟩ := h.ex
 refine ⟨gen0, P0, ts, hI.super hn, hI.read, hI.pages.len, hI.pages, hI.scan hr, hI.bad, hI.len, rfl, ⟨P0, ts, gen0, hI, rfl, rfl, fun h => (by cases h), fun _ => rfl, ?_⟩, rfl, fun h => by cases h⟩
 unfold RS.isDue opened
 simp only
 rw [hg, hp]
end Go.Proofs.YtchcmklelmlbgaaGreat.Sto
namespace Go.Proofs.YtchcmklelmlbgaaGreat.Sto
open Go.RowKit
open Go.Proofs.YtchcmklelmlbgaaGreat.Geom
open Go.Proofs.YtchcmklelmlbgaaGreat.Disk (St Wr write flush burn kept new zero512 restart arm)
open Go.Proofs.YtchcmklelmlbgaaGreat.Sup (splace sB sL wf UpN atR best SV)
open Go.Proofs.YtchcmklelmlbgaaGreat.Snap (snapF snapR PagesOk)
open Go.Proofs.YtchcmklelmlbgaaGreat.Wal (Tx badB putF whyF whyF_zero fitsB allSecs allSecs_snoc tSecs tSecs_len scanTx)
open Go.Proofs.YtchcmklelmlbgaaGreat.Enc (Itm enf encs encs_nil encs_go encs_stop xB)
set_option linter.unusedVariables false
def UA (s : St) : Prop := s.fuse < 0 /\ s.down = false
theorem UA.burn {s : St} (h : UA s) : UA (burn s).1 := by
 obtain ⟨h1, h2⟩ := h
 unfold Disk.burn
 rw [if_neg (by omega), if_neg (by omega)]
 exact ⟨h1, h2⟩
theorem UA.write {s : St} (h : UA s) (p : Int) (b : List UInt8) : UA (write s p b).1 := by
 unfold Disk.write
 rw [if_neg (by rw [h.2]; simp)]
 split
 · exact h
 · split
   · exact h
   · exact UA.burn (s := { s with pend := s.pend ++ [(p.toNat, b)] }) h
theorem UA.flush {s : St} (h : UA s) : UA (flush s).1 := by
 unfold Disk.flush
 rw [if_neg (by rw [h.2]; simp)]
 split
 · exact h.burn
 · exact h.burn
theorem UA.wf {s : St} (h : UA s) (p : Int) (b : List UInt8) : UA (wf s p b).1 := by
 unfold Sup.wf
 split
 · exact (h.write p b).flush
 · exact h.write p b
theorem UA.encs : ∀ (is : List Itm) (l : List (List UInt8)) (s : St), UA s -> UA (encs is l s).2.1
 | [], l, s, h => by rw [encs_nil]; exact h
 | i :: r, l, s, h => by
   by_cases hw : (Disk.write s i.1 (xB l i.1 i.2)).2 = 0
   · rw [encs_go hw]; exact UA.encs r _ _ (h.write _ _)
   · rw [encs_stop hw]; exact h.write _ _
theorem UA.enf {s : St} (h : UA s) (is : List Itm) (l : List (List UInt8)) : UA (enf is l s).2.1 := by
 unfold Enc.enf
 split
 · exact (UA.encs is l s h).flush
 · exact UA.encs is l s h
theorem UA.beg {s : St} (h : UA s) (ga gd gl : Int) (life : UInt64) (base : Int) (gen : UInt64) (P : List (List UInt8)) (l : List (List UInt8)) : UA (begF ga gd gl life base gen P l s).2.1 := by
 unfold begF snapF
 split
 · exact (h.enf _ l).wf _ _
 · exact h.enf _ l
theorem UA.put {s : St} (h : UA s) (ga gd gl base : Int) (life : UInt64) (seq : Nat) (gen : UInt64) (pages : List Pg) (l : List (List UInt8)) : UA (putF ga gd gl base life seq gen pages l s).2.1 := by
 unfold putF
 split
 · exact (h.enf _ l).enf _ _
 · exact h.enf _ l
theorem UA.com {s : St} (h : UA s) (ga gd gl : Int) (z : Z) (pages : List Pg) (gen : UInt64) (l : List (List UInt8)) : UA (comF ga gd gl z pages gen l s).2.2.1 := by
 unfold comF
 split
 · exact h.put _ _ _ _ _ _ _ _ _
 · split
   · split
     · exact (h.beg _ _ _ _ _ _ _ _).put _ _ _ _ _ _ _ _ _
     · exact h.beg _ _ _ _ _ _ _ _
   · exact h
theorem UA.restart (s : St) (keep : List Int) (torn a : Int) : UA (restart s keep torn a) := ⟨by show (-1 : Int) < 0; omega, rfl⟩
structure ZA (ga gd gl : Int) (n : Nat) (sm : List (List UInt8)) (st : St) (z : Z) : Prop where
 ex : ∃ (P0 : List (List UInt8)) (ts : List Tx) (gen0 : UInt64), KA ga gd gl n sm st z.life z.base gen0 P0 ts /\ z.gen = genT gen0 ts /\ z.pages = applyT P0 ts /\ z.seq = (allSecs z.life 0 ts).length
 due : z.due = false
 dead : z.dead = false
 has : z.has = true
structure ZU (ga gd gl : Int) (n : Nat) (sm : List (List UInt8)) (st : St) (z : Z) : Prop where
 ex : ∃ (P0 : List (List UInt8)) (ts : List Tx) (gen0 : UInt64), KC ga gd gl n sm st.all z.life z.base gen0 P0 ts /\ z.gen = genT gen0 ts /\ z.pages = applyT P0 ts /\ z.next = nextB gl z.base z.life ts
 size : st.size = n
 pend : st.pend = []
 down : st.down = false
 due : z.due = true
 dead : z.dead = false
def Back (ga gd gl : Int) (n : Nat) (sm : List (List UInt8)) (st : St) (ok : List (List UInt8) -> UInt64 -> Prop) (t : Nat) : Prop :=
 ∀ keep torn a, UpN (restart st keep torn a) n /\ ∃ life base gen0 P0 ts, KC ga gd gl n sm (restart st keep torn a).all life base gen0 P0 ts /\ life.toNat <= t /\ ok (applyT P0 ts) (genT gen0 ts)
structure ZC (ga gd gl : Int) (n : Nat) (sm : List (List UInt8)) (st : St) (z : Z) (ok : List (List UInt8) -> UInt64 -> Prop) (t : Nat) : Prop where
 down : st.down = true
 size : st.size = n
 dead : z.dead = true
 back : Back ga gd gl n sm st ok t
theorem ZC.imp {ga gd gl : Int} {n : Nat} {sm : List (List UInt8)} {st : St} {z : Z} {ok ok' : List (List UInt8) -> UInt64 -> Prop} {t t' : Nat} (h : ZC ga gd gl n sm st z ok t) (hi : ∀ P g, ok P g -> ok' P g) (ht : t <= t') : ZC ga gd gl n sm st z ok' t' := by
 refine ⟨h.down, h.size, h.dead, fun keep torn a => ?_⟩
 obtain ⟨u, life, base, gen0, P0, ts, h1, h2, h3⟩ := h.back keep torn a
 exact ⟨u, life, base, gen0, P0, ts, h1, by omega, hi _ _ h3⟩
theorem ZA.arm {ga gd gl : Int} {n : Nat} {sm : List (List UInt8)} {st : St} {z : Z} (h : ZA ga gd gl n sm st z) (f : Int) : ZA ga gd gl n sm (arm st f) z := by
 obtain ⟨⟨P0, ts, gen0, k, h1⟩, h2, h3, h4⟩ := h
 exact ⟨⟨P0, ts, gen0, ⟨k.kc, k.size, k.pend, k.down, k.logc, k.nonext⟩, h1⟩, h2, h3, h4⟩
theorem ZU.arm {ga gd gl : Int} {n : Nat} {sm : List (List UInt8)} {st : St} {z : Z} (h : ZU ga gd gl n sm st z) (f : Int) : ZU ga gd gl n sm (arm st f) z := by
 obtain ⟨⟨P0, ts, gen0, k, h1⟩, h2, h3, h4, h5, h6⟩ := h
 exact ⟨⟨P0, ts, gen0, k, h1⟩, h2, h3, h4, h5, h6⟩
theorem kc_begin {ga gd gl : Int} {n : Nat} {sm : List (List UInt8)} {st : St} {life : UInt64} {base : Int} {gen0 : UInt64} {P0 : List (List UInt8)} {ts : List Tx} (h : KC ga gd gl n sm st.all life base gen0 P0 ts) (h1 : st.size = n) (h2 : st.pend = []) (h3 : st.down = false) (hr : right ga gd gl = true) (hL : life.toNat ≠ 18446744073709551615) {B : Out} (hB : B = begF ga gd gl (life + 1) (nextB gl base life ts) (genT gen0 ts) (applyT P0 ts) sm st) :
   B.2.1.size = n /\ ((B.2.2 = 0 /\ KA ga gd gl n B.1 B.2.1 (life + 1) (nextB gl base life ts) (genT gen0 ts) (applyT P0 ts) []) \/
     (B.2.2 = 12 /\ B.2.1.down = true /\ ∀ keep torn a, UpN (restart B.2.1 keep torn a) n /\ (KC ga gd gl n B.1 (restart B.2.1 keep torn a).all life base gen0 P0 ts \/ KC ga gd gl n B.1 (restart B.2.1 keep torn a).all (life + 1) (nextB gl base life ts) (genT gen0 ts) (applyT P0 ts) []))) := by
 obtain ⟨v1, v2⟩ := h.snapW h1 h2 h3 hr hL (V := snapF ga gd gl (life + 1) (applyT P0 ts) sm st) rfl
 unfold begF at hB
 rcases v2 with ⟨a1, a2, a3⟩ | ⟨a1, a2, a3, a4, a5⟩
 · rw [if_neg (by rw [a1]; decide)] at hB
   rw [hB]
   exact ⟨v1, .inr ⟨a1, a2, fun keep torn a => ⟨(a3 keep torn a).1, .inl (a3 keep torn a).2⟩⟩⟩
 · rw [if_pos a1] at hB
   obtain ⟨w1, w2⟩ := a4.supW v1 a3 a2 hr hL a5 rfl rfl
   rw [hB]
   rcases w2 with ⟨b1, b2, b3⟩ | ⟨b1, b2⟩
   · exact ⟨w1, .inr ⟨b1, b2, b3⟩⟩
   · exact ⟨w1, .inl ⟨b1, b2⟩⟩
def RenR (ga gd gl : Int) (n : Nat) (z : Z) (r : Z × Out) : Prop :=
 (r.2.2.2 = 0 /\ ZA ga gd gl n r.2.1 r.2.2.1 r.1 /\ r.1.pages = z.pages /\ r.1.gen = z.gen /\ r.1.life = z.life + 1 /\ r.1.seq = 0) \/
   (r.2.2.2 = 12 /\ ZC ga gd gl n r.2.1 r.2.2.1 r.1 (fun P g => P = z.pages /\ g = z.gen) (z.life.toNat + 1))
theorem ren_of {ga gd gl : Int} {n : Nat} {sm : List (List UInt8)} {st : St} {z : Z} {P0 : List (List UInt8)} {ts : List Tx} {gen0 : UInt64} (hk : KC ga gd gl n sm st.all z.life z.base gen0 P0 ts) (hg : z.gen = genT gen0 ts) (hp : z.pages = applyT P0 ts) (hb : baseN gl z = nextB gl z.base z.life ts) (h1 : st.size = n) (h2 : st.pend = []) (h3 : st.down = false) (hd : z.dead = false) (hr : right ga gd gl = true) (hL : z.life.toNat < 4611686018427387904) : RenR ga gd gl n z (renF ga gd gl z sm st) := by
 obtain ⟨b1, b2⟩ := kc_begin hk h1 h2 h3 hr (by omega) (B := renO ga gd gl z sm st) (by unfold renO; rw [hb, hg, hp])
 have hl1 : (z.life + 1).toNat = z.life.toNat + 1 := life1 (by omega)
 unfold RenR renF
 rcases b2 with ⟨c1, c2⟩ | ⟨c1, c2, c3⟩
 · left
   refine ⟨c1, ⟨⟨z.pages, [], z.gen, ?_, ?_⟩, ?_, ?_, ?_⟩, ?_, ?_, ?_, ?_⟩
   · unfold Z.renew Z.begun
     simp only
     rw [if_pos c1]
     rw [<- hb, <- hg, <- hp] at c2
     exact c2
   all_goals (unfold Z.renew Z.begun; simp only; rw [if_pos c1])
   · exact ⟨rfl, rfl, rfl⟩
   · exact hd
 · right
   refine ⟨c1, ⟨c2, b1, ?_, fun keep torn a => ?_⟩⟩
   · unfold Z.renew Z.told
     simp only
     rw [if_neg (by rw [c1]; decide), c1]
     simp
   · obtain ⟨u, e⟩ := c3 keep torn a
     refine ⟨u, ?_⟩
     rcases e with e | e
     · exact ⟨z.life, z.base, gen0, P0, ts, e, by omega, hp.symm, hg.symm⟩
     · exact ⟨z.life + 1, _, _, _, [], e, by omega, hp.symm, hg.symm⟩
theorem ZA.renew {ga gd gl : Int} {n : Nat} {sm : List (List UInt8)} {st : St} {z : Z} (h : ZA ga gd gl n sm st z) (hr : right ga gd gl = true) (hL : z.life.toNat < 4611686018427387904) : RenR ga gd gl n z (renF ga gd gl z sm st) := by
 obtain ⟨⟨P0, ts, gen0, k, hg, hp, hq⟩, hdu, hd, hh⟩ := h
 refine ren_of k.kc hg hp ?_ k.size k.pend k.down hd hr hL
 unfold baseN nextB
 rw [if_neg (by rw [hdu]; simp), hq]
theorem ZU.renew {ga gd gl : Int} {n : Nat} {sm : List (List UInt8)} {st : St} {z : Z} (h : ZU ga gd gl n sm st z) (hr : right ga gd gl = true) (hL : z.life.toNat < 4611686018427387904) : RenR ga gd gl n z (renF ga gd gl z sm st) := by
 obtain ⟨⟨P0, ts, gen0, k, hg, hp, hq⟩, h1, h2, h3, hdu, hd⟩ := h
 refine ren_of k hg hp ?_ h1 h2 h3 hd hr hL
 unfold baseN
 rw [if_pos hdu, hq]
theorem ZA.append {ga gd gl : Int} {n : Nat} {sm : List (List UInt8)} {st : St} {z : Z} (h : ZA ga gd gl n sm st z) (hr : right ga gd gl = true) {l : List Pg} (gen : UInt64) (hw : whyF ga gd gl z.seq l = 0) {r : Z × Out} (hR : r = appF ga gd gl z l gen sm st) :
   (r.2.2.2 = 0 /\ ZA ga gd gl n r.2.1 r.2.2.1 r.1 /\ r.1.pages = putP z.pages l /\ r.1.gen = gen /\ r.1.life = z.life /\ r.1.seq = z.seq + (l.length + 1)) \/
     (r.2.2.2 = 12 /\ ZC ga gd gl n r.2.1 r.2.2.1 r.1 (fun P g => (P = z.pages /\ g = z.gen) \/ (P = putP z.pages l /\ g = gen)) z.life.toNat) := by
 obtain ⟨w1, w2, w3⟩ := whyF_zero hw
 obtain ⟨⟨P0, ts, gen0, k, hg, hp, hq⟩, hdu, hd, hh⟩ := h
 have hn := k.kc.kb.pages.size
 have hT := Wal.putF_turn (life := z.life) (q := z.seq) (t := ⟨l, gen⟩) (sm := sm) k.size k.pend k.down hr k.kc.kb.hb.1 hn w3 w1
 have hsz : (appO ga gd gl z l gen sm st).2.1.size = n := hT.size
 have ha := k.append (t := ⟨l, gen⟩) hr (by rw [<- hq]; exact w3) w1 (V := appO ga gd gl z l gen sm st) (by unfold appO; rw [hq])
 rw [hR]
 unfold appF
 rcases ha with ⟨a1, a2⟩ | ⟨a1, a2, a3⟩
 · left
   refine ⟨a1, ⟨⟨P0, ts ++ [⟨l, gen⟩], gen0, ?_, ?_⟩, ?_, ?_, ?_⟩, ?_, ?_, ?_, ?_⟩
   · unfold Z.append
     simp only
     rw [if_pos a1]
     exact a2
   all_goals (unfold Z.append; simp only; rw [if_pos a1])
   · exact ⟨by rw [genT_snoc], by rw [applyT_snoc, hp], by show z.seq + (l.length + 1) = (allSecs z.life 0 (ts ++ [⟨l, gen⟩])).length; rw [snocLen, hq]⟩
   · exact hdu
   · exact hd
   · exact hh
 · right
   refine ⟨a1, ⟨a2, hsz, ?_, fun keep torn a => ?_⟩⟩
   · unfold Z.append Z.told
     simp only
     rw [if_neg (by rw [a1]; decide), a1]
     simp
   · obtain ⟨u, e⟩ := a3 keep torn a
     refine ⟨u, ?_⟩
     rcases e with e | e
     · exact ⟨z.life, z.base, gen0, P0, ts, e, Nat.le_refl _, .inl ⟨hp.symm, hg.symm⟩⟩
     · exact ⟨z.life, z.base, gen0, P0, ts ++ [⟨l, gen⟩], e, Nat.le_refl _, .inr ⟨by rw [applyT_snoc, hp], by rw [genT_snoc]⟩⟩
theorem ZA.commit {ga gd gl : Int} {n : Nat} {sm : List (List UInt8)} {st : St} {z : Z} (h : ZA ga gd gl n sm st z) (hr : right ga gd gl = true) (hL : z.life.toNat < 4611686018427387904) (l : List Pg) (gen : UInt64) {r : Z × Out} (hR : r = comF ga gd gl z l gen sm st) :
   (whyF ga gd gl z.seq l ≠ 0 /\ whyF ga gd gl z.seq l ≠ 5 /\ r = (z, sm, st, whyF ga gd gl z.seq l)) \/ ((whyF ga gd gl z.seq l = 0 \/ whyF ga gd gl z.seq l = 5) /\
     ((r.2.2.2 = 0 /\ ZA ga gd gl n r.2.1 r.2.2.1 r.1 /\ r.1.pages = putP z.pages l /\ r.1.gen = gen /\ r.1.life.toNat <= z.life.toNat + 1) \/
       (r.2.2.2 = 12 /\ ZC ga gd gl n r.2.1 r.2.2.1 r.1 (fun P g => (P = z.pages /\ g = z.gen) \/ (P = putP z.pages l /\ g = gen)) (z.life.toNat + 1)))) := by
 have hl1 : (z.life + 1).toNat = z.life.toNat + 1 := life1 (by omega)
 unfold comF at hR
 by_cases h0 : whyF ga gd gl z.seq l = 0
 · right
   refine ⟨.inl h0, ?_⟩
   rw [if_pos h0] at hR
   rcases h.append hr gen h0 hR with ⟨a1, a2, a3, a4, a5, a6⟩ | ⟨a1, a2⟩
   · exact .inl ⟨a1, a2, a3, a4, by rw [a5]; omega⟩
   · exact .inr ⟨a1, a2.imp (fun _ _ h => h) (by omega)⟩
 · rw [if_neg h0] at hR
   by_cases h5 : whyF ga gd gl z.seq l = 5
   · right
     refine ⟨.inr h5, ?_⟩
     rw [if_pos h5] at hR
     rcases h.renew hr hL with ⟨a1, a2, a3, a4, a5, a6⟩ | ⟨a1, a2⟩
     · rw [if_pos (show (renO ga gd gl z sm st).2.2 = 0 from a1)] at hR
       have hw : whyF ga gd gl (renF ga gd gl z sm st).1.seq l = 0 := by rw [a6]; exact why_first h5
       rcases ZA.append (z := (renF ga gd gl z sm st).1) a2 hr gen hw hR with ⟨b1, b2, b3, b4, b5, b6⟩ | ⟨b1, b2⟩
       · exact .inl ⟨b1, b2, by rw [b3, a3], b4, by rw [b5, a5]; omega⟩
       · refine .inr ⟨b1, b2.imp (fun P g hh => ?_) (by rw [a5]; omega)⟩
         rw [a3, a4] at hh
         exact hh
     · rw [if_neg (show ¬ (renO ga gd gl z sm st).2.2 = 0 from by rw [show (renO ga gd gl z sm st).2.2 = 12 from a1]; decide)] at hR
       rw [hR]
       exact .inr ⟨a1, a2.imp (fun _ _ h => .inl h) (Nat.le_refl _)⟩
   · rw [if_neg h5] at hR
     exact .inl ⟨h0, h5, hR⟩
theorem kc_opens {ga gd gl : Int} {n : Nat} {sm : List (List UInt8)} {st : St} {life : UInt64} {base : Int} {gen0 : UInt64} {P0 : List (List UInt8)} {ts : List Tx} (h : KC ga gd gl n sm st.all life base gen0 P0 ts) (hu : UpN st n) : ZU ga gd gl n sm st (opened gl life base gen0 P0 ts) :=
 ⟨⟨P0, ts, gen0, h, rfl, rfl, rfl⟩, hu.size, hu.pend, hu.down, rfl, rfl⟩
theorem ZA.ok {ga gd gl : Int} {n : Nat} {sm : List (List UInt8)} {st : St} {z : Z} (h : ZA ga gd gl n sm st z) : PagesOk ga gd gl n z.pages /\ 0 <= z.base /\ z.base <= 1073741824 /\ (z.seq : Int) <= gl /\ st.size = n := by
 obtain ⟨⟨P0, ts, gen0, k, hg, hp, hq⟩, _⟩ := h
 exact ⟨by rw [hp]; exact applyT_ok _ _ k.kc.kb.pages k.kc.kb.bad, k.kc.kb.hb.1, k.kc.kb.hb.2, by rw [hq]; exact k.kc.kb.len, k.size⟩
theorem ZU.ok {ga gd gl : Int} {n : Nat} {sm : List (List UInt8)} {st : St} {z : Z} (h : ZU ga gd gl n sm st z) (hr : right ga gd gl = true) : PagesOk ga gd gl n z.pages /\ 0 <= z.base /\ z.base <= 1073741824 /\ 0 <= z.next /\ z.next <= 1073741824 := by
 have hy := right_yes hr
 obtain ⟨⟨P0, ts, gen0, k, hg, hp, hq⟩, _⟩ := h
 have h1 := Int.emod_nonneg (z.base + ((allSecs z.life 0 ts).length : Int)) (show gl ≠ 0 by omega)
 have h2 := Int.emod_lt_of_pos (z.base + ((allSecs z.life 0 ts).length : Int)) (show 0 < gl by omega)
 exact ⟨by rw [hp]; exact applyT_ok _ _ k.kb.pages k.kb.bad, k.kb.hb.1, k.kb.hb.2, by rw [hq]; exact h1, by rw [hq]; unfold nextB; omega⟩
end Go.Proofs.YtchcmklelmlbgaaGreat.Sto
namespace Go.Proofs.YtchcmklelmlbgaaGreat
open Go.RowKit
open Go.ChangeShapes Go.WideShapes Go.ChangeAt Go.Joins Go.Deep
set_option linter.unusedVariables false
set_option maxRecDepth 100000
theorem pages_of1 {v : Value} {H : Type} {enc : TypeId × Value -> H} {w : World} {held : Bool} {fuel : Nat} {x : DataW H × List MemPlace}
   (h : DataW.trod enc Tryz.prog w 0 (fun _ => true) held fuel 38 [v] = some x) :
   ∃ (A : Option Addr) (l : List Pg) (c : Nat), v = .slice A l.length c /\ Pgs w (fun j => j < w.heap.size) A l /\ l.length <= c /\ c <= maxLen := by
 rcases open_slice_fields Tryz.underlying38 Tryz.underlying53 (by kernel_rfl) (by kernel_rfl) h with hcs | ⟨a, l', c', m, hcs, _, hl, hm, hmm, hi⟩
 · simp only [List.cons.injEq, and_true] at hcs
   subst hcs
   exact ⟨none, [], 0, rfl, Pgs.nil _ _ _, by simp, by unfold maxLen; omega⟩
 · simp only [List.cons.injEq, and_true] at hcs
   subst hcs
   simp only [if_true] at hmm
   subst hmm
   have key : ∀ i, i < l' -> ∃ f : Pg, ∃ b off, a = ⟨b, off, none⟩ /\ b < w.heap.size /\ ∃ Ai ci, PgAt w (fun j => j < w.heap.size) b (off + i * 2) f Ai ci := by
     intro i hil
     obtain ⟨ys, n, hf⟩ := hi i (by omega)
     obtain ⟨v0, y0, c0, _, t0⟩ := hf 0 _ rfl
     obtain ⟨v1, y1, c1, _, t1⟩ := hf 1 _ rfl
     obtain ⟨k, e0, _, wk⟩ := DataW.trod_int Tryz.underlying3 t0
     obtain ⟨A4, l4, c4', e4, r4, q4, m4⟩ := bytes_of1 Tryz.underlying51 Tryz.underlying5 (by kernel_rfl) t1
     simp only [List.cons.injEq, and_true] at e0
     subst e0 e4
     obtain ⟨b, off, spot⟩ := a
     have hspot : spot = none := by
       obtain ⟨_, _, hf0⟩ := hi 0 (by omega)
       obtain ⟨_, _, c00, _, _⟩ := hf0 0 _ rfl
       exact World.cell?_spot c00
     subst hspot
     rw [Addr.add_lit] at c0 c1
     have hb : b < w.heap.size := by
       rcases Nat.lt_or_ge b w.heap.size with h | h
       · exact h
       · simp [World.cell?, Array.getElem?_eq_none h] at c0
     exact ⟨⟨k, l4⟩, b, off, rfl, hb, A4, c4', c0, c1, r4.q (Nat.le_refl _), q4, m4, (wfi wk).1, (wfi wk).2⟩
   obtain ⟨l, hll, hp⟩ := choose_list key
   subst hll
   refine ⟨some a, l, m, rfl, fun hne => ?_, hl, hm⟩
   have hpos : 0 < l.length := by cases l; exact absurd rfl hne; simp
   obtain ⟨b, off, rfl, hb, _⟩ := hp 0 hpos
   refine ⟨b, off, rfl, hb, hb, fun i hi => ?_⟩
   obtain ⟨b', off', e, _, h2⟩ := hp i hi
   injection e with e1 e2 _
   subst e1 e2
   exact h2
end Go.Proofs.YtchcmklelmlbgaaGreat
namespace Go.Proofs.YtchcmklelmlbgaaGreat
open Go.RowKit
open Go.ChangeShapes Go.WideShapes Go.ChangeAt Go.Joins Go.Deep
set_option linter.unusedVariables false
set_option maxRecDepth 100000
structure Ac where
 kind : Int
 tx : Wal.Tx
structure AcAt (w : World) (Q : Nat -> Prop) (b o : Nat) (x : Ac) (Ai : Option Addr) (ci : Nat) : Prop where
 c : w.cell? ⟨b, o, none⟩ = some (.int .i64 x.kind)
 t : Wal.TxAt w Q b (o + 1) x.tx Ai ci
 lo : -9223372036854775808 <= x.kind
 hi : x.kind <= 9223372036854775807
def Acs (w : World) (Q : Nat -> Prop) (A : Option Addr) (l : List Ac) : Prop :=
 l ≠ [] -> ∃ b off, A = some ⟨b, off, none⟩ /\ b < w.heap.size /\ Q b /\ ∀ i (h : i < l.length), ∃ Ai ci, AcAt w Q b (off + i * 3) l[i] Ai ci
theorem Acs.get {w : World} {Q : Nat -> Prop} {A : Option Addr} {l : List Ac} (h : Acs w Q A l) {i : Nat} (hi : i < l.length) :
   ∃ b off Ai ci, A = some ⟨b, off, none⟩ /\ b < w.heap.size /\ Q b /\ AcAt w Q b (off + i * 3) l[i] Ai ci := by
 obtain ⟨b, off, rfl, hb, hQ, hc⟩ := h (by intro e; rw [e] at hi; exact absurd hi (by simp))
 obtain ⟨Ai, ci, h1⟩ := hc i hi
 exact ⟨b, off, Ai, ci, rfl, hb, hQ, h1⟩
theorem Acs.keep {w w' : World} {Q : Nat -> Prop} {A : Option Addr} {l : List Ac} {fp : List Nat} (h : Acs w Q A l) (k : Keep fp w w') (hf : ∀ j, Q j -> j < w.heap.size -> j ∉ fp) : Acs w' Q A l := fun hne => by
 obtain ⟨b, off, rfl, hb, hq, hc⟩ := h hne
 refine ⟨b, off, rfl, Nat.lt_of_lt_of_le hb k.size, hq, fun i hi => ?_⟩
 obtain ⟨Ai, ci, h1⟩ := hc i hi
 exact ⟨Ai, ci, (World.cell?_of_block (k.block hb (hf b hq hb))).trans h1.c, h1.t.keep k hf hb hq, h1.lo, h1.hi⟩
theorem Acs.on {w w' : World} {Q : Nat -> Prop} {A : Option Addr} {l : List Ac} (h : Acs w Q A l) (b : Below w.heap.size w w') : Acs w' Q A l := h.keep (Keep.of_below b []) (fun j _ _ => by simp)
theorem sacts_of {A : Option Addr} {len cap : Nat} {H : Type} {enc : TypeId × Value -> H} {w : World} {held : Bool} {fuel : Nat} {x : DataW H × List MemPlace}
   (h : DataW.trod enc Tryz.prog w 0 (fun _ => true) held fuel 24 (Value.slice A len cap).cells.toList = some x) :
   ∃ l : List Ac, l.length = len /\ Acs w (fun j => j < w.heap.size) A l /\ len <= cap /\ cap <= maxLen := by
 rcases open_slice Tryz.underlying24 h with h0 | ⟨a, l', c', m, n, D, Pl, hcs, hb, hl, hm, hmm, hx, hi⟩
 · have hcs := h0.1
   simp [Value.cells] at hcs
   obtain ⟨rfl, rfl, rfl⟩ := hcs
   exact ⟨[], rfl, fun h => absurd rfl h, by omega, by unfold maxLen; omega⟩
 · simp [Value.cells] at hcs
   obtain ⟨rfl, rfl, rfl⟩ := hcs
   simp only [if_true] at hmm
   subst hmm
   have key : ∀ i, i < len -> ∃ f : Ac, ∃ b off, a = ⟨b, off, none⟩ /\ b < w.heap.size /\ ∃ Ai ci, AcAt w (fun j => j < w.heap.size) b (off + i * 3) f Ai ci := by
     intro i hil
     obtain ⟨cs', hc, ht'⟩ := hi i (by omega)
     obtain ⟨_, hcl, hat⟩ := World.cells?_some hc
     obtain ⟨y0, y1, n1, _, hl1, t0, t1⟩ := trod_struct2 Tryz.underlying43 ht'
     have k3 : Tryz.prog.cellsOf 43 = 3 := by kernel_rfl
     have k2 : Tryz.prog.cellsOf 41 = 2 := by kernel_rfl
     have ki : Tryz.prog.cellsOf 3 = 1 := by kernel_rfl
     have ku : Tryz.prog.cellsOf 39 = 1 := by kernel_rfl
     have kp : Tryz.prog.cellsOf 38 = 1 := by kernel_rfl
     rw [k3] at hcl hat
     obtain ⟨v0, v1, v2, rfl⟩ : ∃ v0 v1 v2, cs' = [v0, v1, v2] := by
       match cs', hcl with
       | [a, b, c], _ => exact ⟨a, b, c, rfl⟩
     dsimp only at t0 t1
     rw [ki] at t0
     rw [k2] at t1
     change DataW.trod enc Tryz.prog w 0 (fun _ => true) held n1 3 [v0] = some y0 at t0
     change DataW.trod enc Tryz.prog w 0 (fun _ => true) held n1 41 [v1, v2] = some y1 at t1
     obtain ⟨z0, z1, n2, _, hl2, s0, s1⟩ := trod_struct2 Tryz.underlying41 t1
     dsimp only at s0 s1
     rw [kp] at s0
     rw [ku] at s1
     change DataW.trod enc Tryz.prog w 0 (fun _ => true) held n2 38 [v1] = some z0 at s0
     change DataW.trod enc Tryz.prog w 0 (fun _ => true) held n2 39 [v2] = some z1 at s1
     obtain ⟨kd, e0, _, wk⟩ := DataW.trod_int Tryz.underlying3 t0
     obtain ⟨A4, l4, c4', e4, r4, q4, m4⟩ := pages_of1 s0
     obtain ⟨u1, e1, _, w1⟩ := DataW.trod_int Tryz.underlying39 s1
     simp only [List.cons.injEq, and_true] at e0 e1
     subst e0 e1 e4
     obtain ⟨u1', rfl⟩ := wf64 w1
     have c0 := hat 0 (by omega)
     have c1 := hat 1 (by omega)
     have c2 := hat 2 (by omega)
     rw [Go.Deep.add_add] at c0 c1 c2
     simp only [List.getElem?_cons_zero, List.getElem?_cons_succ] at c0 c1 c2
     obtain ⟨b, off, spot⟩ := a
     have hspot : spot = none := by
       obtain ⟨cs0, g0, _⟩ := hi 0 (by omega)
       obtain ⟨_, g1, g2⟩ := World.cells?_some g0
       have g3 := g2 0 (by rw [k3]; omega)
       rw [k3] at g1
       rw [List.getElem?_eq_getElem (by omega)] at g3
       exact World.cell?_spot g3
     subst hspot
     rw [Addr.add_lit] at c0 c1 c2
     have hb : b < w.heap.size := by
       rcases Nat.lt_or_ge b w.heap.size with h | h
       · exact h
       · simp [World.cell?, Array.getElem?_eq_none h] at c0
     exact ⟨⟨kd, ⟨l4, u1'⟩⟩, b, off, rfl, hb, A4, c4', c0, ⟨c1, c2, r4, q4, m4⟩, (wfi wk).1, (wfi wk).2⟩
   obtain ⟨l, hll, hp⟩ := choose_list key
   refine ⟨l, hll, fun hne => ?_, hl, hm⟩
   have hpos : 0 < l.length := by cases l; exact absurd rfl hne; simp
   obtain ⟨b, off, rfl, hb, _⟩ := hp 0 hpos
   refine ⟨b, off, rfl, hb, hb, fun i hi => ?_⟩
   obtain ⟨b', off', e, _, h2⟩ := hp i hi
   injection e with e1 e2 _
   subst e1 e2
   exact h2
end Go.Proofs.YtchcmklelmlbgaaGreat
namespace Go.Proofs.YtchcmklelmlbgaaGreat.Sto
open Go.RowKit
open Go.Proofs.YtchcmklelmlbgaaGreat.Geom
open Go.Proofs.YtchcmklelmlbgaaGreat.Sup (Gb gv gcell gthree)
open Go.Proofs.YtchcmklelmlbgaaGreat.Wal (Tx Txs TxAt LightOk LightRet)
set_option linter.unusedVariables false
set_option maxRecDepth 100000
theorem _root_.Go.Proofs.YtchcmklelmlbgaaGreat.Wal.Txs.one {w : World} {Q : Nat -> Prop} {b o : Nat} {x : Tx} {Ai : Option Addr} {ci : Nat} (h : TxAt w Q b o x Ai ci) (t : TypeId) :
   Txs (w.alloc (.cells #[.slice Ai x.pages.length ci, .int .u64 (x.gen.toNat : Int)] t)) (fun j => Q j \/ j = w.heap.size) (some ⟨w.heap.size, 0, none⟩) [x] := fun _ => by
 have F := Blk.new w [.slice Ai x.pages.length ci, .int .u64 (x.gen.toNat : Int)] t
 refine ⟨w.heap.size, 0, rfl, F.lt, .inr rfl, fun i hi => ?_⟩
 have hi0 : i = 0 := by simpa using hi
 subst hi0
 exact ⟨Ai, ci, F.cell (k := 0) (by simp), F.cell (k := 1) (by simp), (h.pgs.on (b1alloc w _)).imp (fun j _ hj => .inl hj), h.cap, h.max⟩
def SLight (ga gd gl : Int) (l : List Ac) : Prop := l.length <= 20 /\ pagesOf ga gd gl <= 30 /\ ∀ i (h : i < l.length), LightOk gl [l[i].tx]
def SLightRet (ga gd gl : Int) (l : List Ac) (e : Ending) : Prop := ∃ B : Bool, e = .returned (.bool B) /\ (B = true -> SLight ga gd gl l)
set_option maxHeartbeats 1000000 in
theorem slight_any (Q : Nat -> Prop) (A : Option Addr) (l : List Ac) (c : Nat) (ga gd gl : Int) (w : World) (hG : Gb ga gd gl) (hr : Acs w Q A l) :
   Calls Tryz.prog 8 #[gv ga gd gl, .slice A l.length c] w fun e w' => SLightRet ga gd gl l e /\ Below w.heap.size w w' := by
 have FG := Blk.new w (gcell ga gd gl) 23
 have b0 := b1alloc w (.cells (gcell ga gd gl).toArray 23)
 obtain ⟨z0, z1, z2⟩ := gthree FG
 have HP := Lib.hid (fun W => Geom.rpages_any ga gd gl W hG.a0 hG.a1 hG.d0 hG.d1 hG.g0 hG.g1)
 have HR := Lib.hid (hr.on b0)
 have HFG := Lib.hid FG
 have HB0 := Lib.hid b0
 clear hr FG hG
 by_cases h20 : (20 : Int) < (l.length : Int)
 · go_enter Tryz.func8, Tryz.ntmps8
   go_wp2_with fail
   go_ret
   exact ⟨⟨false, rfl, fun h => by cases h⟩, b0⟩
 by_cases h30 : (30 : Int) < pagesOf ga gd gl
 · go_enter Tryz.func8, Tryz.ntmps8
   go_wp2_with (go_at_call 22; refine (HP.out _).mono ?_; rintro e w3 ⟨rfl, b3⟩)
   go_ret
   exact ⟨⟨false, rfl, fun h => by cases h⟩, bt HB0.out b3⟩
 go_enter Tryz.func8, Tryz.ntmps8
 go_upto_region 3 with (go_at_call 22; refine (HP.out _).mono ?_; rintro e w3 ⟨rfl, b3⟩)
 have HB3 := Lib.hid b3
 have H20 := Lib.hid h20
 have H30 := Lib.hid h30
 clear b3 h20 h30 b0 z0 z1 z2
 go_wp2_with fail
 go_loopw [5] (fun i wr => ∃ k : Nat, k <= l.length /\ i = .int .i64 (k : Int) /\ Below w3.heap.size w3 wr /\ ∀ j (hj : j < l.length), j < k -> LightOk gl [l[j].tx]) (fun i _ => l.length - (intOf i).toNat)
 case atStart => exact ⟨0, by omega, rfl, Below.refl _ _, fun j _ h => absurd h (by omega)⟩
 case round =>
   obtain ⟨k, hk, rfl, kr, hL⟩ := hrel
   have bR := bt HB3.out kr
   by_cases hlt : k < l.length
   · have hkn : (k : Int) < (l.length : Int) := by omega
     obtain ⟨b, off, Ai, ci, rfl, hb, hQb, hx⟩ := (HR.out.on bR).get hlt
     obtain ⟨x, hx0⟩ : ∃ x, x = l[k] := ⟨_, rfl⟩
     rw [<- hx0] at hx
     obtain ⟨y0, y1, y2⟩ := gthree (HFG.out.on bR)
     have t0 := hx.t.c0
     have t1 := hx.t.c1
     have HLi := Lib.hid (fun W (bW : Below wr.heap.size wr W) => (Wal.light_any _ (some ⟨W.heap.size, 0, none⟩) [x.tx] 1 ga gd gl _ (Txs.one (w := W) (hx.t.keep (Keep.of_below bW []) (fun j _ _ => by simp) hb hQb) 41) : Calls Tryz.prog 33 #[gv ga gd gl, .slice (some ⟨W.heap.size, 0, none⟩) 1 1] _ _))
     have cz : Below wr.heap.size wr wr.drew := (Below.refl _ _).drew
     have Hk1 := Lib.hid hlt
     have hk20 : (k : Int) < 20 := by have := H20.out; omega
     have HKG := Lib.hid (fun W (bW : Below wr.heap.size wr W) => show W.cell? ⟨w.heap.size, 0, none⟩ = some (.int .i64 ga) /\ W.cell? ⟨w.heap.size, 1, none⟩ = some (.int .i64 gd) /\ W.cell? ⟨w.heap.size, 2, none⟩ = some (.int .i64 gl) /\ W.cell? ⟨b, off + k * 3 + 1, none⟩ = some (.slice Ai x.tx.pages.length ci) /\ W.cell? ⟨b, off + k * 3 + 1 + 1, none⟩ = some (.int .u64 (x.tx.gen.toNat : Int)) from ⟨(gthree ((HFG.out.on bR).on bW)).1, (gthree ((HFG.out.on bR).on bW)).2.1, (gthree ((HFG.out.on bR).on bW)).2.2, (World.cell?_of_block (bW.block _ hb)).trans t0, (World.cell?_of_block (bW.block _ hb)).trans t1⟩)
     have HL := Lib.hid hL
     have HX := Lib.hid hx0
     clear hL hx hx0
     go_upto_region 6 with (fail)
     go_region_held3 (fun W => W.cell? ⟨w.heap.size, 0, none⟩ = some (.int .i64 ga) /\ W.cell? ⟨w.heap.size, 1, none⟩ = some (.int .i64 gd) /\ W.cell? ⟨w.heap.size, 2, none⟩ = some (.int .i64 gl) /\ W.cell? ⟨b, off + k * 3 + 1, none⟩ = some (.slice Ai x.tx.pages.length ci) /\ W.cell? ⟨b, off + k * 3 + 1 + 1, none⟩ = some (.int .u64 (x.tx.gen.toNat : Int))) (first | exact HKG.out _ cz | exact HKG.out _ (bt cz (b1alloc _ _)) | exact HKG.out _ b6) ((go_at_call 33; refine (HLi.out _ cz).mono ?_; rintro e w5 ⟨⟨B, rfl, hB⟩, b5⟩; have b6 := bt cz (bt (b1alloc _ _) b5)))
     have HB6 := Lib.hid b6
     have HBB := Lib.hid hB
     have Hkr := Lib.hid kr
     have HbR := Lib.hid bR
     clear b6 hB b5 t0 t1 y0 y1 y2 cz kr bR
     cases B with
     | false =>
       go_wp2_with fail
       go_ret
       exact ⟨⟨false, rfl, fun h => by cases h⟩, bt HB0.out (bt HbR.out HB6.out)⟩
     | true =>
       go_wp2_with fail
       case roundEnd =>
         refine ⟨⟨k + 1, Hk1.out, by go_num, bt Hkr.out HB6.out, fun j hj hlt2 => ?_⟩, by have := Hk1.out; simp only [intOf]; omega⟩
         by_cases e : j < k
         · exact HL.out j hj e
         · obtain rfl : j = k := by omega
           have := HBB.out rfl
           rw [HX.out] at this
           exact this
   · obtain rfl : k = l.length := by omega
     have hkn : ¬ (l.length : Int) < (l.length : Int) := by omega
     have HL := Lib.hid hL
     have HK := Lib.hid bR
     clear hL kr bR
     go_wp2_with fail
     go_ret
     exact ⟨⟨true, rfl, fun _ => ⟨by have := H20.out; omega, by have := H30.out; omega, fun i h => HL.out i h h⟩⟩, bt HB0.out HK.out⟩
end Go.Proofs.YtchcmklelmlbgaaGreat.Sto
namespace Go.Proofs.YtchcmklelmlbgaaGreat.Sto
open Go.RowKit
set_option linter.unusedVariables false
set_option maxRecDepth 100000
set_option maxHeartbeats 1000000 in
theorem steps_any (n c : Nat) (b off : Nat) (ks : Nat -> FuncId) (rs cs : Nat -> Array Value) (In : Nat -> World -> Prop) (Out : Int -> World -> Prop) (w : World) (hn : n <= 1000) (h0 : In 0 w)
   (hcell : ∀ i, i < n -> ∀ W, In i W -> W.cell? ⟨b, off + i, none⟩ = some (.func (.func (ks i)) (rs i) (cs i)))
   (hm : ∀ i, i < n -> ∀ (x : Array Value) (W : World), Sem.run Tryz.prog (callFunc (ks i) x) W = .ok (.enter (ks i) x) W)
   (hcall : ∀ i, i < n -> ∀ W, In i W -> Calls Tryz.prog (ks i) (rs i ++ cs i) W fun e W' => ∃ f : Int, e = .returned (.int .i64 f) /\ (f = 0 -> In (i + 1) W') /\ (f ≠ 0 -> Out f W')) :
   Calls Tryz.prog 38 #[.slice (some ⟨b, off, none⟩) n c] w fun e w' => ∃ f : Int, e = .returned (.int .i64 f) /\ (f = 0 -> In n w') /\ (f ≠ 0 -> Out f w') := by
 go_enter Tryz.func38, Tryz.ntmps38
 go_wp2
 go_step3
 go_wp2
 go_step3
 go_wp2
 go_loopw [8] (fun i wr => ∃ k : Nat, k <= n /\ i = .int .i64 k /\ In k wr) (fun i _ => n - (intOf i).toNat)
 case atStart => exact ⟨0, by omega, rfl, h0⟩
 case round =>
   obtain ⟨k, hk, rfl, hI⟩ := hrel
   by_cases hlt : k < n
   · have hkn : (k : Int) < (n : Int) := by omega
     have z0 := hcell k hlt wr hI
     have hmk := hm k hlt
     have HC := Lib.hid (hcall k hlt wr hI)
     obtain ⟨kf, hkf⟩ : ∃ q, q = ks k := ⟨_, rfl⟩
     obtain ⟨rk, hrk⟩ : ∃ q, q = rs k := ⟨_, rfl⟩
     obtain ⟨ck, hck⟩ : ∃ q, q = cs k := ⟨_, rfl⟩
     rw [<- hkf, <- hrk, <- hck] at z0 HC
     rw [<- hkf] at hmk
     clear hkf hrk hck hcell hm hcall
     go_wp2_with fail
     refine HC.out.mono ?_
     rintro e w1 ⟨f, rfl, h1, h2⟩
     by_cases hf : f = 0
     · have hI1 := h1 hf
       have t0 := bne_no hf
       clear h1 h2
       go_wp2_with fail
       case roundEnd => exact ⟨⟨k + 1, by omega, rfl, hI1⟩, by simp only [intOf]; omega⟩
     · have hO := h2 hf
       have t0 := bne_yes hf
       clear h1 h2
       go_wp2_with fail
       try rw [Exit.noGoto_ret]
       go_ret
       exact ⟨f, rfl, fun e => absurd e hf, fun _ => hO⟩
   · obtain rfl : k = n := by omega
     clear hcell hm hcall
     go_wp2_with fail
     try rw [Exit.noGoto_ret]
     go_ret
     exact ⟨0, rfl, fun _ => hI, fun e => absurd rfl e⟩
end Go.Proofs.YtchcmklelmlbgaaGreat.Sto
namespace Go.Proofs.YtchcmklelmlbgaaGreat.Sto
open Go.RowKit
open Go.Proofs.YtchcmklelmlbgaaGreat.Geom
open Go.Proofs.YtchcmklelmlbgaaGreat.Disk (St DAt Did)
open Go.Proofs.YtchcmklelmlbgaaGreat.Sup (Gb gv)
open Go.Proofs.YtchcmklelmlbgaaGreat.Wal (LAt lcell)
set_option linter.unusedVariables false
def SRow (w : World) (R c : Nat) (P : List (List UInt8)) (Q : Nat -> Prop) : Prop :=
 ∃ xs : List Value, w.ownsRow 0 51 1 (.slice (some ⟨R, 0, none⟩) P.length c) P.length xs /\ ∀ i (h : i < P.length), ∃ Ai ci, xs[i]? = some (.slice Ai P[i].length ci) /\ RdQ w Q Ai (P[i].map e8) /\ P[i].length <= ci /\ ci <= maxLen
theorem SRow.keep {w w' : World} {R c : Nat} {P : List (List UInt8)} {Q : Nat -> Prop} {fp : List Nat} (h : SRow w R c P Q) (k : Keep fp w w') (hR : R ∉ fp) (hf : ∀ j, Q j -> j < w.heap.size -> j ∉ fp) : SRow w' R c P Q := by
 obtain ⟨xs, h1, h2⟩ := h
 refine ⟨xs, own_keep h1 k (fun g hg => by simp [Value.ownBlock] at hg; rw [<- hg]; exact hR), fun i hi => ?_⟩
 obtain ⟨Ai, ci, a, b, d⟩ := h2 i hi
 exact ⟨Ai, ci, a, b.keep k hf, d⟩
theorem _root_.Go.Proofs.YtchcmklelmlbgaaGreat.RdQ.move {w w' : World} {Q Q' : Nat -> Prop} {A : Option Addr} {xs : List Value} {fp : List Nat} (h : RdQ w Q A xs) (k : Keep fp w w') (hf : ∀ j, Q j -> j < w.heap.size -> j ∉ fp /\ Q' j) : RdQ w' Q' A xs :=
 RdQ.keep (h.imp (Q' := fun j => Q j /\ Q' j) (fun j hj hq => ⟨hq, (hf j hq hj).2⟩)) k (fun j hj hlt => (hf j hj.1 hlt).1) |>.imp (fun j _ h => h.2)
theorem SRow.move {w w' : World} {R c : Nat} {P : List (List UInt8)} {Q Q' : Nat -> Prop} {fp : List Nat} (h : SRow w R c P Q) (k : Keep fp w w') (hR : R ∉ fp) (hf : ∀ j, Q j -> j < w.heap.size -> j ∉ fp /\ Q' j) : SRow w' R c P Q' := by
 obtain ⟨xs, h1, h2⟩ := h
 refine ⟨xs, own_keep h1 k (fun g hg => by simp [Value.ownBlock] at hg; rw [<- hg]; exact hR), fun i hi => ?_⟩
 obtain ⟨Ai, ci, a, b, d⟩ := h2 i hi
 exact ⟨Ai, ci, a, b.move k hf, d⟩
theorem SRow.on {w w' : World} {R c : Nat} {P : List (List UInt8)} {Q : Nat -> Prop} (h : SRow w R c P Q) (b : Below w.heap.size w w') : SRow w' R c P Q := h.keep (Keep.of_below b []) (by simp) (fun _ _ _ => by simp)
theorem SRow.imp {w : World} {R c : Nat} {P : List (List UInt8)} {Q Q' : Nat -> Prop} (h : SRow w R c P Q) (hq : ∀ j, j < w.heap.size -> Q j -> Q' j) : SRow w R c P Q' := by
 obtain ⟨xs, h1, h2⟩ := h
 refine ⟨xs, h1, fun i hi => ?_⟩
 obtain ⟨Ai, ci, a, b, d⟩ := h2 i hi
 exact ⟨Ai, ci, a, b.imp hq, d⟩
theorem SRow.lt {w : World} {R c : Nat} {P : List (List UInt8)} {Q : Nat -> Prop} (h : SRow w R c P Q) : R < w.heap.size := by
 obtain ⟨xs, h1, _⟩ := h
 exact (h1.lt R rfl).2
theorem SRow.cap {w : World} {R c : Nat} {P : List (List UInt8)} {Q : Nat -> Prop} (h : SRow w R c P Q) : P.length <= c /\ c <= maxLen := by
 obtain ⟨xs, h1, _⟩ := h
 exact own_cap h1
theorem SRow.get {w : World} {R c : Nat} {P : List (List UInt8)} {Q : Nat -> Prop} (h : SRow w R c P Q) {i : Nat} (hi : i < P.length) : ∃ Ai ci, w.cell? ⟨R, i, none⟩ = some (.slice Ai P[i].length ci) /\ RdQ w Q Ai (P[i].map e8) /\ P[i].length <= ci /\ ci <= maxLen := by
 obtain ⟨xs, h1, h2⟩ := h
 obtain ⟨Ai, ci, a, b, d⟩ := h2 i hi
 exact ⟨Ai, ci, (World.ownsRow.cellAt (j := i) h1 (by omega)).trans a, b, d⟩
theorem SRow.free {w : World} {R c : Nat} {P : List (List UInt8)} {Q : Nat -> Prop} (h : SRow w R c P Q) (i : Nat) : w.frozen? ⟨R, i, none⟩ = false := by
 obtain ⟨xs, h1, _⟩ := h
 exact h1.frozenAt i
theorem SRow.rw {w : World} {R c : Nat} {P : List (List UInt8)} {Q Q' : Nat -> Prop} (h : SRow w R c P Q) (hq : ∀ j, j < w.heap.size -> Q j -> Q' j) (hR : Q' R) : Rw w Q' (some ⟨R, 0, none⟩) P := fun hne =>
 ⟨R, 0, rfl, h.lt, hR, fun i hi => by
   obtain ⟨Ai, ci, a, b, d⟩ := h.get hi
   exact ⟨Ai, ci, by rw [Nat.zero_add]; exact a, b.imp hq, d⟩⟩
theorem _root_.Go.Proofs.YtchcmklelmlbgaaGreat.RdQ.set {w : World} {Q : Nat -> Prop} {A : Option Addr} {xs : List Value} {R i : Nat} (h : RdQ w Q A xs) (hR : ¬ Q R) (v : Value) : RdQ (w.setCell ⟨R, i, none⟩ v) Q A xs :=
 h.keep (fp := [R]) ((Keep.refl _ _).set (.inl (by simp)) _) (fun j hj _ e => hR (by rw [List.mem_singleton] at e; exact e ▸ hj))
theorem SRow.set {w : World} {R c : Nat} {P : List (List UInt8)} {Q : Nat -> Prop} (h : SRow w R c P Q) (hR : ¬ Q R) (k : Nat) {m : List UInt8} {A : Option Addr} {ci : Nat} (hm : RdQ w Q A (m.map e8)) (h1 : m.length <= ci) (h2 : ci <= maxLen) :
   SRow (w.setCell ⟨R, k, none⟩ (.slice A m.length ci)) R c (P.set k m) Q := by
 obtain ⟨xs, o, hx⟩ := h
 have hxl : xs.length = P.length := by have := o.1; omega
 refine ⟨xs.set k (.slice A m.length ci), by rw [List.length_set]; exact (o.stored k _).1, fun i hi => ?_⟩
 rw [List.length_set] at hi
 by_cases e : k = i
 · subst e
   refine ⟨A, ci, ?_, ?_⟩
   · rw [List.getElem_set_self]; exact List.getElem?_set_self (by omega)
   · rw [List.getElem_set_self]; exact ⟨hm.set hR _, h1, h2⟩
 · obtain ⟨Ai, cj, a, b, d⟩ := hx i hi
   refine ⟨Ai, cj, ?_, ?_⟩
   · rw [List.getElem?_set_ne e, List.getElem_set_ne e]; exact a
   · rw [List.getElem_set_ne e]; exact ⟨b.set hR _, d⟩
abbrev xc (g gS : Nat) (ga gd gl : Int) (z : Z) (lv pv : Value) : List Value :=
 [.pointer (some ⟨g, 0, none⟩), .pointer (some ⟨gS, 0, none⟩), .int .i64 ga, .int .i64 gd, .int .i64 gl, .int .u64 (z.life.toNat : Int), .int .i64 z.base, .int .u64 (z.gen.toNat : Int), lv, .int .i64 z.next, pv, .bool z.due, .bool z.dead]
theorem thirteen {w : World} {X : Nat} {a0 a1 a2 a3 a4 a5 a6 a7 a8 a9 a10 a11 a12 : Value} (h : Blk w X [a0, a1, a2, a3, a4, a5, a6, a7, a8, a9, a10, a11, a12]) :
   w.cell? ⟨X, 0, none⟩ = some a0 /\ w.cell? ⟨X, 1, none⟩ = some a1 /\ w.cell? ⟨X, 2, none⟩ = some a2 /\ w.cell? ⟨X, 3, none⟩ = some a3 /\ w.cell? ⟨X, 4, none⟩ = some a4 /\ w.cell? ⟨X, 5, none⟩ = some a5 /\ w.cell? ⟨X, 6, none⟩ = some a6 /\ w.cell? ⟨X, 7, none⟩ = some a7 /\ w.cell? ⟨X, 8, none⟩ = some a8 /\ w.cell? ⟨X, 9, none⟩ = some a9 /\ w.cell? ⟨X, 10, none⟩ = some a10 /\ w.cell? ⟨X, 11, none⟩ = some a11 /\ w.cell? ⟨X, 12, none⟩ = some a12 :=
 ⟨h.cell (k := 0) (by simp), h.cell (k := 1) (by simp), h.cell (k := 2) (by simp), h.cell (k := 3) (by simp), h.cell (k := 4) (by simp), h.cell (k := 5) (by simp), h.cell (k := 6) (by simp), h.cell (k := 7) (by simp), h.cell (k := 8) (by simp), h.cell (k := 9) (by simp), h.cell (k := 10) (by simp), h.cell (k := 11) (by simp), h.cell (k := 12) (by simp)⟩
def Off (X R L bS gS : Nat) (fp : List Nat) (j : Nat) : Prop := j ≠ X /\ j ≠ R /\ j ≠ L /\ j ≠ bS /\ j ≠ gS /\ j ∉ fp
structure SAt (w : World) (X R L g : Nat) (fp : List Nat) (gS bS : Nat) (ga gd gl : Int) (z : Z) (s : St) (l : List (List UInt8)) : Prop where
 both : Both w g fp s gS bS l
 blk : ∃ lv c, Blk w X (xc g gS ga gd gl z lv (.slice (some ⟨R, 0, none⟩) z.pages.length c)) /\ (z.has = true -> lv = .pointer (some ⟨L, 0, none⟩)) /\ SRow w R c z.pages (Off X R L bS gS fp)
 log : z.has = true -> LAt w L g gS ga gd gl z.life z.base z.seq /\ L ≠ X
 nX : X ≠ R /\ X ≠ bS /\ X ≠ gS /\ X ∉ fp
 nR : R ≠ L /\ R ≠ bS /\ R ≠ gS /\ R ∉ fp
 nL : L ≠ bS /\ L ≠ gS /\ L ∉ fp
 lt : L < w.heap.size
def FreshL (w : World) (L : Nat) (fp : List Nat) (L' : Nat) (fp' : List Nat) : Prop := Fresh w fp fp' /\ (L' = L \/ w.heap.size <= L')
theorem FreshL.refl (w : World) (L : Nat) (fp : List Nat) : FreshL w L fp L fp := ⟨Fresh.refl _ _, .inl rfl⟩
theorem FreshL.trans {w w1 : World} {L L1 L2 : Nat} {fp fp1 fp2 : List Nat} (h : FreshL w L fp L1 fp1) (hs : w.heap.size <= w1.heap.size) (k : FreshL w1 L1 fp1 L2 fp2) : FreshL w L fp L2 fp2 := by
 refine ⟨h.1.trans hs k.1, ?_⟩
 rcases k.2 with e | e
 · rw [e]; exact h.2
 · exact .inr (Nat.le_trans hs e)
theorem FreshL.all {w : World} {L L' : Nat} {fp fp' : List Nat} (h : FreshL w L fp L' fp') : Fresh w (L :: fp) (L' :: fp') := fun j hj => by
 rcases List.mem_cons.1 hj with e | e
 · rcases h.2 with e2 | e2
   · exact .inl (by simp [e, e2])
   · exact .inr (by rw [e]; exact e2)
 · exact (h.1 j e).imp (fun h => List.mem_cons_of_mem _ h) id
def STurn (w : World) (X R L g : Nat) (fp : List Nat) (gS bS : Nat) (ga gd gl : Int) (z' : Z) (s' : St) (l' : List (List UInt8)) (w' : World) : Prop :=
 ∃ L' fp', SAt w' X R L' g fp' gS bS ga gd gl z' s' l' /\ Keep (X :: R :: L :: bS :: fp) w w' /\ FreshL w L fp L' fp'
theorem SAt.ltX {w : World} {X R L g : Nat} {fp : List Nat} {gS bS : Nat} {ga gd gl : Int} {z : Z} {s : St} {l : List (List UInt8)} (h : SAt w X R L g fp gS bS ga gd gl z s l) : X < w.heap.size /\ R < w.heap.size := by
 obtain ⟨lv, c, h1, _, h2⟩ := h.blk
 exact ⟨h1.lt, h2.lt⟩
theorem SAt.on {w w' : World} {X R L g : Nat} {fp : List Nat} {gS bS : Nat} {ga gd gl : Int} {z : Z} {s : St} {l : List (List UInt8)} (h : SAt w X R L g fp gS bS ga gd gl z s l) (b : Below w.heap.size w w') : SAt w' X R L g fp gS bS ga gd gl z s l := by
 obtain ⟨lv, c, h1, h2, h3⟩ := h.blk
 exact ⟨h.both.on b, ⟨lv, c, h1.on b, h2, h3.on b⟩, fun hd => ⟨(h.log hd).1.on b, (h.log hd).2⟩, h.nX, h.nR, h.nL, Nat.lt_of_lt_of_le h.lt b.size⟩
theorem STurn.same {w w' : World} {X R L g : Nat} {fp : List Nat} {gS bS : Nat} {ga gd gl : Int} {z : Z} {s : St} {l : List (List UInt8)} (h : SAt w X R L g fp gS bS ga gd gl z s l) (b : Below w.heap.size w w') : STurn w X R L g fp gS bS ga gd gl z s l w' :=
 ⟨L, fp, h.on b, Keep.of_below b _, FreshL.refl _ _ _⟩
theorem freshAll {w : World} {X R L L' bS : Nat} {fp fp' : List Nat} (f : Fresh w (L :: fp) (L' :: fp')) : Fresh w (X :: R :: L :: bS :: fp) (X :: R :: L' :: bS :: fp') := fun j hj => by
 simp only [List.mem_cons] at hj ⊢
 rcases hj with e | e | e | e | e
 · exact .inl (.inl e)
 · exact .inl (.inr (.inl e))
 · rcases f j (by simp [e]) with h | h
   · rcases List.mem_cons.1 h with h | h
     · exact .inl (.inr (.inr (.inl h)))
     · exact .inl (.inr (.inr (.inr (.inr h))))
   · exact .inr h
 · exact .inl (.inr (.inr (.inr (.inl e))))
 · rcases f j (by simp [e]) with h | h
   · rcases List.mem_cons.1 h with h | h
     · exact .inl (.inr (.inr (.inl h)))
     · exact .inl (.inr (.inr (.inr (.inr h))))
   · exact .inr h
theorem STurn.trans {w w1 w2 : World} {X R L L1 g : Nat} {fp fp1 : List Nat} {gS bS : Nat} {ga gd gl : Int} {z2 : Z} {s2 : St} {l2 : List (List UInt8)} (k : Keep (X :: R :: L :: bS :: fp) w w1) (f : FreshL w L fp L1 fp1) (h : STurn w1 X R L1 g fp1 gS bS ga gd gl z2 s2 l2 w2) : STurn w X R L g fp gS bS ga gd gl z2 s2 l2 w2 := by
 obtain ⟨L2, fp2, b2, k2, f2⟩ := h
 exact ⟨L2, fp2, b2, k.trans k2 (freshAll f.all), f.trans k.size f2⟩
theorem STurn.first {w w1 w2 : World} {X R L g : Nat} {fp : List Nat} {gS bS : Nat} {ga gd gl : Int} {z2 : Z} {s2 : St} {l2 : List (List UInt8)} (b : Below w.heap.size w w1) (h : STurn w1 X R L g fp gS bS ga gd gl z2 s2 l2 w2) : STurn w X R L g fp gS bS ga gd gl z2 s2 l2 w2 :=
 STurn.trans (Keep.of_below b _) (FreshL.refl _ _ _) h
theorem Off.fresh {w : World} {X R L bS gS : Nat} {fp fp' : List Nat} {j : Nat} (h : Off X R L bS gS fp j) (hj : j < w.heap.size) (f : Fresh w fp fp') : Off X R L bS gS fp' j :=
 ⟨h.1, h.2.1, h.2.2.1, h.2.2.2.1, h.2.2.2.2.1, f.out hj h.2.2.2.2.2⟩
theorem SAt.turned {w w' : World} {X R L g : Nat} {fp fp' : List Nat} {gS bS : Nat} {ga gd gl : Int} {z : Z} {s s' : St} {l l' : List (List UInt8)} (h : SAt w X R L g fp gS bS ga gd gl z s l) (b : Both w' g fp' s' gS bS l') (k : Keep (bS :: fp) w w') (f : Fresh w fp fp') :
   SAt w' X R L g fp' gS bS ga gd gl z s' l' := by
 obtain ⟨lv, c, h1, h2, h3⟩ := h.blk
 have hX := h.ltX
 obtain ⟨x1, x2, x3, x4⟩ := h.nX
 obtain ⟨r1, r2, r3, r4⟩ := h.nR
 obtain ⟨l1, l2, l3⟩ := h.nL
 refine ⟨b, ⟨lv, c, h1.keepK k (by simp [x2, x4]), h2, h3.move k (by simp [r2, r4]) (fun j hj hlt => ⟨by simp [hj.2.2.2.1, hj.2.2.2.2.2], hj.fresh hlt f⟩)⟩, fun hd => ⟨(h.log hd).1.keepK k (by simp [l1, l3]), (h.log hd).2⟩, ⟨x1, x2, x3, f.out hX.1 x4⟩, ⟨r1, r2, r3, f.out hX.2 r4⟩, ⟨l1, l2, f.out h.lt l3⟩, Nat.lt_of_lt_of_le h.lt k.size⟩
end Go.Proofs.YtchcmklelmlbgaaGreat.Sto
namespace Go.Proofs.YtchcmklelmlbgaaGreat.Sto
open Go.RowKit
open Go.Proofs.YtchcmklelmlbgaaGreat.Geom
open Go.Proofs.YtchcmklelmlbgaaGreat.Disk (St DAt Did)
open Go.Proofs.YtchcmklelmlbgaaGreat.Sup (Gb gv)
open Go.Proofs.YtchcmklelmlbgaaGreat.Wal (LAt lcell)
set_option linter.unusedVariables false
set_option maxRecDepth 100000
theorem ready_any (X R L g : Nat) (fp : List Nat) (gS bS : Nat) (ga gd gl : Int) (z : Z) (s : St) (l : List (List UInt8)) (w : World) (h : SAt w X R L g fp gS bS ga gd gl z s l) :
   Calls Tryz.prog 44 #[.pointer (some ⟨X, 0, none⟩)] w fun e w' => e = .returned (.int .i64 (if z.dead = true then 12 else 0)) /\ w = w' := by
 obtain ⟨lv, c, h1, _, h3⟩ := h.blk
 obtain ⟨z0, z1, z2, z3, z4, z5, z6, z7, z8, z9, z10, z11, z12⟩ := thirteen h1
 clear h h1 h3
 cases hd : z.dead with
 | true =>
   rw [hd] at z12
   rw [if_pos rfl]
   go_enter Tryz.func44, Tryz.ntmps44
   go_wp2
   go_ret
   exact ⟨rfl, rfl⟩
 | false =>
   rw [hd] at z12
   rw [if_neg (by simp)]
   go_enter Tryz.func44, Tryz.ntmps44
   go_wp2
   go_ret
   exact ⟨rfl, rfl⟩
theorem SAt.tell {w : World} {X R L g : Nat} {fp : List Nat} {gS bS : Nat} {ga gd gl : Int} {z : Z} {s : St} {l : List (List UInt8)} (h : SAt w X R L g fp gS bS ga gd gl z s l) {b : Bool} {f : Int} (hb : b = (z.dead || decide (f = 12))) : SAt (w.setCell ⟨X, 12, none⟩ (.bool b)) X R L g fp gS bS ga gd gl (z.told f) s l /\ Keep [X] w (w.setCell ⟨X, 12, none⟩ (.bool b)) := by
 subst hb
 obtain ⟨lv, c, h1, h2, h3⟩ := h.blk
 obtain ⟨x1, x2, x3, x4⟩ := h.nX
 obtain ⟨r1, r2, r3, r4⟩ := h.nR
 have hk : Keep [X] w (w.setCell ⟨X, 12, none⟩ (.bool (z.dead || decide (f = 12)))) := (Keep.refl _ _).set (.inl (by simp)) _
 refine ⟨⟨⟨h.both.disk.keep hk (fun j hj e => x4 (by rw [List.mem_singleton] at e; exact e ▸ hj)), h.both.sym.keepK hk (by simp; exact fun e => x3 e.symm) (by simp; exact fun e => x2 e.symm), h.both.nS, h.both.nB⟩, ⟨lv, c, (h1.set (k := 12) _ : Blk _ X (xc g gS ga gd gl (z.told f) lv (.slice (some ⟨R, 0, none⟩) z.pages.length c))), h2, h3.move hk (by simp; exact fun e => x1 e.symm) (fun j hj hlt => ⟨by simp; exact hj.1, hj⟩)⟩,
   fun hd => ⟨Blk.other (h.log hd).1 _ (h.log hd).2, (h.log hd).2⟩, h.nX, h.nR, h.nL, Nat.lt_of_lt_of_le h.lt hk.size⟩, hk⟩
theorem STurn.tell {w w1 : World} {X R L g : Nat} {fp : List Nat} {gS bS : Nat} {ga gd gl : Int} {z : Z} {s : St} {l : List (List UInt8)} (h : STurn w X R L g fp gS bS ga gd gl z s l w1) {b : Bool} {f : Int} (hb : b = (z.dead || decide (f = 12))) : STurn w X R L g fp gS bS ga gd gl (z.told f) s l (w1.setCell ⟨X, 12, none⟩ (.bool b)) := by
 obtain ⟨L2, fp2, b2, k2, f2⟩ := h
 obtain ⟨t1, t2⟩ := b2.tell hb
 exact ⟨L2, fp2, t1, k2.trans (t2.more (fp' := X :: R :: L :: bS :: fp) (fun j hj => by simp only [List.mem_cons, List.not_mem_nil, or_false] at hj ⊢; exact .inl hj)) (Fresh.refl _ _), f2⟩
theorem told_any (X R L g : Nat) (fp : List Nat) (gS bS : Nat) (ga gd gl : Int) (z : Z) (s : St) (l : List (List UInt8)) (f : Int) (w : World) (h : SAt w X R L g fp gS bS ga gd gl z s l) :
   Calls Tryz.prog 47 #[.pointer (some ⟨X, 0, none⟩), .int .i64 f] w fun e w' => e = .returned (.int .i64 f) /\ STurn w X R L g fp gS bS ga gd gl (z.told f) s l w' := by
 have HT := Lib.hid (fun b hb => (STurn.same h (Below.refl _ _)).tell (b := b) (f := f) hb)
 obtain ⟨lv, c, h1, _, h3⟩ := h.blk
 obtain ⟨z0, z1, z2, z3, z4, z5, z6, z7, z8, z9, z10, z11, z12⟩ := thirteen h1
 have fX := h1.free
 have hlX := h1.lt
 clear h h1 h3
 cases hd : z.dead with
 | true =>
   rw [hd] at z12
   have HD := Lib.hid hd
   clear hd
   go_enter Tryz.func47, Tryz.ntmps47
   go_wp2_with fail
   go_ret
   exact ⟨rfl, HT.out true (by rw [HD.out]; rfl)⟩
 | false =>
   rw [hd] at z12
   have HD := Lib.hid hd
   clear hd
   by_cases hf : f = 12
   · have t0 := beq_yes hf
     have HF := Lib.hid hf
     clear hf
     go_enter Tryz.func47, Tryz.ntmps47
     go_wp2_with fail
     go_ret
     exact ⟨rfl, HT.out true (by rw [HD.out, HF.out]; rfl)⟩
   · have t0 := beq_no hf
     have HF := Lib.hid hf
     clear hf
     go_enter Tryz.func47, Tryz.ntmps47
     go_wp2_with fail
     go_ret
     exact ⟨rfl, HT.out false (by rw [HD.out, decide_eq_false HF.out]; rfl)⟩
theorem gen_any (X R L g : Nat) (fp : List Nat) (gS bS : Nat) (ga gd gl : Int) (z : Z) (s : St) (l : List (List UInt8)) (w : World) (h : SAt w X R L g fp gS bS ga gd gl z s l) :
   Calls Tryz.prog 20 #[.pointer (some ⟨X, 0, none⟩)] w fun e w' => e = .returned (.int .u64 (z.gen.toNat : Int)) /\ w = w' := by
 obtain ⟨lv, c, h1, _, h3⟩ := h.blk
 obtain ⟨z0, z1, z2, z3, z4, z5, z6, z7, z8, z9, z10, z11, z12⟩ := thirteen h1
 clear h h1 h3
 go_enter Tryz.func20, Tryz.ntmps20
 go_wp2
 go_ret
 exact ⟨rfl, rfl⟩
theorem life_any (X R L g : Nat) (fp : List Nat) (gS bS : Nat) (ga gd gl : Int) (z : Z) (s : St) (l : List (List UInt8)) (w : World) (h : SAt w X R L g fp gS bS ga gd gl z s l) :
   Calls Tryz.prog 21 #[.pointer (some ⟨X, 0, none⟩)] w fun e w' => e = .returned (.int .u64 (z.life.toNat : Int)) /\ w = w' := by
 obtain ⟨lv, c, h1, _, h3⟩ := h.blk
 obtain ⟨z0, z1, z2, z3, z4, z5, z6, z7, z8, z9, z10, z11, z12⟩ := thirteen h1
 clear h h1 h3
 go_enter Tryz.func21, Tryz.ntmps21
 go_wp2
 go_ret
 exact ⟨rfl, rfl⟩
theorem dead_any (X R L g : Nat) (fp : List Nat) (gS bS : Nat) (ga gd gl : Int) (z : Z) (s : St) (l : List (List UInt8)) (w : World) (h : SAt w X R L g fp gS bS ga gd gl z s l) :
   Calls Tryz.prog 29 #[.pointer (some ⟨X, 0, none⟩)] w fun e w' => e = .returned (.bool z.dead) /\ w = w' := by
 obtain ⟨lv, c, h1, _, h3⟩ := h.blk
 obtain ⟨z0, z1, z2, z3, z4, z5, z6, z7, z8, z9, z10, z11, z12⟩ := thirteen h1
 clear h h1 h3
 go_enter Tryz.func29, Tryz.ntmps29
 go_wp2
 go_ret
 exact ⟨rfl, rfl⟩
theorem room_any (X R L g : Nat) (fp : List Nat) (gS bS : Nat) (ga gd gl : Int) (z : Z) (s : St) (l : List (List UInt8)) (w : World) (h : SAt w X R L g fp gS bS ga gd gl z s l) (hs : z.seq <= 100000) (hg : 0 <= gl) (hg1 : gl <= 100000) (hh : z.due = false -> z.has = true) :
   Calls Tryz.prog 28 #[.pointer (some ⟨X, 0, none⟩)] w fun e w' => e = .returned (.int .i64 (if z.due = true then 0 else gl - z.seq)) /\ Below w.heap.size w w' := by
 obtain ⟨lv, c, h1, h2, h3⟩ := h.blk
 obtain ⟨z0, z1, z2, z3, z4, z5, z6, z7, z8, z9, z10, z11, z12⟩ := thirteen h1
 cases hd : z.due with
 | true =>
   rw [if_pos rfl]
   rw [hd] at z11
   clear h h1 h2 h3 hh
   go_enter Tryz.func28, Tryz.ntmps28
   go_wp2
   go_ret
   exact ⟨rfl, Below.refl _ _⟩
 | false =>
   rw [if_neg (by simp)]
   rw [hd] at z11
   rw [h2 (hh hd)] at z8
   have HR := Lib.hid (Wal.room_any L g gS ga gd gl z.life z.base z.seq w (h.log (hh hd)).1 hs hg hg1)
   clear h h1 h2 h3 hh
   go_enter Tryz.func28, Tryz.ntmps28
   go_wp2_with (go_at_call 64; refine HR.out.mono ?_; rintro e w1 ⟨rfl, b1⟩)
   go_ret
   exact ⟨rfl, b1⟩
end Go.Proofs.YtchcmklelmlbgaaGreat.Sto
namespace Go.Proofs.YtchcmklelmlbgaaGreat.Sto
open Go.RowKit
open Go.Proofs.YtchcmklelmlbgaaGreat.Geom
open Go.Proofs.YtchcmklelmlbgaaGreat.Disk (St DAt Did)
open Go.Proofs.YtchcmklelmlbgaaGreat.Sup (Gb gv)
open Go.Proofs.YtchcmklelmlbgaaGreat.Wal (LAt lcell)
set_option linter.unusedVariables false
set_option maxRecDepth 100000
def Z.put (z : Z) (pages : List Pg) : Z := { z with pages := putP z.pages pages }
theorem putP_snoc (P : List (List UInt8)) (l : List Pg) (x : Pg) : putP P (l ++ [x]) = (putP P l).set x.n.toNat x.body := by simp [putP]
theorem SAt.put1 {w w1 : World} {X R L g : Nat} {fp : List Nat} {gS bS : Nat} {ga gd gl : Int} {z : Z} {s : St} {l : List (List UInt8)} (h : SAt w X R L g fp gS bS ga gd gl z s l) (b1 : Below w.heap.size w w1) {A : Option Addr} {c : Nat} {x : Pg} {m : Int} (hm : m = x.n) (hm0 : 0 <= m) (o : w1.ownsRow w.heap.size 5 1 (.slice A x.body.length c) x.body.length (x.body.map e8)) :
   SAt (w1.setCell ⟨R, m.toNat, none⟩ (.slice A x.body.length c)) X R L g fp gS bS ga gd gl (z.put [x]) s l /\ Keep [R] w (w1.setCell ⟨R, m.toNat, none⟩ (.slice A x.body.length c)) := by
 subst hm
 have h1 := h.on b1
 obtain ⟨lv, c', a1, a2, a3⟩ := h1.blk
 obtain ⟨x1, x2, x3, x4⟩ := h.nX
 obtain ⟨r1, r2, r3, r4⟩ := h.nR
 have hk : Keep [R] w1 (w1.setCell ⟨R, x.n.toNat, none⟩ (.slice A x.body.length c)) := (Keep.refl _ _).set (.inl (by simp)) _
 have hlt := h.both.disk.lt
 have hls := h.both.sym.lt
 have hX := h.ltX
 have hL := h.lt
 have hcap := own_cap o
 have hq : RdQ w1 (Off X R L bS gS fp) A (x.body.map e8) := (RdQ.own o).imp (fun j _ hj => ⟨by omega, by omega, by omega, by omega, by omega, fun e => by have := hlt _ e; omega⟩)
 have hs := a3.set (fun e => e.2.1 rfl) x.n.toNat hq hcap.1 hcap.2
 refine ⟨⟨⟨h1.both.disk.keep hk (fun j hj e => r4 (by rw [List.mem_singleton] at e; exact e ▸ hj)), h1.both.sym.keepK hk (by simp; exact fun e => r3 e.symm) (by simp; exact fun e => r2 e.symm), h.both.nS, h.both.nB⟩, ⟨lv, c', ?_, a2, hs⟩,
   fun hd => ⟨Blk.other (h1.log hd).1 _ (fun e => r1 e.symm), (h.log hd).2⟩, h.nX, h.nR, h.nL, by rw [World.setCell]; simpa using h1.lt⟩, (Keep.of_below b1 [R]).trans hk (Fresh.refl _ _)⟩
 have := a1.keepK hk (by simpa using x1)
 show Blk _ X (xc g gS ga gd gl (z.put [x]) lv (.slice (some ⟨R, 0, none⟩) (z.pages.set x.n.toNat x.body).length c'))
 rw [List.length_set]
 exact this
set_option maxHeartbeats 1000000 in
theorem put_any (X R L g : Nat) (fp : List Nat) (gS bS : Nat) (ga gd gl : Int) (z : Z) (s : St) (l : List (List UInt8)) (Q : Nat -> Prop) (A : Option Addr) (pages : List Pg) (c : Nat) (w : World) (h : SAt w X R L g fp gS bS ga gd gl z s l) (hr : Pgs w Q A pages) (hQ : ∀ j, Q j -> j < w.heap.size -> j ≠ R)
   (hcl : pages.length <= 1000000) (hp : ∀ k (hk : k < pages.length), 0 <= pages[k].n /\ pages[k].n < z.pages.length /\ pages[k].body.length <= 1000000) (hzl : z.pages.length <= 1000000) :
   Calls Tryz.prog 48 #[.pointer (some ⟨X, 0, none⟩), .slice A pages.length c] w fun e w' => e = .returned (.tuple #[]) /\ SAt w' X R L g fp gS bS ga gd gl (z.put pages) s l /\ Keep [R] w w' := by
 have HP := Lib.hid hp
 have HR := Lib.hid hr
 have HQ := Lib.hid hQ
 have HH := Lib.hid h
 have hzl' : ∀ k, (z.put (pages.take k)).pages.length = z.pages.length := fun k => putP_len _ _
 have HZ := Lib.hid hzl'
 clear hp hr hQ h hzl'
 go_enter Tryz.func48, Tryz.ntmps48
 go_wp2_with fail
 go_loopw [8] (fun i wr => ∃ k : Nat, k <= pages.length /\ i = .int .i64 (k : Int) /\ Keep [R] w wr /\ SAt wr X R L g fp gS bS ga gd gl (z.put (pages.take k)) s l) (fun i _ => pages.length - (intOf i).toNat)
 case atStart => exact ⟨0, by omega, rfl, Keep.refl _ _, HH.out⟩
 case round =>
   obtain ⟨k, hk, rfl, kr, hS⟩ := hrel
   by_cases hlt : k < pages.length
   · have hkn : (k : Int) < (pages.length : Int) := by omega
     obtain ⟨p1, p2, p3⟩ := HP.out k hlt
     obtain ⟨b, off, Ai, ci, rfl, hb, hx⟩ := (HR.out.keep kr (fun j hj hlt' e => HQ.out j hj hlt' (by simpa using e))).get hlt
     obtain ⟨x, hx0⟩ : ∃ x, x = pages[k] := ⟨_, rfl⟩
     rw [<- hx0] at p1 p2 p3 hx
     obtain ⟨m, hm⟩ : ∃ m : Nat, m = x.n.toNat := ⟨_, rfl⟩
     have hxn : x.n = (m : Int) := by omega
     have htk : z.put (pages.take (k + 1)) = (z.put (pages.take k)).put [x] := by
       unfold Z.put
       rw [List.take_succ_eq_append_getElem hlt, <- hx0, putP_snoc]; rfl
     have c0 := hx.c0
     have c1 := hx.c1
     have hci := hx.cap
     rw [hxn] at c0
     have hzz := HZ.out k
     obtain ⟨zz, hzz0⟩ : ∃ zz, zz = z.put (pages.take k) := ⟨_, rfl⟩
     rw [<- hzz0] at hS hzz htk
     obtain ⟨lv, c', a1, _, a3⟩ := hS.blk
     obtain ⟨z0, z1, z2, z3, z4, z5, z6, z7, z8, z9, z10, z11, z12⟩ := thirteen a1
     have hcap := a3.cap
     obtain ⟨vR, r0⟩ : ∃ v, wr.cell? ⟨R, m, none⟩ = some v := by obtain ⟨AR, cR, r, _⟩ := a3.get (i := m) (by omega); exact ⟨_, r⟩
     have fR := a3.free m
     have hlR := a3.lt
     have hlX := a1.lt
     have hmi : (m : Int) < (zz.pages.length : Int) := by omega
     obtain ⟨w2, hw2⟩ : ∃ w2, w2 = wr.alloc (.cells #[.int .i64 (m : Int), .slice Ai x.body.length ci] 53) := ⟨_, rfl⟩
     have b2 : Below wr.heap.size wr w2 := by rw [hw2]; exact b1alloc _ _
     have FP : Blk w2 wr.heap.size [.int .i64 (m : Int), .slice Ai x.body.length ci] := by rw [hw2]; exact Blk.new wr [.int .i64 (m : Int), .slice Ai x.body.length ci] 53
     have FX := a1.on b2
     have hlP := FP.lt
     have HS2 := Lib.hid (fun W (bW : Below w2.heap.size w2 W) => show W.cell? ⟨X, 10, none⟩ = some (.slice (some ⟨R, 0, none⟩) zz.pages.length c') /\ W.cell? ⟨wr.heap.size, 0, none⟩ = some (.int .i64 (m : Int)) /\ W.cell? ⟨wr.heap.size, 1, none⟩ = some (.slice Ai x.body.length ci) from
       ⟨(FX.on bW).cell (k := 10) (by simp), (FP.on bW).cell (k := 0) (by simp), (FP.on bW).cell (k := 1) (by simp)⟩)
     have HS3 := Lib.hid (fun W (bW : Below w2.heap.size w2 W) (v : Value) => show (W.setCell ⟨R, m, none⟩ v).cell? ⟨X, 10, none⟩ = some (.slice (some ⟨R, 0, none⟩) zz.pages.length c') /\ (W.setCell ⟨R, m, none⟩ v).cell? ⟨wr.heap.size, 0, none⟩ = some (.int .i64 (m : Int)) /\ (W.setCell ⟨R, m, none⟩ v).cell? ⟨wr.heap.size, 1, none⟩ = some (.slice Ai x.body.length ci) from
       ⟨((FX.on bW).other v hS.nX.1).cell (k := 10) (by simp), ((FP.on bW).other v (by omega)).cell (k := 0) (by simp), ((FP.on bW).other v (by omega)).cell (k := 1) (by simp)⟩)
     have HC := Lib.hid (fun W (bW : Below w2.heap.size w2 W) => Sl.clone_any Ai x.body _ ci W rfl ((hx.rd.rd.on b2).on bW) (by omega))
     have HFR := Lib.hid (fun W (bW : Below w2.heap.size w2 W) => show W.cell? ⟨R, m, none⟩ = some vR /\ W.frozen? ⟨R, m, none⟩ = false from
       ⟨(World.cell?_of_block ((bt b2 bW).block _ hlR)).trans r0, (World.frozen?_of_block ((bt b2 bW).block _ hlR)).trans fR⟩)
     have cz : Below w2.heap.size w2 w2.drew := (Below.refl _ _).drew
     have HW2 := Lib.hid hw2
     have HB2 := Lib.hid b2
     have HSS := Lib.hid hS
     have Htk := Lib.hid htk
     have Hx0 := Lib.hid hxn
     have Hkr := Lib.hid kr
     clear hw2 FP FX a1 a3 hS htk hx0 hx hxn p1 p2 p3 hm kr z0 z1 z2 z3 z4 z5 z6 z7 z8 z9 z11 z12 hzz0 hzz hzl b2
     go_upto_region 3 with (fail)
     rw [<- HW2.out]
     go_region_held3 (fun W => W.cell? ⟨X, 10, none⟩ = some (.slice (some ⟨R, 0, none⟩) zz.pages.length c') /\ W.cell? ⟨wr.heap.size, 0, none⟩ = some (.int .i64 (m : Int)) /\ W.cell? ⟨wr.heap.size, 1, none⟩ = some (.slice Ai x.body.length ci)) (first | exact HS2.out _ cz | exact HS2.out _ bt1 | exact HS3.out _ bt1 _) ((go_at_call 57; refine (HC.out _ cz).mono ?_; rintro e w3 ⟨A3, c3, rfl, o3, b3⟩; have bt1 := bt cz b3; obtain ⟨y0, y1⟩ := HFR.out w3 bt1; have o4 := Lib.hid o3; clear o3))
     obtain ⟨s1, s2⟩ := SAt.put1 HSS.out (bt HB2.out bt1) (A := A3) (c := c3) (x := x) (m := (m : Int)) Hx0.out.symm (by omega) (own_base o4.out (by have := HB2.out.size; have := cz.size; omega))
     have S1 := Lib.hid s1
     have S2 := Lib.hid s2
     clear s1 s2 y0 y1
     go_wp2_with fail
     case roundEnd =>
       refine ⟨⟨k + 1, by omega, by go_num, Hkr.out.trans S2.out (Fresh.refl _ _), by rw [Htk.out]; exact S1.out⟩, by simp only [intOf]; omega⟩
   · obtain rfl : k = pages.length := by omega
     have hkn : ¬ (pages.length : Int) < (pages.length : Int) := by omega
     rw [List.take_length] at hS
     have HSS := Lib.hid hS
     have HK := Lib.hid kr
     clear hS kr
     go_wp2_with fail
     go_end0
     exact ⟨rfl, HSS.out, HK.out⟩
end Go.Proofs.YtchcmklelmlbgaaGreat.Sto
namespace Go.Proofs.YtchcmklelmlbgaaGreat.Sto
open Go.RowKit
open Go.Proofs.YtchcmklelmlbgaaGreat.Geom
open Go.Proofs.YtchcmklelmlbgaaGreat.Disk (St DAt Did)
open Go.Proofs.YtchcmklelmlbgaaGreat.Sup (Gb gv gcell gthree srightF splace sB sL wf sv scell)
open Go.Proofs.YtchcmklelmlbgaaGreat.Snap (snapF)
open Go.Proofs.YtchcmklelmlbgaaGreat.Wal (LAt lcell wrightF)
set_option linter.unusedVariables false
set_option maxRecDepth 100000
theorem right_any (g : Nat) (fp : List Nat) (s : St) (gS : Nat) (ga gd gl : Int) (w : World) (hG : Gb ga gd gl) (h : DAt w g fp s) : Calls Tryz.prog 36 #[.pointer (some ⟨g, 0, none⟩), .pointer (some ⟨gS, 0, none⟩), gv ga gd gl] w fun e w' => e = .returned (.int .i64 (srightF s ga gd gl)) /\ Below w.heap.size w w' := by
 have F := Blk.new w (gcell ga gd gl) 23
 have b0 := b1alloc w (.cells (gcell ga gd gl).toArray 23)
 obtain ⟨z0, z1, z2⟩ := gthree F
 have HR := Lib.hid (fun W => Geom.right_any ga gd gl W hG.a0 hG.a1 hG.d0 hG.d1 hG.g0 hG.g1)
 have HZ := Lib.hid (fun W => Geom.size_any ga gd gl W hG.a0 hG.a1 hG.d0 hG.d1 hG.g0 hG.g1)
 have HD := Lib.hid (fun W (bW : Below w.heap.size w W) => Disk.size_any g fp s W (h.on bW))
 unfold srightF
 obtain ⟨q, hq⟩ : ∃ q, q = right ga gd gl := ⟨_, rfl⟩
 obtain ⟨z, hz⟩ : ∃ z, z = Geom.sizeOf ga gd gl := ⟨_, rfl⟩
 rw [<- hq] at HR ⊢
 rw [<- hz] at HZ ⊢
 clear hq hz
 cases q with
 | false =>
   rw [if_neg (by simp)]
   go_enter Tryz.func36, Tryz.ntmps36
   go_wp2_with fail
   refine region_inb (by kernel_rfl) (by kernel_rfl) ?_
   have inbNe := InB.some
   have inbW := @wrap_small
   have inbU := IntKind.wrap_u8'
   repeat (refine wpQuiet_step (fun K hK => ?_); go_simp; first | (refine hK _ ?_; clear hK K) | (apply Exists.intro; refine ⟨?_, hK _ ?_⟩; (· (intro w' hw'; first | (go_at_call 67; refine (HR.out _).mono ?_; rintro e w1 ⟨rfl, b1⟩; exact ⟨rfl, hw'.on b1⟩) | (have hcw := hw'.cell; go_simp; exact rfl))); clear hK K))
   refine wpQuiet_nil ?_
   intro wq hq
   clear inbNe inbW inbU
   go_wp2
   go_ret
   exact ⟨rfl, bt b0 hq.below⟩
 | true =>
   by_cases hs : (s.size : Int) = z
   · rw [if_pos ⟨rfl, hs⟩]
     have t0 := bne_no hs
     have Hs := Lib.hid hs
     clear hs
     go_enter Tryz.func36, Tryz.ntmps36
     go_wp2_with fail
     refine region_inb (by kernel_rfl) (by kernel_rfl) ?_
     have inbNe := InB.some
     have inbW := @wrap_small
     have inbU := IntKind.wrap_u8'
     repeat (refine wpQuiet_step (fun K hK => ?_); go_simp; first | (refine hK _ ?_; clear hK K) | (apply Exists.intro; refine ⟨?_, hK _ ?_⟩; (· (intro w' hw'; first | (go_at_call 67; refine (HR.out _).mono ?_; rintro e w1 ⟨rfl, b1⟩; exact ⟨rfl, hw'.on b1⟩) | (go_at_call 68; refine (HD.out _ (bt b0 hw'.below)).mono ?_; rintro e w1 ⟨rfl, rfl⟩; exact ⟨rfl, hw'⟩) | (go_at_call 69; refine (HZ.out _).mono ?_; rintro e w1 ⟨rfl, b1⟩; exact ⟨rfl, hw'.on b1⟩) | (have hcw := hw'.cell; go_simp; exact rfl))); clear hK K))
     refine wpQuiet_nil ?_
     intro wq hq
     clear inbNe inbW inbU
     go_wp2
     go_ret
     exact ⟨rfl, bt b0 hq.below⟩
   · rw [if_neg (fun e => hs e.2)]
     have t0 := bne_yes hs
     have Hs := Lib.hid hs
     clear hs
     go_enter Tryz.func36, Tryz.ntmps36
     go_wp2_with fail
     refine region_inb (by kernel_rfl) (by kernel_rfl) ?_
     have inbNe := InB.some
     have inbW := @wrap_small
     have inbU := IntKind.wrap_u8'
     repeat (refine wpQuiet_step (fun K hK => ?_); go_simp; first | (refine hK _ ?_; clear hK K) | (apply Exists.intro; refine ⟨?_, hK _ ?_⟩; (· (intro w' hw'; first | (go_at_call 67; refine (HR.out _).mono ?_; rintro e w1 ⟨rfl, b1⟩; exact ⟨rfl, hw'.on b1⟩) | (go_at_call 68; refine (HD.out _ (bt b0 hw'.below)).mono ?_; rintro e w1 ⟨rfl, rfl⟩; exact ⟨rfl, hw'⟩) | (go_at_call 69; refine (HZ.out _).mono ?_; rintro e w1 ⟨rfl, b1⟩; exact ⟨rfl, hw'.on b1⟩) | (have hcw := hw'.cell; go_simp; exact rfl))); clear hK K))
     refine wpQuiet_nil ?_
     intro wq hq
     clear inbNe inbW inbU
     go_wp2
     go_ret
     exact ⟨rfl, bt b0 hq.below⟩
set_option maxHeartbeats 1000000 in
theorem begin1_any (X R L g : Nat) (fp : List Nat) (gS bS : Nat) (ga gd gl : Int) (z : Z) (s : St) (l : List (List UInt8)) (life : UInt64) (base : Int) (gen : UInt64) (bX bA : Nat) (w : World) (hG : Gb ga gd gl) (h : SAt w X R L g fp gS bS ga gd gl z s l) (hX : Box w bX (.pointer (some ⟨X, 0, none⟩))) (hA : Blk w bA (scell life base gen))
   (hl : l.length <= 900000) (hs : s.sz <= 80000000) (hf : srightF s ga gd gl = 0) (hn : (z.pages.length : Int) = pagesOf ga gd gl) (hlong : Snap.longB z.pages = false) :
   Calls Tryz.prog 77 #[.pointer (some ⟨bX, 0, none⟩), .pointer (some ⟨bA, 0, none⟩)] w fun e w' => e = .returned (.int .i64 (snapF ga gd gl life z.pages l s).2.2) /\ Turn w g fp gS bS (snapF ga gd gl life z.pages l s).2.1 (snapF ga gd gl life z.pages l s).1 w' := by
 obtain ⟨lv, c, h1, _, h3⟩ := h.blk
 obtain ⟨z0, z1, z2, z3, z4, z5, z6, z7, z8, z9, z10, z11, z12⟩ := thirteen h1
 obtain ⟨a0, a1, a2⟩ := gthree hA
 have q0 := hX.cell
 have HW := Lib.hid (fun W (bW : Below w.heap.size w W) => Snap.write_any g fp s gS bS l ga gd gl life (fun j => j ∉ bS :: fp) (some ⟨R, 0, none⟩) z.pages c W hG (h.both.on bW) hl hs hf ((h3.rw (fun j _ hj => by simp [hj.2.2.2.1, hj.2.2.2.2.2]) (by simp [h.nR])).on bW) (fun j hj _ => hj) hn hlong)
 obtain ⟨V, hV⟩ : ∃ V, V = snapF ga gd gl life z.pages l s := ⟨_, rfl⟩
 rw [<- hV] at HW ⊢
 have hlX := h1.lt
 have hlA := hA.lt
 have hlB := hX.lt
 clear hV h1 h3 h hX hA hl hs hf hn hlong hG
 go_enter Tryz.func77, Tryz.ntmps77
 go_wp2_with fail
 refine region_inb_tail 18 (by kernel_rfl) (by kernel_rfl) ?_
 simp only [List.take_succ_cons, List.take_zero, List.drop_succ_cons, List.drop_zero]
 have inbNe := InB.some
 have inbW := @wrap_small
 have inbU := IntKind.wrap_u8'
 repeat (refine wpQuiet_step (fun K hK => ?_); go_simp; first | (refine hK _ ?_; clear hK K) | (apply Exists.intro; refine ⟨?_, hK _ ?_⟩; (· (intro w' hw'; first | (have hcw := hw'.cell; go_simp; exact rfl))); clear hK K))
 refine wpQuiet_nil ?_
 intro wq hq
 clear inbNe inbW inbU
 go_wp2_with (go_at_call 78; refine (HW.out _ hq.below).mono ?_; rintro e w1 ⟨rfl, t1⟩)
 go_ret
 exact ⟨rfl, Turn.trans (Keep.of_below hq.below _) (Fresh.refl _ _) t1⟩
set_option maxHeartbeats 1000000 in
theorem begin2_any (X R L g : Nat) (fp : List Nat) (gS bS : Nat) (ga gd gl : Int) (z : Z) (s : St) (l : List (List UInt8)) (life : UInt64) (base : Int) (gen : UInt64) (bX bA : Nat) (w : World) (hG : Gb ga gd gl) (h : SAt w X R L g fp gS bS ga gd gl z s l) (hX : Box w bX (.pointer (some ⟨X, 0, none⟩))) (hA : Blk w bA (scell life base gen))
   (hl : l.length <= 1000000) (hs : s.sz <= 90000000) (hf : srightF s ga gd gl = 0) (hb0 : 0 <= base) (hb1 : base <= 1073741824) :
   Calls Tryz.prog 79 #[.pointer (some ⟨bX, 0, none⟩), .pointer (some ⟨bA, 0, none⟩)] w fun e w' => e = .returned (.int .i64 (wf s (splace life) (sB l ga gd gl life base gen)).2) /\ Turn w g fp gS bS (wf s (splace life) (sB l ga gd gl life base gen)).1 (sL l ga gd gl life base gen) w' := by
 obtain ⟨lv, c, h1, _, h3⟩ := h.blk
 obtain ⟨z0, z1, z2, z3, z4, z5, z6, z7, z8, z9, z10, z11, z12⟩ := thirteen h1
 obtain ⟨a0, a1, a2⟩ := gthree hA
 have q0 := hX.cell
 have HW := Lib.hid (fun W (bW : Below w.heap.size w W) => Sup.write_any g fp s gS bS l ga gd gl life base gen W hG (h.both.on bW) hl hs hf hb0 hb1)
 obtain ⟨V, hV⟩ : ∃ V, V = wf s (splace life) (sB l ga gd gl life base gen) := ⟨_, rfl⟩
 obtain ⟨U, hU⟩ : ∃ V, V = sL l ga gd gl life base gen := ⟨_, rfl⟩
 rw [<- hV, <- hU] at HW ⊢
 have hlX := h1.lt
 have hlA := hA.lt
 have hlB := hX.lt
 clear hV hU h1 h3 h hX hA hl hs hf hb0 hb1 hG
 go_enter Tryz.func79, Tryz.ntmps79
 go_wp2_with fail
 refine region_inb_tail 13 (by kernel_rfl) (by kernel_rfl) ?_
 simp only [List.take_succ_cons, List.take_zero, List.drop_succ_cons, List.drop_zero]
 have inbNe := InB.some
 have inbW := @wrap_small
 have inbU := IntKind.wrap_u8'
 repeat (refine wpQuiet_step (fun K hK => ?_); go_simp; first | (refine hK _ ?_; clear hK K) | (apply Exists.intro; refine ⟨?_, hK _ ?_⟩; (· (intro w' hw'; first | (have hcw := hw'.cell; go_simp; exact rfl))); clear hK K))
 refine wpQuiet_nil ?_
 intro wq hq
 clear inbNe inbW inbU
 go_wp2_with (go_at_call 80; refine (HW.out _ hq.below).mono ?_; rintro e w1 ⟨rfl, t1⟩)
 go_ret
 exact ⟨rfl, Turn.trans (Keep.of_below hq.below _) (Fresh.refl _ _) t1⟩
end Go.Proofs.YtchcmklelmlbgaaGreat.Sto
