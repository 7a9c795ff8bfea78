/- Texts of this claim, joined: Rw, Sup3, Sup4, SupPlain, EncPlain, Snap4, SeqOk, RegionIn, RegionW, Snap5, Snap6, Snap7. -/
import Derived.Test.YtchcmklelmlbgaaGreatStoreNilsD
import Derived.Test.YtchcmklelmlbgaaGreatStoreNilsB
import Derived.Test.YtchcmklelmlbgaaGreatStoreNilsA
import Derived.OrdersIn
import Derived.RangeFuncCalls
import Derived.OwnWalkIn
/- Rows of bytes that lie in blocks of a kind: they stay while other blocks are turned. No statement is proved here. -/
namespace Go.Proofs.YtchcmklelmlbgaaGreat
open Go.RowKit
set_option linter.unusedVariables false
/-- cells, in a block of a kind -/
def RdQ (w : World) (Q : Nat → Prop) (A : Option Addr) (xs : List Value) : Prop :=
  xs ≠ [] → ∃ b off, A = some ⟨b, off, none⟩ ∧ b < w.heap.size ∧ Q b ∧ ∀ i (h : i < xs.length), w.cell? ⟨b, off + i, none⟩ = some xs[i]
theorem RdQ.nil (w : World) (Q : Nat → Prop) (A : Option Addr) : RdQ w Q A [] := fun h => absurd rfl h
theorem RdQ.rd {w : World} {Q : Nat → Prop} {A : Option Addr} {xs : List Value} (h : RdQ w Q A xs) : Rd w w.heap.size A xs := fun hne => by
  obtain ⟨b, off, rfl, hb, _, hc⟩ := h hne
  exact ⟨b, off, rfl, hb, hc⟩
theorem RdQ.keep {w w' : World} {Q : Nat → Prop} {A : Option Addr} {xs : List Value} {fp : List Nat} (h : RdQ w Q A xs) (k : Keep fp w w') (hf : ∀ j, Q j → j < w.heap.size → j ∉ fp) : RdQ w' Q A xs := fun hne => by
  obtain ⟨b, off, rfl, hb, hq, hc⟩ := h hne
  exact ⟨b, off, rfl, Nat.lt_of_lt_of_le hb k.size, hq, fun i hi => (World.cell?_of_block (k.block hb (hf b hq hb))).trans (hc i hi)⟩
theorem RdQ.imp {w : World} {Q Q' : Nat → Prop} {A : Option Addr} {xs : List Value} (h : RdQ w Q A xs) (hq : ∀ j, j < w.heap.size → Q j → Q' j) : RdQ w Q' A xs := fun hne => by
  obtain ⟨b, off, rfl, hb, h1, hc⟩ := h hne
  exact ⟨b, off, rfl, hb, hq b hb h1, hc⟩
theorem RdQ.on {w w' : World} {Q : Nat → Prop} {A : Option Addr} {xs : List Value} (h : RdQ w Q A xs) (b : Below w.heap.size w w') : RdQ w' Q A xs := h.keep (Keep.of_below b []) (fun j _ _ => by simp)
theorem RdQ.own {w : World} {base : Nat} {e : TypeId} {A : Option Addr} {n c : Nat} {xs : List Value} (h : w.ownsRow base e 1 (.slice A n c) n xs) : RdQ w (fun j => base ≤ j) A xs := by
  intro hne
  rcases h.2 with ⟨hv, hn⟩ | ⟨g, cap, cur, hv, hg, hh, hnc, hcm, hcs, ht⟩
  · exact absurd (List.eq_nil_of_length_eq_zero (by have := h.1; omega)) hne
  · injection hv with hA _ _
    subst hA
    refine ⟨g, 0, rfl, lt_of_block hh, hg, fun i hi => ?_⟩
    have hl := h.1
    have := World.ownsRow.cellAt (j := i) h (by omega)
    rw [Nat.zero_add, this]; exact List.getElem?_eq_getElem hi
/-- rows of bytes, in blocks of a kind -/
def Rw (w : World) (Q : Nat → Prop) (A : Option Addr) (l : List (List UInt8)) : Prop :=
  l ≠ [] → ∃ b off, A = some ⟨b, off, none⟩ ∧ b < w.heap.size ∧ Q b ∧ ∀ i (h : i < l.length), ∃ Ai ci, w.cell? ⟨b, off + i, none⟩ = some (.slice Ai l[i].length ci) ∧ RdQ w Q Ai (l[i].map e8) ∧ l[i].length ≤ ci ∧ ci ≤ maxLen
theorem Rw.nil (w : World) (Q : Nat → Prop) (A : Option Addr) : Rw w Q A [] := fun h => absurd rfl h
theorem Rw.get {w : World} {Q : Nat → Prop} {A : Option Addr} {l : List (List UInt8)} (h : Rw w Q A l) {i : Nat} (hi : i < l.length) :
    ∃ b off Ai ci, A = some ⟨b, off, none⟩ ∧ b < w.heap.size ∧ w.cell? ⟨b, off + i, none⟩ = some (.slice Ai l[i].length ci) ∧ RdQ w Q Ai (l[i].map e8) ∧ l[i].length ≤ ci ∧ ci ≤ maxLen := by
  obtain ⟨b, off, rfl, hb, _, hc⟩ := h (by intro e; rw [e] at hi; exact absurd hi (by simp))
  obtain ⟨Ai, ci, h1⟩ := hc i hi
  exact ⟨b, off, Ai, ci, rfl, hb, h1⟩
theorem Rw.keep {w w' : World} {Q : Nat → Prop} {A : Option Addr} {l : List (List UInt8)} {fp : List Nat} (h : Rw w Q A l) (k : Keep fp w w') (hf : ∀ j, Q j → j < w.heap.size → j ∉ fp) : Rw w' Q A l := fun hne => by
  obtain ⟨b, off, rfl, hb, hq, hc⟩ := h hne
  refine ⟨b, off, rfl, Nat.lt_of_lt_of_le hb k.size, hq, fun i hi => ?_⟩
  obtain ⟨Ai, ci, h1, h2, h3⟩ := hc i hi
  exact ⟨Ai, ci, (World.cell?_of_block (k.block hb (hf b hq hb))).trans h1, h2.keep k hf, h3⟩
theorem Rw.on {w w' : World} {Q : Nat → Prop} {A : Option Addr} {l : List (List UInt8)} (h : Rw w Q A l) (b : Below w.heap.size w w') : Rw w' Q A l := h.keep (Keep.of_below b []) (fun j _ _ => by simp)
theorem Rw.imp {w : World} {Q Q' : Nat → Prop} {A : Option Addr} {l : List (List UInt8)} (h : Rw w Q A l) (hq : ∀ j, j < w.heap.size → Q j → Q' j) : Rw w Q' A l := fun hne => by
  obtain ⟨b, off, rfl, hb, h1, hc⟩ := h hne
  refine ⟨b, off, rfl, hb, hq b hb h1, fun i hi => ?_⟩
  obtain ⟨Ai, ci, g1, g2, g3⟩ := hc i hi
  exact ⟨Ai, ci, g1, g2.imp hq, g3⟩
theorem Rw.rws {w : World} {Q : Nat → Prop} {A : Option Addr} {l : List (List UInt8)} (h : Rw w Q A l) : Rws w w.heap.size A l := fun hne => by
  obtain ⟨b, off, rfl, hb, _, hc⟩ := h hne
  refine ⟨b, off, rfl, hb, fun i hi => ?_⟩
  obtain ⟨Ai, ci, h1, h2, h3⟩ := hc i hi
  exact ⟨Ai, ci, h1, h2.rd, h3⟩
theorem Rd.q {w : World} {B : Nat} {A : Option Addr} {xs : List Value} (h : Rd w B A xs) (hB : B ≤ w.heap.size) : RdQ w (fun j => j < B) A xs := fun hne => by
  obtain ⟨b, off, rfl, hb, hc⟩ := h hne
  exact ⟨b, off, rfl, Nat.lt_of_lt_of_le hb hB, hb, hc⟩
theorem Rws.rw {w : World} {B : Nat} {A : Option Addr} {l : List (List UInt8)} (h : Rws w B A l) (hB : B ≤ w.heap.size) : Rw w (fun j => j < B) A l := fun hne => by
  obtain ⟨b, off, rfl, hb, hc⟩ := h hne
  refine ⟨b, off, rfl, Nat.lt_of_lt_of_le hb hB, hb, fun i hi => ?_⟩
  obtain ⟨Ai, ci, h1, h2, h3⟩ := hc i hi
  exact ⟨Ai, ci, h1, h2.q hB, h3⟩
end Go.Proofs.YtchcmklelmlbgaaGreat

/- The supers: super.At and Read and what they come to. -/
namespace Go.Proofs.YtchcmklelmlbgaaGreat.Sup
open Go.RowKit
open Go.Proofs.YtchcmklelmlbgaaGreat.Geom
open Go.Proofs.YtchcmklelmlbgaaGreat.Disk (St DAt Did flush_any read_any New8 Told8)
open Go.Proofs.YtchcmklelmlbgaaGreat.Sec (X SymAt text sumOf sumAfter ckS blankB rightF encode_sym decode_sym isBlank_any right_0 right_2 xv RetX X0 five5x)
set_option linter.unusedVariables false
set_option maxRecDepth 100000
/-- is what was read a super at a place? -/
def isSup (ga gd gl p : Int) (d : X × Int) : Bool := decide (d.2 = 0) && decide (d.1.kind = 2) && decide (splace d.1.life = p) && R1.sameB d.1.body (mk ga gd gl)
def dec (l : List (List UInt8)) (p : Int) (b : List UInt8) : X × Int := Sec.decode (ckS l b) p b
structure SV where
  life : UInt64
  base : Int
  gen : UInt64
def SV.v (x : SV) : Value := sv x.life x.base x.gen
def SV.zero : SV := ⟨0, 0, 0⟩
def atR (l : List (List UInt8)) (s : St) (ga gd gl p : Int) : Option SV :=
  if isSup ga gd gl p (dec l p (Disk.read s p).1) = true then some ⟨(dec l p (Disk.read s p).1).1.life, (dec l p (Disk.read s p).1).1.seq, (dec l p (Disk.read s p).1).1.gen⟩ else none
def atV : Option SV → Value
  | some x => .tuple #[x.v, .bool true, .int .i64 0]
  | none => .tuple #[SV.zero.v, .bool false, .int .i64 0]
theorem size_ge {ga gd gl : Int} (h : right ga gd gl = true) : 7 ≤ Geom.sizeOf ga gd gl := by
  have h1 := right_yes h
  have h2 := pagesOf_bd ga gd gl
  unfold Geom.sizeOf
  rw [if_pos h]; omega
theorem where_super {ga gd gl p : Int} (h : right ga gd gl = true) (h0 : 2 ≤ p) (h1 : p ≤ 3) : whereW ga gd gl p = ⟨#[115, 117, 112, 101, 114]⟩ := by
  have := size_ge h
  unfold whereW
  rw [if_neg (by omega), if_neg (by omega), if_pos (by omega)]
theorem srightF_yes {s : St} {ga gd gl : Int} (h : srightF s ga gd gl = 0) : right ga gd gl = true ∧ (s.size : Int) = Geom.sizeOf ga gd gl := by
  unfold srightF at h
  split at h
  · assumption
  · cases h
theorem read_up {s : St} (hd : s.down = false) {p : Int} (h0 : 0 ≤ p) (h1 : p < s.size) : Disk.read s p = (Disk.kept (s.all ++ s.pend) p.toNat, 0) := by
  unfold Disk.read
  rw [if_neg (by rw [hd]; simp), if_neg (by omega)]
set_option maxHeartbeats 2000000 in
theorem at_any (g : Nat) (fp : List Nat) (s : St) (gS bS : Nat) (l : List (List UInt8)) (ga gd gl p : Int) (w : World) (hG : Gb ga gd gl) (h : Both w g fp s gS bS l) (hl : l.length ≤ 1000000) (hs : s.sz ≤ 90000000) (hf : srightF s ga gd gl = 0) (hd : s.down = false) (h0 : 2 ≤ p) (h1 : p ≤ 3) :
    Calls Tryz.prog 89 #[.pointer (some ⟨g, 0, none⟩), .pointer (some ⟨gS, 0, none⟩), gv ga gd gl, .int .i64 p] w fun e w' => e = .returned (atV (atR l s ga gd gl p)) ∧ Below w.heap.size w w' := by
  obtain ⟨hrt, hsz⟩ := srightF_yes hf
  have hsg := size_ge hrt
  have FG := (Blk.new w (gcell ga gd gl) 23).alloc (.cells #[.int .u64 0, .int .i64 0, .int .u64 0] 90)
  have FX : Blk ((w.alloc (.cells (gcell ga gd gl).toArray 23)).alloc (.cells #[.int .u64 0, .int .i64 0, .int .u64 0] 90)) (w.heap.size + 1) [.int .u64 0, .int .i64 0, .int .u64 0] := by simpa using Blk.new (w.alloc (.cells (gcell ga gd gl).toArray 23)) [.int .u64 0, .int .i64 0, .int .u64 0] 90
  have b0 := b2alloc w (.cells (gcell ga gd gl).toArray 23) (.cells #[.int .u64 0, .int .i64 0, .int .u64 0] 90)
  obtain ⟨z0, z1, z2⟩ := gthree FG
  have HB := Lib.hid (both_any g fp s gS ga gd gl _ hG (h.disk.on b0))
  rw [hf] at HB
  have HM := Lib.hid (fun W => mark_any ga gd gl W hG)
  have hWh := fun W => where_any ga gd gl p W hG.a0 hG.a1 hG.d0 hG.d1 hG.g0 hG.g1 (show Geom.lo ≤ p by unfold Geom.lo; omega) (show p ≤ Geom.hi by unfold Geom.hi; omega)
  rw [where_super hrt h0 h1] at hWh
  have hR := fun W (bW : Below w.heap.size w W) => read_any g fp s p W (h.disk.on bW) (by omega)
  have hru := read_up (s := s) hd (p := p) (by omega) (by omega)
  have hlen : (Disk.read s p).1.length = 512 := by rw [hru]; exact Disk.kept_len (n := s.size) (fun x hx => (List.mem_append.1 hx).elim (h.disk.ok.all x) (h.disk.ok.pend x)) _
  have hr2 : (Disk.read s p).2 = 0 := by rw [hru]
  unfold atR dec
  obtain ⟨r, hr⟩ : ∃ r, r = Disk.read s p := ⟨_, rfl⟩
  rw [← hr] at hR hlen hr2 ⊢
  have hD := fun W (bW : Below w.heap.size w W) A c hrd hc hcm => decode_sym p gS bS l A r.1 _ c W (h.sym.on bW) hl (by omega) (by omega) rfl hrd (by omega) hc hcm
  obtain ⟨d, hd'⟩ : ∃ d, d = Sec.decode (ckS l r.1) p r.1 := ⟨_, rfl⟩
  rw [← hd'] at hD ⊢
  obtain ⟨wk, hwk⟩ : ∃ wk, wk = whereK ga gd gl p := ⟨_, rfl⟩
  rw [← hwk] at hWh
  have HR := Lib.hid hR
  have HD := Lib.hid hD
  have HW := Lib.hid hWh
  have FGh := Lib.hid FG
  have FXh := Lib.hid FX
  have Hr2 := Lib.hid hr2
  clear hr hR hD hd' hru hwk hWh hlen hrt hsz hsg FG FX hr2
  by_cases e0 : d.2 = 0
  rotate_left
  · rw [if_neg (by simp [isSup, e0])]
    have t0 := beq_no e0
    clear e0
    go_enter Tryz.func89, Tryz.ntmps89
    go_wp2_with (first
      | (go_at_call 87; refine HB.out.mono ?_; rintro e w1 ⟨rfl, b1⟩; obtain ⟨y0, y1, y2⟩ := gthree (FGh.out.on b1); have b01 := bt b0 b1)
      | (go_at_call 110; refine (HW.out _).mono ?_; rintro e w2 ⟨rfl, b2⟩; have b02 := bt b01 b2)
      | (go_at_call 111; refine (HR.out _ b02).mono ?_; rintro e w3 ⟨v, rfl, hN, b3⟩; rw [Hr2.out]; obtain ⟨A1, c1, rfl, hc1, hm1, rd1⟩ := hN.rdN (fp := []) (by simp); have b03 := bt b02 b3)
      | (go_at_call 112; refine (HD.out _ b03 _ _ rd1.rd hc1 hm1).mono ?_; rintro e w4 ⟨⟨A4, c4, rfl, own4⟩, b4⟩; unfold xv; have b04 := bt b03 b4))
    have FD := Blk.new w4 [.int .i64 d.1.kind, .int .u64 (d.1.life.toNat : Int), .int .i64 d.1.seq, .int .u64 (d.1.gen.toNat : Int), .slice A4 d.1.body.length c4] 157
    have b5 := b1alloc w4 (.cells ([.int .i64 d.1.kind, .int .u64 (d.1.life.toNat : Int), .int .i64 d.1.seq, .int .u64 (d.1.gen.toNat : Int), .slice A4 d.1.body.length c4] : List Value).toArray 157)
    have FX4 := (FXh.out.on (bt (bt (bt b1 b2) b3) b4)).on b5
    have FG4 := (FGh.out.on (bt (bt (bt b1 b2) b3) b4)).on b5
    have own5 := own_on own4 b5
    obtain ⟨w5, hw5⟩ : ∃ w5, w5 = w4.alloc (.cells ([.int .i64 d.1.kind, .int .u64 (d.1.life.toNat : Int), .int .i64 d.1.seq, .int .u64 (d.1.gen.toNat : Int), .slice A4 d.1.body.length c4] : List Value).toArray 157) := ⟨_, rfl⟩
    rw [show w4.alloc (.cells #[.int .i64 d.1.kind, .int .u64 (d.1.life.toNat : Int), .int .i64 d.1.seq, .int .u64 (d.1.gen.toNat : Int), .slice A4 d.1.body.length c4] 157) = w5 from hw5.symm]
    obtain ⟨hD5, hh5⟩ : ∃ q, q = w4.heap.size := ⟨_, rfl⟩
    rw [← hw5] at FD FX4 FG4 b5 own5
    rw [← hh5] at FD ⊢
    have b05 := bt b04 b5
    clear hw5 hh5 b5 b04 b4 rd1 hN b3 b03 own4
    have hltD := FD.lt
    obtain ⟨x0, x1, x2, x3, x4⟩ := five5x FD
    obtain ⟨u0, u1, u2⟩ := gthree FX4
    obtain ⟨g0', g1', g2'⟩ := gthree FG4
    refine region_inb (by kernel_rfl) (by kernel_rfl) ?_
    have inbNe := InB.some
    have inbW := @wrap_small
    have inbU := IntKind.wrap_u8'
    repeat (refine wpQuiet_step (fun K hK => ?_); go_simp; first | (refine hK _ ?_; clear hK K) | (apply Exists.intro; refine ⟨?_, hK _ ?_⟩; (· (intro w' hw'; first | fail | (have hcw := hw'.cell; go_simp; exact rfl))); clear hK K))
    refine wpQuiet_nil ?_
    intro wq hq
    clear inbNe inbW inbU
    clear u0 u1 u2
    obtain ⟨u0, u1, u2⟩ := gthree (FX4.on hq.below)
    have fx := (FX4.on hq.below).free
    go_wp2
    refine bodyPost_ret (v := atV none) (by simp [results, Tryz.results89, go_sem, atV, SV.v, SV.zero, sv, *]) rfl ⟨rfl, ?_⟩
    have bq := bt b05 hq.below
    first | exact bq | exact bset (bset (bset bq (by omega) _) (by omega) _) (by omega) _
  have t0 := beq_yes e0
  by_cases e1 : d.1.kind = 2
  rotate_left
  · rw [if_neg (by simp [isSup, e1])]
    have t1 := beq_no e1
    clear e0 e1
    go_enter Tryz.func89, Tryz.ntmps89
    go_wp2_with (first
      | (go_at_call 87; refine HB.out.mono ?_; rintro e w1 ⟨rfl, b1⟩; obtain ⟨y0, y1, y2⟩ := gthree (FGh.out.on b1); have b01 := bt b0 b1)
      | (go_at_call 110; refine (HW.out _).mono ?_; rintro e w2 ⟨rfl, b2⟩; have b02 := bt b01 b2)
      | (go_at_call 111; refine (HR.out _ b02).mono ?_; rintro e w3 ⟨v, rfl, hN, b3⟩; rw [Hr2.out]; obtain ⟨A1, c1, rfl, hc1, hm1, rd1⟩ := hN.rdN (fp := []) (by simp); have b03 := bt b02 b3)
      | (go_at_call 112; refine (HD.out _ b03 _ _ rd1.rd hc1 hm1).mono ?_; rintro e w4 ⟨⟨A4, c4, rfl, own4⟩, b4⟩; unfold xv; have b04 := bt b03 b4))
    have FD := Blk.new w4 [.int .i64 d.1.kind, .int .u64 (d.1.life.toNat : Int), .int .i64 d.1.seq, .int .u64 (d.1.gen.toNat : Int), .slice A4 d.1.body.length c4] 157
    have b5 := b1alloc w4 (.cells ([.int .i64 d.1.kind, .int .u64 (d.1.life.toNat : Int), .int .i64 d.1.seq, .int .u64 (d.1.gen.toNat : Int), .slice A4 d.1.body.length c4] : List Value).toArray 157)
    have FX4 := (FXh.out.on (bt (bt (bt b1 b2) b3) b4)).on b5
    have FG4 := (FGh.out.on (bt (bt (bt b1 b2) b3) b4)).on b5
    have own5 := own_on own4 b5
    obtain ⟨w5, hw5⟩ : ∃ w5, w5 = w4.alloc (.cells ([.int .i64 d.1.kind, .int .u64 (d.1.life.toNat : Int), .int .i64 d.1.seq, .int .u64 (d.1.gen.toNat : Int), .slice A4 d.1.body.length c4] : List Value).toArray 157) := ⟨_, rfl⟩
    rw [show w4.alloc (.cells #[.int .i64 d.1.kind, .int .u64 (d.1.life.toNat : Int), .int .i64 d.1.seq, .int .u64 (d.1.gen.toNat : Int), .slice A4 d.1.body.length c4] 157) = w5 from hw5.symm]
    obtain ⟨hD5, hh5⟩ : ∃ q, q = w4.heap.size := ⟨_, rfl⟩
    rw [← hw5] at FD FX4 FG4 b5 own5
    rw [← hh5] at FD ⊢
    have b05 := bt b04 b5
    clear hw5 hh5 b5 b04 b4 rd1 hN b3 b03 own4
    have hltD := FD.lt
    obtain ⟨x0, x1, x2, x3, x4⟩ := five5x FD
    obtain ⟨u0, u1, u2⟩ := gthree FX4
    obtain ⟨g0', g1', g2'⟩ := gthree FG4
    refine region_inb (by kernel_rfl) (by kernel_rfl) ?_
    have inbNe := InB.some
    have inbW := @wrap_small
    have inbU := IntKind.wrap_u8'
    repeat (refine wpQuiet_step (fun K hK => ?_); go_simp; first | (refine hK _ ?_; clear hK K) | (apply Exists.intro; refine ⟨?_, hK _ ?_⟩; (· (intro w' hw'; first | fail | (have hcw := hw'.cell; go_simp; exact rfl))); clear hK K))
    refine wpQuiet_nil ?_
    intro wq hq
    clear inbNe inbW inbU
    clear u0 u1 u2
    obtain ⟨u0, u1, u2⟩ := gthree (FX4.on hq.below)
    have fx := (FX4.on hq.below).free
    go_wp2
    refine bodyPost_ret (v := atV none) (by simp [results, Tryz.results89, go_sem, atV, SV.v, SV.zero, sv, *]) rfl ⟨rfl, ?_⟩
    have bq := bt b05 hq.below
    first | exact bq | exact bset (bset (bset bq (by omega) _) (by omega) _) (by omega) _
  have t1 := beq_yes e1
  have hSu := fun W => super_any d.1.life _ (by rfl) W
  rw [show (2 : Int) + (d.1.life.toNat : Int) % 2 = splace d.1.life from rfl] at hSu
  have HSu := Lib.hid hSu
  clear hSu
  by_cases e2 : splace d.1.life = p
  rotate_left
  · rw [if_neg (by simp [isSup, e2])]
    have t2 := beq_no e2
    clear e0 e1 e2
    go_enter Tryz.func89, Tryz.ntmps89
    go_wp2_with (first
      | (go_at_call 87; refine HB.out.mono ?_; rintro e w1 ⟨rfl, b1⟩; obtain ⟨y0, y1, y2⟩ := gthree (FGh.out.on b1); have b01 := bt b0 b1)
      | (go_at_call 110; refine (HW.out _).mono ?_; rintro e w2 ⟨rfl, b2⟩; have b02 := bt b01 b2)
      | (go_at_call 111; refine (HR.out _ b02).mono ?_; rintro e w3 ⟨v, rfl, hN, b3⟩; rw [Hr2.out]; obtain ⟨A1, c1, rfl, hc1, hm1, rd1⟩ := hN.rdN (fp := []) (by simp); have b03 := bt b02 b3)
      | (go_at_call 112; refine (HD.out _ b03 _ _ rd1.rd hc1 hm1).mono ?_; rintro e w4 ⟨⟨A4, c4, rfl, own4⟩, b4⟩; unfold xv; have b04 := bt b03 b4))
    have FD := Blk.new w4 [.int .i64 d.1.kind, .int .u64 (d.1.life.toNat : Int), .int .i64 d.1.seq, .int .u64 (d.1.gen.toNat : Int), .slice A4 d.1.body.length c4] 157
    have b5 := b1alloc w4 (.cells ([.int .i64 d.1.kind, .int .u64 (d.1.life.toNat : Int), .int .i64 d.1.seq, .int .u64 (d.1.gen.toNat : Int), .slice A4 d.1.body.length c4] : List Value).toArray 157)
    have FX4 := (FXh.out.on (bt (bt (bt b1 b2) b3) b4)).on b5
    have FG4 := (FGh.out.on (bt (bt (bt b1 b2) b3) b4)).on b5
    have own5 := own_on own4 b5
    obtain ⟨w5, hw5⟩ : ∃ w5, w5 = w4.alloc (.cells ([.int .i64 d.1.kind, .int .u64 (d.1.life.toNat : Int), .int .i64 d.1.seq, .int .u64 (d.1.gen.toNat : Int), .slice A4 d.1.body.length c4] : List Value).toArray 157) := ⟨_, rfl⟩
    rw [show w4.alloc (.cells #[.int .i64 d.1.kind, .int .u64 (d.1.life.toNat : Int), .int .i64 d.1.seq, .int .u64 (d.1.gen.toNat : Int), .slice A4 d.1.body.length c4] 157) = w5 from hw5.symm]
    obtain ⟨hD5, hh5⟩ : ∃ q, q = w4.heap.size := ⟨_, rfl⟩
    rw [← hw5] at FD FX4 FG4 b5 own5
    rw [← hh5] at FD ⊢
    have b05 := bt b04 b5
    clear hw5 hh5 b5 b04 b4 rd1 hN b3 b03 own4
    have hltD := FD.lt
    obtain ⟨x0, x1, x2, x3, x4⟩ := five5x FD
    obtain ⟨u0, u1, u2⟩ := gthree FX4
    obtain ⟨g0', g1', g2'⟩ := gthree FG4
    refine region_inb (by kernel_rfl) (by kernel_rfl) ?_
    have inbNe := InB.some
    have inbW := @wrap_small
    have inbU := IntKind.wrap_u8'
    repeat (refine wpQuiet_step (fun K hK => ?_); go_simp; first | (refine hK _ ?_; clear hK K) | (apply Exists.intro; refine ⟨?_, hK _ ?_⟩; (· (intro w' hw'; first | (go_at_call 99; refine (HSu.out _).mono ?_; rintro e x1 ⟨rfl, rfl⟩; exact ⟨rfl, hw'⟩) | (have hcw := hw'.cell; go_simp; exact rfl))); clear hK K))
    refine wpQuiet_nil ?_
    intro wq hq
    clear inbNe inbW inbU
    clear u0 u1 u2
    obtain ⟨u0, u1, u2⟩ := gthree (FX4.on hq.below)
    have fx := (FX4.on hq.below).free
    go_wp2
    refine bodyPost_ret (v := atV none) (by simp [results, Tryz.results89, go_sem, atV, SV.v, SV.zero, sv, *]) rfl ⟨rfl, ?_⟩
    have bq := bt b05 hq.below
    first | exact bq | exact bset (bset (bset bq (by omega) _) (by omega) _) (by omega) _
  have t2 := beq_yes e2
  have hSa := fun A B c d' W h3 h4 => Sec.nsame_any A B d.1.body (mk ga gd gl) d.1.body.length (mk ga gd gl).length c d' W rfl rfl h3 h4
  cases e3 : R1.sameB d.1.body (mk ga gd gl) with
  | false =>
    rw [if_neg (by simp [isSup, e3])]
    rw [e3] at hSa
    have HSa := Lib.hid hSa
    obtain ⟨M, hM⟩ : ∃ M, M = mk ga gd gl := ⟨_, rfl⟩
    rw [← hM] at HSa HM
    clear hSa e0 e1 e2 e3 hM
    go_enter Tryz.func89, Tryz.ntmps89
    go_wp2_with (first
      | (go_at_call 87; refine HB.out.mono ?_; rintro e w1 ⟨rfl, b1⟩; obtain ⟨y0, y1, y2⟩ := gthree (FGh.out.on b1); have b01 := bt b0 b1)
      | (go_at_call 110; refine (HW.out _).mono ?_; rintro e w2 ⟨rfl, b2⟩; have b02 := bt b01 b2)
      | (go_at_call 111; refine (HR.out _ b02).mono ?_; rintro e w3 ⟨v, rfl, hN, b3⟩; rw [Hr2.out]; obtain ⟨A1, c1, rfl, hc1, hm1, rd1⟩ := hN.rdN (fp := []) (by simp); have b03 := bt b02 b3)
      | (go_at_call 112; refine (HD.out _ b03 _ _ rd1.rd hc1 hm1).mono ?_; rintro e w4 ⟨⟨A4, c4, rfl, own4⟩, b4⟩; unfold xv; have b04 := bt b03 b4))
    have FD := Blk.new w4 [.int .i64 d.1.kind, .int .u64 (d.1.life.toNat : Int), .int .i64 d.1.seq, .int .u64 (d.1.gen.toNat : Int), .slice A4 d.1.body.length c4] 157
    have b5 := b1alloc w4 (.cells ([.int .i64 d.1.kind, .int .u64 (d.1.life.toNat : Int), .int .i64 d.1.seq, .int .u64 (d.1.gen.toNat : Int), .slice A4 d.1.body.length c4] : List Value).toArray 157)
    have FX4 := (FXh.out.on (bt (bt (bt b1 b2) b3) b4)).on b5
    have FG4 := (FGh.out.on (bt (bt (bt b1 b2) b3) b4)).on b5
    have own5 := own_on own4 b5
    obtain ⟨w5, hw5⟩ : ∃ w5, w5 = w4.alloc (.cells ([.int .i64 d.1.kind, .int .u64 (d.1.life.toNat : Int), .int .i64 d.1.seq, .int .u64 (d.1.gen.toNat : Int), .slice A4 d.1.body.length c4] : List Value).toArray 157) := ⟨_, rfl⟩
    rw [show w4.alloc (.cells #[.int .i64 d.1.kind, .int .u64 (d.1.life.toNat : Int), .int .i64 d.1.seq, .int .u64 (d.1.gen.toNat : Int), .slice A4 d.1.body.length c4] 157) = w5 from hw5.symm]
    obtain ⟨hD5, hh5⟩ : ∃ q, q = w4.heap.size := ⟨_, rfl⟩
    rw [← hw5] at FD FX4 FG4 b5 own5
    rw [← hh5] at FD ⊢
    have b05 := bt b04 b5
    clear hw5 hh5 b5 b04 b4 rd1 hN b3 b03 own4
    have hltD := FD.lt
    obtain ⟨x0, x1, x2, x3, x4⟩ := five5x FD
    obtain ⟨u0, u1, u2⟩ := gthree FX4
    obtain ⟨g0', g1', g2'⟩ := gthree FG4
    have cz : Below w5.heap.size w5 w5.drew := (Below.refl _ _).drew
    go_region_held3 (fun w' => (w'.cell? ⟨hD5, 0, none⟩ = some (.int .i64 d.1.kind) ∧ w'.cell? ⟨hD5, 1, none⟩ = some (.int .u64 (d.1.life.toNat : Int)) ∧ w'.cell? ⟨hD5, 2, none⟩ = some (.int .i64 d.1.seq) ∧ w'.cell? ⟨hD5, 3, none⟩ = some (.int .u64 (d.1.gen.toNat : Int)) ∧ w'.cell? ⟨hD5, 4, none⟩ = some (.slice A4 d.1.body.length c4)) ∧ (w'.cell? ⟨w.heap.size, 0, none⟩ = some (.int .i64 ga) ∧ w'.cell? ⟨w.heap.size, 1, none⟩ = some (.int .i64 gd) ∧ w'.cell? ⟨w.heap.size, 2, none⟩ = some (.int .i64 gl))) (first | exact ⟨five5x (FD.on cz), gthree (FG4.on cz)⟩ | exact ⟨five5x (FD.on (bt cz cm)), gthree (FG4.on (bt cz cm))⟩ | exact ⟨five5x (FD.on (bt (bt cz cm) cs)), gthree (FG4.on (bt (bt cz cm) cs))⟩) (first
      | (go_at_call 99; refine (HSu.out _).mono ?_; rintro e x6 ⟨rfl, rfl⟩)
      | (go_at_call 106; refine (HM.out _).mono ?_; rintro e x7 ⟨A7, c7, rfl, own7, cm⟩)
      | (go_at_call 113; refine (HSa.out A4 A7 c4 c7 _ ((Rd.own own5).on (bt cz cm)) (Rd.own own7)).mono ?_; rintro e x8 ⟨rfl, cs'⟩; have cs := (show Below x7.heap.size x7 x8 from cs' ▸ Below.refl _ _)))
    clear u0 u1 u2
    have bq := bt b05 (bt (bt cz cm) cs)
    obtain ⟨u0, u1, u2⟩ := gthree (FX4.on (bt (bt cz cm) cs))
    have fx := (FX4.on (bt (bt cz cm) cs)).free
    go_wp2
    refine bodyPost_ret (v := atV none) (by simp [results, Tryz.results89, go_sem, atV, SV.v, SV.zero, sv, *]) rfl ⟨rfl, ?_⟩
    exact bset (bset (bset bq (by omega) _) (by omega) _) (by omega) _
  | true =>
    rw [if_pos (by simp [isSup, e0, e1, e2, e3])]
    rw [e3] at hSa
    have HSa := Lib.hid hSa
    obtain ⟨M, hM⟩ : ∃ M, M = mk ga gd gl := ⟨_, rfl⟩
    rw [← hM] at HSa HM
    clear hSa e0 e1 e2 e3 hM
    go_enter Tryz.func89, Tryz.ntmps89
    go_wp2_with (first
      | (go_at_call 87; refine HB.out.mono ?_; rintro e w1 ⟨rfl, b1⟩; obtain ⟨y0, y1, y2⟩ := gthree (FGh.out.on b1); have b01 := bt b0 b1)
      | (go_at_call 110; refine (HW.out _).mono ?_; rintro e w2 ⟨rfl, b2⟩; have b02 := bt b01 b2)
      | (go_at_call 111; refine (HR.out _ b02).mono ?_; rintro e w3 ⟨v, rfl, hN, b3⟩; rw [Hr2.out]; obtain ⟨A1, c1, rfl, hc1, hm1, rd1⟩ := hN.rdN (fp := []) (by simp); have b03 := bt b02 b3)
      | (go_at_call 112; refine (HD.out _ b03 _ _ rd1.rd hc1 hm1).mono ?_; rintro e w4 ⟨⟨A4, c4, rfl, own4⟩, b4⟩; unfold xv; have b04 := bt b03 b4))
    have FD := Blk.new w4 [.int .i64 d.1.kind, .int .u64 (d.1.life.toNat : Int), .int .i64 d.1.seq, .int .u64 (d.1.gen.toNat : Int), .slice A4 d.1.body.length c4] 157
    have b5 := b1alloc w4 (.cells ([.int .i64 d.1.kind, .int .u64 (d.1.life.toNat : Int), .int .i64 d.1.seq, .int .u64 (d.1.gen.toNat : Int), .slice A4 d.1.body.length c4] : List Value).toArray 157)
    have FX4 := (FXh.out.on (bt (bt (bt b1 b2) b3) b4)).on b5
    have FG4 := (FGh.out.on (bt (bt (bt b1 b2) b3) b4)).on b5
    have own5 := own_on own4 b5
    obtain ⟨w5, hw5⟩ : ∃ w5, w5 = w4.alloc (.cells ([.int .i64 d.1.kind, .int .u64 (d.1.life.toNat : Int), .int .i64 d.1.seq, .int .u64 (d.1.gen.toNat : Int), .slice A4 d.1.body.length c4] : List Value).toArray 157) := ⟨_, rfl⟩
    rw [show w4.alloc (.cells #[.int .i64 d.1.kind, .int .u64 (d.1.life.toNat : Int), .int .i64 d.1.seq, .int .u64 (d.1.gen.toNat : Int), .slice A4 d.1.body.length c4] 157) = w5 from hw5.symm]
    obtain ⟨hD5, hh5⟩ : ∃ q, q = w4.heap.size := ⟨_, rfl⟩
    rw [← hw5] at FD FX4 FG4 b5 own5
    rw [← hh5] at FD ⊢
    have b05 := bt b04 b5
    clear hw5 hh5 b5 b04 b4 rd1 hN b3 b03 own4
    have hltD := FD.lt
    obtain ⟨x0, x1, x2, x3, x4⟩ := five5x FD
    obtain ⟨u0, u1, u2⟩ := gthree FX4
    obtain ⟨g0', g1', g2'⟩ := gthree FG4
    have cz : Below w5.heap.size w5 w5.drew := (Below.refl _ _).drew
    go_region_held3 (fun w' => (w'.cell? ⟨hD5, 0, none⟩ = some (.int .i64 d.1.kind) ∧ w'.cell? ⟨hD5, 1, none⟩ = some (.int .u64 (d.1.life.toNat : Int)) ∧ w'.cell? ⟨hD5, 2, none⟩ = some (.int .i64 d.1.seq) ∧ w'.cell? ⟨hD5, 3, none⟩ = some (.int .u64 (d.1.gen.toNat : Int)) ∧ w'.cell? ⟨hD5, 4, none⟩ = some (.slice A4 d.1.body.length c4)) ∧ (w'.cell? ⟨w.heap.size, 0, none⟩ = some (.int .i64 ga) ∧ w'.cell? ⟨w.heap.size, 1, none⟩ = some (.int .i64 gd) ∧ w'.cell? ⟨w.heap.size, 2, none⟩ = some (.int .i64 gl))) (first | exact ⟨five5x (FD.on cz), gthree (FG4.on cz)⟩ | exact ⟨five5x (FD.on (bt cz cm)), gthree (FG4.on (bt cz cm))⟩ | exact ⟨five5x (FD.on (bt (bt cz cm) cs)), gthree (FG4.on (bt (bt cz cm) cs))⟩) (first
      | (go_at_call 99; refine (HSu.out _).mono ?_; rintro e x6 ⟨rfl, rfl⟩)
      | (go_at_call 106; refine (HM.out _).mono ?_; rintro e x7 ⟨A7, c7, rfl, own7, cm⟩)
      | (go_at_call 113; refine (HSa.out A4 A7 c4 c7 _ ((Rd.own own5).on (bt cz cm)) (Rd.own own7)).mono ?_; rintro e x8 ⟨rfl, cs'⟩; have cs := (show Below x7.heap.size x7 x8 from cs' ▸ Below.refl _ _)))
    clear u0 u1 u2 x0 x1 x2 x3 x4
    have bq := bt b05 (bt (bt cz cm) cs)
    obtain ⟨u0, u1, u2⟩ := gthree (FX4.on (bt (bt cz cm) cs))
    obtain ⟨x0, x1, x2, x3, x4⟩ := five5x (FD.on (bt (bt cz cm) cs))
    have fx := (FX4.on (bt (bt cz cm) cs)).free
    go_wp2
    refine bodyPost_ret (v := atV (some ⟨d.1.life, d.1.seq, d.1.gen⟩)) (by simp [results, Tryz.results89, go_sem, atV, SV.v, sv, *]) rfl ⟨rfl, ?_⟩
    exact bset (bset (bset bq (by omega) _) (by omega) _) (by omega) _
end Go.Proofs.YtchcmklelmlbgaaGreat.Sup

/- The supers: super.Read and what it comes to. -/
namespace Go.Proofs.YtchcmklelmlbgaaGreat.Sup
open Go.RowKit
open Go.Proofs.YtchcmklelmlbgaaGreat.Geom
open Go.Proofs.YtchcmklelmlbgaaGreat.Disk (St DAt Did flush_any read_any New8 Told8)
open Go.Proofs.YtchcmklelmlbgaaGreat.Sec (X SymAt)
set_option linter.unusedVariables false
set_option maxRecDepth 100000
set_option maxHeartbeats 1000000 in
theorem at_else (g : Nat) (fp : List Nat) (s : St) (gS : Nat) (ga gd gl p : Int) (w : World) (hG : Gb ga gd gl) (h : DAt w g fp s) (hf : srightF s ga gd gl = 0) (hp0 : lo ≤ p) (hp1 : p ≤ hi) (hne : whereW ga gd gl p ≠ ⟨#[115, 117, 112, 101, 114]⟩) :
    Calls Tryz.prog 89 #[.pointer (some ⟨g, 0, none⟩), .pointer (some ⟨gS, 0, none⟩), gv ga gd gl, .int .i64 p] w fun e w' => e = .returned (.tuple #[SV.zero.v, .bool false, .int .i64 2]) ∧ Below w.heap.size w w' := by
  have FG := (Blk.new w (gcell ga gd gl) 23).alloc (.cells #[.int .u64 0, .int .i64 0, .int .u64 0] 90)
  have FX : Blk ((w.alloc (.cells (gcell ga gd gl).toArray 23)).alloc (.cells #[.int .u64 0, .int .i64 0, .int .u64 0] 90)) (w.heap.size + 1) [.int .u64 0, .int .i64 0, .int .u64 0] := by simpa using Blk.new (w.alloc (.cells (gcell ga gd gl).toArray 23)) [.int .u64 0, .int .i64 0, .int .u64 0] 90
  have b0 := b2alloc w (.cells (gcell ga gd gl).toArray 23) (.cells #[.int .u64 0, .int .i64 0, .int .u64 0] 90)
  obtain ⟨z0, z1, z2⟩ := gthree FG
  have HB := Lib.hid (both_any g fp s gS ga gd gl _ hG (h.on b0))
  rw [hf] at HB
  have hWh := fun W => where_any ga gd gl p W hG.a0 hG.a1 hG.d0 hG.d1 hG.g0 hG.g1 hp0 hp1
  obtain ⟨wk, hwk⟩ : ∃ wk, wk = whereK ga gd gl p := ⟨_, rfl⟩
  obtain ⟨ws, hws⟩ : ∃ wk, wk = whereW ga gd gl p := ⟨_, rfl⟩
  rw [← hwk, ← hws] at hWh
  rw [← hws] at hne
  have HW := Lib.hid hWh
  have FGh := Lib.hid FG
  have FXh := Lib.hid FX
  have hwc : ws = ⟨#[]⟩ ∨ ws = ⟨#[114, 111, 111, 116]⟩ ∨ ws = ⟨#[108, 111, 103]⟩ ∨ ws = ⟨#[97, 114, 101, 97]⟩ := by
    rw [hws] at hne ⊢
    unfold whereW at hne ⊢
    split
    · simp
    · split
      · simp
      · split
        · rename_i h1 h2 h3; rw [if_neg h1, if_neg h2, if_pos h3] at hne; exact absurd rfl hne
        · split <;> simp
  clear hwk hws hWh FG FX hne
  have HW' := HW
  clear HW
  rcases hwc with rfl | rfl | rfl | rfl
  all_goals have HW := HW'
  all_goals go_enter Tryz.func89, Tryz.ntmps89
  all_goals go_wp2_with (first
      | (go_at_call 87; refine HB.out.mono ?_; rintro e w1 ⟨rfl, b1⟩; obtain ⟨y0, y1, y2⟩ := gthree (FGh.out.on b1); have b01 := bt b0 b1)
      | (go_at_call 110; refine (HW.out _).mono ?_; rintro e w2 ⟨rfl, b2⟩; have b02 := bt b01 b2; obtain ⟨u0, u1, u2⟩ := gthree (FXh.out.on (bt b1 b2)); have fx := (FXh.out.on (bt b1 b2)).free))
  all_goals refine bodyPost_ret (v := .tuple #[SV.zero.v, .bool false, .int .i64 2]) (by simp [results, Tryz.results89, go_sem, SV.v, SV.zero, sv, *]) rfl ⟨rfl, ?_⟩
  all_goals exact bset (bset (bset b02 (by omega) _) (by omega) _) (by omega) _
def after1 (o : Option SV) (x : SV) : Bool := match o with | none => true | some b => decide (b.life < x.life)
def best (o p : Option SV) : Option SV := match p with | none => o | some x => if after1 o x = true then some x else o
def oV (o : Option SV) : SV := o.getD SV.zero
def rdV : Option SV → Value
  | some x => .tuple #[x.v, .int .i64 0]
  | none => .tuple #[SV.zero.v, .int .i64 11]
theorem read1_any (x : SV) (o : Option SV) (gF gB : Nat) (w : World) (hF : Box w gF (.bool o.isSome)) (hB : Blk w gB (scell (oV o).life (oV o).base (oV o).gen)) :
    Calls Tryz.prog 88 #[x.v, .pointer (some ⟨gF, 0, none⟩), .pointer (some ⟨gB, 0, none⟩)] w fun e w' => e = .returned (.bool (after1 o x)) ∧ Below w.heap.size w w' := by
  have b0 := b1alloc w (.cells (scell x.life x.base x.gen).toArray 90)
  obtain ⟨z0, z1, z2⟩ := gthree (Blk.new w (scell x.life x.base x.gen) 90)
  obtain ⟨y0, y1, y2⟩ := gthree (hB.on b0)
  have f0 := (hF.on' b0).cell
  unfold SV.v
  cases o with
  | none =>
    rw [show (Option.isSome (none : Option SV)) = false from rfl] at f0
    go_enter Tryz.func88, Tryz.ntmps88
    go_wp2
    go_ret
    exact ⟨rfl, b0⟩
  | some b =>
    rw [show (Option.isSome (some b)) = true from rfl] at f0
    rw [show oV (some b) = b from rfl] at y0 y1 y2
    have hd : decide (b.life.toNat < x.life.toNat) = after1 (some b) x := by
      simp [after1, UInt64.lt_iff_toNat_lt]
    obtain ⟨q, hq⟩ : ∃ q, q = after1 (some b) x := ⟨_, rfl⟩
    rw [← hq] at hd ⊢
    have Hd := Lib.hid hd
    clear hq hd
    go_enter Tryz.func88, Tryz.ntmps88
    go_wp2
    go_ret
    exact ⟨by rw [← Hd.out]; rfl, b0⟩
theorem best_no {o : Option SV} {x : SV} (h : after1 o x = false) : best o (some x) = o := by simp [best, h]
theorem best_yes {o : Option SV} {x : SV} (h : after1 o x = true) : best o (some x) = some x := by simp [best, h]
theorem stored {W : World} {hF hB h0 : Nat} {u a b c : Value} {G : List Value} (h1 : Box W hF u) (h2 : Blk W hB [a, b, c]) (h3 : Blk W h0 G) (n1 : hF ≠ hB) (n2 : hF ≠ h0) (n3 : hB ≠ h0) (x y z v : Value) :
    Box ((((W.setCell ⟨hB, 0, none⟩ x).setCell ⟨hB, 1, none⟩ y).setCell ⟨hB, 2, none⟩ z).setCell ⟨hF, 0, none⟩ v) hF v ∧ Blk ((((W.setCell ⟨hB, 0, none⟩ x).setCell ⟨hB, 1, none⟩ y).setCell ⟨hB, 2, none⟩ z).setCell ⟨hF, 0, none⟩ v) hB [x, y, z] ∧ Blk ((((W.setCell ⟨hB, 0, none⟩ x).setCell ⟨hB, 1, none⟩ y).setCell ⟨hB, 2, none⟩ z).setCell ⟨hF, 0, none⟩ v) h0 G := by
  have ne : some hF ≠ some hB := fun e => n1 (by injection e)
  refine ⟨(((h1.kept (grown_set _ ⟨hB, 0, none⟩ x) ne).kept (grown_set _ ⟨hB, 1, none⟩ y) ne).kept (grown_set _ ⟨hB, 2, none⟩ z) ne).set v, ?_, ?_⟩
  · exact Blk.other (((h2.set (k := 0) x).set (k := 1) y).set (k := 2) z) v (fun e => n1 e.symm)
  · exact Blk.other (Blk.other (Blk.other (Blk.other h3 x (fun e => n3 e.symm)) y (fun e => n3 e.symm)) z (fun e => n3 e.symm)) v (fun e => n2 e.symm)
theorem readS_nil (v : Value) (ga gd gl : Int) (w : World) : Calls Tryz.prog 51 #[v, .pointer none, gv ga gd gl] w fun e w' => e = .returned (.tuple #[SV.zero.v, .int .i64 1]) ∧ Below w.heap.size w w' := by
  have FG := (Blk.new w (gcell ga gd gl) 23).alloc (.cells #[.int .u64 0, .int .i64 0, .int .u64 0] 90)
  have FX : Blk ((w.alloc (.cells (gcell ga gd gl).toArray 23)).alloc (.cells #[.int .u64 0, .int .i64 0, .int .u64 0] 90)) (w.heap.size + 1) [.int .u64 0, .int .i64 0, .int .u64 0] := by simpa using Blk.new (w.alloc (.cells (gcell ga gd gl).toArray 23)) [.int .u64 0, .int .i64 0, .int .u64 0] 90
  have b0 := b2alloc w (.cells (gcell ga gd gl).toArray 23) (.cells #[.int .u64 0, .int .i64 0, .int .u64 0] 90)
  obtain ⟨z0, z1, z2⟩ := gthree FG
  go_enter Tryz.func51, Tryz.ntmps51
  go_wp2
  go_step3
  go_wp2_with (go_at_call 87; refine (bothS_nil _ _ _ _ _).mono ?_; rintro e w1 ⟨rfl, b1⟩; obtain ⟨y0, y1, y2⟩ := gthree (FX.on b1); have fx := (FX.on b1).free; have bw := bt b0 b1)
  try rw [Exit.noGoto_ret]
  refine bodyPost_ret (v := .tuple #[SV.zero.v, .int .i64 1]) (by simp [results, Tryz.results51, go_sem, SV.v, SV.zero, sv, *]) rfl ⟨rfl, ?_⟩
  exact bset (bset (bset bw (by omega) _) (by omega) _) (by omega) _
theorem readD_nil (gS : Nat) (ga gd gl : Int) (w : World) : Calls Tryz.prog 51 #[.pointer none, .pointer (some ⟨gS, 0, none⟩), gv ga gd gl] w fun e w' => e = .returned (.tuple #[SV.zero.v, .int .i64 1]) ∧ Below w.heap.size w w' := by
  have FG := (Blk.new w (gcell ga gd gl) 23).alloc (.cells #[.int .u64 0, .int .i64 0, .int .u64 0] 90)
  have FX : Blk ((w.alloc (.cells (gcell ga gd gl).toArray 23)).alloc (.cells #[.int .u64 0, .int .i64 0, .int .u64 0] 90)) (w.heap.size + 1) [.int .u64 0, .int .i64 0, .int .u64 0] := by simpa using Blk.new (w.alloc (.cells (gcell ga gd gl).toArray 23)) [.int .u64 0, .int .i64 0, .int .u64 0] 90
  have b0 := b2alloc w (.cells (gcell ga gd gl).toArray 23) (.cells #[.int .u64 0, .int .i64 0, .int .u64 0] 90)
  obtain ⟨z0, z1, z2⟩ := gthree FG
  go_enter Tryz.func51, Tryz.ntmps51
  go_wp2
  go_step3
  go_wp2_with (go_at_call 87; refine (bothD_nil _ _ _ _ _).mono ?_; rintro e w1 ⟨rfl, b1⟩; obtain ⟨y0, y1, y2⟩ := gthree (FX.on b1); have fx := (FX.on b1).free; have bw := bt b0 b1)
  try rw [Exit.noGoto_ret]
  refine bodyPost_ret (v := .tuple #[SV.zero.v, .int .i64 1]) (by simp [results, Tryz.results51, go_sem, SV.v, SV.zero, sv, *]) rfl ⟨rfl, ?_⟩
  exact bset (bset (bset bw (by omega) _) (by omega) _) (by omega) _
set_option maxHeartbeats 2000000 in
theorem readSup_any (g : Nat) (fp : List Nat) (s : St) (gS bS : Nat) (l : List (List UInt8)) (ga gd gl : Int) (w : World) (hG : Gb ga gd gl) (h : Both w g fp s gS bS l) (hl : l.length ≤ 1000000) (hs : s.sz ≤ 90000000) (hf : srightF s ga gd gl = 0) (hd : s.down = false) :
    Calls Tryz.prog 51 #[.pointer (some ⟨g, 0, none⟩), .pointer (some ⟨gS, 0, none⟩), gv ga gd gl] w fun e w' => e = .returned (rdV (best (best none (atR l s ga gd gl 2)) (atR l s ga gd gl 3))) ∧ Below w.heap.size w w' := by
  have FG := (Blk.new w (gcell ga gd gl) 23).alloc (.cells #[.int .u64 0, .int .i64 0, .int .u64 0] 90)
  have FX : Blk ((w.alloc (.cells (gcell ga gd gl).toArray 23)).alloc (.cells #[.int .u64 0, .int .i64 0, .int .u64 0] 90)) (w.heap.size + 1) [.int .u64 0, .int .i64 0, .int .u64 0] := by simpa using Blk.new (w.alloc (.cells (gcell ga gd gl).toArray 23)) [.int .u64 0, .int .i64 0, .int .u64 0] 90
  have b0 := b2alloc w (.cells (gcell ga gd gl).toArray 23) (.cells #[.int .u64 0, .int .i64 0, .int .u64 0] 90)
  obtain ⟨z0, z1, z2⟩ := gthree FG
  have HB := Lib.hid (both_any g fp s gS ga gd gl _ hG (h.disk.on b0))
  rw [hf] at HB
  have hA2 := fun W (bW : Below w.heap.size w W) => at_any g fp s gS bS l ga gd gl 2 W hG (h.on bW) hl hs hf hd (by omega) (by omega)
  have hA3 := fun W (bW : Below w.heap.size w W) => at_any g fp s gS bS l ga gd gl 3 W hG (h.on bW) hl hs hf hd (by omega) (by omega)
  obtain ⟨o2, ho2⟩ : ∃ o, o = atR l s ga gd gl 2 := ⟨_, rfl⟩
  obtain ⟨o3, ho3⟩ : ∃ o, o = atR l s ga gd gl 3 := ⟨_, rfl⟩
  rw [← ho2] at hA2 ⊢
  rw [← ho3] at hA3 ⊢
  have HA2 := Lib.hid hA2
  have HA3 := Lib.hid hA3
  have HP := Lib.hid (fun W => places_any W)
  have FGh := Lib.hid FG
  have FXh := Lib.hid FX
  have i0 : ∀ W, (Instr.index 123 (.agg #[.int .i64 2, .int .i64 3]) (.int .i64 0)).run Tryz.prog W = .ok (.int .i64 2) W := fun W => by kernel_rfl
  have i1 : ∀ W, (Instr.index 123 (.agg #[.int .i64 2, .int .i64 3]) (.int .i64 1)).run Tryz.prog W = .ok (.int .i64 3) W := fun W => by kernel_rfl
  have hmf : ∀ (x : Array Value) (w : World), Sem.run Tryz.prog (callFunc 88 x) w = .ok (.enter 88 x) w := by intro x w; simp [go_sem]
  clear hA2 hA3 ho2 ho3 FG FX
  go_enter Tryz.func51, Tryz.ntmps51
  go_wp2
  go_step3
  go_wp2_with (first
    | (go_at_call 87; refine HB.out.mono ?_; rintro e w1 ⟨rfl, b1⟩; obtain ⟨y0, y1, y2⟩ := gthree (FGh.out.on b1); have b01 := bt b0 b1)
    | (go_at_call 72; refine (HP.out _).mono ?_; rintro e w2 ⟨rfl, b2⟩))
  have b02 := bt b01 (b1alloc w1 (.cells #[.bool false] 4))
  have hF0 := Box.new w1 4 (.bool false)
  have hB0 := (FXh.out.on b1).on (b1alloc w1 (.cells #[.bool false] 4))
  have hG0 := (FGh.out.on b1).on (b1alloc w1 (.cells #[.bool false] 4))
  obtain ⟨w2, hw2⟩ : ∃ q, q = w1.alloc (.cells #[.bool false] 4) := ⟨_, rfl⟩
  obtain ⟨hF, hhF⟩ : ∃ q, q = w1.heap.size := ⟨_, rfl⟩
  obtain ⟨hB, hhB⟩ : ∃ q, q = w.heap.size + 1 := ⟨_, rfl⟩
  rw [← hw2] at hF0 hB0 hG0 b02 ⊢
  rw [← hhF] at hF0 ⊢
  rw [← hhB] at hB0 ⊢
  have hlt : w.heap.size ≤ hF ∧ w.heap.size ≤ hB ∧ hF ≠ hB ∧ hF ≠ w.heap.size ∧ hB ≠ w.heap.size := by have h1 := (FXh.out.on b1).lt; refine ⟨?_, ?_, ?_, ?_, ?_⟩ <;> omega
  clear hw2 hhF hhB b1 b01 y0 y1 y2 z0 z1 z2
  go_step3
  go_wp2_with (go_at_call 72; refine (HP.out _).mono ?_; rintro e w3 ⟨rfl, b3⟩)
  have b03 := bt b02 b3
  have hF3 := hF0.on' b3
  have hB3 := hB0.on b3
  have hG3 := hG0.on b3
  clear b3 b02 hF0 hB0 hG0 b0
  go_loopw [26] (fun i wr => ∃ k : Nat, k ≤ 2 ∧ i = .int .i64 k ∧ Below w.heap.size w wr ∧ ∃ o : Option SV, ((k = 0 → o = none) ∧ (k = 1 → o = best none o2) ∧ (k = 2 → o = best (best none o2) o3)) ∧ Box wr hF (.bool o.isSome) ∧ Blk wr hB (scell (oV o).life (oV o).base (oV o).gen) ∧ Blk wr w.heap.size (gcell ga gd gl)) (fun i _ => 2 - (intOf i).toNat)
  case atStart => exact ⟨0, by omega, rfl, b03, none, ⟨fun _ => rfl, fun h => by omega, fun h => by omega⟩, hF3, hB3, hG3⟩
  case round =>
    obtain ⟨k, hk, rfl, bel, o, ho, hFb, hBb, hGb⟩ := hrel
    clear hF3 hB3 hG3 b03
    have fF := hFb.free
    have fB := hBb.free
    rcases (show k = 0 ∨ k = 1 ∨ k = 2 by omega) with rfl | rfl | rfl
    · obtain rfl := ho.1 rfl
      have H := Lib.hid (HA2.out wr bel)
      obtain ⟨c0, c1, c2⟩ := gthree hGb
      obtain hp | ⟨x, hp⟩ : o2 = none ∨ ∃ x, o2 = some x := by cases o2; exact .inl rfl; exact .inr ⟨_, rfl⟩
      · rw [hp] at H
        have H' := H.out
        unfold atV at H'
        have H'' := Lib.hid H'
        have hb := Lib.hid (show (best none o2) = (none : Option SV) by rw [hp]; rfl)
        have Hp := Lib.hid hp
        clear H H' hp
        go_wp2_with (go_at_call 89; refine H''.out.mono ?_; rintro e w4 ⟨rfl, b4⟩; unfold SV.v)
        case roundEnd =>
          have b5 := bt b4 (b1alloc w4 (.cells (scell SV.zero.life SV.zero.base SV.zero.gen).toArray 90))
          exact ⟨⟨1, by omega, rfl, (bt bel b5), (best none o2), ⟨fun h => by omega, fun _ => rfl, fun h => by omega⟩, by rw [hb.out]; exact (hFb.on' b5), by rw [hb.out]; exact (hBb.on b5), (hGb.on b5)⟩, by simp [intOf]⟩
      · rw [hp] at H
        have H' := H.out
        unfold atV at H'
        have H'' := Lib.hid H'
        cases hq : after1 (none : Option SV) x with
        | false =>
          have hb := Lib.hid (show (best none o2) = (none : Option SV) by rw [hp]; exact best_no hq)
          have Hp := Lib.hid hp
          clear H H' hp
          go_wp2_with (first
            | (go_at_call 89; refine H''.out.mono ?_; rintro e w4 ⟨rfl, b4⟩; unfold SV.v; have b5 := bt b4 (b1alloc w4 (.cells (scell x.life x.base x.gen).toArray 90)); have fF5 := (hFb.on' b5).free; have fB5 := (hBb.on b5).free; obtain ⟨x0, x1, x2⟩ := gthree (Blk.new w4 (scell x.life x.base x.gen) 90))
            | (go_at_call 88; refine (read1_any x _ hF hB _ (hFb.on' b5) (hBb.on b5)).mono ?_; rintro e w6 ⟨rfl, b6⟩; rw [hq]; have b56 := bt b5 b6; have hF6 := hFb.on' b56; have hB6 := hBb.on b56; have fF6 := hF6.free; have fB6 := hB6.free; obtain ⟨v0, v1, v2⟩ := gthree ((Blk.new w4 (scell x.life x.base x.gen) 90).on b6); obtain ⟨p0, p1, p2⟩ := gthree hB6; have pF := hF6.cell))
          case roundEnd => exact ⟨⟨1, by omega, rfl, (bt bel b56), (best none o2), ⟨fun h => by omega, fun _ => rfl, fun h => by omega⟩, by rw [hb.out]; exact (hFb.on' b56), by rw [hb.out]; exact (hBb.on b56), (hGb.on b56)⟩, by simp [intOf]⟩
        | true =>
          have hb := Lib.hid (show (best none o2) = some x by rw [hp]; exact best_yes hq)
          have Hp := Lib.hid hp
          clear H H' hp
          go_wp2_with (first
            | (go_at_call 89; refine H''.out.mono ?_; rintro e w4 ⟨rfl, b4⟩; unfold SV.v; have b5 := bt b4 (b1alloc w4 (.cells (scell x.life x.base x.gen).toArray 90)); have fF5 := (hFb.on' b5).free; have fB5 := (hBb.on b5).free; obtain ⟨x0, x1, x2⟩ := gthree (Blk.new w4 (scell x.life x.base x.gen) 90))
            | (go_at_call 88; refine (read1_any x _ hF hB _ (hFb.on' b5) (hBb.on b5)).mono ?_; rintro e w6 ⟨rfl, b6⟩; rw [hq]; have b56 := bt b5 b6; have hF6 := hFb.on' b56; have hB6 := hBb.on b56; have fF6 := hF6.free; have fB6 := hB6.free; obtain ⟨v0, v1, v2⟩ := gthree ((Blk.new w4 (scell x.life x.base x.gen) 90).on b6); obtain ⟨p0, p1, p2⟩ := gthree hB6; have pF := hF6.cell))
          case roundEnd =>
            obtain ⟨q1, q2, q3⟩ := stored hF6 hB6 (hGb.on b56) hlt.2.2.1 hlt.2.2.2.1 hlt.2.2.2.2 (.int .u64 (x.life.toNat : Int)) (.int .i64 x.base) (.int .u64 (x.gen.toNat : Int)) (.bool true)
            exact ⟨⟨1, by omega, rfl, bset (bset (bset (bset (bt bel b56) hlt.2.1 _) hlt.2.1 _) hlt.2.1 _) hlt.1 _, (best none o2), ⟨fun h => by omega, fun _ => rfl, fun h => by omega⟩, by rw [hb.out]; exact q1, by rw [hb.out]; exact q2, q3⟩, by simp [intOf]⟩
    · obtain rfl := ho.2.1 rfl
      have H := Lib.hid (HA3.out wr bel)
      obtain ⟨c0, c1, c2⟩ := gthree hGb
      obtain hp | ⟨x, hp⟩ : o3 = none ∨ ∃ x, o3 = some x := by cases o3; exact .inl rfl; exact .inr ⟨_, rfl⟩
      · rw [hp] at H
        have H' := H.out
        unfold atV at H'
        have H'' := Lib.hid H'
        have hb := Lib.hid (show (best (best none o2) o3) = (best none o2) by rw [hp]; rfl)
        have Hp := Lib.hid hp
        clear H H' hp
        go_wp2_with (go_at_call 89; refine H''.out.mono ?_; rintro e w4 ⟨rfl, b4⟩; unfold SV.v)
        case roundEnd =>
          have b5 := bt b4 (b1alloc w4 (.cells (scell SV.zero.life SV.zero.base SV.zero.gen).toArray 90))
          exact ⟨⟨2, by omega, rfl, (bt bel b5), (best (best none o2) o3), ⟨fun h => by omega, fun h => by omega, fun _ => rfl⟩, by rw [hb.out]; exact (hFb.on' b5), by rw [hb.out]; exact (hBb.on b5), (hGb.on b5)⟩, by simp [intOf]⟩
      · rw [hp] at H
        have H' := H.out
        unfold atV at H'
        have H'' := Lib.hid H'
        cases hq : after1 (best none o2) x with
        | false =>
          have hb := Lib.hid (show (best (best none o2) o3) = (best none o2) by rw [hp]; exact best_no hq)
          have Hp := Lib.hid hp
          clear H H' hp
          go_wp2_with (first
            | (go_at_call 89; refine H''.out.mono ?_; rintro e w4 ⟨rfl, b4⟩; unfold SV.v; have b5 := bt b4 (b1alloc w4 (.cells (scell x.life x.base x.gen).toArray 90)); have fF5 := (hFb.on' b5).free; have fB5 := (hBb.on b5).free; obtain ⟨x0, x1, x2⟩ := gthree (Blk.new w4 (scell x.life x.base x.gen) 90))
            | (go_at_call 88; refine (read1_any x _ hF hB _ (hFb.on' b5) (hBb.on b5)).mono ?_; rintro e w6 ⟨rfl, b6⟩; rw [hq]; have b56 := bt b5 b6; have hF6 := hFb.on' b56; have hB6 := hBb.on b56; have fF6 := hF6.free; have fB6 := hB6.free; obtain ⟨v0, v1, v2⟩ := gthree ((Blk.new w4 (scell x.life x.base x.gen) 90).on b6); obtain ⟨p0, p1, p2⟩ := gthree hB6; have pF := hF6.cell))
          case roundEnd => exact ⟨⟨2, by omega, rfl, (bt bel b56), (best (best none o2) o3), ⟨fun h => by omega, fun h => by omega, fun _ => rfl⟩, by rw [hb.out]; exact (hFb.on' b56), by rw [hb.out]; exact (hBb.on b56), (hGb.on b56)⟩, by simp [intOf]⟩
        | true =>
          have hb := Lib.hid (show (best (best none o2) o3) = some x by rw [hp]; exact best_yes hq)
          have Hp := Lib.hid hp
          clear H H' hp
          go_wp2_with (first
            | (go_at_call 89; refine H''.out.mono ?_; rintro e w4 ⟨rfl, b4⟩; unfold SV.v; have b5 := bt b4 (b1alloc w4 (.cells (scell x.life x.base x.gen).toArray 90)); have fF5 := (hFb.on' b5).free; have fB5 := (hBb.on b5).free; obtain ⟨x0, x1, x2⟩ := gthree (Blk.new w4 (scell x.life x.base x.gen) 90))
            | (go_at_call 88; refine (read1_any x _ hF hB _ (hFb.on' b5) (hBb.on b5)).mono ?_; rintro e w6 ⟨rfl, b6⟩; rw [hq]; have b56 := bt b5 b6; have hF6 := hFb.on' b56; have hB6 := hBb.on b56; have fF6 := hF6.free; have fB6 := hB6.free; obtain ⟨v0, v1, v2⟩ := gthree ((Blk.new w4 (scell x.life x.base x.gen) 90).on b6); obtain ⟨p0, p1, p2⟩ := gthree hB6; have pF := hF6.cell))
          case roundEnd =>
            obtain ⟨q1, q2, q3⟩ := stored hF6 hB6 (hGb.on b56) hlt.2.2.1 hlt.2.2.2.1 hlt.2.2.2.2 (.int .u64 (x.life.toNat : Int)) (.int .i64 x.base) (.int .u64 (x.gen.toNat : Int)) (.bool true)
            exact ⟨⟨2, by omega, rfl, bset (bset (bset (bset (bt bel b56) hlt.2.1 _) hlt.2.1 _) hlt.2.1 _) hlt.1 _, (best (best none o2) o3), ⟨fun h => by omega, fun h => by omega, fun _ => rfl⟩, by rw [hb.out]; exact q1, by rw [hb.out]; exact q2, q3⟩, by simp [intOf]⟩
    · obtain rfl := ho.2.2 rfl
      have cF := hFb.cell
      obtain ⟨p0, p1, p2⟩ := gthree hBb
      obtain ⟨O, hO⟩ : ∃ O, O = best (best none o2) o3 := ⟨_, rfl⟩
      rw [← hO] at cF p0 p1 p2
      have HO := Lib.hid hO
      clear hO
      cases O with
      | none =>
        rw [show (Option.isSome (none : Option SV)) = false from rfl] at cF
        go_wp2
        try rw [Exit.noGoto_ret]
        refine bodyPost_ret (v := rdV none) (by simp [results, Tryz.results51, go_sem, rdV, SV.v, SV.zero, sv, *]) rfl ⟨by rw [← HO.out], ?_⟩
        exact bset (bset (bset bel hlt.2.1 _) hlt.2.1 _) hlt.2.1 _
      | some x =>
        rw [show (Option.isSome (some x)) = true from rfl] at cF
        rw [show oV (some x) = x from rfl] at p0 p1 p2
        go_wp2
        try rw [Exit.noGoto_ret]
        refine bodyPost_ret (v := rdV (some x)) (by simp [results, Tryz.results51, go_sem, rdV, SV.v, sv, *]) rfl ⟨by rw [← HO.out], ?_⟩
        exact bset (bset (bset bel hlt.2.1 _) hlt.2.1 _) hlt.2.1 _
end Go.Proofs.YtchcmklelmlbgaaGreat.Sup

/- The supers, in plain Lean: what stands behind a write, and a power that goes. -/
namespace Go.Proofs.YtchcmklelmlbgaaGreat.Sup
open Go.RowKit
open Go.Proofs.YtchcmklelmlbgaaGreat.Disk (St write flush read kept burn restart fates fate keptAt new zero512 arm)
open Go.Proofs.YtchcmklelmlbgaaGreat.Sec (X text text_len sumOf sumOf_len sumAfter ckS checkOf blankB rightF dec_back dec_blank X0 mark of_text place_of reads)
set_option linter.unusedVariables false
theorem ckS_own' (l : List (List UInt8)) (T : List UInt8) (hT : T.length = 504) : ckS (sumAfter l T) (T ++ sumOf l T) = true := by
  unfold ckS checkOf sumAfter sumOf
  rw [List.take_left' hT, List.drop_left' hT]
  by_cases h : T ∈ l
  · simp [h, R1.sameB_self]
  · simp [h, List.idxOf_append, R1.sameB_self]
theorem ckS_more {l : List (List UInt8)} {b : List UInt8} (T : List UInt8) (h : ckS l b = true) : ckS (sumAfter l T) b = true := by
  unfold ckS checkOf at *
  unfold sumAfter
  split
  · exact h
  · rw [Bool.and_eq_true] at h ⊢
    have h1 : b.take 504 ∈ l := of_decide_eq_true h.1
    refine ⟨by simp [h1], ?_⟩
    rw [List.idxOf_append, if_pos h1]; exact h.2
/-- bytes that are a sector's at a place, by these sums -/
def Good (l : List (List UInt8)) (p : Int) (x : X) (b : List UInt8) : Prop := rightF p x = 0 ∧ ckS l b = true ∧ ∃ s, s.length = 8 ∧ b = text p x ++ s
theorem Good.dec {l : List (List UInt8)} {p : Int} {x : X} {b : List UInt8} (h : Good l p x b) : Sec.decode (ckS l b) p b = (x, 0) := by
  obtain ⟨h1, h2, s, hs, rfl⟩ := h
  rw [h2]; exact dec_back h1 s hs
theorem Good.len {l : List (List UInt8)} {p : Int} {x : X} {b : List UInt8} (h : Good l p x b) : b.length = 512 := by
  obtain ⟨h1, h2, s, hs, rfl⟩ := h
  rw [List.length_append, text_len, hs]
theorem Good.more {l : List (List UInt8)} {p : Int} {x : X} {b : List UInt8} (h : Good l p x b) (T : List UInt8) : Good (sumAfter l T) p x b := ⟨h.1, ckS_more T h.2.1, h.2.2⟩
theorem Good.made (l : List (List UInt8)) {p : Int} {x : X} (h : rightF p x = 0) : Good (sumAfter l (text p x)) p x (text p x ++ sumOf l (text p x)) := ⟨h, ckS_own' l _ (text_len _ _), _, sumOf_len _ _, rfl⟩
theorem dec_zero (ck : Bool) (p : Int) : Sec.decode ck p zero512 = (X0, 7) := dec_blank Disk.zero512_len (decide_eq_true rfl)
theorem mem_after {l : List (List UInt8)} {T U : List UInt8} : U ∈ sumAfter l T ↔ U ∈ l ∨ U = T := by
  unfold sumAfter
  split
  · rename_i h; exact ⟨.inl, fun e => e.elim id (fun e => e ▸ h)⟩
  · simp
/-- what is read was summed -/
theorem dec_sound {l : List (List UInt8)} {p : Int} {b : List UInt8} {x : X} (h : Sec.decode (ckS l b) p b = (x, 0)) : rightF p x = 0 ∧ text p x ∈ l := by
  unfold Sec.decode at h
  split at h
  · cases h
  · split at h
    · cases h
    · split at h
      · rename_i y hr
        split at h
        · rename_i hc
          cases h
          unfold reads at hr
          split at hr
          · rename_i h3
            injection hr with hr
            subst hr
            refine ⟨h3.2.1, ?_⟩
            rw [h3.2.2]
            unfold ckS checkOf at hc
            rw [Bool.and_eq_true] at hc
            exact of_decide_eq_true hc.1
          · cases hr
        · cases h
      · cases h
theorem text_inj {p q : Int} {x y : X} (h : rightF p x = 0) (h' : rightF q y = 0) (e : text p x = text q y) : x = y := by
  have h1 := (of_text h).2
  have h2 := (of_text h').2
  rw [e, h2] at h1; exact h1.symm
/-! a disk whose power is there, and nothing is pending -/
structure UpN (s : St) (n : Nat) : Prop where
  size : s.size = n
  pend : s.pend = []
  down : s.down = false
  fuse : s.fuse < 0
theorem up_new (n : Nat) : UpN (new n) n := ⟨rfl, rfl, rfl, by simp [new]⟩
theorem wf_cases {s : St} {n : Nat} (h2 : s.size = n) (hp : s.pend = []) (hd : s.down = false) {p : Int} (h0 : 0 ≤ p) (h1 : p < n) {b : List UInt8} (hb : b.length = 512) :
    ((wf s p b).2 = 12 ∧ (wf s p b).1.down = true ∧ (wf s p b).1.pend = [(p.toNat, b)] ∧ (wf s p b).1.all = s.all ∧ (wf s p b).1.size = n ∧ ¬ s.fuse < 0) ∨
    ((wf s p b).2 = 0 ∧ (wf s p b).1.down = false ∧ (wf s p b).1.pend = [] ∧ (wf s p b).1.all = s.all ++ [(p.toNat, b)] ∧ (wf s p b).1.size = n ∧ (s.fuse < 0 → (wf s p b).1.fuse < 0)) := by
  obtain ⟨size, pend, all, fuse, calls, down⟩ := s
  simp only at h2 hp hd
  subst h2 hp hd
  have hw : write ⟨size, [], all, fuse, calls, false⟩ p b = burn ⟨size, [(p.toNat, b)], all, fuse, calls, false⟩ := by
    unfold write; rw [if_neg (by simp), if_neg (by simp; omega), if_neg (by simpa using hb)]; rfl
  unfold wf
  rw [hw]
  by_cases h0 : fuse = 0
  · subst h0
    simp [burn]
  · by_cases h1 : 0 < fuse
    · have hb1 : burn ⟨size, [(p.toNat, b)], all, fuse, calls, false⟩ = (⟨size, [(p.toNat, b)], all, fuse - 1, calls + 1, false⟩, 0) := by unfold burn; simp [h0, h1]
      rw [hb1]
      simp only [if_true]
      by_cases h3 : fuse - 1 = 0
      · have : flush ⟨size, [(p.toNat, b)], all, fuse - 1, calls + 1, false⟩ = (⟨size, [(p.toNat, b)], all, fuse - 1, calls + 1 + 1, true⟩, 12) := by unfold flush burn; simp [h3]
        rw [this]; simp; omega
      · have : flush ⟨size, [(p.toNat, b)], all, fuse - 1, calls + 1, false⟩ = (⟨size, [], all ++ [(p.toNat, b)], fuse - 1 - 1, calls + 1 + 1, false⟩, 0) := by
          have h4 : 0 < fuse - 1 := by omega
          have h5 : burn ⟨size, [(p.toNat, b)], all, fuse - 1, calls + 1, false⟩ = (⟨size, [(p.toNat, b)], all, fuse - 1 - 1, calls + 1 + 1, false⟩, 0) := by unfold burn; rw [if_neg h3, if_pos h4]
          unfold flush; rw [if_neg (by simp), h5]; rfl
        rw [this]; simp; omega
    · have hb1 : burn ⟨size, [(p.toNat, b)], all, fuse, calls, false⟩ = (⟨size, [(p.toNat, b)], all, fuse, calls + 1, false⟩, 0) := by unfold burn; simp [h0, h1]
      rw [hb1]
      simp only [if_true]
      have : flush ⟨size, [(p.toNat, b)], all, fuse, calls + 1, false⟩ = (⟨size, [], all ++ [(p.toNat, b)], fuse, calls + 1 + 1, false⟩, 0) := by unfold flush burn; simp [h0, h1]
      rw [this]; simp
theorem UpN.wf {s : St} {n : Nat} (h : UpN s n) {p : Int} (h0 : 0 ≤ p) (h1 : p < n) {b : List UInt8} (hb : b.length = 512) : (wf s p b).2 = 0 ∧ UpN (wf s p b).1 n ∧ (wf s p b).1.all = s.all ++ [(p.toNat, b)] := by
  rcases wf_cases h.size h.pend h.down h0 h1 hb with ⟨_, _, _, _, _, h6⟩ | ⟨h1, h2, h3, h4, h5, h6⟩
  · exact absurd h.fuse h6
  · exact ⟨h1, ⟨h5, h3, h2, h6 h.fuse⟩, h4⟩
theorem UpN.read {s : St} {n : Nat} (h : UpN s n) {p : Int} (h0 : 0 ≤ p) (h1 : p < n) : read s p = (kept s.all p.toNat, 0) := by
  unfold Disk.read
  rw [if_neg (by rw [h.down]; simp), if_neg (by rw [h.size]; omega), h.pend, List.append_nil]
theorem UpN.keptAt {s : St} {n : Nat} (h : UpN s n) {p : Int} (h0 : 0 ≤ p) (h1 : p < n) : keptAt s p = kept s.all p.toNat := by
  unfold Disk.keptAt
  rw [if_neg (by rw [h.size]; omega)]
theorem kept_after (l : List Disk.Wr) (p : Nat) (b : List UInt8) : kept (l ++ [(p, b)]) p = b := by rw [Disk.kept_snoc]; simp
theorem kept_beside (l : List Disk.Wr) {p q : Nat} (b : List UInt8) (h : q ≠ p) : kept (l ++ [(q, b)]) p = kept l p := by rw [Disk.kept_snoc]; simp [h]
theorem restart_one {s : St} {n q : Nat} {b : List UInt8} (h2 : s.size = n) (hp : s.pend = [(q, b)] ∨ s.pend = []) (keep : List Int) (t a : Int) :
    UpN (restart s keep t a) n ∧ ((restart s keep t a).all = s.all ∨ ∃ z, (restart s keep t a).all = s.all ++ [(q, z)]) ∧ (s.pend = [] → (restart s keep t a).all = s.all) := by
  refine ⟨⟨h2, rfl, rfl, by simp [restart]⟩, ?_, fun h => by unfold restart; rw [h]; rfl⟩
  unfold restart
  rcases hp with hp | hp
  · rw [hp]
    simp only [fates]
    unfold fate
    split
    · exact .inr ⟨_, rfl⟩
    · split
      · exact .inr ⟨_, rfl⟩
      · exact .inl rfl
  · rw [hp]; exact .inl rfl
/-! what is at a place -/
theorem isSup_own {ga gd gl : Int} {life : UInt64} {base : Int} {gen : UInt64} : isSup ga gd gl (splace life) (sx ga gd gl life base gen, 0) = true := by
  simp [isSup, sx, R1.sameB_self]
theorem isSup_fault {ga gd gl p : Int} {d : X × Int} (h : d.2 ≠ 0) : isSup ga gd gl p d = false := by simp [isSup, h]
theorem UpN.at_own {s : St} {n : Nat} (h : UpN s n) {l : List (List UInt8)} {ga gd gl : Int} {life : UInt64} {base : Int} {gen : UInt64} (hn : splace life < n) (hg : Good l (splace life) (sx ga gd gl life base gen) (kept s.all (splace life).toNat)) : atR l s ga gd gl (splace life) = some ⟨life, base, gen⟩ := by
  have := splace_ok life
  unfold atR Sup.dec
  rw [h.read (by omega) hn]
  simp only []
  rw [hg.dec, if_pos isSup_own]; rfl
theorem UpN.at_zero {s : St} {n : Nat} (h : UpN s n) {l : List (List UInt8)} {ga gd gl p : Int} (h0 : 0 ≤ p) (hn : p < n) (hg : kept s.all p.toNat = zero512) : atR l s ga gd gl p = none := by
  unfold atR Sup.dec
  rw [h.read h0 hn]
  simp only []
  rw [hg, dec_zero, isSup_fault (by simp)]; rfl
/-- where but two texts were summed, at the second one's place there is none, or the second one -/
theorem UpN.at_second {s : St} {n : Nat} (h : UpN s n) {l : List (List UInt8)} {ga gd gl : Int} {life life' : UInt64} {base base' : Int} {gen gen' : UInt64} (hp : splace life ≠ splace life') (hn : splace life' < n)
    (hr : rightF (splace life) (sx ga gd gl life base gen) = 0) (hr' : rightF (splace life') (sx ga gd gl life' base' gen') = 0)
    (hl : ∀ T ∈ l, T = text (splace life) (sx ga gd gl life base gen) ∨ T = text (splace life') (sx ga gd gl life' base' gen')) :
    atR l s ga gd gl (splace life') = none ∨ atR l s ga gd gl (splace life') = some ⟨life', base', gen'⟩ := by
  have := splace_ok life'
  unfold atR Sup.dec
  rw [h.read (by omega) hn]
  simp only []
  obtain ⟨d, hd⟩ : ∃ d, d = Sec.decode (ckS l (kept s.all (splace life').toNat)) (splace life') (kept s.all (splace life').toNat) := ⟨_, rfl⟩
  rw [← hd]
  by_cases h0 : d.2 = 0
  · obtain ⟨x, f⟩ := d
    simp only at h0
    subst h0
    obtain ⟨g1, g2⟩ := dec_sound hd.symm
    rcases hl _ g2 with e | e
    · have e1 := text_inj g1 hr e
      rw [e1] at g1 e
      exact absurd (place_of hr g1 e).symm hp
    · have e1 := text_inj g1 hr' e
      rw [e1, if_pos isSup_own]; exact .inr rfl
  · rw [isSup_fault h0]; exact .inl rfl
theorem splace_next (life : UInt64) : splace (life + 1) = 5 - splace life := by
  unfold splace
  have h1 : (life + 1).toNat = (life.toNat + 1) % 18446744073709551616 := by simp [UInt64.toNat_add]
  rw [h1]; omega
/-- which of two counts -/
theorem best_first {p q : Int} {f : Int → Option SV} {x : SV} (hp : 2 ≤ p ∧ p ≤ 3) (hq : q = 5 - p) (h : f p = some x) (hn : f q = none) : best (best none (f 2)) (f 3) = some x := by
  rcases (show p = 2 ∨ p = 3 by omega) with rfl | rfl
  · have : q = 3 := by omega
    subst this; rw [h, hn]; rfl
  · have : q = 2 := by omega
    subst this; rw [h, hn]; rfl
theorem best_later {p q : Int} {f : Int → Option SV} {x y : SV} (hp : 2 ≤ p ∧ p ≤ 3) (hq : q = 5 - p) (h : f p = some x) (hn : f q = some y) (hl : x.life < y.life) : best (best none (f 2)) (f 3) = some y := by
  rcases (show p = 2 ∨ p = 3 by omega) with rfl | rfl
  · have : q = 3 := by omega
    subst this; rw [h, hn]; simp [best, after1, hl]
  · have : q = 2 := by omega
    subst this
    rw [h, hn]
    have : ¬ y.life < x.life := fun e => by rw [UInt64.lt_iff_toNat_lt] at e hl; omega
    simp [best, after1, this]
theorem UpN.clr {s : St} {n : Nat} (h : UpN s n) (hn : 4 ≤ n) : (clr s).2 = 0 ∧ UpN (clr s).1 n ∧ (clr s).1.all = s.all ++ [(2, zero512), (3, zero512)] ∧ (clr s).1.sz ≤ s.sz + 5 := by
  obtain ⟨size, pend, all, fuse, calls, down⟩ := s
  obtain ⟨h1, h2, h3, h4⟩ := h
  simp only at h1 h2 h3 h4
  subst h1 h2 h3
  have f0 : ¬ fuse = 0 := by omega
  have f1 : ¬ 0 < fuse := by omega
  have e1 : write ⟨size, [], all, fuse, calls, false⟩ 2 zero512 = (⟨size, [(2, zero512)], all, fuse, calls + 1, false⟩, 0) := by
    unfold write; rw [if_neg (by simp), if_neg (by simp; omega), if_neg (by simp [Disk.zero512_len])]; unfold burn; simp [f0, f1]
  have e2 : write ⟨size, [(2, zero512)], all, fuse, calls + 1, false⟩ 3 zero512 = (⟨size, [(2, zero512), (3, zero512)], all, fuse, calls + 1 + 1, false⟩, 0) := by
    unfold write; rw [if_neg (by simp), if_neg (by simp; omega), if_neg (by simp [Disk.zero512_len])]; unfold burn; simp [f0, f1]
  have e3 : flush ⟨size, [(2, zero512), (3, zero512)], all, fuse, calls + 1 + 1, false⟩ = (⟨size, [], all ++ [(2, zero512), (3, zero512)], fuse, calls + 1 + 1 + 1, false⟩, 0) := by
    unfold flush burn; simp [f0, f1]
  have e : Sup.clr ⟨size, [], all, fuse, calls, false⟩ = (⟨size, [], all ++ [(2, zero512), (3, zero512)], fuse, calls + 1 + 1 + 1, false⟩, 0) := by
    unfold Sup.clr
    rw [e1]
    simp only [if_true]
    rw [e2]
    simp only [if_true]
    exact e3
  rw [e]
  exact ⟨rfl, ⟨rfl, rfl, rfl, h4⟩, rfl, by unfold Disk.St.sz; simp; omega⟩
theorem srightF_new {n : Nat} {ga gd gl : Int} (h : Geom.right ga gd gl = true) {s : St} (hs : s.size = n) (hn : (n : Int) = Geom.sizeOf ga gd gl) : srightF s ga gd gl = 0 := by
  unfold srightF; rw [if_pos ⟨h, by rw [hs, hn]⟩]
theorem srightF_no {ga gd gl : Int} (h : ¬ Geom.right ga gd gl = true) (s : St) : srightF s ga gd gl = 2 := by
  unfold srightF; rw [if_neg (fun e => h e.1)]
theorem sL_len (l : List (List UInt8)) (ga gd gl : Int) (life : UInt64) (base : Int) (gen : UInt64) : (sL l ga gd gl life base gen).length ≤ l.length + 1 := by unfold sL sumAfter; split <;> simp
theorem sB_good (l : List (List UInt8)) {ga gd gl : Int} {life : UInt64} {base : Int} {gen : UInt64} (h0 : 0 ≤ base) (h1 : base ≤ 1073741824) : Good (sL l ga gd gl life base gen) (splace life) (sx ga gd gl life base gen) (sB l ga gd gl life base gen) := Good.made l (sx_right h0 h1)
end Go.Proofs.YtchcmklelmlbgaaGreat.Sup

/- Sectors encoded and written, one behind the other, and flushed: what becomes of the disk and of the sums: plain. -/
namespace Go.Proofs.YtchcmklelmlbgaaGreat.Enc
open Go.RowKit
open Go.Proofs.YtchcmklelmlbgaaGreat.Disk (St Wr write flush read kept burn restart fates fate keptAt new zero512 arm)
open Go.Proofs.YtchcmklelmlbgaaGreat.Sec (X text text_len sumOf sumOf_len sumAfter ckS rightF X0)
open Go.Proofs.YtchcmklelmlbgaaGreat.Sup (UpN dec_sound text_inj mem_after ckS_more)
set_option linter.unusedVariables false
/-- the bytes of a sector at a place -/
def xB (l : List (List UInt8)) (p : Int) (x : X) : List UInt8 := text p x ++ sumOf l (text p x)
theorem xB_len (l : List (List UInt8)) (p : Int) (x : X) : (xB l p x).length = 512 := by unfold xB; rw [List.length_append, text_len, sumOf_len]
abbrev Itm := Int × X
/-- sectors written one behind the other, up to the first that is not taken -/
def encs : List Itm → List (List UInt8) → St → List (List UInt8) × St × Int
  | [], l, s => (l, s, 0)
  | i :: r, l, s => if (write s i.1 (xB l i.1 i.2)).2 = 0 then encs r (sumAfter l (text i.1 i.2)) (write s i.1 (xB l i.1 i.2)).1
    else (sumAfter l (text i.1 i.2), write s i.1 (xB l i.1 i.2))
/-- and flushed -/
def enf (is : List Itm) (l : List (List UInt8)) (s : St) : List (List UInt8) × St × Int :=
  if (encs is l s).2.2 = 0 then ((encs is l s).1, flush (encs is l s).2.1) else encs is l s
theorem encs_nil (l : List (List UInt8)) (s : St) : encs [] l s = (l, s, 0) := rfl
theorem encs_go {i : Itm} {r : List Itm} {l : List (List UInt8)} {s : St} (h : (write s i.1 (xB l i.1 i.2)).2 = 0) : encs (i :: r) l s = encs r (sumAfter l (text i.1 i.2)) (write s i.1 (xB l i.1 i.2)).1 := by
  show (if _ then _ else _) = _
  rw [if_pos h]
theorem encs_stop {i : Itm} {r : List Itm} {l : List (List UInt8)} {s : St} (h : (write s i.1 (xB l i.1 i.2)).2 ≠ 0) : encs (i :: r) l s = (sumAfter l (text i.1 i.2), write s i.1 (xB l i.1 i.2)) := by
  show (if _ then _ else _) = _
  rw [if_neg h]
theorem encs_append : ∀ (a b : List Itm) (l : List (List UInt8)) (s : St), encs (a ++ b) l s = if (encs a l s).2.2 = 0 then encs b (encs a l s).1 (encs a l s).2.1 else encs a l s
  | [], b, l, s => by simp [encs_nil]
  | i :: a, b, l, s => by
    by_cases h : (write s i.1 (xB l i.1 i.2)).2 = 0
    · rw [List.cons_append, encs_go h, encs_go h]; exact encs_append a b _ _
    · rw [List.cons_append, encs_stop h, encs_stop h, if_neg h]
theorem sumAfter_len (l : List (List UInt8)) (T : List UInt8) : (sumAfter l T).length ≤ l.length + 1 := by unfold sumAfter; split <;> simp
theorem encs_lim : ∀ (is : List Itm) (l : List (List UInt8)) (s : St), (encs is l s).1.length ≤ l.length + is.length ∧ (encs is l s).2.1.sz ≤ s.sz + 2 * is.length
  | [], l, s => by simp [encs_nil]
  | i :: r, l, s => by
    have h1 := sumAfter_len l (text i.1 i.2)
    have h2 := Disk.sz_write s i.1 (xB l i.1 i.2)
    by_cases h : (write s i.1 (xB l i.1 i.2)).2 = 0
    · rw [encs_go h]
      obtain ⟨h3, h4⟩ := encs_lim r (sumAfter l (text i.1 i.2)) (write s i.1 (xB l i.1 i.2)).1
      simp only [List.length_cons]; omega
    · rw [encs_stop h]
      simp only [List.length_cons]; omega
theorem enf_lim (is : List Itm) (l : List (List UInt8)) (s : St) : (enf is l s).1.length ≤ l.length + is.length ∧ (enf is l s).2.1.sz ≤ s.sz + 2 * is.length + 1 := by
  obtain ⟨h1, h2⟩ := encs_lim is l s
  unfold enf
  split
  · have := Disk.sz_flush (encs is l s).2.1
    simp only []; omega
  · omega
/-- sums only come to be -/
def More (l l' : List (List UInt8)) : Prop := ∀ p x b, Sup.Good l p x b → Sup.Good l' p x b
theorem More.refl (l : List (List UInt8)) : More l l := fun _ _ _ h => h
theorem More.trans {a b c : List (List UInt8)} (h : More a b) (k : More b c) : More a c := fun p x y g => k p x y (h p x y g)
theorem More.after (l : List (List UInt8)) (T : List UInt8) : More l (sumAfter l T) := fun _ _ _ h => h.more T
/-- what the writes are: the first items' sectors -/
structure Put (n : Nat) (is : List Itm) (l : List (List UInt8)) (s : St) (q : List (List UInt8) × St × Int) (m : List Wr) : Prop where
  size : q.2.1.size = n
  all : q.2.1.all = s.all
  pend : q.2.1.pend = s.pend ++ m
  len : m.length ≤ is.length
  at_ : ∀ k (h : k < m.length) (h' : k < is.length), m[k].1 = is[k].1.toNat ∧ Sup.Good q.1 is[k].1 is[k].2 m[k].2
  more : More l q.1
  old : ∀ T ∈ l, T ∈ q.1
  text : ∀ T ∈ q.1, T ∈ l ∨ ∃ i ∈ is, T = text i.1 i.2
  res : (q.2.2 = 12 ∧ q.2.1.down = true ∧ ¬ s.fuse < 0) ∨ (q.2.2 = 0 ∧ q.2.1.down = false ∧ m.length = is.length ∧ (s.fuse < 0 → q.2.1.fuse < 0))
theorem write_cases {s : St} {n : Nat} (h2 : s.size = n) (hd : s.down = false) {p : Int} (h0 : 0 ≤ p) (h1 : p < n) {b : List UInt8} (hb : b.length = 512) :
    (write s p b).1.size = n ∧ (write s p b).1.all = s.all ∧ (write s p b).1.pend = s.pend ++ [(p.toNat, b)] ∧
    (((write s p b).2 = 12 ∧ (write s p b).1.down = true ∧ ¬ s.fuse < 0) ∨ ((write s p b).2 = 0 ∧ (write s p b).1.down = false ∧ (s.fuse < 0 → (write s p b).1.fuse < 0))) := by
  subst h2
  have hw : write s p b = burn { s with pend := s.pend ++ [(p.toNat, b)] } := by
    unfold write; rw [if_neg (by simp [hd]), if_neg (by omega), if_neg (by simpa using hb)]
  rw [hw]
  obtain ⟨e1, e2, e3⟩ := Disk.burn_lists { s with pend := s.pend ++ [(p.toNat, b)] }
  refine ⟨e3, e2, e1, ?_⟩
  unfold burn
  split
  · rename_i h; exact .inl ⟨rfl, rfl, by simp only [] at h; omega⟩
  · split
    · rename_i h; exact .inr ⟨rfl, hd, fun e => by simp only [] at h; omega⟩
    · exact .inr ⟨rfl, hd, fun e => e⟩
theorem flush_cases {s : St} {n : Nat} (h2 : s.size = n) (hd : s.down = false) :
    (flush s).1.size = n ∧ (((flush s).2 = 12 ∧ (flush s).1.down = true ∧ (flush s).1.all = s.all ∧ (flush s).1.pend = s.pend ∧ ¬ s.fuse < 0) ∨ ((flush s).2 = 0 ∧ (flush s).1.down = false ∧ (flush s).1.all = s.all ++ s.pend ∧ (flush s).1.pend = [] ∧ (s.fuse < 0 → (flush s).1.fuse < 0))) := by
  obtain ⟨size, pend, all, fuse, calls, down⟩ := s
  simp only at h2 hd
  subst h2 hd
  by_cases h0 : fuse = 0
  · subst h0; simp [flush, burn]
  · by_cases h1 : 0 < fuse
    · simp [flush, burn, h0, h1]; omega
    · simp [flush, burn, h0, h1]
theorem encs_put {n : Nat} : ∀ (is : List Itm) (l : List (List UInt8)) (s : St), s.size = n → s.down = false → (∀ i ∈ is, rightF i.1 i.2 = 0 ∧ 0 ≤ i.1 ∧ i.1 < n) → ∃ m, Put n is l s (encs is l s) m
  | [], l, s, h2, hd, _ => ⟨[], h2, rfl, by rw [encs_nil]; simp, by simp, fun k h => by simp at h, More.refl l, fun T h => h, fun T h => .inl h, .inr ⟨rfl, hd, rfl, fun h => h⟩⟩
  | i :: r, l, s, h2, hd, hi => by
    obtain ⟨hr, hp0, hp1⟩ := hi i (by simp)
    obtain ⟨w1, w2, w3, w4⟩ := write_cases h2 hd hp0 hp1 (xB_len l i.1 i.2)
    have hg : Sup.Good (sumAfter l (text i.1 i.2)) i.1 i.2 (xB l i.1 i.2) := Sup.Good.made l hr
    rcases w4 with ⟨w4, w5, w6⟩ | ⟨w4, w5, w6⟩
    · rw [encs_stop (by rw [w4]; decide)]
      refine ⟨[(i.1.toNat, xB l i.1 i.2)], w1, w2, w3, by simp, ?_, More.after _ _, fun T h => mem_after.2 (.inl h), fun T h => (mem_after.1 h).imp id (fun e => ⟨i, by simp, e⟩), .inl ⟨w4, w5, w6⟩⟩
      intro k h h'
      obtain rfl : k = 0 := by simp at h; exact h
      exact ⟨rfl, hg⟩
    · rw [encs_go w4]
      obtain ⟨m, hm⟩ := encs_put r (sumAfter l (text i.1 i.2)) (write s i.1 (xB l i.1 i.2)).1 w1 w5 (fun j hj => hi j (by simp [hj]))
      refine ⟨(i.1.toNat, xB l i.1 i.2) :: m, hm.size, hm.all.trans w2, by rw [hm.pend, w3]; simp, by simpa using hm.len, ?_, (More.after _ _).trans hm.more, fun T h => hm.old T (mem_after.2 (.inl h)), ?_, ?_⟩
      · intro k h h'
        cases k with
        | zero => exact ⟨rfl, hm.more _ _ _ hg⟩
        | succ k => exact hm.at_ k (by simpa using h) (by simpa using h')
      · intro T h
        rcases hm.text T h with h | ⟨j, hj, e⟩
        · exact (mem_after.1 h).imp id (fun e => ⟨i, by simp, e⟩)
        · exact .inr ⟨j, by simp [hj], e⟩
      · rcases hm.res with ⟨h1, h3, h4⟩ | ⟨h1, h3, h4, h5⟩
        · exact .inl ⟨h1, h3, fun e => h4 (w6 e)⟩
        · exact .inr ⟨h1, h3, by simp [h4], fun e => h5 (w6 e)⟩
/-- written and flushed: the power went, and some of them are pending; or they are kept -/
structure Enf (n : Nat) (is : List Itm) (l : List (List UInt8)) (s : St) (q : List (List UInt8) × St × Int) (m : List Wr) : Prop where
  size : q.2.1.size = n
  len : m.length ≤ is.length
  at_ : ∀ k (h : k < m.length) (h' : k < is.length), m[k].1 = is[k].1.toNat ∧ Sup.Good q.1 is[k].1 is[k].2 m[k].2
  more : More l q.1
  old : ∀ T ∈ l, T ∈ q.1
  text : ∀ T ∈ q.1, T ∈ l ∨ ∃ i ∈ is, T = text i.1 i.2
  res : (q.2.2 = 12 ∧ q.2.1.down = true ∧ q.2.1.all = s.all ∧ q.2.1.pend = s.pend ++ m ∧ ¬ s.fuse < 0) ∨
    (q.2.2 = 0 ∧ q.2.1.down = false ∧ q.2.1.all = s.all ++ (s.pend ++ m) ∧ q.2.1.pend = [] ∧ m.length = is.length ∧ (s.fuse < 0 → q.2.1.fuse < 0))
theorem enf_of {n : Nat} (is : List Itm) (l : List (List UInt8)) (s : St) (h2 : s.size = n) (hd : s.down = false) (hi : ∀ i ∈ is, rightF i.1 i.2 = 0 ∧ 0 ≤ i.1 ∧ i.1 < n) : ∃ m, Enf n is l s (enf is l s) m := by
  obtain ⟨m, h⟩ := encs_put is l s h2 hd hi
  refine ⟨m, ?_⟩
  unfold enf
  rcases h.res with ⟨r1, r2, r3⟩ | ⟨r1, r2, r3, r4⟩
  · rw [if_neg (by rw [r1]; decide)]
    exact ⟨h.size, h.len, h.at_, h.more, h.old, h.text, .inl ⟨r1, r2, h.all, h.pend, r3⟩⟩
  · rw [if_pos r1]
    obtain ⟨f1, f2⟩ := flush_cases h.size r2
    refine ⟨f1, h.len, h.at_, h.more, h.old, h.text, ?_⟩
    rcases f2 with ⟨g1, g2, g3, g4, g5⟩ | ⟨g1, g2, g3, g4, g5⟩
    · exact .inl ⟨g1, g2, by rw [g3, h.all], by rw [g4, h.pend], fun e => g5 (r4 e)⟩
    · exact .inr ⟨g1, g2, by rw [g3, h.all, h.pend], g4, r3, fun e => g5 (r4 e)⟩
/-- what is kept of writes to places that are not twice among them -/
theorem kept_of (all : List Wr) : ∀ (m : List Wr) (k : Nat) (h : k < m.length), (∀ a b (ha : a < m.length) (hb : b < m.length), m[a].1 = m[b].1 → a = b) → kept (all ++ m) m[k].1 = m[k].2 := by
  intro m k h hd
  have e : all ++ m = (all ++ m.take k ++ [m[k]]) ++ m.drop (k + 1) := by
    rw [List.append_assoc, List.append_assoc]
    congr 1
    rw [List.singleton_append, ← List.drop_eq_getElem_cons h, List.take_append_drop]
  have hk := Disk.kept_append (all ++ m.take k ++ [m[k]]) (m.drop (k + 1)) m[k].1 (by
    intro w hw he
    obtain ⟨j, hj, rfl⟩ := List.mem_iff_getElem.1 hw
    rw [List.length_drop] at hj
    rw [List.getElem_drop] at he
    have := hd (k + 1 + j) k (by omega) h he
    omega)
  rw [e, hk, Disk.kept_snoc, if_pos rfl]
theorem fates_places (keep : List Int) (t a : Int) : ∀ (m : List Wr) (i : Nat) (all : List Wr), ∃ m', fates keep t a i m all = all ++ m' ∧ ∀ w ∈ m', ∃ v ∈ m, w.1 = v.1
  | [], i, all => ⟨[], by simp [fates], fun w h => by simp at h⟩
  | v :: m, i, all => by
    obtain ⟨m', h1, h2⟩ := fates_places keep t a m (i + 1) (fate keep t a i v all)
    have h3 : ∃ m1, fate keep t a i v all = all ++ m1 ∧ ∀ w ∈ m1, w.1 = v.1 := by
      unfold fate
      split
      · exact ⟨_, rfl, fun w hw => by rw [List.mem_singleton] at hw; subst hw; rfl⟩
      · split
        · exact ⟨_, rfl, fun w hw => by rw [List.mem_singleton] at hw; subst hw; rfl⟩
        · exact ⟨[], by simp, fun w hw => by simp at hw⟩
    obtain ⟨m1, h4, h5⟩ := h3
    refine ⟨m1 ++ m', by show fates keep t a (i + 1) m _ = _; rw [h1, h4, List.append_assoc], fun w hw => ?_⟩
    rcases List.mem_append.1 hw with hw | hw
    · exact ⟨v, by simp, h5 w hw⟩
    · obtain ⟨u, hu, e⟩ := h2 w hw
      exact ⟨u, by simp [hu], e⟩
theorem restart_up {s : St} {n : Nat} (h : s.size = n) (keep : List Int) (t a : Int) : UpN (restart s keep t a) n ∧ (s.pend = [] → (restart s keep t a).all = s.all) ∧ ∃ m', (restart s keep t a).all = s.all ++ m' ∧ ∀ w ∈ m', ∃ v ∈ s.pend, w.1 = v.1 := by
  refine ⟨⟨h, rfl, rfl, by simp [restart]⟩, fun e => by unfold restart; rw [e]; rfl, ?_⟩
  exact fates_places keep t a s.pend 0 s.all
/-- what is read at a place by a disk's power -/
def rd (l : List (List UInt8)) (s : St) (p : Int) : X × Int := Sec.decode (ckS l (read s p).1) p (read s p).1
theorem rd_good {s : St} {n : Nat} (h : UpN s n) {l : List (List UInt8)} {p : Int} {x : X} (h0 : 0 ≤ p) (h1 : p < n) (hg : Sup.Good l p x (kept s.all p.toNat)) : rd l s p = (x, 0) := by
  unfold rd
  rw [h.read h0 h1]
  exact hg.dec
theorem rd_zero {s : St} {n : Nat} (h : UpN s n) {l : List (List UInt8)} {p : Int} (h0 : 0 ≤ p) (h1 : p < n) (hg : kept s.all p.toNat = zero512) : rd l s p = (X0, 7) := by
  unfold rd
  rw [h.read h0 h1, hg]
  exact Sup.dec_zero _ _
theorem rd_sound {l : List (List UInt8)} {s : St} {p : Int} (h : (rd l s p).2 = 0) : rightF p (rd l s p).1 = 0 ∧ text p (rd l s p).1 ∈ l := by
  unfold rd at h ⊢
  generalize hd : Sec.decode (ckS l (read s p).1) p (read s p).1 = d at h
  obtain ⟨x, f⟩ := d
  simp only at h
  subst h
  exact dec_sound hd
end Go.Proofs.YtchcmklelmlbgaaGreat.Enc

/- The pages of a life: snap.Write and Empty, and what they come to. -/
namespace Go.Proofs.YtchcmklelmlbgaaGreat.Snap
open Go.RowKit
open Go.Proofs.YtchcmklelmlbgaaGreat.Geom
open Go.Proofs.YtchcmklelmlbgaaGreat.Sup (Gb gv gcell srightF gthree)
open Go.Proofs.YtchcmklelmlbgaaGreat.Disk (St DAt Did New8 Told8)
open Go.Proofs.YtchcmklelmlbgaaGreat.Sec (X SymAt text sumOf sumAfter ckS blankB rightF encode_sym decode_sym right_0 right_2 xv RetX X0 five5x)
open Go.Proofs.YtchcmklelmlbgaaGreat.Enc (Itm xB encs enf encs_go encs_stop encs_nil)
set_option linter.unusedVariables false
set_option maxRecDepth 100000
/-- the sectors of pages from the n-th on -/
def pItems (ga gd gl : Int) (life : UInt64) : Nat → List (List UInt8) → List Itm
  | _, [] => []
  | n, b :: r => (areaAt ga gd gl life.toNat n, px life n b) :: pItems ga gd gl life (n + 1) r
theorem pItems_len (ga gd gl : Int) (life : UInt64) : ∀ (n : Nat) (bs : List (List UInt8)), (pItems ga gd gl life n bs).length = bs.length
  | _, [] => rfl
  | n, b :: r => by show (_ :: pItems ga gd gl life (n + 1) r).length = _; rw [List.length_cons, pItems_len ga gd gl life (n + 1) r]; rfl
theorem pItems_drop {ga gd gl : Int} {life : UInt64} {pages : List (List UInt8)} {k : Nat} (h : k < pages.length) : pItems ga gd gl life k (pages.drop k) = (areaAt ga gd gl life.toNat k, px life k pages[k]) :: pItems ga gd gl life (k + 1) (pages.drop (k + 1)) := by
  rw [List.drop_eq_getElem_cons h]; rfl
theorem area_ok {ga gd gl : Int} {life : UInt64} {k : Nat} (h : (k : Int) < pagesOf ga gd gl) : 0 ≤ areaAt ga gd gl life.toNat k ∧ areaAt ga gd gl life.toNat k < Geom.sizeOf ga gd gl ∧ areaAt ga gd gl life.toNat k ≤ 1023 := by
  have hr := pages_right (a := ga) (d := gd) (g := gl) (i := (k : Int)) (by omega) h
  have hy := right_yes hr
  have hb := size_bd ga gd gl
  have e : Geom.sizeOf ga gd gl = 4 + gl + 2 * pagesOf ga gd gl := by unfold Geom.sizeOf; rw [if_pos hr]
  unfold areaAt
  rw [if_pos ⟨by omega, h⟩]
  have hp := pagesOf_bd ga gd gl
  rcases (show ((life.toNat : Int) % 2 = 0 ∨ (life.toNat : Int) % 2 = 1) by omega) with h2 | h2 <;> rw [h2] <;> omega
def snapF (ga gd gl : Int) (life : UInt64) (pages : List (List UInt8)) (l : List (List UInt8)) (s : St) : List (List UInt8) × St × Int := enf (pItems ga gd gl life 0 pages) l s
theorem made_nil (s : Nat) : (madeCells (Value.slice none 0 0).cells (s * 1)).toList = List.replicate s (Value.slice none 0 0) := by
  apply List.ext_getElem
  · simp [madeCells]
  · intro i h1 h2
    simp [madeCells, Value.cells, Nat.mod_one]
theorem infoS : (Tryz.prog.info? 51).map (fun i => (i.zero, i.size, i.bytes)) = some (some (.slice none 0 0), 1, 24) := by kernel_rfl
/-- no pages yet -/
theorem empty_any (ga gd gl : Int) (w : World) (hG : Gb ga gd gl) : Calls Tryz.prog 37 #[gv ga gd gl] w fun e w' => ∃ A c, e = .returned (.slice A (pagesOf ga gd gl).toNat c) ∧ w'.ownsRow w.heap.size 51 1 (.slice A (pagesOf ga gd gl).toNat c) (pagesOf ga gd gl).toNat (List.replicate (pagesOf ga gd gl).toNat (.slice none 0 0)) ∧ Below w.heap.size w w' := by
  obtain ⟨z0, z1, z2⟩ := gthree (Blk.new w (gcell ga gd gl) 23)
  have b0 := b1alloc w (.cells (gcell ga gd gl).toArray 23)
  have HP := Lib.hid (fun W => Geom.pages_any ga gd gl W hG.a0 hG.a1 hG.d0 hG.d1 hG.g0 hG.g1)
  have hp := pagesOf_bd ga gd gl
  obtain ⟨n, hn⟩ : ∃ n : Nat, pagesOf ga gd gl = (n : Int) := ⟨_, (Int.toNat_of_nonneg hp.1).symm⟩
  rw [hn] at HP hp ⊢
  rw [Int.toNat_natCast]
  clear hn
  obtain ⟨i0, hi0, hz0, hz1, hz2⟩ := info_parts infoS
  go_enter Tryz.func37, Tryz.ntmps37
  go_wp2_with (first
    | (go_at_call 70; refine (HP.out _).mono ?_; rintro e w1 ⟨rfl, b1⟩; have b2 := bt b0 b1)
    | (at_make; refine wpList_make_full _ rfl _ _ _ rfl w.heap.size 51 i0 _ 1 Tryz.underlying47 hi0 hz0 hz1 _ _ _ _ n rfl rfl rfl rfl (by rw [hz2]; omega) (by simp only [maxLen]; omega) b2.size ?_; intro w3 own3 b3))
  go_ret
  rw [made_nil] at own3
  exact ⟨_, _, rfl, own3, b2.trans ((Below.refl _ _).grown b3 b2.size (by simp))⟩
theorem writeD_nil (gS : Nat) (ga gd gl : Int) (life : UInt64) (A : Option Addr) (n c : Nat) (w : World) : Calls Tryz.prog 78 #[.pointer none, .pointer (some ⟨gS, 0, none⟩), gv ga gd gl, .int .u64 (life.toNat : Int), .slice A n c] w fun e w' => e = .returned (.int .i64 1) ∧ Below w.heap.size w w' := by
  obtain ⟨z0, z1, z2⟩ := gthree (Blk.new w (gcell ga gd gl) 23)
  have b0 := b1alloc w (.cells (gcell ga gd gl).toArray 23)
  go_enter Tryz.func78, Tryz.ntmps78
  go_wp2_with (go_at_call 90; refine (rightD_nil _ _ _ _ _ _).mono ?_; rintro e w1 ⟨rfl, b1⟩)
  go_ret
  exact ⟨rfl, bt (bt b0 (b1alloc _ _)) b1⟩
theorem writeS_nil (g : Nat) (ga gd gl : Int) (life : UInt64) (A : Option Addr) (n c : Nat) (w : World) : Calls Tryz.prog 78 #[.pointer (some ⟨g, 0, none⟩), .pointer none, gv ga gd gl, .int .u64 (life.toNat : Int), .slice A n c] w fun e w' => e = .returned (.int .i64 1) ∧ Below w.heap.size w w' := by
  obtain ⟨z0, z1, z2⟩ := gthree (Blk.new w (gcell ga gd gl) 23)
  have b0 := b1alloc w (.cells (gcell ga gd gl).toArray 23)
  go_enter Tryz.func78, Tryz.ntmps78
  go_wp2_with (go_at_call 90; refine (rightS_nil _ _ _ _ _ _).mono ?_; rintro e w1 ⟨rfl, b1⟩)
  go_ret
  exact ⟨rfl, bt (bt b0 (b1alloc _ _)) b1⟩
theorem write_wrong (g : Nat) (fp : List Nat) (s : St) (gS : Nat) (ga gd gl : Int) (life : UInt64) (A : Option Addr) (n c : Nat) (w : World) (hG : Gb ga gd gl) (h : DAt w g fp s) (hf : srightF s ga gd gl ≠ 0) : Calls Tryz.prog 78 #[.pointer (some ⟨g, 0, none⟩), .pointer (some ⟨gS, 0, none⟩), gv ga gd gl, .int .u64 (life.toNat : Int), .slice A n c] w fun e w' => e = .returned (.int .i64 (srightF s ga gd gl)) ∧ Below w.heap.size w w' := by
  obtain ⟨z0, z1, z2⟩ := gthree (Blk.new w (gcell ga gd gl) 23)
  have b0 := b1alloc w (.cells (gcell ga gd gl).toArray 23)
  have HB := Lib.hid (fun W (bW : Below w.heap.size w W) => right_any g fp s gS ga gd gl life W hG (h.on bW))
  obtain ⟨f, hf0⟩ : ∃ f, f = srightF s ga gd gl := ⟨_, rfl⟩
  rw [← hf0] at HB hf ⊢
  have t0 := bne_yes hf
  clear hf0
  go_enter Tryz.func78, Tryz.ntmps78
  go_wp2_with (go_at_call 90; refine (HB.out _ (bt b0 (b1alloc _ _))).mono ?_; rintro e w1 ⟨rfl, b1⟩)
  go_ret
  exact ⟨rfl, bt (bt b0 (b1alloc _ _)) b1⟩
set_option maxHeartbeats 1000000 in
theorem write_range (g : Nat) (fp : List Nat) (s : St) (gS : Nat) (ga gd gl : Int) (life : UInt64) (A : Option Addr) (pages : List (List UInt8)) (c : Nat) (w : World) (hG : Gb ga gd gl) (h : DAt w g fp s) (hf : srightF s ga gd gl = 0) (hr : Rws w w.heap.size A pages) (hl : pages.length ≤ 1000000)
    (hbad : (pages.length : Int) ≠ pagesOf ga gd gl ∨ longB pages = true) : Calls Tryz.prog 78 #[.pointer (some ⟨g, 0, none⟩), .pointer (some ⟨gS, 0, none⟩), gv ga gd gl, .int .u64 (life.toNat : Int), .slice A pages.length c] w fun e w' => e = .returned (.int .i64 2) ∧ Below w.heap.size w w' := by
  have FG := Blk.new w (gcell ga gd gl) 23
  obtain ⟨z0, z1, z2⟩ := gthree FG
  have b0 := b1alloc w (.cells (gcell ga gd gl).toArray 23)
  have HB := Lib.hid (fun W (bW : Below w.heap.size w W) => right_any g fp s gS ga gd gl life W hG (h.on bW))
  rw [hf] at HB
  have HP := Lib.hid (fun W => Geom.pages_any ga gd gl W hG.a0 hG.a1 hG.d0 hG.d1 hG.g0 hG.g1)
  have HC := Lib.hid (fun W (bW : Below w.heap.size w W) => contains_any A pages c W (hr.on bW) hl)
  have FGh := Lib.hid FG
  obtain ⟨N, hN⟩ : ∃ N, N = pagesOf ga gd gl := ⟨_, rfl⟩
  rw [← hN] at HP hbad
  clear hN FG
  by_cases hn : (pages.length : Int) = N
  · have hb : longB pages = true := by rcases hbad with h | h; exact absurd hn h; exact h
    have t0 := bne_no hn
    rw [hb] at HC
    have Hn := Lib.hid hn
    clear hn hbad hb
    go_enter Tryz.func78, Tryz.ntmps78
    go_wp2_with (go_at_call 90; refine (HB.out _ (bt b0 (b1alloc _ _))).mono ?_; rintro e w1 ⟨rfl, b1⟩; have b2 := bt (bt b0 (b1alloc _ _)) b1; clear z0 z1 z2; obtain ⟨z0, z1, z2⟩ := gthree ((FGh.out.alloc _).on b1))
    go_wp2_with (first
      | (go_at_call 70; refine (HP.out _).mono ?_; rintro e w2 ⟨rfl, b3⟩; have b4 := bt b2 b3)
      | (go_at_call 103; refine (HC.out _ b4).mono ?_; rintro e w3 ⟨rfl, rfl⟩))
    go_ret
    exact ⟨rfl, b4⟩
  · have t0 := bne_yes hn
    have Hn := Lib.hid hn
    clear hn hbad
    go_enter Tryz.func78, Tryz.ntmps78
    go_wp2_with (go_at_call 90; refine (HB.out _ (bt b0 (b1alloc _ _))).mono ?_; rintro e w1 ⟨rfl, b1⟩; have b2 := bt (bt b0 (b1alloc _ _)) b1; clear z0 z1 z2; obtain ⟨z0, z1, z2⟩ := gthree ((FGh.out.alloc _).on b1))
    go_wp2_with (go_at_call 70; refine (HP.out _).mono ?_; rintro e w2 ⟨rfl, b3⟩; have b4 := bt b2 b3)
    go_ret
    exact ⟨rfl, b4⟩
set_option maxHeartbeats 2000000 in
theorem write_any (g : Nat) (fp : List Nat) (s : St) (gS bS : Nat) (l : List (List UInt8)) (ga gd gl : Int) (life : UInt64) (Q : Nat → Prop) (A : Option Addr) (pages : List (List UInt8)) (c : Nat) (w : World) (hG : Gb ga gd gl) (h : Both w g fp s gS bS l) (hl : l.length ≤ 900000) (hs : s.sz ≤ 80000000) (hf : srightF s ga gd gl = 0)
    (hr : Rw w Q A pages) (hQ : ∀ j, Q j → j < w.heap.size → j ∉ bS :: fp) (hn : (pages.length : Int) = pagesOf ga gd gl) (hlong : longB pages = false) :
    Calls Tryz.prog 78 #[.pointer (some ⟨g, 0, none⟩), .pointer (some ⟨gS, 0, none⟩), gv ga gd gl, .int .u64 (life.toNat : Int), .slice A pages.length c] w fun e w' => e = .returned (.int .i64 (snapF ga gd gl life pages l s).2.2) ∧ Turn w g fp gS bS (snapF ga gd gl life pages l s).2.1 (snapF ga gd gl life pages l s).1 w' := by
  have FG := Blk.new w (gcell ga gd gl) 23
  obtain ⟨z0, z1, z2⟩ := gthree FG
  have b0 := b1alloc w (.cells (gcell ga gd gl).toArray 23)
  have HB := Lib.hid (fun W (bW : Below w.heap.size w W) => right_any g fp s gS ga gd gl life W hG (h.disk.on bW))
  rw [hf] at HB
  have HP := Lib.hid (fun W => Geom.pages_any ga gd gl W hG.a0 hG.a1 hG.d0 hG.d1 hG.g0 hG.g1)
  have hpb := pagesOf_bd ga gd gl
  have HC := Lib.hid (fun W (bW : Below w.heap.size w W) => contains_any A pages c W (hr.rws.on bW) (by omega))
  rw [hlong] at HC
  have FGh := Lib.hid FG
  have FA : Hid (Blk ((w.alloc (.cells (gcell ga gd gl).toArray 23)).alloc (.cells (acell (.pointer (some ⟨g, 0, none⟩)) (.pointer (some ⟨gS, 0, none⟩)) ga gd gl life).toArray 143)) (w.heap.size + 1) (acell (.pointer (some ⟨g, 0, none⟩)) (.pointer (some ⟨gS, 0, none⟩)) ga gd gl life)) := Lib.hid (by simpa using Blk.new (w.alloc (.cells (gcell ga gd gl).toArray 23)) (acell (.pointer (some ⟨g, 0, none⟩)) (.pointer (some ⟨gS, 0, none⟩)) ga gd gl life) 143)
  have har := Lib.hid (fun (k : Nat) (hk : k < pages.length) => area_ok (ga := ga) (gd := gd) (gl := gl) (life := life) (k := k) (by omega))
  rw [← hn] at HP
  have hshort : ∀ j (hj : j < pages.length), pages[j].length ≤ 479 := by
    intro j hj
    apply Nat.le_of_not_lt
    intro hlt
    rw [longB_yes hj hlt] at hlong
    cases hlong
  have Hshort := Lib.hid hshort
  have t0 : ((pages.length : Int) != (pages.length : Int)) = false := bne_no rfl
  have hN85 : pages.length ≤ 85 := by omega
  have hu : snapF ga gd gl life pages l s = if (encs (pItems ga gd gl life 0 pages) l s).2.2 = 0 then ((encs (pItems ga gd gl life 0 pages) l s).1, Disk.flush (encs (pItems ga gd gl life 0 pages) l s).2.1) else encs (pItems ga gd gl life 0 pages) l s := rfl
  obtain ⟨R, hR⟩ : ∃ R, R = snapF ga gd gl life pages l s := ⟨_, rfl⟩
  rw [← hR] at hu ⊢
  obtain ⟨E, hE⟩ : ∃ E, E = encs (pItems ga gd gl life 0 pages) l s := ⟨_, rfl⟩
  rw [← hE] at hu
  have HE := Lib.hid hE
  have HU := Lib.hid hu
  clear hR
  clear hu hE hn hlong hpb FG hshort
  go_enter Tryz.func78, Tryz.ntmps78
  go_wp2_with (go_at_call 90; refine (HB.out _ (bt b0 (b1alloc _ _))).mono ?_; rintro e w1 ⟨rfl, b1⟩; have b2 := bt (bt b0 (b1alloc _ _)) b1; clear z0 z1 z2; obtain ⟨z0, z1, z2⟩ := gthree ((FGh.out.alloc _).on b1))
  go_wp2_with (first
    | (go_at_call 70; refine (HP.out _).mono ?_; rintro e w2 ⟨rfl, b3⟩; have b4 := bt b2 b3)
    | (go_at_call 103; refine (HC.out _ b4).mono ?_; rintro e w3 ⟨rfl, rfl⟩))
  have hA2 := FA.out.on (bt b1 b3)
  have nA : w.heap.size + 1 ∉ bS :: fp := fun e => by
    rcases List.mem_cons.1 e with e | e
    · have := h.sym.lt.2; omega
    · have := h.disk.lt _ e; omega
  have H2 := h.on b4
  clear z0 z1 z2
  go_loopw [39] (fun i wr => ∃ k : Nat, k ≤ pages.length ∧ i = .int .i64 k ∧ ∃ fp' s' l', Both wr g fp' s' gS bS l' ∧ Keep (bS :: fp) w wr ∧ Fresh w fp fp' ∧ Blk wr (w.heap.size + 1) (acell (.pointer (some ⟨g, 0, none⟩)) (.pointer (some ⟨gS, 0, none⟩)) ga gd gl life) ∧ w.heap.size + 1 ∉ bS :: fp' ∧ Hid (E = encs (pItems ga gd gl life k (pages.drop k)) l' s' ∧ l'.length ≤ l.length + k ∧ s'.sz ≤ s.sz + 2 * k)) (fun i _ => pages.length - (intOf i).toNat)
  case atStart => exact ⟨0, by omega, rfl, fp, s, l, H2, Keep.of_below b4 _, Fresh.refl _ _, hA2, nA, Lib.hid ⟨by rw [List.drop_zero]; exact HE.out, by omega, by omega⟩⟩
  case round =>
    obtain ⟨k, hk, rfl, fp', s', l', HB', K, F, HA, nA', hid⟩ := hrel
    clear H2 hA2 nA
    obtain ⟨z0, z1, z2, z3, z4, z5⟩ := six6 HA
    by_cases hlt : k < pages.length
    · have hL1 : l'.length ≤ 1000000 := Nat.le_trans hid.out.2.1 (by omega)
      have hS1 : s'.sz ≤ 90000000 := Nat.le_trans hid.out.2.2 (by omega)
      have hk1 : k ≤ 1000 := by omega
      obtain ⟨b, off, Ai, ci, rfl, hb, hc, hrk, _, _⟩ := (hr.keep K hQ).get hlt
      have hkn : (k : Int) < (pages.length : Int) := by omega
      have hP := put_any g fp' s' gS bS l' ga gd gl life k pages[k] Ai ci wr hG HB' hL1 hS1 (har.out k hlt).1 (har.out k hlt).2.2 hk1 (Hshort.out k hlt) hrk.rd
      have hst := hid.out.1
      rw [pItems_drop hlt] at hst
      have hlm := hid.out.2
      have hl2 : (pL l' (areaAt ga gd gl life.toNat k) life k pages[k]).length ≤ l.length + (k + 1) := by have := Enc.sumAfter_len l' (text (areaAt ga gd gl life.toNat k) (px life k pages[k])); unfold pL; omega
      have hs2 : (Disk.write s' (areaAt ga gd gl life.toNat k) (pB l' (areaAt ga gd gl life.toNat k) life k pages[k])).1.sz ≤ s.sz + 2 * (k + 1) := by have := Disk.sz_write s' (areaAt ga gd gl life.toNat k) (pB l' (areaAt ga gd gl life.toNat k) life k pages[k]); omega
      have hgo : (Disk.write s' (areaAt ga gd gl life.toNat k) (pB l' (areaAt ga gd gl life.toNat k) life k pages[k])).2 = 0 → E = encs (pItems ga gd gl life (k + 1) (pages.drop (k + 1))) (pL l' (areaAt ga gd gl life.toNat k) life k pages[k]) (Disk.write s' (areaAt ga gd gl life.toNat k) (pB l' (areaAt ga gd gl life.toNat k) life k pages[k])).1 := fun e => by rw [hst]; exact encs_go e
      have hstop : (Disk.write s' (areaAt ga gd gl life.toNat k) (pB l' (areaAt ga gd gl life.toNat k) life k pages[k])).2 ≠ 0 → E = (pL l' (areaAt ga gd gl life.toNat k) life k pages[k], Disk.write s' (areaAt ga gd gl life.toNat k) (pB l' (areaAt ga gd gl life.toNat k) life k pages[k])) := fun e => by rw [hst]; exact encs_stop e
      obtain ⟨V, hV⟩ : ∃ V, V = Disk.write s' (areaAt ga gd gl life.toNat k) (pB l' (areaAt ga gd gl life.toNat k) life k pages[k]) := ⟨_, rfl⟩
      obtain ⟨L, hL⟩ : ∃ L, L = pL l' (areaAt ga gd gl life.toNat k) life k pages[k] := ⟨_, rfl⟩
      obtain ⟨bk, hbk⟩ : ∃ b, b = pages[k] := ⟨_, rfl⟩
      rw [← hV] at hP hs2 hgo hstop
      rw [← hL] at hP hl2 hgo hstop
      rw [← hbk] at hP hc
      have HPut := Lib.hid hP
      have Hlm := Lib.hid (And.intro hl2 hs2)
      clear hP hst hV hL hlm hrk hbk hl2 hs2
      by_cases h0 : V.2 = 0
      · have t1 := bne_no h0
        have hgo' := Lib.hid (hgo h0)
        rw [h0] at HPut
        clear hgo hstop h0
        go_wp2_with (go_at_call 104; refine HPut.out.mono ?_; rintro e w5 ⟨rfl, T5⟩)
        case roundEnd =>
          obtain ⟨fp5, H5, K5, F5⟩ := T5
          have nA5 : w.heap.size + 1 ∉ bS :: fp5 := fun e => by
            rcases List.mem_cons.1 e with e | e
            · exact nA' (by rw [e]; simp)
            · exact F5.out HA.lt (fun e => nA' (List.mem_cons_of_mem _ e)) e
          exact ⟨⟨k + 1, by omega, by go_num, fp5, V.1, L, H5, keepT K F K5, F.trans K.size F5, HA.keepK K5 nA', nA5, Lib.hid ⟨hgo'.out, Hlm.out.1, Hlm.out.2⟩⟩, by simp only [intOf]; omega⟩
      · have t1 := bne_yes h0
        have hstop' := Lib.hid (show R = (L, V) by rw [HU.out, if_neg (by rw [hstop h0]; exact h0)]; exact hstop h0)
        have H0 := Lib.hid h0
        clear hgo hstop h0
        go_wp2_with (go_at_call 104; refine HPut.out.mono ?_; rintro e w5 ⟨rfl, T5⟩)
        go_ret
        rw [hstop'.out]
        exact ⟨rfl, Turn.trans K F T5⟩
    · have hkn : ¬ (k : Int) < (pages.length : Int) := by omega
      have hst := hid.out.1
      rw [List.drop_of_length_le (by omega)] at hst
      have hst' : E = (l', s', 0) := hst
      have hFl := Lib.hid (fun W hD => Disk.flush_any g fp' s' W hD (by have := hid.out.2.2; omega))
      have hst2 := Lib.hid (show R = (l', Disk.flush s') by rw [HU.out, hst', if_pos (show (l', s', (0 : Int)).2.2 = 0 from rfl)])
      clear hst hst'
      go_wp2_with (go_at_call 75; refine (hFl.out _ HB'.disk).mono ?_; rintro e w5 D5; obtain ⟨rfl, T5⟩ := Turn.ofDid HB' D5)
      go_ret
      rw [hst2.out]
      exact ⟨rfl, Turn.trans K F T5⟩
end Go.Proofs.YtchcmklelmlbgaaGreat.Snap

/- A range over an iterator that hands new memory to each round: what is handed is as the iterator says in the world of that round. No statement is proved here. -/
namespace Go.Proofs.YtchcmklelmlbgaaGreat.Ch
open Go.RowKit
set_option linter.unusedVariables false
/-- an iterator's contract: of each value that it hands, Ok holds in the world in which it hands it -/
def SeqOk {α : Type} (n : Nat) (P : Program) (g : Nat) (lb : Array Value) (encs : α → Array Value) (Ok : World → α → Prop) (Kp : World → World → Prop) (S Sp : List α → Prop) (N : Nat) (w : World) : Prop :=
  ∀ (l : Nat) (J Jx : List α → World → Prop) (W : World), Below w.heap.size w W → AbidesFrom W.heap.size J → AbidesFrom W.heap.size Jx →
    (∀ pre x W1, J pre W1 → Ok W1 x → pre.length < N → YieldAt Fence.wide (n - 1) P l (encs x) W1 fun e W' =>
      (e = .returned (.bool true) ∧ J (pre ++ [x]) W' ∧ Kp W1 W') ∨ (e = .returned (.bool false) ∧ Jx (pre ++ [x]) W')) →
    J [] W → CallsIn Fence.wide n P g (#[.func (.yield l) #[] #[]] ++ lb) W fun e W' => (∃ v, e = .returned v) ∧ ((∃ xs, S xs ∧ J xs W') ∨ (∃ pre, Sp pre ∧ Jx pre W'))
/-- the loop's own two blocks: its record, and its rounds' deferred calls -/
def Own2 (l D : Nat) (r : Loop) (W : World) : Prop := W.heap[l]? = some (.loop r) ∧ W.heap[D]? = some (.deferred (some []))
theorem Own2.lt {l D : Nat} {r : Loop} {W : World} (h : Own2 l D r W) : l < W.heap.size := (Array.getElem?_eq_some_iff.1 h.1).1
theorem Own2.put {l D : Nat} {r : Loop} {W : World} (h : Own2 l D r W) (hne : l ≠ D) (r' : Loop) : Own2 l D r' (W.putObj l (.loop r')) := ⟨World.putObj_heap_same h.lt, (World.putObj_heap_other (Ne.symm hne)).trans h.2⟩
theorem Own2.keeps {l D : Nat} {r : Loop} {W W' : World} (h : Own2 l D r W) (k : KeepsOthers W W') : Own2 l D r W' := ⟨k.same _ _ h.1 rfl, k.same _ _ h.2 rfl⟩
theorem Own2.grown {l D : Nat} {r : Loop} {W W' : World} {row : Option Nat} (h : Own2 l D r W) (hg : W.grownBy W' row) (hr : ∀ j, row = some j → ∃ o : Obj, W.heap[j]? = some o ∧ o.isWalk = true) : Own2 l D r W' := by
  have hl : ∀ j, row = some j → l ≠ j ∧ D ≠ j := fun j e => by
    obtain ⟨o, ho, hw⟩ := hr j e
    refine ⟨fun h1 => ?_, fun h1 => ?_⟩ <;> subst h1
    · rw [h.1] at ho; cases ho; cases hw
    · rw [h.2] at ho; cases ho; cases hw
  exact ⟨(hg.block l h.lt (fun e => (hl l e.symm).1 rfl)).trans h.1, (hg.block D (Array.getElem?_eq_some_iff.1 h.2).1 (fun e => (hl D e.symm).2 rfl)).trans h.2⟩
theorem range_ok {α : Type} {P : Program} {n : Nat} {g : Operand} {ps : Array Tmp} {assign body : Code} {Q : Exit → Act → World → Prop} {a : Act} {w : World}
    (h1 : 1 ≤ n) {gf : Nat} {lb : Array Value} (hg : a.eval g = .func (.func gf) #[] lb) (eg : ∀ args w, (callFunc gf args).run P w = .ok (.enter gf args) w)
    {encs : α → Array Value} {Ok : World → α → Prop} {Kp : World → World → Prop} {S Sp : List α → Prop} {N : Nat} {w0 : World} (hseq : SeqOk (n - 1) P gf lb encs Ok Kp S Sp N w0)
    (hKt : ∀ {A B C : World}, Kp A B → Kp B C → Kp A C) (hKb : ∀ (W : World) (l : Nat) (o o' : Obj), w.heap.size ≤ l → W.heap[l]? = some o → o.isCells = false → o.isWalk = false → Kp W (W.putObj l o'))
    (hb0 : Below w0.heap.size w0 w) (hps : ∀ x, (encs x).size = ps.size)
    (I : List α → World → Prop) (Ix : Code → List α → World → Prop) (hI : OwnFrom w.heap.size I) (hIx : ∀ c, OwnFrom w.heap.size (Ix c)) (h0 : I [] w) (M : List α → α → Act → World → Prop) (hM : ∀ pre x a (W : World) (l : Nat) (o o' : Obj), w.heap.size ≤ l → W.heap[l]? = some o → o.isCells = false → M pre x a W → M pre x a (W.putObj l o'))
    (hassign : ∀ (l : Nat) (pre : List α) (x : α) (W : World), I pre W → Ok W x → pre.length < N →
      assign.wpIn (Fence.wide.inRound l) (n - 1 - 1) P (Exit.then (fun a' W' => KeepsOthers W W' ∧ Kp W W' ∧ M pre x a' W') (fun _ _ _ => False)) { tmps := (ps.zip (encs x)).foldl (fun t (p, v) => t.setIfInBounds p v) a.tmps, defers := [] } W)
    (hbody : ∀ (l : Nat) (pre : List α) (x : α) (a' : Act) (W : World), M pre x a' W → pre.length < N → body.wpIn (Fence.wide.inRound l) (n - 1 - 1) P (ownPostK Kp I Ix (pre ++ [x]) W) a' W)
    (hdone : ∀ (D : Nat) (xs : List α) (W : World), w.heap.size ≤ D → S xs → I xs W → W.heap[D]? = some (.deferred (some [])) → Q .normal { a with defers := { target := .collected D, args := #[] } :: a.defers } W)
    (hstop : ∀ (D : Nat) (c : Code) (pre : List α) (W : World), w.heap.size ≤ D → Sp pre → Ix c pre W → W.heap[D]? = some (.deferred (some [])) → c.wpIn Fence.wide n P Q { a with defers := { target := .collected D, args := #[] } :: a.defers } W) :
    (Code.rangeFunc g ps assign body).wpIn Fence.wide n P Q a w := by
  refine wpIn_rangeFunc fun fn hfn => ?_
  obtain ⟨D, hD⟩ : ∃ D, D = w.heap.size := ⟨_, rfl⟩
  obtain ⟨L, hL⟩ : ∃ L, L = w.heap.size + 1 := ⟨_, rfl⟩
  obtain ⟨rec, hrec⟩ : ∃ rec : LoopState → Option Code → Loop, ∀ st pe, rec st pe = { state := st, pending := pe, fn, tmps := a.tmps, params := ps, assign, body, defers := w.heap.size } := ⟨fun st pe => _, fun st pe => rfl⟩
  obtain ⟨W1, hW1⟩ : ∃ W1, W1 = (w.alloc (.deferred (some []))).alloc (.loop (rec .ready none)) := ⟨_, rfl⟩
  have hne : L ≠ D := by omega
  have hO1 : Own2 L D (rec .ready none) W1 := by
    rw [hW1, hL, hD]
    refine ⟨?_, (Below.heap_alloc _ _ _ (by simp)).trans (World.alloc_heap_new w _)⟩
    have := World.alloc_heap_new (w.alloc (.deferred (some []))) (.loop (rec .ready none))
    rwa [World.size_alloc] at this
  have hB1 : Below w0.heap.size w0 W1 := by rw [hW1]; exact bt hb0 (b2alloc w _ _)
  have hI1 : I [] W1 := by rw [hW1]; exact hI.alloc _ (hI.alloc _ h0)
  have hsz1 : w.heap.size ≤ W1.heap.size := by have := hO1.lt; omega
  refine ⟨L, [{ target := .collected D, args := #[] }], W1, { target := .fn (.func gf) lb, args := #[.func (.yield L) #[] #[]] }, W1, gf, #[.func (.yield L) #[] #[]] ++ lb, W1, ?_, ?_, ?_, ?_, fun _ => h1, ?_⟩
  · rw [hW1, hL, hD, hrec]; exact run_enterLoop_outer _ _ _ _ _
  · simp only [resolve, hg]; simp [go_sem, hL]
  · intro f' hf'; trivial
  · simp [invoke, go_sem, eg]
  have hturn : ∀ {A : World} {row : Option Nat}, (∀ r, row = some r → W1.heap.size ≤ r ∧ ∃ o : Obj, A.heap[r]? = some o ∧ o.isWalk = true) → ∀ r, row = some r → w.heap.size ≤ r ∧ ∃ o : Obj, A.heap[r]? = some o ∧ o.isCells = false :=
    fun hr r e => by obtain ⟨hb, o, ho, hw⟩ := hr r e; exact ⟨by omega, o, ho, Obj.not_cells_of_walk hw⟩
  refine (hseq L (fun pre W => I pre W ∧ Own2 L D (rec .ready none) W) (fun pre W => ∃ c, Ix c pre W ∧ Own2 L D (rec .done (some c)) W) W1 hB1
    (fun s A B row hs hgr hr => ⟨hI s A B row hs.1 hgr (hturn hr), hs.2.grown hgr (fun j e => (hr j e).2)⟩)
    (fun s A B row hs hgr hr => by obtain ⟨c, h2, h3⟩ := hs; exact ⟨c, hIx c s A B row h2 hgr (hturn hr), h3.grown hgr (fun j e => (hr j e).2)⟩) ?_ ⟨hI1, hO1⟩).mono ?_
  · rintro pre x W ⟨hi, ho⟩ hok hlen
    have hy := run_yield (P := P) (args := encs x) ho.1 (by rw [hrec]; exact hps x)
    rw [hrec] at hy
    refine ⟨fn, _, assign, body, hy, roundIn_of_wpIn hfn (wpIn_mono (hassign L pre x W hi hok hlen) ?_)⟩
    rintro e0 a2 W2 hp0
    cases e0 <;> first | exact hp0.elim | skip
    obtain ⟨hk0, hkp0, hm0⟩ := hp0
    have ho0 := ho.keeps hk0
    refine ⟨_, run_beginRound (P := P) ho0.1 (by rw [hrec]), ?_⟩
    have ho2 := ho0.put hne { rec .ready none with state := .busy }
    have hk2 : Kp W (W2.putObj L (.loop { rec .ready none with state := .busy })) := hKt hkp0 (hKb _ _ _ _ (by omega) ho0.1 rfl rfl)
    have hm2 : M pre x a2 (W2.putObj L (.loop { rec .ready none with state := .busy })) := hM _ _ _ _ _ _ _ (by omega) ho0.1 rfl hm0
    refine wpIn_mono (hbody L pre x a2 _ hm2 hlen) ?_
    have leave : ∀ (c : Code) (W3 : World), KeepsOthers (W2.putObj L (.loop { rec .ready none with state := .busy })) W3 → Ix c (pre ++ [x]) W3 →
        ∃ v w', (Instr.endRound L (some c)).run P W3 = .ok v w' ∧ ((Ending.returned v = .returned (.bool true) ∧ (I (pre ++ [x]) w' ∧ Own2 L D (rec .ready none) w') ∧ Kp W w') ∨ (Ending.returned v = .returned (.bool false) ∧ ∃ c, Ix c (pre ++ [x]) w' ∧ Own2 L D (rec .done (some c)) w')) := by
      intro c W3 hk3 hx3
      have ho3 := ho2.keeps hk3
      refine ⟨_, _, run_endRound (P := P) (some c) ho3.1, .inr ⟨rfl, c, (hIx c).putObj _ hx3 (by omega) ho3.1 rfl, ?_⟩⟩
      have := ho3.put hne { rec .ready none with state := .done, pending := some c }
      rw [hrec] at this ⊢
      rw [hrec]
      exact this
    rintro e a3 W3 hp
    cases e with
    | normal =>
      obtain ⟨hk3, hkp3, hi3⟩ := hp
      have ho3 := ho2.keeps hk3
      refine ⟨_, _, run_endRound (P := P) none ho3.1, .inl ⟨rfl, ⟨hI.putObj _ hi3 (by omega) ho3.1 rfl, ?_⟩, hKt (hKt hk2 hkp3) (hKb _ _ _ _ (by omega) ho3.1 rfl rfl)⟩⟩
      have := ho3.put hne (rec .ready none)
      rw [hrec] at this ⊢
      exact this
    | ret => exact leave _ _ hp.1 hp.2
    | exit id => exact leave _ _ hp.1 hp.2
    | goto t => exact leave _ _ hp.1 hp.2
    | panic ch => exact hp.elim
    | outgrown => exact hp.elim
  · rintro e W2 ⟨⟨v, rfl⟩, h2⟩
    rcases h2 with ⟨xs, hS, hi, ho⟩ | ⟨pre, hSp, c, hi, ho⟩
    · have hr := run_endLoop (P := P) ho.1 (by rw [hrec]; simp)
      rw [hrec] at hr
      refine ⟨none, _, hr, ?_⟩
      rw [hD]
      rw [hD] at ho
      exact hdone _ xs _ (Nat.le_refl _) hS (hI.putObj _ hi (by omega) ho.1 rfl) ((World.putObj_heap_other (by omega)).trans ho.2)
    · have hr := run_endLoop (P := P) ho.1 (by rw [hrec]; simp)
      rw [hrec] at hr
      refine ⟨some c, _, hr, ?_⟩
      rw [hD]
      rw [hD] at ho
      exact hstop _ c pre _ (Nat.le_refl _) hSp ((hIx c).putObj _ hi (by omega) ho.1 rfl) ((World.putObj_heap_other (by omega)).trans ho.2)
end Go.Proofs.YtchcmklelmlbgaaGreat.Ch

/- A region that draws its order, in a round of a range over a function: what is shown of it outside the fence holds within. -/
namespace Go.Proofs.YtchcmklelmlbgaaGreat
open Go.RowKit
set_option linter.unusedVariables false

section
variable {P : Program} {Q Q' : Exit → Act → World → Prop} {r n : Nat}
theorem fnW (f : FuncId) : (Fence.wide.inRound r).fn f := trivial
theorem oper_in {o : Oper} {a : Act} {w : World} {K K' : Act → World → Prop} (hd : ∀ c, o.op ≠ .defer c) (hno : ¬ LetsOut Q) (hk : ∀ a w, K a w → K' a w) (hq : ∀ e a w, Q e a w → Q' e a w) (h : o.wp P a w K Q) :
    o.wpIn (Fence.wide.inRound r) n P a w K' Q' := by
  refine ⟨fun f _ => trivial, ?_⟩
  rw [Oper.semAt_plain _ _ _ hd]
  unfold Oper.wp at h
  generalize (execOp a.eval o).run P w = x at *
  cases x with
  | halt hx w' =>
    cases hx <;> first | exact hq _ _ _ h | exact h.elim
  | ok nx w' =>
    cases nx with
    | value v => exact hk _ _ h
    | skip => exact hk _ _ h
    | defer d => exact hk _ _ h
    | enter f args =>
      refine ⟨fun h => by simp [Fence.wide] at h, (CallsIn.inRound r (callsIn_wide.2 h)).mono ?_⟩
      intro e w2 he
      cases e with
      | returned v => exact hk _ _ he
      | panicked c => exact hq _ _ _ he
      | outgrown => exact absurd he hno
    | row row args =>
      refine ⟨fun h => by simp [Fence.wide] at h, fun c cs _ => ?_⟩
      obtain ⟨v, w2, hv, hs⟩ := h c cs
      exact ⟨v, w2, hk _ _ hv, stepsIn_wide.2 hs⟩
    | _ => exact h.elim
theorem any_in {md : Region.Mode} {ops : Array Oper} (hd : ∀ (j : Nat) (o : Oper), ops[j]? = some o → ∀ c : Call, o.op ≠ Op.defer c) (hno : ¬ LetsOut Q) (hq : ∀ e a w, Q e a w → Q' e a w) :
    ∀ (g : Nat) (listed : Array Bool) (a : Act) (w : World), wpAny P md ops Q g listed a w → wpAnyIn (Fence.wide.inRound r) n P md ops Q' g listed a w
  | 0, listed, a, w, h => ⟨h.1, hq _ _ _ h.2⟩
  | g + 1, listed, a, w, h => by
    refine ⟨fun h0 => hq _ _ _ (h.1 h0), fun i hi => ?_⟩
    have h1 := h.2 i hi
    unfold wpOp at h1
    unfold wpOpIn
    cases ho : ops[i]? with
    | none => rw [ho] at h1; exact any_in hd hno hq g _ _ _ h1
    | some o =>
      rw [ho] at h1
      simp only at h1 ⊢
      split
      · rename_i hw
        rw [if_pos hw] at h1
        rcases h1 with h1 | h1
        · exact oper_in (hd i o ho) hno (fun a w h => any_in hd hno hq g _ a w h) hq h1
        · exact absurd h1.2 hno
      · rename_i hw
        rw [if_neg hw] at h1
        exact ⟨fun f _ => trivial, any_in hd hno hq g _ _ _ h1⟩
/-- no operation defers a call -/
def noDefer (l : List Oper) : Bool := l.all fun o => match o.op with | .defer _ => false | _ => true
theorem noDefer_spec {l : List Oper} (h : noDefer l = true) : ∀ (j : Nat) (o : Oper), l.toArray[j]? = some o → ∀ c : Call, o.op ≠ Op.defer c := by
  intro j o ho c hc
  have := List.all_eq_true.1 h o (by rw [List.getElem?_toArray] at ho; exact List.mem_of_getElem? ho)
  rw [hc] at this
  cases this
/-- only to the end, and no panic -/
def Nrm (Q : Exit → Act → World → Prop) (e : Exit) (a : Act) (w : World) : Prop := e = .normal ∧ Q .normal a w
theorem Nrm.no (Q : Exit → Act → World → Prop) : ¬ LetsOut (Nrm Q) := by rintro ⟨a, w, h, _⟩; cases h
theorem Nrm.all {Q : Exit → Act → World → Prop} : ∀ e a w, Nrm Q e a w → Q e a w := by rintro e a w ⟨rfl, h⟩; exact h
theorem region_inb_tail_in {id : Nat} {a : Act} {w : World} {l : List Oper} (k : Nat) (hm : P.follows .mixedOrders = true) (hB : Region.lexTailB .any l.toArray k = true) (hdf : noDefer l = true)
    (h : wpQuiet P l.toArray (InB w) (fun a' => ∀ w', InB w w' → wpList P l.toArray (Nrm Q) (l.drop k) a' w') (l.take k) a) : (Code.region id l.toArray true).wpIn (Fence.wide.inRound r) n P Q a w := by
  simp only [Region.lexTailB, Bool.and_eq_true, decide_eq_true_eq] at hB
  obtain ⟨⟨⟨⟨hsel, hn⟩, hs⟩, hc⟩, hlex⟩ := hB
  have hn' : k < l.length := by simpa using hn
  have htl : (l.take k).length = k := by simp; omega
  have hdl : (l.drop k).length = l.toArray.size - k := by simp
  have inv0 : HeadInv .any l.toArray k (Array.replicate l.toArray.size false) :=
    ⟨by simp, fun j oj _ hl => (by rw [getD_replicate_false] at hl; cases hl), fun t _ ht => getD_in (by simpa using ht) (getD_replicate_false _ _)⟩
  have H := headQ_lex (md := .any) (g := l.toArray.size - k) hsel hs hc hn (l.take k) 0 _ a (fun j hj => by
    have hj' : j < k := by rw [htl] at hj; exact hj
    simp [hj']) (by simpa using htl) inv0 (by rw [htl]; exact hlex) h
  refine wpIn_region_any hm (any_in (noDefer_spec hdf) (Nrm.no Q) Nrm.all _ _ _ _ ?_)
  have := any_of_headQ (Q' := Nrm Q) (g := l.toArray.size - k) (fun listed a' w' hw' hL => by
    have := wpAny_of_seq (md := .any) (Q' := Nrm Q) (l.drop k) k listed a' w' (fun j => by simp [List.getElem?_drop]) (by rw [hdl]; exact hL.1) (hL.2 w' hw')
    rwa [hdl] at this) _ _ _ _ (InB.start w) H
  rw [htl, show k + (l.toArray.size - k) = l.toArray.size by omega] at this
  exact this
/-- a region that draws, in a round: its orders as outside the fence -/
theorem region_any_in {id : Nat} {a : Act} {w : World} {l : List Oper} (hm : P.follows .mixedOrders = true) (hdf : noDefer l = true)
    (h : wpAny P .any l.toArray (Nrm Q) l.toArray.size (Array.replicate l.toArray.size false) a w.drew) : (Code.region id l.toArray true).wpIn (Fence.wide.inRound r) n P Q a w :=
  wpIn_region_any hm (any_in (noDefer_spec hdf) (Nrm.no Q) Nrm.all _ _ _ _ h)
end
theorem step_app {P : Program} (w : World) {ops : Array Oper} {o : Oper} {a : Act} {K : Act → World → Prop} {Q : Exit → Act → World → Prop} {E : Prop} (hgd : o.guard = none) (s x : Operand) (t : TypeId)
    (ho : o.op = .call { callee := .builtin .append, args := #[s, x], argTypes := #[t, t] })
    (base : Nat) (e : TypeId) (i : TypeInfo) (z : Value) (size bytes : Nat) (ht : P.underlying t = some (.slice e)) (hi : P.info? e = some i) (hz : i.zero = some z)
    (hsize : i.size = size) (hby : i.bytes = bytes) (hzs : z.cells.size = size) (hsz : 0 < size)
    (v : Value) (n : Nat) (xs : List Value) (hs : a.eval s = v) (hown : w.ownsRow base e size v n xs)
    (A : Option Addr) (m c : Nat) (news : List Value) (hx : a.eval x = .slice A m c) (hl : news.length = m * size) (hr : Rd w w.heap.size A news) (h1 : ∀ u ∈ news, u.oneCell' = true)
    (h63 : n + m ≤ maxLen) (hbytes : (n + m) * bytes ≤ 140737488355328) (hbase : base ≤ w.heap.size)
    (h : ∀ v' w', w'.ownsRow base e size v' (n + m) (xs ++ news) → w.grownBy w' v.ownBlock → K (a.put o.dst v') w') :
    if Region.wanted o (yielded ops a.tmps) = true then Oper.wp P o a w K Q else E := by
  have hw : Region.wanted o (yielded ops a.tmps) = true := by simp [Region.wanted, hgd]
  rw [if_pos hw]
  exact wp_append_rd w s x t ho base e i z size bytes ht hi hz hsize hby hzs hsz v n xs hs hown w.heap.size A m c news hx hl hr h1 h63 hbytes hbase fun v' w' h2 h3 _ => h v' w' h2 h3
end Go.Proofs.YtchcmklelmlbgaaGreat

/- A region that draws its order, under the wide fence: reads and calls that only make memory come first, in whatever order; what waits for all of them (a call of yield) is walked in the fence. -/
namespace Go.Proofs.YtchcmklelmlbgaaGreat
open Go.RowKit
set_option linter.unusedVariables false
section
variable {P : Program} {ops : Array Oper} {md : Region.Mode} {C : World → Prop} {n : Nat}
theorem oper_wide {o : Oper} {a : Act} {w : World} {K K' : Act → World → Prop} {Q : Exit → Act → World → Prop} (hd : ∀ c, o.op ≠ .defer c) (hk : ∀ a w, K a w → K' a w) (h : o.wp P a w K (fun _ _ _ => False)) :
    o.wpIn Fence.wide n P a w K' Q := by
  refine ⟨fun f _ => trivial, ?_⟩
  rw [Oper.semAt_plain _ _ _ hd]
  unfold Oper.wp at h
  generalize (execOp a.eval o).run P w = x at *
  cases x with
  | halt hx w' =>
    cases hx <;> exact h.elim
  | ok nx w' =>
    cases nx with
    | value v => exact hk _ _ h
    | skip => exact hk _ _ h
    | defer d => exact hk _ _ h
    | enter f args =>
      refine ⟨fun h => by simp [Fence.wide] at h, (callsIn_wide.2 h).mono ?_⟩
      intro e w2 he
      cases e with
      | returned v => exact hk _ _ he
      | panicked c => exact he.elim
      | outgrown => obtain ⟨_, _, h⟩ := he; exact h.elim
    | row row args =>
      refine ⟨fun h => by simp [Fence.wide] at h, fun c cs _ => ?_⟩
      obtain ⟨v, w2, hv, hs⟩ := h c cs
      exact ⟨v, w2, hk _ _ hv, stepsIn_wide.2 hs⟩
    | _ => exact h.elim
theorem head_wide {k g : Nat} {L : Array Bool → Act → Prop} {Q' : Exit → Act → World → Prop} (hd : ∀ (j : Nat) (o : Oper), ops[j]? = some o → ∀ c : Call, o.op ≠ Op.defer c) (hL : ∀ listed a w, C w → L listed a → wpAnyIn Fence.wide n P md ops Q' g listed a w) :
    ∀ (f : Nat) (listed : Array Bool) (a : Act) (w : World), C w → headQ P md ops C k L f listed a → wpAnyIn Fence.wide n P md ops Q' (f + g) listed a w
  | 0, listed, a, w, hw, h => by rw [Nat.zero_add]; exact hL _ _ _ hw h
  | f + 1, listed, a, w, hw, h => by
    rw [show f + 1 + g = (f + g) + 1 by omega]
    refine ⟨fun h0 => absurd h0 h.1, fun i hi => ?_⟩
    have h1 : wpOp P ops (fun _ _ _ => False) i (wpAnyIn Fence.wide n P md ops Q' (f + g) (listed.setIfInBounds i true)) a w := wpOp_of_qOp hw (fun a' w' hw' h' => head_wide hd hL f _ a' w' hw' h') (h.2 i hi).2
    unfold wpOp at h1
    unfold wpOpIn
    cases ho : ops[i]? with
    | none => rw [ho] at h1; exact h1
    | some o =>
      rw [ho] at h1
      simp only at h1 ⊢
      split
      · rename_i hw2
        rw [if_pos hw2] at h1
        rcases h1 with h1 | h1
        · exact oper_wide (hd i o ho) (fun a w h => h) h1
        · obtain ⟨_, _, h⟩ := h1.2; exact h.elim
      · rename_i hw2
        rw [if_neg hw2] at h1
        exact ⟨fun f _ => trivial, h1⟩
theorem anyIn_of_seq {Q' : Exit → Act → World → Prop} : ∀ (l : List Oper) (k : Nat) (listed : Array Bool) (a : Act) (w : World), (∀ j, l[j]? = ops[k + j]?) →
    Region.seqB md ops l.length k listed = true → wpListIn Fence.wide n P ops Q' l a w → wpAnyIn Fence.wide n P md ops Q' l.length listed a w
  | [], _, _, _, _, _, hB, h => ⟨by simpa [Region.seqB] using hB, h⟩
  | o :: l, k, listed, a, w, hl, hB, h => by
    have h0 : ops[k]? = some o := by simpa using (hl 0).symm
    simp only [List.length_cons, Region.seqB, Bool.and_eq_true, decide_eq_true_eq] at hB
    have next : ∀ a' w', wpListIn Fence.wide n P ops Q' l a' w' → wpAnyIn Fence.wide n P md ops Q' l.length (listed.setIfInBounds k true) a' w' := fun a' w' h' =>
      anyIn_of_seq l (k + 1) _ a' w' (fun j => by have := hl (j + 1); simpa [Nat.add_assoc, Nat.add_comm 1 j] using this) hB.2 h'
    refine wpAnyIn_ready hB.1 (by simp) (AllReadyIn.cons h0 (fun K' hK => ?_) AllReadyIn.nil)
    have h' : (if Region.wanted o (yielded ops a.tmps) then o.wpIn Fence.wide n P a w (wpListIn Fence.wide n P ops Q' l) Q' else (∀ f, o.about P w a.eval = some f → Fence.wide.fn f) ∧ wpListIn Fence.wide n P ops Q' l (a.put o.dst undef) w) := h
    split
    · rename_i hw
      rw [if_pos hw] at h'
      exact Oper.wpIn_mono (fun a w h => hK _ _ (next a w h)) h'
    · rename_i hw
      rw [if_neg hw] at h'
      exact ⟨h'.1, hK _ _ (next _ _ h'.2)⟩
theorem region_inb_tail_wide {id : Nat} {Q : Exit → Act → World → Prop} {a : Act} {w : World} {l : List Oper} (k : Nat) (hm : P.follows .mixedOrders = true) (hB : Region.lexTailB .any l.toArray k = true) (hdf : noDefer l = true)
    (h : wpQuiet P l.toArray (InB w) (fun a' => ∀ w', InB w w' → wpListIn Fence.wide n P l.toArray Q (l.drop k) a' w') (l.take k) a) : (Code.region id l.toArray true).wpIn Fence.wide n P Q a w := by
  simp only [Region.lexTailB, Bool.and_eq_true, decide_eq_true_eq] at hB
  obtain ⟨⟨⟨⟨hsel, hn⟩, hs⟩, hc⟩, hlex⟩ := hB
  have htl : (l.take k).length = k := by
    have : k < l.length := by simpa using hn
    simp; omega
  have hdl : (l.drop k).length = l.toArray.size - k := by simp
  have inv0 : HeadInv .any l.toArray k (Array.replicate l.toArray.size false) :=
    ⟨by simp, fun j oj _ hl => (by rw [getD_replicate_false] at hl; cases hl), fun t _ ht => getD_in (by simpa using ht) (getD_replicate_false _ _)⟩
  have H := headQ_lex (md := .any) (g := l.toArray.size - k) hsel hs hc hn (l.take k) 0 _ a (fun j hj => by
    have hj' : j < k := by rw [htl] at hj; exact hj
    simp [hj']) (by simpa using htl) inv0 (by rw [htl]; exact hlex) h
  refine wpIn_region_any hm ?_
  have := head_wide (n := n) (Q' := Q) (g := l.toArray.size - k) (noDefer_spec hdf) (fun listed a' w' hw' hL => by
    have := anyIn_of_seq (md := .any) (Q' := Q) (n := n) (l.drop k) k listed a' w' (fun j => by simp [List.getElem?_drop]) (by rw [hdl]; exact hL.1) (hL.2 w' hw')
    rwa [hdl] at this) _ _ _ _ (InB.start w) H
  rw [htl, show k + (l.toArray.size - k) = l.toArray.size by omega] at this
  exact this
end
end Go.Proofs.YtchcmklelmlbgaaGreat

/- The pages of a life, as they are read: (area).pages, its test, and its iterator's contract. -/
namespace Go.Proofs.YtchcmklelmlbgaaGreat
open Go.RowKit
set_option linter.unusedVariables false
/-- what lies below n lies as it lay, but for one block -/
def KpK (B n : Nat) (W W' : World) : Prop := W'.os = W.os ∧ W'.tape = W.tape ∧ W'.output = W.output ∧ W.heap.size ≤ W'.heap.size ∧ ∀ j, j < n → j ≠ B → W'.heap[j]? = W.heap[j]?
theorem KpK.refl (B n : Nat) (W : World) : KpK B n W W := ⟨rfl, rfl, rfl, Nat.le_refl _, fun _ _ _ => rfl⟩
theorem KpK.trans {B n : Nat} {X Y Z : World} (h : KpK B n X Y) (k : KpK B n Y Z) : KpK B n X Z := ⟨k.1.trans h.1, k.2.1.trans h.2.1, k.2.2.1.trans h.2.2.1, Nat.le_trans h.2.2.2.1 k.2.2.2.1, fun j hj hn => (k.2.2.2.2 j hj hn).trans (h.2.2.2.2 j hj hn)⟩
theorem KpK.size {B n : Nat} {W W' : World} (h : KpK B n W W') : W.heap.size ≤ W'.heap.size := h.2.2.2.1
theorem KpK.block {B n : Nat} {W W' : World} (h : KpK B n W W') {j : Nat} (hj : j < n) (hn : j ≠ B) : W'.heap[j]? = W.heap[j]? := h.2.2.2.2 j hj hn
theorem KpK.turn {B n : Nat} (W : World) (l : Nat) (o' : Obj) (hl : n ≤ l) : KpK B n W (W.putObj l o') := ⟨rfl, rfl, rfl, (grownBy_putObj' W l o').size, fun j hj _ => World.putObj_heap_other (by omega)⟩
theorem KpK.of_below {B n : Nat} {W W' : World} (h : Below W.heap.size W W') (hn : n ≤ W.heap.size) : KpK B n W W' := ⟨h.os, h.tape, h.output, h.size, fun j hj _ => h.block j (by omega)⟩
theorem KpK.of_below' {B n : Nat} {W W' : World} (h : Below n W W') : KpK B n W W' := ⟨h.os, h.tape, h.output, h.size, fun j hj _ => h.block j hj⟩
theorem KpK.set {B n : Nat} {W W' : World} (h : KpK B n W W') (v : Value) : KpK B n W (W'.setCell ⟨B, 0, none⟩ v) :=
  ⟨h.1, h.2.1, h.2.2.1, by simpa [World.setCell] using h.size, fun j hj hn => (Below.heap_setCell W' ⟨B, 0, none⟩ v j (fun e => hn e)).trans (h.block hj hn)⟩
/-- all blocks from n on, and one more -/
def hiB (B n : Nat) (W : World) : List Nat := B :: (List.range W.heap.size).filter (fun j => decide (n ≤ j))
theorem KpK.keep {B n : Nat} {W W' : World} (h : KpK B n W W') : Keep (hiB B n W) W W' :=
  ⟨h.1, h.2.1, h.2.2.1, h.size, fun j hj hn => h.block (Nat.lt_of_not_le fun e => hn (by simp [hiB, hj, e])) (fun e => hn (by simp [hiB, e]))⟩
theorem not_hiB {B n : Nat} {W : World} {j : Nat} (hj : j < n) (hn : j ≠ B) : j ∉ hiB B n W := by
  unfold hiB
  intro h
  rcases List.mem_cons.1 h with h | h
  · exact hn h
  · rw [List.mem_filter] at h
    have := of_decide_eq_true h.2
    omega
theorem Both.kpk {W W' : World} {B n g : Nat} {fp : List Nat} {s : Disk.St} {gS bS : Nat} {l : List (List UInt8)} (h : Both W g fp s gS bS l) (k : KpK B n W W') (hf : ∀ j ∈ bS :: gS :: fp, j < n ∧ j ≠ B) : Both W' g fp s gS bS l :=
  ⟨h.disk.keep k.keep (fun j hj => not_hiB (hf j (by simp [hj])).1 (hf j (by simp [hj])).2), h.sym.keepK k.keep (not_hiB (hf gS (by simp)).1 (hf gS (by simp)).2) (not_hiB (hf bS (by simp)).1 (hf bS (by simp)).2), h.nS, h.nB⟩
theorem Blk.kpk {W W' : World} {B n g : Nat} {xs : List Value} (h : Blk W g xs) (k : KpK B n W W') (hg : g < n) (hn : g ≠ B) : Blk W' g xs := h.elim fun t hh => ⟨t, (k.block hg hn).trans hh⟩
theorem Box.kpk {W W' : World} {B n g : Nat} {v : Value} (h : Box W g v) (k : KpK B n W W') (hg : g < n) (hn : g ≠ B) : Box W' g v := h.elim fun t hh => ⟨t, (k.block hg hn).trans hh⟩
end Go.Proofs.YtchcmklelmlbgaaGreat
namespace Go.Proofs.YtchcmklelmlbgaaGreat.Snap
open Go.RowKit Go.Shelf
open Go.Proofs.YtchcmklelmlbgaaGreat.Geom
open Go.Proofs.YtchcmklelmlbgaaGreat.Ch (SeqOk)
open Go.Proofs.YtchcmklelmlbgaaGreat.Sup (Gb gv gcell srightF gthree)
open Go.Proofs.YtchcmklelmlbgaaGreat.Disk (St DAt Did New8 Told8 read_any)
open Go.Proofs.YtchcmklelmlbgaaGreat.Sec (X SymAt text sumOf sumAfter ckS blankB rightF encode_sym decode_sym right_0 right_2 xv RetX X0 five5x)
attribute [local go_sem] Oper.semAt_some
set_option linter.unusedVariables false
set_option maxRecDepth 100000
/-- is a sector the page of a number, of a life? -/
def isX (life : UInt64) (k : Nat) (x : X) : Bool := decide (x.kind = 3) && decide (x.life = life) && decide (x.seq = (k : Int)) && decide (x.gen = 0)
/-- what stands at a page's place -/
def rdAt (l : List (List UInt8)) (s : St) (ga gd gl : Int) (life : UInt64) (k : Nat) : X × Int := Enc.rd l s (areaAt ga gd gl life.toNat k)
def isPg (l : List (List UInt8)) (s : St) (ga gd gl : Int) (life : UInt64) (k : Nat) : Bool := decide ((rdAt l s ga gd gl life k).2 = 0) && isX life k (rdAt l s ga gd gl life k).1
/-- what is handed to a round -/
structure It where
  k : Nat
  A : Option Addr
  c : Nat
  body : List UInt8
  is : Bool
def It.enc (x : It) : Array Value := #[.int .i64 (x.k : Int), .agg #[.slice x.A x.body.length x.c, .bool x.is]]
def It.Ok (n0 : Nat) (W : World) (x : It) : Prop := W.ownsRow n0 5 1 (.slice x.A x.body.length x.c) x.body.length (x.body.map e8) ∧ x.body.length ≤ 1000
def It.f (x : It) : Nat × Bool × List UInt8 := (x.k, x.is, x.body)
def want (l : List (List UInt8)) (s : St) (ga gd gl : Int) (life : UInt64) (k : Nat) : Nat × Bool × List UInt8 := (k, isPg l s ga gd gl life k, (rdAt l s ga gd gl life k).1.body)
set_option maxHeartbeats 1000000 in
theorem there_any (x : X) (A : Option Addr) (c : Nat) (k Ba : Nat) (v1 v2 : Value) (ga gd gl : Int) (life : UInt64) (w : World) (h : Blk w Ba (acell v1 v2 ga gd gl life)) :
    Calls Tryz.prog 114 #[.int .i64 (k : Int), .agg #[.int .i64 x.kind, .int .u64 (x.life.toNat : Int), .int .i64 x.seq, .int .u64 (x.gen.toNat : Int), .slice A x.body.length c], .pointer (some ⟨Ba, 0, none⟩)] w fun e w' => e = .returned (.bool (isX life k x)) ∧ Below w.heap.size w w' := by
  have b0 := b1alloc w (.cells ([.int .i64 x.kind, .int .u64 (x.life.toNat : Int), .int .i64 x.seq, .int .u64 (x.gen.toNat : Int), .slice A x.body.length c] : List Value).toArray 157)
  have hX := Blk.new w [.int .i64 x.kind, .int .u64 (x.life.toNat : Int), .int .i64 x.seq, .int .u64 (x.gen.toNat : Int), .slice A x.body.length c] 157
  obtain ⟨x0, x1, x2, x3, x4⟩ := five5x hX
  obtain ⟨z0, z1, z2, z3, z4, z5⟩ := six6 (h.on b0)
  by_cases e1 : x.kind = 3
  rotate_left
  · have hn := Lib.hid (show isX life k x = false by simp [isX, e1])
    have t1 := beq_no e1
    clear e1
    go_enter Tryz.func114, Tryz.ntmps114
    go_wp2
    go_ret
    exact ⟨ret_bool hn.out.symm, b0⟩
  have t1 := beq_yes e1
  by_cases e2 : x.life = life
  rotate_left
  · have hn := Lib.hid (show isX life k x = false by simp [isX, e2])
    have t2 := beq_no (show (x.life.toNat : Int) ≠ (life.toNat : Int) from fun e => e2 (UInt64.toNat_inj.1 (by omega)))
    clear e1 e2
    go_enter Tryz.func114, Tryz.ntmps114
    go_wp2
    go_ret
    exact ⟨ret_bool hn.out.symm, b0⟩
  have t2 := beq_yes (show (x.life.toNat : Int) = (life.toNat : Int) by rw [e2])
  by_cases e3 : x.seq = (k : Int)
  rotate_left
  · have hn := Lib.hid (show isX life k x = false by simp [isX, e3])
    have t3 := beq_no e3
    clear e1 e2 e3
    go_enter Tryz.func114, Tryz.ntmps114
    go_wp2
    go_ret
    exact ⟨ret_bool hn.out.symm, b0⟩
  have t3 := beq_yes e3
  by_cases e4 : x.gen = 0
  · have hn := Lib.hid (show isX life k x = true by simp [isX, e1, e2, e3, e4])
    have t4 := beq_yes (show (x.gen.toNat : Int) = 0 by rw [e4]; rfl)
    clear e1 e2 e3 e4
    go_enter Tryz.func114, Tryz.ntmps114
    go_wp2
    go_ret
    exact ⟨ret_bool hn.out.symm, b0⟩
  · have hn := Lib.hid (show isX life k x = false by simp [isX, e4])
    have t4 := beq_no (show (x.gen.toNat : Int) ≠ 0 from fun e => e4 (UInt64.toNat_inj.1 (by rw [show (0 : UInt64).toNat = 0 from rfl]; omega)))
    clear e1 e2 e3 e4
    go_enter Tryz.func114, Tryz.ntmps114
    go_wp2
    go_ret
    exact ⟨ret_bool hn.out.symm, b0⟩
/-- what the iterator of pages holds -/
structure PgsAt (w : World) (Ba Bf Bt F : Nat) (v1 v2 : Value) (ga gd gl : Int) (life : UInt64) : Prop where
  area : Blk w Ba (acell v1 v2 ga gd gl life)
  fault : Box w Bf (.pointer (some ⟨F, 0, none⟩))
  there : Box w Bt (.func (.func 114) #[] #[.pointer (some ⟨Ba, 0, none⟩)])
theorem PgsAt.on {w w' : World} {Ba Bf Bt F : Nat} {v1 v2 : Value} {ga gd gl : Int} {life : UInt64} (h : PgsAt w Ba Bf Bt F v1 v2 ga gd gl life) (b : Below w.heap.size w w') : PgsAt w' Ba Bf Bt F v1 v2 ga gd gl life := ⟨h.area.on b, h.fault.on' b, h.there.on' b⟩
theorem pages_any (g gS F : Nat) (ga gd gl : Int) (life : UInt64) (w : World) :
    Calls Tryz.prog 91 #[av (.pointer (some ⟨g, 0, none⟩)) (.pointer (some ⟨gS, 0, none⟩)) ga gd gl life, .pointer (some ⟨F, 0, none⟩)] w fun e w' => e = .returned (.func (.func 115) #[] #[.pointer (some ⟨w.heap.size, 0, none⟩), .pointer (some ⟨w.heap.size + 1, 0, none⟩), .pointer (some ⟨w.heap.size + 2, 0, none⟩)]) ∧
      PgsAt w' w.heap.size (w.heap.size + 1) (w.heap.size + 2) F (.pointer (some ⟨g, 0, none⟩)) (.pointer (some ⟨gS, 0, none⟩)) ga gd gl life ∧ Below w.heap.size w w' := by
  have hs : ∀ (W : World) (p : Addr) (f : Nat) (cs : Array Value), W.cell? p = some .nilFunc → W.frozen? p = false → Sem.run Tryz.prog (store p (.func (.func f) #[] cs)) W = .ok () (W.setCell p (.func (.func f) #[] cs)) := by
    intro W p f cs h1 h2
    rw [run_store _ _ _ _ _ rfl, h1]
    simp [h2]
  have c1 := Box.new ((w.alloc (.cells (acell (.pointer (some ⟨g, 0, none⟩)) (.pointer (some ⟨gS, 0, none⟩)) ga gd gl life).toArray 143)).alloc (.cells #[.pointer (some ⟨F, 0, none⟩)] 147)) 158 .nilFunc
  have c2 := c1.cell
  have c3 := c1.free
  simp at c2 c3
  go_enter Tryz.func91, Tryz.ntmps91
  go_wp2
  go_ret
  refine ⟨rfl, ⟨?_, ?_, ?_⟩, b3alloc _ _ _ _⟩
  · exact ((Blk.new w (acell (.pointer (some ⟨g, 0, none⟩)) (.pointer (some ⟨gS, 0, none⟩)) ga gd gl life) 143).alloc _).alloc _
  · have := Box.new (w.alloc (.cells (acell (.pointer (some ⟨g, 0, none⟩)) (.pointer (some ⟨gS, 0, none⟩)) ga gd gl life).toArray 143)) 147 (.pointer (some ⟨F, 0, none⟩))
    simp at this
    exact this.alloc _
  · have := Box.new ((w.alloc (.cells (acell (.pointer (some ⟨g, 0, none⟩)) (.pointer (some ⟨gS, 0, none⟩)) ga gd gl life).toArray 143)).alloc (.cells #[.pointer (some ⟨F, 0, none⟩)] 147)) 158 (.func (.func 114) #[] #[.pointer (some ⟨w.heap.size, 0, none⟩)])
    simp at this
    exact this
theorem dec_body_len (ck : Bool) (p : Int) {b : List UInt8} (hb : b.length = 512) : (Sec.decode ck p b).1.body.length ≤ 1000 := by
  unfold Sec.decode
  split
  · simp [X0]
  · split
    · simp [X0]
    · split
      · rename_i x hr
        split
        · unfold Sec.reads at hr
          split at hr
          · rename_i h3
            injection hr with hr
            subst hr
            have := (Sec.right_of h3.2.1).2.2.2.2.2.2
            exact Nat.le_trans this (by omega)
          · cases hr
        · simp [X0]
      · simp [X0]
theorem wrap_up {k : Nat} (h : k ≤ 1000000000) : wrap64 ((k : Int) + 1) = (k : Int) + 1 := by unfold wrap64; omega
theorem range_up (W : Nat → Nat × Bool × List UInt8) (k : Nat) (pre : List It) (x : It) (h : pre.map It.f = (List.range k).map W) (hx : x.f = W k) : (pre ++ [x]).map It.f = (List.range (k + 1)).map W := by
  rw [List.range_succ, List.map_append, List.map_append, h, List.map_cons, List.map_nil, List.map_cons, List.map_nil, hx]
set_option maxHeartbeats 2000000 in
theorem pages2_in (n : Nat) (hn : 1 ≤ n) (lp B Ba Bf Bt F g : Nat) (fp : List Nat) (s : St) (gS bS : Nat) (l : List (List UInt8)) (ga gd gl : Int) (life : UInt64) (N : Nat) (hG : Gb ga gd gl) (hN : (N : Int) = pagesOf ga gd gl) (hl : l.length ≤ 1000000) (hs : s.sz ≤ 90000000) (hd : s.down = false) (hsz : (s.size : Int) = Geom.sizeOf ga gd gl)
    (w : World) (hP : PgsAt w Ba Bf Bt F (.pointer (some ⟨g, 0, none⟩)) (.pointer (some ⟨gS, 0, none⟩)) ga gd gl life) (hB : Both w g fp s gS bS l) (hne : ∀ j ∈ bS :: gS :: fp, j ≠ B) (hneA : Ba ≠ B) (hneT : Bt ≠ B)
    (J Jx : List It → World → Prop)
    (hY : ∀ pre x W, J pre W → It.Ok w.heap.size W x → pre.length < N → YieldAt Fence.wide (n - 1) Tryz.prog lp x.enc W fun e W' =>
      (e = .returned (.bool true) ∧ J (pre ++ [x]) W' ∧ KpK B w.heap.size W W') ∨ (e = .returned (.bool false) ∧ Jx (pre ++ [x]) W'))
    (W : World) (hW : Below w.heap.size w W) (hJb : ∀ pre (W W' : World), J pre W → Below W.heap.size W W' → J pre W') (h0 : J [] W) :
    CallsIn Fence.wide n Tryz.prog 115 #[.func (.yield lp) #[] #[], .pointer (some ⟨Ba, 0, none⟩), .pointer (some ⟨Bf, 0, none⟩), .pointer (some ⟨Bt, 0, none⟩)] W fun e W' => (∃ v, e = .returned v) ∧
      ((∃ ys, ys.map It.f = (List.range N).map (want l s ga gd gl life) ∧ J ys W') ∨ (∃ pre, (∃ k, k ≤ N ∧ pre.map It.f = (List.range k).map (want l s ga gd gl life)) ∧ Jx pre W')) := by
  have HP := Lib.hid (fun W => Geom.pages_any ga gd gl W hG.a0 hG.a1 hG.d0 hG.d1 hG.g0 hG.g1)
  rw [← hN] at HP
  have hall : ∀ j ∈ bS :: gS :: fp, j < w.heap.size ∧ j ≠ B := by
    intro j hj
    refine ⟨?_, hne j hj⟩
    rcases List.mem_cons.1 hj with e | e
    · rw [e]; exact hB.sym.lt.2
    rcases List.mem_cons.1 e with e | e
    · rw [e]; exact hB.sym.lt.1
    · exact hB.disk.lt _ e
  have hPA := hP.area
  have hPT := hP.there
  have hLA := hPA.lt
  have hLT := hPT.lt
  have facts : ∀ X, KpK B w.heap.size w X → Blk X Ba (acell (.pointer (some ⟨g, 0, none⟩)) (.pointer (some ⟨gS, 0, none⟩)) ga gd gl life) ∧ Box X Bt (.func (.func 114) #[] #[.pointer (some ⟨Ba, 0, none⟩)]) ∧ Both X g fp s gS bS l := fun X k => ⟨hPA.kpk k hLA hneA, hPT.kpk k hLT hneT, hB.kpk k hall⟩
  have HF := Lib.hid facts
  have hAr := Lib.hid (fun (k : Nat) (hk : k < N) W => Geom.area_any ga gd gl life _ (by rfl) (k : Int) W hG.a0 hG.a1 hG.d0 hG.d1 hG.g0 hG.g1 (show Geom.lo ≤ (k : Int) by unfold Geom.lo; omega) (show (k : Int) ≤ Geom.hi by unfold Geom.hi; have := pagesOf_bd ga gd gl; omega))
  have har := Lib.hid (fun (k : Nat) (hk : k < N) => area_ok (ga := ga) (gd := gd) (gl := gl) (life := life) (k := k) (by omega))
  have hW0 : KpK B w.heap.size w W := KpK.of_below hW (Nat.le_refl _)
  obtain ⟨hA0, _, _⟩ := facts W hW0
  obtain ⟨z0, z1, z2, z3, z4, z5⟩ := six6 hA0
  have HS := Lib.hid (And.intro hsz hd)
  have hN85 : N ≤ 85 := by have := pagesOf_bd ga gd gl; omega
  have HN := Lib.hid hN
  clear facts hall hPA hPT hLA hLT hW hP hB hsz hN hA0
  refine callsIn_of_wp Tryz.func115 rfl trivial ?_ rfl
  simp only [Tryz.ntmps115, List.size_toArray, List.length_cons, List.length_nil, Nat.reduceAdd, Nat.reduceSub, Array.replicate_succ, Array.replicate_zero, List.push_toArray, List.append_toArray, List.nil_append, List.cons_append]
  gi_wp2_with fail
  refine ⟨trivial, (callsIn_wide.2 (HP.out _)).mono ?_⟩
  rintro e1 w1 ⟨rfl, b1⟩
  have k1 := hW0.trans (KpK.of_below b1 hW0.size)
  have h1 := hJb _ _ _ h0 b1
  clear z0 z1 z2 z3 z4 z5 h0
  gi_wp2_with fail
  gi_loopw [14] (fun i wr => ∃ k : Nat, k ≤ N ∧ i = .int .i64 (k : Int) ∧ KpK B w.heap.size w wr ∧ ∃ pre : List It, Hid (pre.map It.f = (List.range k).map (want l s ga gd gl life)) ∧ J pre wr) (fun i _ => N - (intOf i).toNat)
  case atStart => exact ⟨0, by omega, rfl, k1, [], Lib.hid rfl, h1⟩
  case round =>
    obtain ⟨k, hk, rfl, kp, pre, hpre, hJ⟩ := hrel
    clear h1 k1
    have hwk := wrap_up (k := k) (by omega)
    obtain ⟨hA, hT, hBo⟩ := HF.out wr kp
    by_cases hlt : k < N
    · have hp0 := (har.out k hlt).1
      have hp1 := (har.out k hlt).2.1
      have hp2 := (har.out k hlt).2.2
      have hArk := hAr.out k hlt
      have hri : rdAt l s ga gd gl life k = Sec.decode (ckS l (Disk.read s (areaAt ga gd gl life.toNat k)).1) (areaAt ga gd gl life.toNat k) (Disk.read s (areaAt ga gd gl life.toNat k)).1 := rfl
      have hpg : isPg l s ga gd gl life k = (decide ((rdAt l s ga gd gl life k).2 = 0) && isX life k (rdAt l s ga gd gl life k).1) := rfl
      have hwt : want l s ga gd gl life k = (k, isPg l s ga gd gl life k, (rdAt l s ga gd gl life k).1.body) := rfl
      obtain ⟨p, hp⟩ : ∃ p, p = areaAt ga gd gl life.toNat k := ⟨_, rfl⟩
      rw [← hp] at hArk hp0 hp1 hp2 hri
      have hrd : (Disk.read s p).2 = 0 := by unfold Disk.read; rw [if_neg (by rw [HS.out.2]; simp), if_neg (by have := HS.out.1; omega)]
      have hbl : (Disk.read s p).1.length = 512 := by unfold Disk.read; rw [if_neg (by rw [HS.out.2]; simp), if_neg (by have := HS.out.1; omega)]; exact Disk.kept_len (n := s.size) (fun x hx => (List.mem_append.1 hx).elim (hBo.disk.ok.all x) (hBo.disk.ok.pend x)) _
      have hR := fun W (h : DAt W g fp s) => read_any g fp s p W h (by omega)
      obtain ⟨r, hr⟩ : ∃ r, r = Disk.read s p := ⟨_, rfl⟩
      rw [← hr] at hR hbl hri hrd
      obtain ⟨b, f⟩ := r
      simp only at hrd hbl hri
      subst hrd
      have hD := fun W (hS : SymAt W gS bS l) A c hr hc hcm => decode_sym p gS bS l A b b.length c W hS hl (by omega) (by omega) rfl hr (by omega) hc hcm
      rw [← hri] at hD
      have hlen : (rdAt l s ga gd gl life k).1.body.length ≤ 1000 := by rw [hri]; exact dec_body_len _ _ hbl
      obtain ⟨d, hd'⟩ : ∃ d, d = rdAt l s ga gd gl life k := ⟨_, rfl⟩
      rw [← hd'] at hD hpg hwt hlen
      have HArk := Lib.hid hArk
      have HR := Lib.hid hR
      have HD := Lib.hid hD
      have Hwt := Lib.hid hwt
      have Hlen := Lib.hid hlen
      clear hArk hR hD hwt hp hr hbl hri hd' hp0 hp1 hp2 hlen
      obtain ⟨z0, z1, z2, z3, z4, z5⟩ := six6 hA
      gi_wp2_with fail
      refine ⟨trivial, (callsIn_wide.2 (HArk.out _)).mono ?_⟩
      rintro e2 w2 ⟨rfl, b2⟩
      have k2 := kp.trans (KpK.of_below b2 kp.size)
      obtain ⟨hA2, hT2, hBo2⟩ := HF.out w2 k2
      clear z0 z1 z2 z3 z4 z5
      obtain ⟨z0, z1, z2, z3, z4, z5⟩ := six6 hA2
      gi_wp2_with fail
      refine ⟨trivial, (callsIn_wide.2 (HR.out _ hBo2.disk)).mono ?_⟩
      rintro e3 w3 ⟨v, rfl, hN3, b3⟩
      obtain ⟨A1, c1, rfl, hc1, hm1, rd1⟩ := hN3.rdN (fp := []) (by simp)
      have k3 := k2.trans (KpK.of_below b3 k2.size)
      obtain ⟨hA3, hT3, hBo3⟩ := HF.out w3 k3
      clear z0 z1 z2 z3 z4 z5
      obtain ⟨z0, z1, z2, z3, z4, z5⟩ := six6 hA3
      gi_wp2_with fail
      refine ⟨trivial, (callsIn_wide.2 (HD.out _ hBo3.sym A1 c1 rd1.rd hc1 hm1)).mono ?_⟩
      rintro e4 w4 ⟨⟨A4, c4, rfl, own4⟩, b4⟩
      unfold xv
      have k4 := k3.trans (KpK.of_below b4 k3.size)
      clear z0 z1 z2 z3 z4 z5
      have Own4 := Lib.hid own4
      clear own4
      have t0 : True := trivial
      cases hd0 : decide (d.2 = 0) with
      | true =>
        have e0 := beq_yes (of_decide_eq_true hd0)
        rw [hd0, Bool.true_and] at hpg
        have Hpg := Lib.hid hpg
        clear hpg hd0
        gi_wp2_with fail
        have hx5 := Blk.new w4 [.int .i64 d.1.kind, .int .u64 (d.1.life.toNat : Int), .int .i64 d.1.seq, .int .u64 (d.1.gen.toNat : Int), .slice A4 d.1.body.length c4] 157
        have b5 := b1alloc w4 (.cells ([.int .i64 d.1.kind, .int .u64 (d.1.life.toNat : Int), .int .i64 d.1.seq, .int .u64 (d.1.gen.toNat : Int), .slice A4 d.1.body.length c4] : List Value).toArray 157)
        obtain ⟨w5, hw5⟩ : ∃ q, q = w4.alloc (.cells ([.int .i64 d.1.kind, .int .u64 (d.1.life.toNat : Int), .int .i64 d.1.seq, .int .u64 (d.1.gen.toNat : Int), .slice A4 d.1.body.length c4] : List Value).toArray 157) := ⟨_, rfl⟩
        rw [← hw5] at hx5 b5
        have e5 : (w4.alloc (.cells #[.int .i64 d.1.kind, .int .u64 (d.1.life.toNat : Int), .int .i64 d.1.seq, .int .u64 (d.1.gen.toNat : Int), .slice A4 d.1.body.length c4] 157)) = w5 := hw5.symm
        rw [e5]
        have k5 := k4.trans (KpK.of_below b5 k4.size)
        obtain ⟨hA5, hT5, _⟩ := HF.out w5 k5
        have hT5c := hT5.cell
        have hlx := hx5.lt
        have hlT := hT5.lt
        obtain ⟨x0, x1, x2, x3, x4⟩ := five5x hx5
        have J5 := hJb _ _ _ hJ (bt (bt (bt b2 b3) b4) b5)
        have hmf : ∀ (x : Array Value) (w : World), Sem.run Tryz.prog (callFunc 114 x) w = .ok (.enter 114 x) w := by intro x w; simp [go_sem]
        clear hw5 e5 hx5
        refine region_inb_tail_wide 13 (by kernel_rfl) (by kernel_rfl) (by kernel_rfl) ?_
        simp only [List.take_succ_cons, List.take_zero, List.drop_succ_cons, List.drop_zero]
        have inbNe := InB.some
        have inbW := @wrap_small
        have inbU := IntKind.wrap_u8'
        repeat (refine wpQuiet_step (fun K hK => ?_); go_simp; first | (refine hK _ ?_; clear hK K) | (apply Exists.intro; refine ⟨?_, hK _ ?_⟩; (· (intro w' hw'; first | (go_at_call 114; refine (there_any d.1 A4 c4 k Ba _ _ ga gd gl life _ (hA5.on hw'.below)).mono ?_; rintro e w6 ⟨rfl, b6⟩; exact ⟨rfl, hw'.on b6⟩) | (have hcw := hw'.cell; go_simp; exact rfl))); clear hK K))
        refine wpQuiet_nil ?_
        intro wq hq
        clear inbNe inbW inbU
        have J6 := hJb _ _ _ J5 hq.below
        have own6 := own_on (own_on Own4.out b5) hq.below
        have ok6 : It.Ok w.heap.size wq ⟨k, A4, c4, d.1.body, isX life k d.1⟩ := ⟨own_base own6 k3.size, Hlen.out⟩
        obtain ⟨fn, tmps, assign, body, hy, hRr⟩ := hY pre ⟨k, A4, c4, d.1.body, isX life k d.1⟩ wq J6 ok6 (by have := congrArg List.length hpre.out; simp at this; omega)
        unfold It.enc at hy
        simp only at hy
        clear ok6 J6 own6
        gi_wp2_with fail
        refine hRr.mono ?_
        rintro e7 w7 (⟨rfl, hJ7, hk7⟩ | ⟨rfl, hJx7⟩)
        · gi_wp2_with fail
          go_roundw
          case rel => exact ⟨k + 1, by omega, by go_num, (k5.trans (KpK.of_below hq.below k5.size)).trans hk7, _, Lib.hid (range_up _ k pre _ hpre.out (by rw [Hwt.out, Hpg.out]; rfl)), hJ7⟩
          case measure => simp only [intOf]; omega
        · gi_wp2_with fail
          refine bodyPost_ret (results_none rfl _ _ _) rfl ?_
          exact ⟨⟨_, rfl⟩, .inr ⟨_, ⟨k + 1, by omega, range_up _ k pre _ hpre.out (by rw [Hwt.out, Hpg.out]; rfl)⟩, hJx7⟩⟩
      | false =>
        have e0 := beq_no (of_decide_eq_false hd0)
        rw [hd0, Bool.false_and] at hpg
        have Hpg := Lib.hid hpg
        clear hpg hd0
        gi_wp2_with fail
        have hx5 := Blk.new w4 [.int .i64 d.1.kind, .int .u64 (d.1.life.toNat : Int), .int .i64 d.1.seq, .int .u64 (d.1.gen.toNat : Int), .slice A4 d.1.body.length c4] 157
        have b5 := b1alloc w4 (.cells ([.int .i64 d.1.kind, .int .u64 (d.1.life.toNat : Int), .int .i64 d.1.seq, .int .u64 (d.1.gen.toNat : Int), .slice A4 d.1.body.length c4] : List Value).toArray 157)
        obtain ⟨w5, hw5⟩ : ∃ q, q = w4.alloc (.cells ([.int .i64 d.1.kind, .int .u64 (d.1.life.toNat : Int), .int .i64 d.1.seq, .int .u64 (d.1.gen.toNat : Int), .slice A4 d.1.body.length c4] : List Value).toArray 157) := ⟨_, rfl⟩
        rw [← hw5] at hx5 b5
        have e5 : (w4.alloc (.cells #[.int .i64 d.1.kind, .int .u64 (d.1.life.toNat : Int), .int .i64 d.1.seq, .int .u64 (d.1.gen.toNat : Int), .slice A4 d.1.body.length c4] 157)) = w5 := hw5.symm
        rw [e5]
        have k5 := k4.trans (KpK.of_below b5 k4.size)
        obtain ⟨hA5, hT5, _⟩ := HF.out w5 k5
        have hT5c := hT5.cell
        have hlx := hx5.lt
        have hlT := hT5.lt
        obtain ⟨x0, x1, x2, x3, x4⟩ := five5x hx5
        have J5 := hJb _ _ _ hJ (bt (bt (bt b2 b3) b4) b5)
        have hmf : ∀ (x : Array Value) (w : World), Sem.run Tryz.prog (callFunc 114 x) w = .ok (.enter 114 x) w := by intro x w; simp [go_sem]
        clear hw5 e5 hx5
        refine region_inb_tail_wide 13 (by kernel_rfl) (by kernel_rfl) (by kernel_rfl) ?_
        simp only [List.take_succ_cons, List.take_zero, List.drop_succ_cons, List.drop_zero]
        have inbNe := InB.some
        have inbW := @wrap_small
        have inbU := IntKind.wrap_u8'
        repeat (refine wpQuiet_step (fun K hK => ?_); go_simp; first | (refine hK _ ?_; clear hK K) | (apply Exists.intro; refine ⟨?_, hK _ ?_⟩; (· (intro w' hw'; first | (have hcw := hw'.cell; go_simp; exact rfl))); clear hK K))
        refine wpQuiet_nil ?_
        intro wq hq
        clear inbNe inbW inbU
        have J6 := hJb _ _ _ J5 hq.below
        have own6 := own_on (own_on Own4.out b5) hq.below
        have ok6 : It.Ok w.heap.size wq ⟨k, A4, c4, d.1.body, false⟩ := ⟨own_base own6 k3.size, Hlen.out⟩
        obtain ⟨fn, tmps, assign, body, hy, hRr⟩ := hY pre ⟨k, A4, c4, d.1.body, false⟩ wq J6 ok6 (by have := congrArg List.length hpre.out; simp at this; omega)
        unfold It.enc at hy
        simp only at hy
        clear ok6 J6 own6
        gi_wp2_with fail
        refine hRr.mono ?_
        rintro e7 w7 (⟨rfl, hJ7, hk7⟩ | ⟨rfl, hJx7⟩)
        · gi_wp2_with fail
          go_roundw
          case rel => exact ⟨k + 1, by omega, by go_num, (k5.trans (KpK.of_below hq.below k5.size)).trans hk7, _, Lib.hid (range_up _ k pre _ hpre.out (by rw [Hwt.out, Hpg.out]; rfl)), hJ7⟩
          case measure => simp only [intOf]; omega
        · gi_wp2_with fail
          refine bodyPost_ret (results_none rfl _ _ _) rfl ?_
          exact ⟨⟨_, rfl⟩, .inr ⟨_, ⟨k + 1, by omega, range_up _ k pre _ hpre.out (by rw [Hwt.out, Hpg.out]; rfl)⟩, hJx7⟩⟩
    · have hkN : k = N := by omega
      have Hk := Lib.hid hkN
      have hkn : ¬ (k : Int) < (N : Int) := by omega
      clear hkN
      gi_wp2
      go_end0
      exact ⟨⟨_, rfl⟩, .inl ⟨pre, by rw [← Hk.out]; exact hpre.out, hJ⟩⟩
theorem pages2_ok (n : Nat) (hn : 1 ≤ n) (B Ba Bf Bt F g : Nat) (fp : List Nat) (s : St) (gS bS : Nat) (l : List (List UInt8)) (ga gd gl : Int) (life : UInt64) (N : Nat) (hG : Gb ga gd gl) (hN : (N : Int) = pagesOf ga gd gl) (hl : l.length ≤ 1000000) (hs : s.sz ≤ 90000000) (hd : s.down = false) (hsz : (s.size : Int) = Geom.sizeOf ga gd gl)
    (w : World) (hP : PgsAt w Ba Bf Bt F (.pointer (some ⟨g, 0, none⟩)) (.pointer (some ⟨gS, 0, none⟩)) ga gd gl life) (hB : Both w g fp s gS bS l) (hne : ∀ j ∈ bS :: gS :: fp, j ≠ B) (hneA : Ba ≠ B) (hneT : Bt ≠ B) :
    SeqOk n Tryz.prog 115 #[.pointer (some ⟨Ba, 0, none⟩), .pointer (some ⟨Bf, 0, none⟩), .pointer (some ⟨Bt, 0, none⟩)] It.enc (It.Ok w.heap.size) (KpK B w.heap.size) (fun ys => ys.map It.f = (List.range N).map (want l s ga gd gl life))
      (fun pre => ∃ k, k ≤ N ∧ pre.map It.f = (List.range k).map (want l s ga gd gl life)) N w := fun lp J Jx W hW hJ hJx hY h0 =>
  pages2_in n hn lp B Ba Bf Bt F g fp s gS bS l ga gd gl life N hG hN hl hs hd hsz w hP hB hne hneA hneT J Jx hY W hW (fun pre W W' h b => hJ pre W W' none h (below_grown b none) (fun r e => by cases e)) h0
end Go.Proofs.YtchcmklelmlbgaaGreat.Snap

/- The pages of a life: snap.Read and Bad, and what they come to. -/
namespace Go.Proofs.YtchcmklelmlbgaaGreat
open Go.RowKit
set_option linter.unusedVariables false
theorem ownU {W W' : World} {base : Nat} {e : TypeId} {n : Nat} {v : Value} {xs : List Value} (h : W.ownsRow base e 1 v n xs) (hk : ∀ (j : Nat) (cs : Array Value), W.heap[j]? = some (Obj.cells cs e (0, 0)) → W'.heap[j]? = W.heap[j]?) : W'.ownsRow base e 1 v n xs := by
  refine ⟨h.1, ?_⟩
  rcases h.2 with h | ⟨g, cap, cur, rfl, hg, hh, r⟩
  · exact .inl h
  · exact .inr ⟨g, cap, cur, rfl, hg, (hk g cur hh).trans hh, r⟩
/-- what is added to a slice in a variable's box, as one step -/
theorem box_app {W Wq w1 : World} {n0 B : Nat} {t e : TypeId} {v v' : Value} {k m : Nat} {xs ys : List Value}
    (hv : Boxed W B t v) (hte : t ≠ e) (hrow : W.ownsRow n0 e 1 v k xs) (hn0 : n0 ≤ W.heap.size) (hb : B < n0) (bq : Below W.heap.size W Wq)
    (hown : w1.ownsRow n0 e 1 v' m ys) (hg : Wq.grownBy w1 v.ownBlock) :
    Boxed w1 B t v ∧ Boxed (w1.setCell ⟨B, 0, none⟩ v') B t v' ∧ (w1.setCell ⟨B, 0, none⟩ v').ownsRow n0 e 1 v' m ys ∧ KeepsOthers W (w1.setCell ⟨B, 0, none⟩ v') ∧ KpK B n0 W (w1.setCell ⟨B, 0, none⟩ v') ∧
      (∀ n1, n1 ≤ B → Below n1 W (w1.setCell ⟨B, 0, none⟩ v')) ∧ ∀ u, u ≠ t → u ≠ e → ∀ (j : Nat) (cs : Array Value), W.heap[j]? = some (Obj.cells cs u (0, 0)) → (w1.setCell ⟨B, 0, none⟩ v').heap[j]? = W.heap[j]? := by
  have hvq : Boxed Wq B t v := (bq.block B hv.lt).trans hv
  have hrowq : Wq.ownsRow n0 e 1 v k xs := own_on hrow bq
  have hv1 : Boxed w1 B t v := hvq.kept hg (hvq.not_row hte hrowq)
  have hob : ∀ g, v.ownBlock = some g → n0 ≤ g := fun g hg => own_block hrow hg
  have hs := grownBy_setCell' w1 B v'
  have hsz := bq.size
  refine ⟨hv1, hv1.set v', hown.kept hs (.inr (hv1.not_row hte hown).symm), ?_, ?_, ?_, ?_⟩
  · refine (Ch.keeps_below bq).trans ((KeepsOthers.of_grownBy hg fun j o ej hj => ?_).trans (KeepsOthers.setCell _ _ _))
    rcases hrowq.2 with ⟨rfl, _⟩ | ⟨g, cap, cur, rfl, _, hgb, _⟩
    · simp [Value.ownBlock] at ej
    · obtain rfl : g = j := by simpa [Value.ownBlock] using ej
      rw [hgb] at hj; cases hj; rfl
  · refine (show KpK B n0 W w1 from ⟨hg.os.trans bq.os, hg.tape.trans bq.tape, hg.output.trans bq.output, Nat.le_trans hsz hg.size, fun j hj hn => ?_⟩).set v'
    rw [hg.block j (by omega) (fun e => by have := hob j e.symm; omega), bq.block j (by omega)]
  · intro n1 hn1
    have b1 : Below n1 W Wq := bq.mono (by omega)
    have b3 := b1.grown hg (by omega) (fun g hg => by have := hob g hg; omega)
    exact b3.setCell (p := ⟨B, 0, none⟩) hn1 v'
  · intro u hut hue j cs hj
    have hjl : j < W.heap.size := lt_of_block hj
    have hjB : j ≠ B := fun e => by
      subst e
      have := hv
      unfold Boxed at this
      rw [hj] at this; injection this with this; injection this with _ h2 _; exact hut h2
    have hjv : some j ≠ v.ownBlock := fun e => by
      rcases hrow.2 with ⟨rfl, _⟩ | ⟨g, cap, cur, rfl, _, hgb, _⟩
      · simp [Value.ownBlock] at e
      · obtain rfl : g = j := by simpa [Value.ownBlock] using e.symm
        rw [hj] at hgb; injection hgb with h1; injection h1 with _ h2 _; exact hue h2
    rw [Below.heap_setCell w1 ⟨B, 0, none⟩ v' j hjB, hg.block j (by omega) hjv, bq.block j hjl]
theorem kpK_grown {B n : Nat} {w W W' : World} {row : Option Nat} (h : KpK B n w W) (hg : W.grownBy W' row) (hr : ∀ r, row = some r → n ≤ r) (hn : n ≤ w.heap.size) : KpK B n w W' :=
  ⟨hg.os.trans h.1, hg.tape.trans h.2.1, hg.output.trans h.2.2.1, Nat.le_trans h.size hg.size, fun j hj hB => (hg.block j (by have := h.size; omega) (fun e => by have := hr j e.symm; omega)).trans (h.block hj hB)⟩
end Go.Proofs.YtchcmklelmlbgaaGreat
namespace Go.Proofs.YtchcmklelmlbgaaGreat.Snap
open Go.RowKit Go.Shelf
open Go.Proofs.YtchcmklelmlbgaaGreat.Geom
open Go.Proofs.YtchcmklelmlbgaaGreat.Ch (SeqOk range_ok)
open Go.Proofs.YtchcmklelmlbgaaGreat.Sup (Gb gv gcell srightF gthree)
open Go.Proofs.YtchcmklelmlbgaaGreat.Disk (St DAt Did New8 Told8 read_any)
open Go.Proofs.YtchcmklelmlbgaaGreat.Sec (X SymAt text sumOf sumAfter ckS blankB rightF encode_sym decode_sym right_0 right_2 xv RetX X0 five5x)
attribute [local go_sem] Oper.semAt_some
set_option linter.unusedVariables false
set_option maxRecDepth 100000
theorem It.Ok.keepU {n0 : Nat} {W W' : World} {x : It} (h : It.Ok n0 W x) (hk : ∀ (j : Nat) (cs : Array Value), W.heap[j]? = some (Obj.cells cs 5 (0, 0)) → W'.heap[j]? = W.heap[j]?) : It.Ok n0 W' x := ⟨ownU h.1 hk, h.2⟩
theorem It.Ok.grown {n0 : Nat} {W W' : World} {x : It} {row : Option Nat} (h : It.Ok n0 W x) (hg : W.grownBy W' row) (hr : ∀ r, row = some r → ∃ o : Obj, W.heap[r]? = some o ∧ o.isCells = false) : It.Ok n0 W' x :=
  h.keepU fun j cs hj => hg.block j (lt_of_block hj) fun e => by
    obtain ⟨o, ho, hc⟩ := hr j e.symm
    rw [hj] at ho; cases ho; cases hc
theorem It.Ok.on {n0 : Nat} {W W' : World} {x : It} (h : It.Ok n0 W x) (b : Below W.heap.size W W') : It.Ok n0 W' x := h.keepU fun j cs hj => b.block j (lt_of_block hj)
def It.sl (x : It) : Value := .slice x.A x.body.length x.c
def allPg (l : List (List UInt8)) (s : St) (ga gd gl : Int) (life : UInt64) (N : Nat) : Bool := (List.range N).all (isPg l s ga gd gl life)
def bodies (l : List (List UInt8)) (s : St) (ga gd gl : Int) (life : UInt64) (N : Nat) : List (List UInt8) := (List.range N).map fun k => (rdAt l s ga gd gl life k).1.body
theorem bodies_len (l : List (List UInt8)) (s : St) (ga gd gl : Int) (life : UInt64) (N : Nat) : (bodies l s ga gd gl life N).length = N := by simp [bodies]
/-- the pages, if all are there -/
def snapR (l : List (List UInt8)) (s : St) (ga gd gl : Int) (life : UInt64) (N : Nat) : Option (List (List UInt8)) := if allPg l s ga gd gl life N = true then some (bodies l s ga gd gl life N) else none
/-- rows of bytes of the call's own -/
def OwnRows (w : World) (base : Nat) (v : Value) (l : List (List UInt8)) : Prop := ∃ its : List It, w.ownsRow base 51 1 v its.length (its.map It.sl) ∧ its.map It.body = l ∧ ∀ x ∈ its, It.Ok base w x
def RetRows (w : World) (o : Option (List (List UInt8))) (e : Ending) (w' : World) : Prop :=
  match o with
  | none => e = .returned (.tuple #[.slice none 0 0, .int .i64 11])
  | some l => ∃ A c, e = .returned (.tuple #[.slice A l.length c, .int .i64 0]) ∧ OwnRows w' w.heap.size (.slice A l.length c) l
theorem all_want {l : List (List UInt8)} {s : St} {ga gd gl : Int} {life : UInt64} {N : Nat} {xs : List It} (h : xs.map It.f = (List.range N).map (want l s ga gd gl life)) (ha : ∀ x ∈ xs, x.is = true) :
    xs.length = N ∧ snapR l s ga gd gl life N = some (xs.map It.body) := by
  have hl : xs.length = N := by simpa using congrArg List.length h
  have hk : ∀ k (hk : k < N), isPg l s ga gd gl life k = true ∧ (rdAt l s ga gd gl life k).1.body = (xs[k]'(by omega)).body := by
    intro k hk
    have h1 : (xs.map It.f)[k]? = ((List.range N).map (want l s ga gd gl life))[k]? := by rw [h]
    rw [List.getElem?_map, List.getElem?_map, List.getElem?_eq_getElem (by omega), List.getElem?_range hk] at h1
    simp only [Option.map_some, Option.some.injEq] at h1
    unfold It.f want at h1
    injection h1 with h1 h2
    injection h2 with h2 h3
    exact ⟨by rw [← h2]; exact ha _ (List.getElem_mem _), h3.symm⟩
  refine ⟨hl, ?_⟩
  unfold snapR
  rw [if_pos (by unfold allPg; rw [List.all_eq_true]; intro k hkm; exact (hk k (List.mem_range.1 hkm)).1)]
  congr 1
  unfold bodies
  apply List.ext_getElem
  · simp [hl]
  · intro i h1 h2
    simp only [List.getElem_map, List.getElem_range]
    exact (hk i (by simpa using h1)).2
theorem not_want {l : List (List UInt8)} {s : St} {ga gd gl : Int} {life : UInt64} {N k : Nat} {pre : List It} {x : It} (hk : k ≤ N) (h : (pre ++ [x]).map It.f = (List.range k).map (want l s ga gd gl life)) (hx : x.is = false) :
    snapR l s ga gd gl life N = none := by
  have hl : pre.length + 1 = k := by simpa using congrArg List.length h
  have h1 : ((pre ++ [x]).map It.f)[pre.length]? = ((List.range k).map (want l s ga gd gl life))[pre.length]? := by rw [h]
  rw [List.getElem?_map, List.getElem?_map, List.getElem?_append_right (Nat.le_refl _), List.getElem?_range (by omega)] at h1
  simp only [Nat.sub_self, List.getElem?_cons_zero, Option.map_some, Option.some.injEq] at h1
  unfold It.f want at h1
  injection h1 with h1 h2
  injection h2 with h2 h3
  unfold snapR
  rw [if_neg]
  intro hc
  unfold allPg at hc
  rw [List.all_eq_true] at hc
  have := hc pre.length (List.mem_range.2 (by omega))
  rw [← h2, hx] at this
  cases this
/-- between two rounds of Read -/
def RInv (w w4 : World) (pre : List It) (X : World) : Prop := ((∃ v, Boxed X (w.heap.size + 1) 47 v ∧ X.ownsRow w4.heap.size 51 1 v pre.length (pre.map It.sl) ∧ True) ∧ Boxed X (w.heap.size + 1 + 1) 29 (.int .i64 0) ∧ KpK (w.heap.size + 1) w4.heap.size w4 X ∧ Below w.heap.size w X) ∧ ∀ x ∈ pre, It.Ok w4.heap.size X x ∧ x.is = true
theorem RInv.own {w w4 : World} (h1 : w.heap.size + 1 + 1 < w4.heap.size) : OwnFrom w4.heap.size (RInv w w4) := by
  intro pre X X' row hI hg hr
  refine ⟨⟨holdsRow_own w4.heap.size (w.heap.size + 1) 47 51 1 (fun pre : List It => pre.length) (fun pre => pre.map It.sl) (fun _ _ => True) pre X X' row hI.1.1 hg (fun g e => (hr g e).2), ?_, kpK_grown hI.1.2.2.1 hg (fun r e => (hr r e).1) (Nat.le_refl _), hI.1.2.2.2.grown hg (by have := hI.1.2.2.2.size; omega) (fun r e => by have := (hr r e).1; omega)⟩, fun x hx => ⟨(hI.2 x hx).1.grown hg (fun r e => (hr r e).2), (hI.2 x hx).2⟩⟩
  exact hI.1.2.1.kept hg (fun e => by have := (hr _ e.symm).1; omega)
set_option maxHeartbeats 2000000 in
theorem read_any (g : Nat) (fp : List Nat) (s : St) (gS bS : Nat) (l : List (List UInt8)) (ga gd gl : Int) (life : UInt64) (w : World) (hG : Gb ga gd gl) (h : Both w g fp s gS bS l) (hl : l.length ≤ 1000000) (hs : s.sz ≤ 90000000) (hf : srightF s ga gd gl = 0) (hd : s.down = false) (N : Nat) (hN : (N : Int) = pagesOf ga gd gl) :
    Calls Tryz.prog 53 #[.pointer (some ⟨g, 0, none⟩), .pointer (some ⟨gS, 0, none⟩), gv ga gd gl, .int .u64 (life.toNat : Int)] w fun e w' => RetRows w (snapR l s ga gd gl life N) e w' ∧ Below w.heap.size w w' := by
  have FG := Blk.new w (gcell ga gd gl) 23
  obtain ⟨z0, z1, z2⟩ := gthree FG
  have HR := Lib.hid (fun W (bW : Below w.heap.size w W) => right_any g fp s gS ga gd gl life W hG (h.disk.on bW))
  rw [hf] at HR
  have hsz : (s.size : Int) = Geom.sizeOf ga gd gl := by
    unfold srightF at hf
    split at hf
    · rename_i h; exact h.2
    · cases hf
  refine (callsIn_wide (n := 8)).1 ?_
  refine callsIn_of_wp_marks Tryz.func53 rfl trivial ?_ rfl
  simp only [Tryz.ntmps53, List.size_toArray, List.length_cons, List.length_nil, Nat.reduceAdd, Nat.reduceSub, Array.replicate_succ, Array.replicate_zero, List.push_toArray, List.append_toArray, List.nil_append, List.cons_append]
  gi_wp2_with fail
  have hb3 : ∃ w0, w0 = (((w.alloc (.cells (gcell ga gd gl).toArray 23)).alloc (.cells #[.slice none 0 0] 47)).alloc (.cells #[.int .i64 0] 29)).alloc (.cells (acell (.pointer (some ⟨g, 0, none⟩)) (.pointer (some ⟨gS, 0, none⟩)) ga gd gl life).toArray 143) := ⟨_, rfl⟩
  obtain ⟨w0, hw0⟩ := hb3
  have bx8 : Boxed w0 (w.heap.size + 1) 47 (.slice none 0 0) := by
    have := Boxed.new (w.alloc (.cells (gcell ga gd gl).toArray 23)) 47 (.slice none 0 0)
    simp at this
    rw [hw0]
    exact (Below.heap_alloc _ _ _ (by simp)).trans ((Below.heap_alloc _ _ _ (by simp)).trans this)
  have bx9 : Boxed w0 (w.heap.size + 1 + 1) 29 (.int .i64 0) := by
    have := Boxed.new ((w.alloc (.cells (gcell ga gd gl).toArray 23)).alloc (.cells #[.slice none 0 0] 47)) 29 (.int .i64 0)
    simp at this
    rw [hw0]
    exact (Below.heap_alloc _ _ _ (by simp)).trans this
  have ba : Blk w0 (w.heap.size + 1 + 1 + 1) (acell (.pointer (some ⟨g, 0, none⟩)) (.pointer (some ⟨gS, 0, none⟩)) ga gd gl life) := by
    rw [hw0]
    have := Blk.new (((w.alloc (.cells (gcell ga gd gl).toArray 23)).alloc (.cells #[.slice none 0 0] 47)).alloc (.cells #[.int .i64 0] 29)) (acell (.pointer (some ⟨g, 0, none⟩)) (.pointer (some ⟨gS, 0, none⟩)) ga gd gl life) 143
    simpa using this
  have b0 : Below w.heap.size w w0 := by rw [hw0]; exact bt (b3alloc _ _ _ _) (b1alloc _ _)
  rw [show (((w.alloc (.cells #[.int .i64 ga, .int .i64 gd, .int .i64 gl] 23)).alloc (.cells #[.slice none 0 0] 47)).alloc (.cells #[.int .i64 0] 29)).alloc (.cells #[.pointer (some ⟨g, 0, none⟩), .pointer (some ⟨gS, 0, none⟩), .int .i64 ga, .int .i64 gd, .int .i64 gl, .int .u64 (life.toNat : Int)] 143) = w0 from hw0.symm]
  clear hw0 z0 z1 z2 FG
  refine ⟨trivial, (callsIn_wide.2 (HR.out _ b0)).mono ?_⟩
  rintro e1 w1 ⟨rfl, b1⟩
  have b01 := bt b0 b1
  have hba1 := (ba.on b1).lt
  obtain ⟨z0, z1, z2, z3, z4, z5⟩ := six6 (ba.on b1)
  gi_wp2_with fail
  refine ⟨trivial, (callsIn_wide.2 (pages_any g gS (w.heap.size + 1 + 1) ga gd gl life w1)).mono ?_⟩
  rintro e4 w4 ⟨rfl, hP4, b4⟩
  have b04 := bt b01 b4
  have bb4 := bt b1 b4
  have bx84 : Boxed w4 (w.heap.size + 1) 47 (.slice none 0 0) := (bb4.block _ bx8.lt).trans bx8
  have bx94 : Boxed w4 (w.heap.size + 1 + 1) 29 (.int .i64 0) := (bb4.block _ bx9.lt).trans bx9
  clear z0 z1 z2 z3 z4 z5 bx8 bx9 ba bb4 b0 b1 b01
  gi_wp2_with fail
  obtain ⟨i0, hi0, hz0, hz1, hz2⟩ := info_parts infoS
  have hs1 : w.heap.size + 3 < w1.heap.size := by have := hba1; omega
  have hs4 : w1.heap.size + 2 < w4.heap.size := hP4.there.lt
  have hB4 := h.on b04
  have hne : ∀ j ∈ bS :: gS :: fp, j ≠ w.heap.size + 1 := by
    intro j hj
    rcases List.mem_cons.1 hj with e | e
    · have := h.sym.lt.2; omega
    rcases List.mem_cons.1 e with e | e
    · have := h.sym.lt.1; omega
    · have := h.disk.lt _ e; omega
  have hN85 : N ≤ 85 := by have := pagesOf_bd ga gd gl; omega
  have hI : OwnFrom w4.heap.size (RInv w w4) := RInv.own (by omega)
  refine range_ok (n := 8) (by omega) (gf := 115) (lb := #[.pointer (some ⟨w1.heap.size, 0, none⟩), .pointer (some ⟨w1.heap.size + 1, 0, none⟩), .pointer (some ⟨w1.heap.size + 2, 0, none⟩)]) rfl (enters_of Tryz.func115 (by kernel_rfl) rfl)
    (pages2_ok 7 (by omega) (w.heap.size + 1) w1.heap.size (w1.heap.size + 1) (w1.heap.size + 2) (w.heap.size + 1 + 1) g fp s gS bS l ga gd gl life N hG hN hl hs hd hsz w4 hP4 hB4 hne (by omega) (by omega))
    (fun h k => h.trans k) (fun W l o o' hl h _ _ => KpK.turn W l o' hl) (Below.refl _ _) (fun _ => rfl)
    (RInv w w4)
    (fun c (pre' : List It) X => (∃ (pre : List It) (x : It), pre' = pre ++ [x] ∧ c = .ret ∧ x.is = false) ∧ Boxed X (w.heap.size + 1) 47 (.slice none 0 0) ∧ Boxed X (w.heap.size + 1 + 1) 29 (.int .i64 11) ∧ Below w.heap.size w X)
    hI
    (fun c pre X X' row hI hg hr => ⟨hI.1, hI.2.1.kept hg (fun e => by have := (hr _ e.symm).1; omega), hI.2.2.1.kept hg (fun e => by have := (hr _ e.symm).1; omega), hI.2.2.2.grown hg (by have := hI.2.2.2.size; omega) (fun r e => by have := (hr r e).1; omega)⟩)
    ⟨⟨⟨_, bx84, own_nil _ _ _ _, trivial⟩, bx94, KpK.refl _ _ _, b04⟩, fun x hx => by cases hx⟩
    (fun pre x a' X => ∃ pb, a' = { tmps := #[.pointer (some ⟨g, 0, none⟩), .pointer (some ⟨gS, 0, none⟩), gv ga gd gl, .int .u64 (life.toNat : Int), undef, undef, .pointer (some ⟨w.heap.size, 0, none⟩), undef, .pointer (some ⟨w.heap.size + 1, 0, none⟩), .pointer (some ⟨w.heap.size + 1 + 1, 0, none⟩), .pointer (some ⟨w.heap.size + 1 + 1 + 1, 0, none⟩), .int .i64 0, undef, .pointer (some ⟨pb, 0, none⟩), .pointer (some ⟨g, 0, none⟩), .pointer (some ⟨gS, 0, none⟩), (gv ga gd gl), .int .u64 (life.toNat : Int), (av (.pointer (some ⟨g, 0, none⟩)) (.pointer (some ⟨gS, 0, none⟩)) ga gd gl life), (av (.pointer (some ⟨g, 0, none⟩)) (.pointer (some ⟨gS, 0, none⟩)) ga gd gl life), .int .i64 0, .int .i64 0, .bool false, undef, (av (.pointer (some ⟨g, 0, none⟩)) (.pointer (some ⟨gS, 0, none⟩)) ga gd gl life), .func (.func 115) #[] #[.pointer (some ⟨w1.heap.size, 0, none⟩), .pointer (some ⟨w1.heap.size + 1, 0, none⟩), .pointer (some ⟨w1.heap.size + 2, 0, none⟩)], .int .i64 (x.k : Int), .agg #[.slice x.A x.body.length x.c, .bool x.is], undef, undef, undef, undef, undef, undef, undef, undef, undef, undef, undef, undef], defers := [] } ∧ Blk X pb [.slice x.A x.body.length x.c, .bool x.is] ∧ w4.heap.size ≤ pb ∧ It.Ok w4.heap.size X x ∧ RInv w w4 pre X)
    ?_ ?assign ?body ?done ?stop
  · rintro pre x a' X lp o o' hl ho hc ⟨pb, rfl, hpb, hpl, hok, hIx⟩
    have hg := grownBy_putObj' X lp o'
    refine ⟨pb, rfl, ?_, hpl, hok.grown hg (fun r e => by cases e; exact ⟨o, ho, hc⟩), hI pre X _ (some lp) hIx hg (fun r e => by cases e; exact ⟨hl, o, ho, hc⟩)⟩
    obtain ⟨t, ht⟩ := hpb
    refine ⟨t, (hg.block pb (lt_of_block ht) (fun e => ?_)).trans ht⟩
    injection e with e
    subst e
    rw [ht] at ho; cases ho; cases hc
  case assign =>
    intro lp pre x X hIx hok hlen
    unfold It.enc
    simp [List.zip_toArray, List.setIfInBounds_toArray]
    gi_wp2
    refine ⟨KeepsOthers.alloc _ _, KpK.of_below (b1alloc _ _) hIx.1.2.2.1.size, X.heap.size, rfl, Blk.new X _ _, hIx.1.2.2.1.size, hok.on (b1alloc _ _), hI.alloc _ hIx⟩
  case body =>
    rintro lp pre x a' X ⟨pb, rfl, hpb, hpl, hok, hI'⟩ hlen
    obtain ⟨⟨⟨v, hv, hrow, _⟩, hv9, hkp, hB⟩, hall⟩ := hI'
    have pc0 := hpb.cell (k := 0) (by simp)
    have pc1 := hpb.cell (k := 1) (by simp)
    simp only [List.getElem_cons_zero, List.getElem_cons_succ] at pc0 pc1
    have hvc := hv.cell
    have hvf := hv.frozen
    have hlx : w.heap.size + 1 < X.heap.size := hv.lt
    have hszX : w4.heap.size ≤ X.heap.size := hkp.size
    obtain ⟨xk, xA, xc, xb, xi⟩ := x
    cases xi with
    | false =>
      have hvc9 := hv9.cell
      have hvf9 := hv9.frozen
      have hlx9 : w.heap.size + 1 + 1 < X.heap.size := hv9.lt
      gi_wp2
      have v1 := hv.set (.slice none 0 0)
      have v9 := hv9.kept (grownBy_setCell' X (w.heap.size + 1) (.slice none 0 0)) (fun e => by injection e with e; omega)
      exact ⟨(KeepsOthers.setCell _ _ _).trans (KeepsOthers.setCell _ _ _), ⟨pre, _, rfl, rfl, rfl⟩, v1.kept (grownBy_setCell' _ (w.heap.size + 1 + 1) (.int .i64 11)) (fun e => by injection e with e; omega), v9.set (.int .i64 11), bset (bset hB (by omega) _) (by omega) _⟩
    | true =>
      have bX1 := b1alloc X (.cells #[.slice xA xb.length xc] 51)
      gi_wp2_with (refine Ch.wpListIn_append_rd _ rfl _ _ _ rfl w4.heap.size 51 i0 _ 1 24 Tryz.underlying47 hi0 hz0 hz1 hz2 rfl (by omega) v pre.length _ rfl (hrow.alloc _) _ _ 1 1 [It.sl ⟨xk, xA, xc, xb, true⟩] rfl rfl (Rd.lit X _ _ _ (X.heap.size + 1) rfl (by omega)) (by intro u hu; simp [It.sl] at hu; subst hu; rfl) (by simp only [maxLen]; omega) (by omega) (by simp; omega) ?_; intro v1 w3 hown3 hg3 hat3; obtain ⟨g3, c3, rfl⟩ := ownsRow_succ hown3; have hbx := Lib.hid (box_app hv (by decide) hrow hszX (by omega) bX1 hown3 hg3); have hc3 := hbx.out.1.cell; have hf3 := hbx.out.1.frozen)
      obtain ⟨_, h1, h2, h3, h4, h5, h6⟩ := hbx.out
      have hU := fun (y : It) (hy : It.Ok w4.heap.size X y) => hy.keepU (h6 5 (by decide) (by decide))
      refine ⟨h3, h4, ⟨⟨_, h1, ?_, trivial⟩, ?_, hkp.trans h4, hB.trans (h5 _ (by omega))⟩, fun y hy => ?_⟩
      · simpa using h2
      · exact (h6 29 (by decide) (by decide) _ _ hv9).trans hv9
      · rcases List.mem_append.1 hy with hy | hy
        · exact ⟨hU y (hall y hy).1, (hall y hy).2⟩
        · rw [List.mem_singleton] at hy
          subst hy
          exact ⟨hU _ hok, rfl⟩
  case done =>
    rintro D xs X hD hxs ⟨⟨⟨v, hv, hrow, _⟩, hv9, hkp, hB⟩, hall⟩ hKD
    obtain ⟨hxl, hres⟩ := all_want hxs (fun x hx => (hall x hx).2)
    have Hres := Lib.hid hres
    have hxl2 := hxl
    rw [hxl] at hrow
    have Hxl := Lib.hid hxl
    clear hxs hres hxl hxl2
    obtain ⟨A2, c2, rfl⟩ := own_form hrow
    have hvc := hv.cell
    have hvf := hv.frozen
    have hvl := hv.lt
    have hvc9 := hv9.cell
    have hvf9 := hv9.frozen
    have hvl9 := hv9.lt
    have hv8 := (hv.set (.slice A2 N c2)).kept (grownBy_setCell' _ (w.heap.size + 1 + 1) (.int .i64 0)) (fun e => by injection e with e; omega)
    have hv99 := (hv9.kept (grownBy_setCell' X (w.heap.size + 1) (.slice A2 N c2)) (fun e => by injection e with e; omega)).set (.int .i64 0)
    have hrow8 := (hrow.kept (grownBy_setCell' X (w.heap.size + 1) (.slice A2 N c2)) (.inr (hv.not_row (by decide) hrow).symm)).kept (grownBy_setCell' _ (w.heap.size + 1 + 1) (.int .i64 0)) (.inr (fun e => by have := own_block hrow e; omega))
    have hDl : D < X.heap.size := (Array.getElem?_eq_some_iff.1 hKD).1
    gi_wp2_with fail
    have hD2 : ((X.setCell ⟨w.heap.size + 1, 0, none⟩ (.slice A2 N c2)).setCell ⟨w.heap.size + 1 + 1, 0, none⟩ (.int .i64 0)).heap[D]? = some (.deferred (some [])) :=
      ((grownBy_setCell' _ (w.heap.size + 1 + 1) (.int .i64 0)).block D (by simp [World.setCell]; omega) (fun e => by injection e with e; omega)).trans (((grownBy_setCell' X (w.heap.size + 1) (.slice A2 N c2)).block D hDl (fun e => by injection e with e; omega)).trans hKD)
    obtain ⟨Z, hZ⟩ : ∃ Z, Z = (X.setCell ⟨w.heap.size + 1, 0, none⟩ (.slice A2 N c2)).setCell ⟨w.heap.size + 1 + 1, 0, none⟩ (.int .i64 0) := ⟨_, rfl⟩
    have hoks : ∀ x ∈ xs, It.Ok w4.heap.size Z x := fun x hx => (hall x hx).1.keepU fun j cs hj => by
      rw [hZ]
      have h1 : j ≠ w.heap.size + 1 := fun e => by subst e; have := hv; unfold Boxed at this; rw [hj] at this; injection this with this; injection this with _ h2 _; exact absurd h2 (by decide)
      have h2 : j ≠ w.heap.size + 1 + 1 := fun e => by subst e; have := hv9; unfold Boxed at this; rw [hj] at this; injection this with this; injection this with _ h2 _; exact absurd h2 (by decide)
      exact (Below.heap_setCell _ _ _ j (fun e => h2 e)).trans (Below.heap_setCell _ _ _ j (fun e => h1 e))
    have hBZ : Below w.heap.size w Z := by rw [hZ]; exact bset (bset hB (by omega) _) (by omega) _
    rw [← hZ] at hD2 hv8 hv99 hrow8 ⊢
    have g0 := grownBy_putObj' Z D (.deferred none)
    have v8 := (hv8.kept g0 (fun e => by injection e with e; omega)).cell
    have v9 := (hv99.kept g0 (fun e => by injection e with e; omega)).cell
    clear hZ
    refine ⟨by simp, .inl ⟨_, _, rfl, run_takeDeferred hD2, ?_⟩⟩
    refine ⟨.tuple #[.slice A2 N c2, .int .i64 0], (by simp [results, Tryz.results53, go_sem, v8, v9]), ?_⟩
    rw [Hres.out]
    refine ⟨⟨A2, c2, by simp [Hxl.out], xs, ?_, rfl, fun x hx => ?_⟩, ?_⟩
    · rw [List.length_map, Hxl.out]
      exact own_base (ownsRow_putObj hrow8 _ hD2 rfl) b04.size
    · have := (hoks x hx).grown g0 (fun r e => by cases e; exact ⟨_, hD2, rfl⟩)
      exact ⟨own_base this.1 b04.size, this.2⟩
    · exact hBZ.trans (belowK_b (w := w) (Nat.le_refl _) _ D _ _ (by have := b04.size; omega) hD2 rfl rfl)
  case stop =>
    rintro D c pre' X hD ⟨k, hk, hpre⟩ ⟨⟨pre, x, rfl, rfl, hx⟩, hv, hv9, hB⟩ hKD
    have Hres := Lib.hid (not_want hk hpre hx)
    clear hpre
    gi_wp2_with fail
    have g0 := grownBy_putObj' X D (.deferred none)
    have v8 := (hv.kept g0 (fun e => by injection e with e; omega)).cell
    have v9 := (hv9.kept g0 (fun e => by injection e with e; omega)).cell
    refine ⟨by simp, .inl ⟨_, _, rfl, run_takeDeferred hKD, ?_⟩⟩
    refine ⟨.tuple #[.slice none 0 0, .int .i64 11], (by simp [results, Tryz.results53, go_sem, v8, v9]), ?_⟩
    rw [Hres.out]
    exact ⟨rfl, hB.trans (belowK_b (w := w) (Nat.le_refl _) _ D _ _ (by have := b04.size; omega) hKD rfl rfl)⟩
end Go.Proofs.YtchcmklelmlbgaaGreat.Snap

/- The pages of a life: snap.Bad, and what they come to. -/
namespace Go.Proofs.YtchcmklelmlbgaaGreat.Snap
open Go.RowKit Go.Shelf
open Go.Proofs.YtchcmklelmlbgaaGreat.Geom
open Go.Proofs.YtchcmklelmlbgaaGreat.Ch (SeqOk range_ok)
open Go.Proofs.YtchcmklelmlbgaaGreat.Sup (Gb gv gcell srightF gthree)
open Go.Proofs.YtchcmklelmlbgaaGreat.Disk (St DAt Did New8 Told8 read_any)
open Go.Proofs.YtchcmklelmlbgaaGreat.Sec (X SymAt text sumOf sumAfter ckS blankB rightF encode_sym decode_sym right_0 right_2 xv RetX X0 five5x)
attribute [local go_sem] Oper.semAt_some
set_option linter.unusedVariables false
set_option maxRecDepth 100000
theorem infoI : (Tryz.prog.info? 3).map (fun i => (i.zero, i.size, i.bytes)) = some (some (.int .i64 0), 1, 8) := by kernel_rfl
/-- the numbers of those that are not there -/
def bads (l : List It) : List Int := (l.filter (fun x => !x.is)).map (fun x => (x.k : Int))
def badL (l : List (List UInt8)) (s : St) (ga gd gl : Int) (life : UInt64) (N : Nat) : List Int := ((List.range N).filter (fun k => !isPg l s ga gd gl life k)).map (fun k : Nat => (k : Int))
theorem bads_yes {pre : List It} {x : It} (h : x.is = true) : bads (pre ++ [x]) = bads pre := by simp [bads, h]
theorem bads_no {pre : List It} {x : It} (h : x.is = false) : bads (pre ++ [x]) = bads pre ++ [(x.k : Int)] := by simp [bads, h]
theorem bads_want {l : List (List UInt8)} {s : St} {ga gd gl : Int} {life : UInt64} {N : Nat} {xs : List It} (h : xs.map It.f = (List.range N).map (want l s ga gd gl life)) : bads xs = badL l s ga gd gl life N := by
  have e1 : bads xs = ((xs.map It.f).filter (fun t => !t.2.1)).map (fun t => (t.1 : Int)) := by
    unfold bads
    rw [List.filter_map, List.map_map]
    rfl
  rw [e1, h, List.filter_map, List.map_map]
  rfl
def RetBad (w : World) (l : List Int) (e : Ending) (w' : World) : Prop := ∃ A c, e = .returned (.tuple #[.slice A l.length c, .int .i64 0]) ∧ w'.ownsRow w.heap.size 3 1 (.slice A l.length c) l.length (l.map (Value.int .i64))
/-- between two rounds of Bad -/
def BInv (w w4 : World) (pre : List It) (X : World) : Prop := ((∃ v, Boxed X (w.heap.size + 1) 66 v ∧ X.ownsRow w4.heap.size 3 1 v (bads pre).length ((bads pre).map (Value.int .i64)) ∧ True) ∧ Boxed X (w.heap.size + 1 + 1) 29 (.int .i64 0) ∧ KpK (w.heap.size + 1) w4.heap.size w4 X ∧ Below w.heap.size w X) ∧ True
theorem BInv.own {w w4 : World} (h1 : w.heap.size + 1 + 1 < w4.heap.size) : OwnFrom w4.heap.size (BInv w w4) := by
  intro pre X X' row hI hg hr
  refine ⟨⟨holdsRow_own w4.heap.size (w.heap.size + 1) 66 3 1 (fun pre : List It => (bads pre).length) (fun pre => (bads pre).map (Value.int .i64)) (fun _ _ => True) pre X X' row hI.1.1 hg (fun g e => (hr g e).2), ?_, kpK_grown hI.1.2.2.1 hg (fun r e => (hr r e).1) (Nat.le_refl _), hI.1.2.2.2.grown hg (by have := hI.1.2.2.2.size; omega) (fun r e => by have := (hr r e).1; omega)⟩, trivial⟩
  exact hI.1.2.1.kept hg (fun e => by have := (hr _ e.symm).1; omega)
end Go.Proofs.YtchcmklelmlbgaaGreat.Snap
