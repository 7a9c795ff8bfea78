/- WireReads: for every input the law returns true: what is read of any bytes, asked for any fields, is the document's answer. No condition. -/
import Derived.Test.YtdkcdojcglmlbaaLRead2
import Derived.Test.YtdkcdojcglmlbaaOpen
import Derived.Deep.DeepCutAuto
namespace Go.Proofs.Ytdkcdojcglmlbaa.WireReads
open Go.ChangeShapes Go.WideShapes Go.ChangeAt Go.RowKit Go.Joins
open Go.ChangeMaps (open_string shut_string)
set_option linter.unusedVariables false
set_option maxRecDepth 100000
open Wire
open Go.Proofs.Ytdkcdojcglmlbaa.Read

theorem take_all (kind : Int) (hk0 : 0 ≤ kind) (hk2 : kind ≤ 2) (A : Option Addr) (l : List UInt8) (n cap : Nat) (size : Int) (hs0 : -9223372036854775808 ≤ size) (hs1 : size ≤ 9223372036854775807) (w : World) (hn : n = l.length) (B : Nat) (hB : B ≤ w.heap.size) (hr : Rd w B A (l.map e8)) (hl : l.length ≤ 300) (hc : l.length ≤ cap) (hcm : cap ≤ maxLen) :
    Calls Try.prog 25 #[.slice A n cap, .int .i64 kind, .int .i64 size] w fun e w' => TookF w B l e w' (takeP kind size l) := by
  rcases (show kind = 0 ∨ kind = 1 ∨ kind = 2 by omega) with rfl | rfl | rfl
  · exact take_0 A l n cap size w hn B hB hr hl
  · exact take_1 A l n cap size hs0 hs1 w hn B hB hr hl hc
  · exact take_2 A l n cap size hs0 hs1 w hn B hB hr hl hc hcm
theorem read_all (kind : Int) (hk0 : 0 ≤ kind) (hk2 : kind ≤ 2) (g : Nat) (l : List UInt8) (f size : Int) (hs0 : -9223372036854775808 ≤ size) (hs1 : size ≤ 9223372036854775807) (t : Bool) (wk ws : Int) (wn : UInt64) (A : Option Addr) (m : List UInt8) (n c : Nat) (w : World) (B : Nat) (hr : RAt w g l f) (hm : Rd w B A (m.map e8)) (hB : B ≤ g)
    (hnn : n = m.length) (hn : wn.toNat = (outc kind size l f).1) (hb : m = (outc kind size l f).2.1) (hml : m.length ≤ 1000000) :
    Calls Try.prog 26 #[.pointer (some ⟨g, 0, none⟩), .int .i64 kind, .int .i64 size, .bool t, .agg #[.int .i64 wk, .int .i64 ws, .int .u64 (wn.toNat : Int), .slice A n c]] w (Got w g (.bool true) (outc kind size l f).2.2.1 (outc kind size l f).2.2.2) := by
  subst hnn
  rcases (show kind = 0 ∨ kind = 1 ∨ kind = 2 by omega) with rfl | rfl | rfl
  · exact read_0 g l f size t wk ws wn _ w hr hn
  · exact read_1 g l f size hs0 hs1 t wk ws wn _ w hr hn
  · cases t
    · exact read_2b g l f size wk ws wn A m c w B hr hm hB hb hml
    · exact read_2t g l f size wk ws wn A m c w B hr hm hB hb

def ft (whole : Bool) : Int := if whole then 0 else 4
/-- the reader, and what is left of the bytes -/
def WSt (w wr : World) (g : Nat) (v : Value) (whole : Bool) : Prop :=
  ∃ cur A c, v = .slice A cur.length c ∧ RAt wr g cur (ft whole) ∧ (whole = false → cur = []) ∧ Rd wr w.heap.size A (cur.map e8) ∧ cur.length ≤ c ∧ c ≤ maxLen ∧ cur.length ≤ 300 ∧ Below w.heap.size w wr
theorem two_ge {A B : World → Prop} {w : World} (h : Cl (Two A B) 1 w) : B w := by
  obtain ⟨p, hp, h⟩ := h
  cases p with
  | zero => omega
  | succ p => exact h

/-- behind the test: what must come, and what is left -/
def Mid (w wr : World) (fl : Fl) (cur : List UInt8) (whole : Bool) (v wh : Value) (wx : World) : Prop :=
  ∃ cur' A' c' whole' wk ws, ∃ wn : UInt64, ∃ wA wc wb, v = .slice A' cur'.length c' ∧ wh = .bool whole' ∧ outc fl.kind fl.size cur (ft whole) = (wn.toNat, wb, cur', ft whole') ∧
    wx.cell? ⟨wr.heap.size, 0, none⟩ = some (.int .i64 wk) ∧ wx.cell? ⟨wr.heap.size, 1, none⟩ = some (.int .i64 ws) ∧ wx.cell? ⟨wr.heap.size, 2, none⟩ = some (.int .u64 (wn.toNat : Int)) ∧ wx.cell? ⟨wr.heap.size, 3, none⟩ = some (.slice wA wb.length wc) ∧
    Rd wx w.heap.size wA (wb.map e8) ∧ (whole' = false → cur' = []) ∧ Rd wx w.heap.size A' (cur'.map e8) ∧ cur'.length ≤ c' ∧ c' ≤ maxLen ∧ Below wr.heap.size wr wx ∧ wr.heap.size < wx.heap.size ∧ cur'.length ≤ 300 ∧ wb.length ≤ 300
theorem mid_no {w wr wx : World} {fl : Fl} {cur : List UInt8} {whole : Bool} {A' : Option Addr} {c' : Nat} (ho : outc fl.kind fl.size cur (ft whole) = (0, [], [], 4))
    (e0 : wx.cell? ⟨wr.heap.size, 0, none⟩ = some (.int .i64 0)) (e1 : wx.cell? ⟨wr.heap.size, 1, none⟩ = some (.int .i64 0)) (e2 : wx.cell? ⟨wr.heap.size, 2, none⟩ = some (.int .u64 0)) (e3 : wx.cell? ⟨wr.heap.size, 3, none⟩ = some (.slice none 0 0))
    (hc : c' ≤ maxLen) (hb : Below wr.heap.size wr wx) (hs : wr.heap.size < wx.heap.size) : Mid w wr fl cur whole (.slice A' 0 c') (.bool false) wx :=
  ⟨[], A', c', false, 0, 0, 0, none, 0, [], rfl, rfl, ho, e0, e1, e2, e3, Rd.nil _ _ _, fun _ => rfl, Rd.nil _ _ _, Nat.zero_le _, hc, hb, hs, by simp, by simp⟩
theorem takeP_some {kind size : Int} {l : List UInt8} {n : Nat} {b r : List UInt8} (h : takeP kind size l = some (n, b, r)) : n < 18446744073709551616 ∧ b.length ≤ l.length ∧ r.length ≤ l.length ∧ r = l.drop (l.length - r.length) := by
  unfold takeP at h
  split at h
  · split at h
    · injection h with h; injection h with h1 h2; injection h2 with h2 h3
      subst h1 h2 h3
      refine ⟨Num.getN_8 _ (by rw [List.length_take]; omega), by simp, by simp, by congr 1; rw [List.length_drop]; omega⟩
    · cases h
  · split at h
    · split at h
      · injection h with h; injection h with h1 h2; injection h2 with h2 h3
        subst h1 h2 h3
        refine ⟨Num.getN_8 _ (by rw [List.length_take]; omega), by simp, by simp, by congr 1; rw [List.length_drop]; omega⟩
      · cases h
    · split at h
      · injection h with h; injection h with h1 h2; injection h2 with h2 h3
        subst h1 h2 h3
        refine ⟨by omega, by rw [List.length_take, List.length_drop]; omega, by simp, by congr 1; rw [List.length_drop]; omega⟩
      · cases h
def Has4 (X : World) (g : Nat) : Prop := ∃ a b c d, X.cell? ⟨g, 0, none⟩ = some a ∧ X.cell? ⟨g, 1, none⟩ = some b ∧ X.cell? ⟨g, 2, none⟩ = some c ∧ X.cell? ⟨g, 3, none⟩ = some d
abbrev set4 (X : World) (g : Nat) (a b c d : Value) : World := (((X.setCell ⟨g, 0, none⟩ a).setCell ⟨g, 1, none⟩ b).setCell ⟨g, 2, none⟩ c).setCell ⟨g, 3, none⟩ d
theorem set4_below {W X : World} {a b c d : Value} (h : Below W.heap.size W X) : Below W.heap.size W (set4 X W.heap.size a b c d) := bset_new (bset_new (bset_new (bset_new h _ _) _ _) _ _) _ _
/-- what must come lies in the variable, and all else is as it was -/
structure Laid (wr wx : World) (k s n : Value) (v : Value) : Prop where
  e0 : wx.cell? ⟨wr.heap.size, 0, none⟩ = some k
  e1 : wx.cell? ⟨wr.heap.size, 1, none⟩ = some s
  e2 : wx.cell? ⟨wr.heap.size, 2, none⟩ = some n
  e3 : wx.cell? ⟨wr.heap.size, 3, none⟩ = some v
  hb : Below wr.heap.size wr wx
  hs : wr.heap.size < wx.heap.size
theorem mid_old {wr W X : World} {a b c d : Value} (hs : wr.heap.size < W.heap.size) (hW : Has4 W wr.heap.size) (hbW : Below wr.heap.size wr W) (h : Below W.heap.size W X) : Laid wr (set4 X wr.heap.size a b c d) a b c d := by
  obtain ⟨u0, u1, u2, u3, h0, h1, h2, h3⟩ := hW
  have k0 := (h.cell (p := ⟨wr.heap.size, 0, none⟩) hs).trans h0
  have k1 := (h.cell (p := ⟨wr.heap.size, 1, none⟩) hs).trans h1
  have k2 := (h.cell (p := ⟨wr.heap.size, 2, none⟩) hs).trans h2
  have k3 := (h.cell (p := ⟨wr.heap.size, 3, none⟩) hs).trans h3
  have hsz := h.size
  refine ⟨?_, ?_, ?_, ?_, set4_below (bt hbW h), by simp [set4]; omega⟩ <;> simp only [set4] <;> go_simp
theorem mid_new {wr W X : World} {a b c d : Value} {o : Obj} (hs : wr.heap.size < W.heap.size) (hW : Has4 W wr.heap.size) (hbW : Below wr.heap.size wr W) (h : Below W.heap.size W X) : Laid wr ((set4 X wr.heap.size a b c d).alloc o) a b c d := by
  have H := mid_old (a := a) (b := b) (c := c) (d := d) hs hW hbW h
  have hb := b1alloc (set4 X wr.heap.size a b c d) o
  exact ⟨(hb.cell (p := ⟨_, _, _⟩) H.hs).trans H.e0, (hb.cell (p := ⟨_, _, _⟩) H.hs).trans H.e1, (hb.cell (p := ⟨_, _, _⟩) H.hs).trans H.e2, (hb.cell (p := ⟨_, _, _⟩) H.hs).trans H.e3, bt H.hb hb, Nat.lt_of_lt_of_le H.hs hb.size⟩
theorem Laid.none {w wr wx : World} {fl : Fl} {cur : List UInt8} {whole : Bool} {A' : Option Addr} {c' : Nat} (h : Laid wr wx (.int .i64 0) (.int .i64 0) (.int .u64 0) (.slice none 0 0)) (ho : outc fl.kind fl.size cur (ft whole) = (0, [], [], 4)) (hc : c' ≤ maxLen) : Mid w wr fl cur whole (.slice A' 0 c') (.bool false) wx :=
  mid_no ho h.e0 h.e1 h.e2 h.e3 hc h.hb h.hs
theorem mid_some {w wr wx Wc : World} {fl : Fl} {cur b' r : List UInt8} {n : Nat} {A1 A' tA : Option Addr} {n' c' tc : Nat} {tk ts : Int} (h : Laid wr wx (.int .i64 tk) (.int .i64 ts) (.int .u64 (n : Int)) (.slice tA b'.length tc)) (hT : takeP fl.kind fl.size cur = some (n, b', r)) (hrr : r = cur.drop (cur.length - r.length)) (hn : n < 18446744073709551616) (hbl : b'.length ≤ cur.length) (hrl : r.length ≤ cur.length) (hcl : cur.length ≤ 300)
    (hsz : w.heap.size ≤ wr.heap.size) (hrd : Rd wr w.heap.size A1 (cur.map e8)) (hbc : Below wr.heap.size wr Wc) (tr : Rd Wc w.heap.size tA (b'.map e8)) (hn' : n' = cur.length - (cur.length - r.length)) (hA : A' = A1.map (fun x => x.add (cur.length - r.length)) ∨ r.length = 0) (hc' : n' ≤ c') (hcm : c' ≤ maxLen) : Mid w wr fl cur true (.slice A' n' c') (.bool true) wx := by
  have e : n' = r.length := by omega
  subst e
  obtain ⟨e0, e1, e2, e3, hb, hs⟩ := h
  have hu : (UInt64.ofNat n).toNat = n := by rw [UInt64.toNat_ofNat']; exact Nat.mod_eq_of_lt hn
  refine ⟨r, A', c', true, tk, ts, UInt64.ofNat n, tA, tc, b', rfl, rfl, ?_, e0, e1, by rw [hu]; exact e2, e3, ?_, (fun h => by cases h), ?_, hc', hcm, hb, hs, by omega, by omega⟩
  · rw [hu]; simp [outc, ft, hT]
  · exact tr.keep fun p hp => (hb.cell (by omega)).trans (hbc.cell (by omega)).symm
  · rcases hA with rfl | h0
    · rw [hrr, List.map_drop, ← hrr]
      exact (hrd.below (hb.mono hsz)).drop _
    · exact Rd.empty (by rw [List.eq_nil_of_length_eq_zero h0]; rfl)
def RdOk (w W : World) (g : Nat) (t : Bool) (fl : Fl) (cur cur' : List UInt8) (whole whole' : Bool) (v : Value) : Prop :=
  ∀ w', At W g cur (ft whole) w' → Calls Try.prog 26 #[.pointer (some ⟨g, 0, none⟩), .int .i64 fl.kind, .int .i64 fl.size, .bool t, v] w' (Got w' g (.bool true) cur' (ft whole'))
set_option maxHeartbeats 16000000 in
theorem walk (A : Option Addr) (bs : List UInt8) (c : Nat) (A2 : Option Addr) (l : List Fl) (c2 : Nat) (t : Bool) (w : World)
    (ha : Rd w w.heap.size A (bs.map e8)) (hc : bs.length ≤ c) (hcm : c ≤ maxLen) (hf : Fields w w.heap.size A2 l) (hc2 : l.length ≤ c2) (hcm2 : c2 ≤ maxLen) :
    Calls Try.prog 5 #[.slice A bs.length c, .slice A2 l.length c2, .bool t] w fun e w' => e = .returned (.bool true) ∧ Below w.heap.size w w' := by
  have hcm' := hcm
  have hcm2' := hcm2
  unfold maxLen at hcm' hcm2'
  by_cases hli : lightB l = true
  · by_cases h300 : bs.length ≤ 300
    · obtain ⟨h40, hok⟩ := light_yes hli
      have Hli := Lib.hid hli
      have Hok := Lib.hid hok
      clear hli hok
      go_enter Try.func5, Try.ntmps5
      go_wp2_with fail
      refine (light_any A2 l _ c2 _ rfl hf (by omega)).mono ?_
      rintro e w1 ⟨rfl, b1⟩
      rw [Hli.out]
      go_wp2_with fail
      refine (read_any A bs _ c _ rfl (ha.on b1) (by omega)).mono ?_
      rintro e w2 ⟨g, rfl, hr2, hg2, b2⟩
      have b02 := bt b1 b2
      have hg : w.heap.size ≤ g := Nat.le_trans b1.size hg2
      have st0 : WSt w w2 g (.slice A bs.length c) true := ⟨bs, A, c, rfl, hr2, (fun h => by cases h), ha.below b02, hc, hcm, h300, b02⟩
      clear hr2
      go_wp2_with fail
      go_loopw [0, 8, 9] (fun v wh i wr => ∃ k : Nat, k ≤ l.length ∧ i = .int .i64 k ∧ ∃ b : Bool, wh = .bool b ∧ WSt w wr g v b) (fun _ _ i _ => l.length - (intOf i).toNat)
      case atStart => exact ⟨0, by omega, rfl, true, rfl, st0⟩
      case round =>
        obtain ⟨k, hk, rfl, whole, rfl, cur, A1, c1, rfl, hrw, hwn, hrd, hcc, hccm, hcl, hbel⟩ := hrel
        by_cases hlt : k < l.length
        · have hkok := Hok.out k hlt
          obtain ⟨b, off, a, c', rfl, hbb, c0, c1', c2', c3, hfa, hok⟩ := (hf.keep hbel).get hlt
          obtain ⟨k0, k2, kb⟩ := okF_yes hkok
          obtain ⟨o1, o2, o3, o4⟩ := hok
          clear hkok
          have hglt := hrw.lt
          obtain ⟨fl, hfl⟩ : ∃ fl, fl = l[k] := ⟨_, rfl⟩
          rw [← hfl] at c0 c1' c2' c3 hfa k0 k2 kb o1 o2 o3 o4
          clear hfl
          have hsz := hbel.size
          go_upto_if 33 with (fail)
          go_cut [0, 8] (fun v wh wx => Mid w wr fl cur whole v wh wx)
          case first =>
            cases whole with
            | false =>
              obtain rfl : cur = [] := hwn rfl
              go_wp2_with fail
              go_meet
              case rel => exact mid_no (by simp [outc, ft]) (by simp [go_sem]) (by simp [go_sem]) (by simp [go_sem]) (by simp [go_sem]) hccm (b1alloc _ _) (by simp)
            | true =>
              have hgc : ∀ w', Below wr.heap.size wr w' → w'.cell? ⟨b, off + k * 4, none⟩ = some (.int .i64 fl.kind) ∧ w'.cell? ⟨b, off + k * 4 + 1, none⟩ = some (.int .i64 fl.size) := fun w' hb =>
                ⟨(hb.cell (p := ⟨_, _, _⟩) (show b < wr.heap.size by omega)).trans c0, (hb.cell (p := ⟨_, _, _⟩) (show b < wr.heap.size by omega)).trans c1'⟩
              have Hgc := Lib.hid hgc
              clear hgc ha hf
              go_wp2_with fail
              obtain ⟨W, hW⟩ : ∃ W, W = wr.alloc (.cells #[.int .i64 0, .int .i64 0, .int .u64 0, .slice none 0 0] 32) := ⟨_, rfl⟩
              have hbW : Below wr.heap.size wr W := by rw [hW]; exact b1alloc _ _
              have hWs : wr.heap.size < W.heap.size := by rw [hW]; simp
              have e0 : W.cell? ⟨wr.heap.size, 0, none⟩ = some (.int .i64 0) := by rw [hW]; simp [go_sem]
              have e1 : W.cell? ⟨wr.heap.size, 1, none⟩ = some (.int .i64 0) := by rw [hW]; simp [go_sem]
              have e2 : W.cell? ⟨wr.heap.size, 2, none⟩ = some (.int .u64 0) := by rw [hW]; simp [go_sem]
              have e3 : W.cell? ⟨wr.heap.size, 3, none⟩ = some (.slice none 0 0) := by rw [hW]; simp [go_sem]
              have x0 : W.frozen? ⟨wr.heap.size, 0, none⟩ = false := by rw [hW]; simp [go_sem]
              have x1 : W.frozen? ⟨wr.heap.size, 1, none⟩ = false := by rw [hW]; simp [go_sem]
              have x2 : W.frozen? ⟨wr.heap.size, 2, none⟩ = false := by rw [hW]; simp [go_sem]
              have x3 : W.frozen? ⟨wr.heap.size, 3, none⟩ = false := by rw [hW]; simp [go_sem]
              have hWc : Has4 W wr.heap.size := ⟨_, _, _, _, e0, e1, e2, e3⟩
              obtain ⟨d0, d1⟩ := Hgc.out W hbW
              have hta : ∀ w', Below W.heap.size W w' → Calls Try.prog 25 #[.slice A1 cur.length c1, .int .i64 fl.kind, .int .i64 fl.size] w' fun e w'' => TookF w' w.heap.size cur e w'' (takeP fl.kind fl.size cur) := fun w' hb =>
                take_all fl.kind k0 k2 A1 cur _ c1 fl.size o3 o4 w' rfl w.heap.size (by have := hb.size; omega) (hrd.below ((bt hbW hb).mono hsz)) hcl hcc hccm
              have Hta := Lib.hid hta
              rw [← hW]
              have HW := Lib.hid hW
              have kk0 : (0 : Int) ≤ (k : Int) := by omega
              have kk1 : (k : Int) < (l.length : Int) := by omega
              clear hW hta c0 c1' c2' c3
              cases hT : takeP fl.kind fl.size cur with
              | none =>
                rw [hT] at Hta
                have HT := Lib.hid hT
                clear hT
                go_region_held3 (fun w' => w'.cell? ⟨b, off + k * 4, none⟩ = some (.int .i64 fl.kind) ∧ w'.cell? ⟨b, off + k * 4 + 1, none⟩ = some (.int .i64 fl.size)) (first | go_keep | (refine Hgc.out _ ?_; first | exact hbb3 | exact hbb3.alloc hbb3.size _ | exact bset (bset (bset (bset hbb3 (by omega) _) (by omega) _) (by omega) _) (by omega) _))
                  ((go_at_call 25; refine (Hta.out _ ?_).mono ?_; (first | exact (Below.refl _ _).drew | exact (b1alloc _ _).drew); rintro e w3 ⟨rfl, hb3⟩; have hW3 : Below W.heap.size W w3 := bt (by first | exact (Below.refl _ _).drew | exact (b1alloc _ _).drew) hb3; have hbb3 : Below wr.heap.size wr w3 := bt hbW hW3; obtain ⟨hcx3, hfx3, hsx3⟩ := bcell hb3; simp at hcx3 hfx3 hsx3; have hlt3 : wr.heap.size < w3.heap.size := by omega))
                · go_wp2_with fail
                  go_meet
                  case rel => exact (mid_new hWs hWc hbW hW3).none (by simp [outc, ft, HT.out]) (by unfold maxLen; omega)
                · go_wp2_with fail
                  go_meet
                  case rel => exact (mid_old hWs hWc hbW (set4_below hW3)).none (by simp [outc, ft, HT.out]) (by unfold maxLen; omega)
              | some nbr =>
                obtain ⟨n, b', r⟩ := nbr
                rw [hT] at Hta
                obtain ⟨hn, hbl, hrl, hrr⟩ := takeP_some hT
                have HT := Lib.hid hT
                have Hrr := Lib.hid hrr
                clear hT hrr
                go_region_held3 (fun w' => w'.cell? ⟨b, off + k * 4, none⟩ = some (.int .i64 fl.kind) ∧ w'.cell? ⟨b, off + k * 4 + 1, none⟩ = some (.int .i64 fl.size)) (first | go_keep | (refine Hgc.out _ ?_; first | exact hbb3 | exact hbb3.alloc hbb3.size _ | exact bset (bset (bset (bset hbb3 (by omega) _) (by omega) _) (by omega) _) (by omega) _))
                  ((go_at_call 25; refine (Hta.out _ ?_).mono ?_; (first | exact (Below.refl _ _).drew | exact (b1alloc _ _).drew); rintro e w3 ⟨hb3, tk, ts, tA, tc, rfl, tr⟩; have hW3 : Below W.heap.size W w3 := bt (by first | exact (Below.refl _ _).drew | exact (b1alloc _ _).drew) hb3; have hbb3 : Below wr.heap.size wr w3 := bt hbW hW3; obtain ⟨hcx3, hfx3, hsx3⟩ := bcell hb3; simp at hcx3 hfx3 hsx3; have hlt3 : wr.heap.size < w3.heap.size := by omega))
                · go_wp2_with fail
                  · go_meet
                    case rel => exact mid_some (mid_new hWs hWc hbW hW3) HT.out Hrr.out hn hbl hrl hcl hsz hrd (bt hbW (Below.refl _ _).drew) tr rfl (.inr (by omega)) (by omega) (by unfold maxLen; omega)
                  · go_meet
                    case rel => exact mid_some (mid_new hWs hWc hbW hW3) HT.out Hrr.out hn hbl hrl hcl hsz hrd (bt hbW (Below.refl _ _).drew) tr rfl (.inl rfl) (by omega) (by omega)
                · go_wp2_with fail
                  · go_meet
                    case rel => exact mid_some (mid_old hWs hWc hbW (set4_below hW3)) HT.out Hrr.out hn hbl hrl hcl hsz hrd (bt hbW (b1alloc _ _).drew) tr rfl (.inr (by omega)) (by omega) (by unfold maxLen; omega)
                  · go_meet
                    case rel => exact mid_some (mid_old hWs hWc hbW (set4_below hW3)) HT.out Hrr.out hn hbl hrl hcl hsz hrd (bt hbW (b1alloc _ _).drew) tr rfl (.inl rfl) (by omega) (by omega)
          case rest =>
            obtain ⟨W, hW⟩ : ∃ W, W = wc := ⟨_, rfl⟩
            rw [← hW] at hcut ⊢
            clear hW
            obtain ⟨cur', A', cc', whole', wk, ws, wn, wA, wc1, wb, rfl, rfl, ho, e0, e1, e2, e3, hwA, hwh, hrA, hcc', hcm'', hbx, hsx, hcl', hwb⟩ := hcut
            have hrW := hrw.on hbx
            have hbel' := hbel.trans (hbx.mono hsz)
            have d0 : W.cell? ⟨b, off + k * 4, none⟩ = some (.int .i64 fl.kind) := (hbx.cell (p := ⟨_, _, _⟩) (show b < wr.heap.size by omega)).trans c0
            have d1 : W.cell? ⟨b, off + k * 4 + 1, none⟩ = some (.int .i64 fl.size) := (hbx.cell (p := ⟨_, _, _⟩) (show b < wr.heap.size by omega)).trans c1'
            have hne : wr.heap.size ≠ g := by omega
            have hbg : b ≠ g := by omega
            have hra : RdOk w W g t fl cur cur' whole whole' (.agg #[.int .i64 wk, .int .i64 ws, .int .u64 (wn.toNat : Int), .slice wA wb.length wc1]) := fun w' h => by
              have := read_all fl.kind k0 k2 g cur (ft whole) fl.size o3 o4 t wk ws wn wA wb _ wc1 w' w.heap.size h.1 (rd_keep1 hwA h.2 hg (by omega)) hg rfl (by rw [ho]) (by rw [ho]) (by omega)
              rw [ho] at this
              exact this
            have kk0 : (0 : Int) ≤ (k : Int) := by omega
            have kk1 : (k : Int) < (l.length : Int) := by omega
            have hbW2 : b < W.heap.size := by omega
            have Hwh := Lib.hid hwh
            have Ho := Lib.hid ho
            clear ho hwh hrw hrd hwA c0 c1' c2' c3 hfa hwn
            have hlast : ∀ wq, At W g cur' (ft whole') wq → WSt w wq g (.slice A' cur'.length cc') whole' := fun wq h => 
              ⟨cur', A', cc', rfl, h.1, Hwh.out, rd_keep1 hrA h.2 hg (by omega), hcc', hcm'', hcl', hbel'.trans (h.2.below (by simpa using hg) (by omega))⟩
            have Hlast := Lib.hid hlast
            clear hlast hrA
            cases whole' with
            | true =>
              go_wp2_with fail
              refine region_phase 4 [13] [(17,1),(24,1),(34,1)] (Two (At W g cur (ft whole)) (At W g cur' (ft true))) (by kernel_rfl) (by kernel_rfl) (by kernel_rfl) ⟨hrW, (Keep.refl _ _)⟩ ?_
              have phNe : ∃ w, Cl (Two (At W g cur (ft whole)) (At W g cur' (ft true))) 0 w := ⟨_, 0, Nat.le_refl _, ⟨hrW, (Keep.refl _ _)⟩⟩
              have phW := @wrap_small
              have phU := IntKind.wrap_u8'
              repeat (first | (refine wpPh_call (by rfl) (by rfl) (fun K hK => ?_); go_simp; apply Exists.intro; refine ⟨?_, hK _ ?_⟩; (· (intro w' hw'; first | (go_at_call 26; refine (hra _ hw').mono ?_; rintro e w1 ⟨rfl, h1, h2⟩; exact ⟨rfl, At.next hw' h1 h2⟩))); clear hK K) | (refine wpPh_read (by rfl) (by rfl) (fun K hK => ?_); go_simp; first | (refine hK _ ?_; clear hK K) | (apply Exists.intro; refine ⟨?_, hK _ ?_⟩; (· (intro w' hw'; first | (go_at_call 27; refine (left_any _ _ _ _ (two_ge hw').1).mono ?_; rintro e w1 ⟨rfl, rfl⟩; exact ⟨rfl, fun p h => h⟩) | (go_at_call 28; refine (fault_any _ _ _ _ (two_ge hw').1).mono ?_; rintro e w1 ⟨rfl, rfl⟩; exact ⟨rfl, fun p h => h⟩) | (have hcw := keep_cells (two_keep hw'); go_simp; exact rfl))); clear hK K)))
              refine wpPh_nil ?_
              intro wq hq
              clear phNe phW phU
              have hst := Hlast.out wq hq
              clear hra Hlast
              go_wp2
              go_roundw
              case rel => exact ⟨k + 1, by omega, by go_num, true, rfl, hst⟩
              case measure => simp [intOf]; omega
            | false =>
              go_wp2_with fail
              refine region_phase 4 [13] [(17,1),(24,1),(34,1)] (Two (At W g cur (ft whole)) (At W g cur' (ft false))) (by kernel_rfl) (by kernel_rfl) (by kernel_rfl) ⟨hrW, (Keep.refl _ _)⟩ ?_
              have phNe : ∃ w, Cl (Two (At W g cur (ft whole)) (At W g cur' (ft false))) 0 w := ⟨_, 0, Nat.le_refl _, ⟨hrW, (Keep.refl _ _)⟩⟩
              have phW := @wrap_small
              have phU := IntKind.wrap_u8'
              repeat (first | (refine wpPh_call (by rfl) (by rfl) (fun K hK => ?_); go_simp; apply Exists.intro; refine ⟨?_, hK _ ?_⟩; (· (intro w' hw'; first | (go_at_call 26; refine (hra _ hw').mono ?_; rintro e w1 ⟨rfl, h1, h2⟩; exact ⟨rfl, At.next hw' h1 h2⟩))); clear hK K) | (refine wpPh_read (by rfl) (by rfl) (fun K hK => ?_); go_simp; first | (refine hK _ ?_; clear hK K) | (apply Exists.intro; refine ⟨?_, hK _ ?_⟩; (· (intro w' hw'; first | (go_at_call 27; refine (left_any _ _ _ _ (two_ge hw').1).mono ?_; rintro e w1 ⟨rfl, rfl⟩; exact ⟨rfl, fun p h => h⟩) | (go_at_call 28; refine (fault_any _ _ _ _ (two_ge hw').1).mono ?_; rintro e w1 ⟨rfl, rfl⟩; exact ⟨rfl, fun p h => h⟩) | (have hcw := keep_cells (two_keep hw'); go_simp; exact rfl))); clear hK K)))
              refine wpPh_nil ?_
              intro wq hq
              clear phNe phW phU
              have hst := Hlast.out wq hq
              clear hra Hlast
              go_wp2
              go_roundw
              case rel => exact ⟨k + 1, by omega, by go_num, false, rfl, hst⟩
              case measure => simp [intOf]; omega
        · have hEnd := end_any g cur (ft whole) wr hrw
          have hHend := Lib.hid hEnd
          clear hEnd hrd ha hf hwn st0
          cases whole with
          | false =>
            have he := Lib.hid (show endF cur (ft false) = 4 by simp [endF, ft])
            go_wp2_with fail
            refine hHend.out.mono ?_
            rintro e w5 ⟨rfl, rfl⟩
            rw [he.out]
            go_wp2_with (go_at_call 15; refine (Wire.alive_any _).mono ?_; rintro e w' ⟨rfl, hw9⟩)
            go_ret
            exact ⟨rfl, hbel.trans (hw9.mono hbel.size)⟩
          | true =>
            by_cases hl : 0 < cur.length
            · have he := Lib.hid (show endF cur (ft true) = 4 by simp [endF, ft, hl])
              have hne := beq_no (show (cur.length : Int) ≠ 0 by omega)
              go_wp2_with fail
              refine hHend.out.mono ?_
              rintro e w5 ⟨rfl, rfl⟩
              rw [he.out]
              go_wp2_with (go_at_call 15; refine (Wire.alive_any _).mono ?_; rintro e w' ⟨rfl, hw9⟩)
              go_ret
              exact ⟨rfl, hbel.trans (hw9.mono hbel.size)⟩
            · obtain rfl : cur = [] := List.eq_nil_of_length_eq_zero (by omega)
              have he := Lib.hid (show endF [] (ft true) = 0 by simp [endF, ft])
              go_wp2_with fail
              refine hHend.out.mono ?_
              rintro e w5 ⟨rfl, rfl⟩
              rw [he.out]
              go_wp2_with (go_at_call 15; refine (Wire.alive_any _).mono ?_; rintro e w' ⟨rfl, hw9⟩)
              go_ret
              exact ⟨rfl, hbel.trans (hw9.mono hbel.size)⟩
    · have Hli := Lib.hid hli
      clear hli
      go_enter Try.func5, Try.ntmps5
      go_wp2_with fail
      refine (light_any A2 l _ c2 _ rfl hf (by omega)).mono ?_
      rintro e w1 ⟨rfl, b1⟩
      rw [Hli.out]
      go_wp2_with (go_at_call 15; refine (Wire.alive_any _).mono ?_; rintro e w' ⟨rfl, hw9⟩)
      go_ret
      exact ⟨rfl, bt b1 hw9⟩
  · have Hli := Lib.hid (show lightB l = false by simpa using hli)
    clear hli
    go_enter Try.func5, Try.ntmps5
    go_wp2_with fail
    refine (light_any A2 l _ c2 _ rfl hf (by omega)).mono ?_
    rintro e w1 ⟨rfl, b1⟩
    rw [Hli.out]
    go_wp2_with (go_at_call 15; refine (Wire.alive_any _).mono ?_; rintro e w' ⟨rfl, hw9⟩)
    go_ret
    exact ⟨rfl, bt b1 hw9⟩

set_option maxRecDepth 100000 in
theorem lifted (os : Os) (started : os.Started) (H : Type) (enc : TypeId × Value → H) :
    ReturnsInHanded {} Try.checked os 5 .any (Rows.wireReadsSpec.pre6 enc Try.prog Try.f5 Rows.wireReadsRow.domain false) (Rows.wireReadsSpec.post enc Try.prog Try.f5 false true false false) := by
  refine returnsInHanded_of_change (C := Try.checked) own started (by kernel_rfl) Try.func5
    (ChangeSpec.witness6 (enc := enc) (C := Try.checked) false ⟨#[], #[.slice none 0 0, .slice none 0 0, .bool false], []⟩ 8 (by kernel_rfl) (by kernel_rfl) (by kernel_rfl) (by kernel_rfl)) ?_
  intro W base args ds gs before hval0 hW hcnd _
  have hval : ∀ (j : Nat) t v, Try.f5.params[j]? = some t → args[j]? = some v → Value.okWide Try.prog W .any base t v := hval0
  have hW' := hW
  obtain ⟨p, q, hA0, hV, rfl, hfz, hnd⟩ := hW
  have hA : DataW.TrodAll enc Try.prog W 0 (fun _ => true) true Try.f5.params.toList args.toList ds p := hA0
  rw [Try.params5] at hA hval
  obtain ⟨v0, vs0, d0, ds0, p0, q0, hargs, rfl, rfl, h0, r0⟩ := trodAll_cons hA
  obtain ⟨v1, vs1, d1, ds1, p1, q1, rfl, rfl, rfl, h1, r1⟩ := trodAll_cons r0
  obtain ⟨v2, vs2, d2, ds2, p2, q2, rfl, rfl, rfl, h2, r2⟩ := trodAll_cons r1
  obtain ⟨rfl, rfl, rfl⟩ := trodAll_nil r2
  obtain rfl : args = #[v0, v1, v2] := by cases args; simp_all
  obtain ⟨rfl, rfl⟩ := trodVars_none hV
  have k0 := h0
  have lt0 := places_lt k0
  obtain ⟨a0, len0, cap0, rfl⟩ := okWide_slice Try.underlying26 (hval 0 26 v0 rfl rfl)
  obtain ⟨fuel0, hf0⟩ := h0
  obtain ⟨l0, rfl, rr0, rc0, rm0⟩ := bytes_of rfl Try.underlying26 Try.underlying5 (by kernel_rfl) hf0
  have k1 := h1
  have lt1 := places_lt k1
  obtain ⟨a1, len1, cap1, rfl⟩ := okWide_slice Try.underlying22 (hval 1 22 v1 rfl rfl)
  obtain ⟨fuel1, hf1⟩ := h1
  obtain ⟨l1, rfl, rr1, rc1, rm1⟩ := fields_of hf1
  have k2 := h2
  have lt2 := places_lt k2
  obtain ⟨b2, rfl, _, _⟩ := open_bool Try.underlying4 (hval 2 4 v2 rfl rfl) h2
  clear hA0 hval0
  refine (walk a0 l0 cap0 a1 l1 cap1 b2 W rr0 rc0 rm0 rr1 rc1 rm1).mono fun e W' ⟨he, bel⟩ => ?_
  subst he
  exact ⟨_, rfl, _, _, _, [], _, [], hW', trodAll_mk1 (shut_bool Try.underlying4 _), (trodAll_cons_mk (Below.trod laidOut (by kernel_rfl) (of_decide_eq_true (by kernel_rfl)) k0 bel lt0) (trodAll_cons_mk (Below.trod laidOut (by kernel_rfl) (of_decide_eq_true (by kernel_rfl)) k1 bel lt1) (trodAll_cons_mk (Below.trod laidOut (by kernel_rfl) (of_decide_eq_true (by kernel_rfl)) k2 bel lt2) trodAll_mk0))), rfl, bel.frame _, fun h => by cases h⟩

theorem proved : Rows.WireReadsSaid :=
  OpenClaim.holds_of_wide 5 Try.f5 rfl rfl rfl rfl rfl rfl rfl ⟨rfl, rfl, rfl, rfl, rfl⟩ rfl rfl rfl rfl rfl (by kernel_rfl) Try.func5 (by kernel_rfl)
    (of_decide_eq_true (by kernel_rfl)) (by unfold Func.isWrapper; first | (rw [if_pos (by decide +kernel)]; kernel_rfl) | (rw [if_neg (by decide +kernel)]; exact ⟨rfl, rfl⟩))
    (fun os started H enc _ => lifted os started H enc)
#print axioms proved
end Go.Proofs.Ytdkcdojcglmlbaa.WireReads
