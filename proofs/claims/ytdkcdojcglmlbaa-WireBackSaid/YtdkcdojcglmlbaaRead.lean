/- The walks of wire.Reader. -/
import Derived.Test.YtdkcdojcglmlbaaNum
import Derived.Test.YtdkcdojcglmlbaaSlices
import Derived.Test.YtdkcdojcglmlbaaStr
import Derived.Test.YtdkcdojcglmlbaaRows
import Derived.Recover
import Derived.RegionTactic
import Derived.ChangeAlike
import Derived.WalkSmall
import Derived.Outline
namespace Go.Proofs.Ytdkcdojcglmlbaa.Read
open Go.RowKit
set_option linter.unusedVariables false
set_option maxRecDepth 100000

/-- a reader stands at block g: l is left, its fault is f -/
def RAt (w : World) (g : Nat) (l : List UInt8) (f : Int) : Prop :=
  ∃ A c, w.heap[g]? = some (.cells #[.slice A l.length c, .int .i64 f] 127 (0, 0)) ∧ Rd w g A (l.map e8) ∧ l.length ≤ c ∧ c ≤ maxLen
theorem cell_two {w : World} {g : Nat} {u v : Value} {t : TypeId} (h : w.heap[g]? = some (.cells #[u, v] t (0, 0))) : w.cell? ⟨g, 0, none⟩ = some u ∧ w.cell? ⟨g, 1, none⟩ = some v ∧ w.frozen? ⟨g, 0, none⟩ = false ∧ w.frozen? ⟨g, 1, none⟩ = false := by
  refine ⟨?_, ?_, ?_, ?_⟩ <;> simp [World.cell?, World.frozen?, h]
theorem set_two0 {w : World} {g : Nat} {u v : Value} {t : TypeId} (h : w.heap[g]? = some (.cells #[u, v] t (0, 0))) (x : Value) : (w.setCell ⟨g, 0, none⟩ x).heap[g]? = some (.cells #[x, v] t (0, 0)) := by
  simp [World.setCell, Array.getElem?_modify, h]
theorem set_two1 {w : World} {g : Nat} {u v : Value} {t : TypeId} (h : w.heap[g]? = some (.cells #[u, v] t (0, 0))) (x : Value) : (w.setCell ⟨g, 1, none⟩ x).heap[g]? = some (.cells #[u, x] t (0, 0)) := by
  simp [World.setCell, Array.getElem?_modify, h]

def fewV (f : Int) : Value := .iface 145 (.agg #[.int .i64 f])

def Took (w : World) (g : Nat) (l : List UInt8) (n : Nat) (f : Int) (e : Ending) (w' : World) : Prop :=
  ∃ A, e = .returned (.slice A n n) ∧ Rd w' g A ((l.take n).map e8) ∧ RAt w' g (l.drop n) f ∧ Keep [g] w w'
theorem keep_set (w : World) (g o : Nat) (u : Value) : Keep [g] w (w.setCell ⟨g, o, none⟩ u) := (Keep.refl _ _).set (.inl (by simp)) _
theorem took_of {w : World} {g : Nat} {l : List UInt8} {n c c' : Nat} {f : Int} {A A' : Option Addr} (hh : w.heap[g]? = some (.cells #[.slice A l.length c, .int .i64 f] 127 (0, 0))) (hrd : Rd w g A (l.map e8)) (hn : n ≤ l.length) (hm : c ≤ maxLen)
    (hr' : Rd w g A' ((l.drop n).map e8)) (hc' : l.length - n ≤ c') (hcc : c' ≤ c) : Took w g l n f (.returned (.slice A n n)) (w.setCell ⟨g, 0, none⟩ (.slice A' (l.length - n) c')) := by
  have hb : Below g w (w.setCell ⟨g, 0, none⟩ (.slice A' (l.length - n) c')) := (Below.refl _ _).setCell (by simp) _
  refine ⟨A, rfl, ?_, ⟨A', c', ?_, hr'.below hb, by simpa using hc', by omega⟩, keep_set _ _ _ _⟩
  · rw [List.map_take]; exact (hrd.below hb).take n
  · rw [set_two0 hh]; simp

set_option maxHeartbeats 400000 in
theorem take_yes (g : Nat) (l : List UInt8) (n : Nat) (z : Int) (hz : z = (n : Int)) (f : Int) (w : World) (hr : RAt w g l f) (hn : n ≤ l.length) :
    Calls Try.prog 94 #[.pointer (some ⟨g, 0, none⟩), .int .i64 z] w (Took w g l n f) := by
  subst hz
  obtain ⟨A, c, hh, hrd, hc, hm⟩ := hr
  obtain ⟨c0, c1, f0, f1⟩ := cell_two hh
  have Hh := Lib.hid hh
  have hm' := hm
  unfold maxLen at hm
  clear hh
  go_enter Try.func94, Try.ntmps94
  go_wp2
  · go_ret
    have : l.length = n := by omega
    exact took_of Hh.out hrd hn hm' (Rd.empty (by rw [List.drop_of_length_le (by omega)]; rfl)) (by omega) (by omega)
  · go_ret
    exact took_of Hh.out hrd hn hm' (by rw [List.map_drop]; exact hrd.drop n) (by omega) (by omega)

set_option maxHeartbeats 400000 in
theorem take_no (g : Nat) (l : List UInt8) (z : Int) (hz : z < 0 ∨ (l.length : Int) < z) (h0 : -9223372036854775808 ≤ z) (h1 : z ≤ 9223372036854775807) (f : Int) (w : World) (hr : RAt w g l f) :
    Calls Try.prog 94 #[.pointer (some ⟨g, 0, none⟩), .int .i64 z] w fun e w' => e = .panicked [{ v := fewV 4, recovered := false }] ∧ w = w' := by
  obtain ⟨A, c, hh, hrd, hc, hm⟩ := hr
  obtain ⟨c0, c1, f0, f1⟩ := cell_two hh
  clear hh
  unfold maxLen at hm
  rcases hz with hz | hz
  · go_enter Try.func94, Try.ntmps94
    go_wp2
    exact ⟨rfl, rfl, rfl⟩
  · have hz2 : 0 ≤ z := by omega
    go_enter Try.func94, Try.ntmps94
    go_wp2
    exact ⟨rfl, rfl, rfl⟩

/-- the deferred closure, where all went well -/
theorem catch_idle (p : Addr) (w : World) :
    CallsD Try.prog 125 #[.pointer (some p)] .returning w fun e u' w' => e = .returned (.tuple #[]) ∧ u' = .returning ∧ w' = w := by
  refine callsD_of_wpS Try.func125 rfl fun c₀ cs hu => ?_
  apply wpS_seq
  apply wpS_region
  simp [wpOpsS, go_sem, recoverD, hu, Try.ntmps125, Exit.thenS]
  refine wpS_of_wp ?_
  simp only [Array.replicate_succ, Array.replicate_zero, List.push_toArray, List.append_toArray, List.nil_append, List.cons_append, List.setIfInBounds_toArray, List.set_cons_succ, List.set_cons_zero]
  go_wp2
  cases c₀
  simp_all [bodyPostS, results, Try.results125]
set_option maxHeartbeats 400000 in
theorem catch_panicking (p g : Nat) (l : List UInt8) (f f' : Int) (older : List PanicEntry) (w : World) (hp : w.cell? ⟨p, 0, none⟩ = some (.pointer (some ⟨g, 0, none⟩))) (hr : RAt w g l f) :
    CallsD Try.prog 125 #[.pointer (some ⟨p, 0, none⟩)] (.panicking ({ v := fewV f', recovered := false } :: older)) w fun e u' w' =>
      e = .returned (.tuple #[]) ∧ u' = .panicking ({ v := fewV f', recovered := true } :: older) ∧ RAt w' g [] f' ∧ Keep [g] w w' := by
  unfold fewV
  refine callsD_of_wpS Try.func125 rfl fun c₀ cs hu => ?_
  apply wpS_seq
  apply wpS_region
  simp [wpOpsS, go_sem, recoverD, hu, Try.ntmps125, Exit.thenS]
  refine wpS_of_wp ?_
  simp only [Array.replicate_succ, Array.replicate_zero, List.push_toArray, List.append_toArray, List.nil_append, List.cons_append, List.setIfInBounds_toArray, List.set_cons_succ, List.set_cons_zero]
  obtain ⟨A, c, hh, hrd, hc, hm⟩ := hr
  obtain ⟨c0, c1, f0, f1⟩ := cell_two hh
  clear hu
  have Hh := Lib.hid hh
  clear hh
  have hta : ∀ (v : Value) (w : World), (Instr.typeAssert (.iface 145 v) 20 145 false).run Try.prog w = .ok v w := fun _ _ => by kernel_rfl
  have hfd : ∀ (n : Int) (w : World), (Instr.field 145 (.agg #[.int .i64 n]) 0).run Try.prog w = .ok (.int .i64 n) w := fun _ _ => by kernel_rfl
  have hpg : p ≠ g := by rintro rfl; rw [hp] at c0; cases c0
  go_wp2
  go_region
  refine ⟨rfl, _, rfl, _, results_none rfl _ _ _, rfl, rfl, ⟨none, 0, ?_, Rd.nil _ _ _, by simp, by unfold maxLen; omega⟩, ((Keep.refl [g] w).set (p := ⟨g, 1, none⟩) (.inl (List.mem_singleton.2 rfl)) _).set (p := ⟨g, 0, none⟩) (.inl (List.mem_singleton.2 rfl)) _⟩
  exact set_two0 (set_two1 Hh.out _) _

theorem RAt.on {w w' : World} {g : Nat} {l : List UInt8} {f : Int} (h : RAt w g l f) (b : Below w.heap.size w w') : RAt w' g l f := by
  obtain ⟨A, c, hh, hrd, hc, hm⟩ := h
  exact ⟨A, c, (b.block g (lt_of_block hh)).trans hh, hrd.below (b.mono (Nat.le_of_lt (lt_of_block hh))), hc, hm⟩
theorem RAt.lt {w : World} {g : Nat} {l : List UInt8} {f : Int} (h : RAt w g l f) : g < w.heap.size := by
  obtain ⟨A, c, hh, _⟩ := h; exact lt_of_block hh
theorem RAt.keep {w w' : World} {g : Nat} {l : List UInt8} {f : Int} {fp : List Nat} (h : RAt w g l f) (k : Keep fp w w') (hf : ∀ j ∈ fp, g < j) : RAt w' g l f := by
  obtain ⟨A, c, hh, hrd, hc, hm⟩ := h
  exact ⟨A, c, (k.block (lt_of_block hh) (fun e => by have := hf g e; omega)).trans hh, hrd.below (k.below (fun j hj => Nat.le_of_lt (hf j hj)) (Nat.le_of_lt (lt_of_block hh))), hc, hm⟩

/-- field, where the closure returns -/
theorem field_yes (g : Nat) (l : List UInt8) (k : FuncId) (caps : Array Value) (w : World) (R : World → Prop) (hr : RAt w g l 0)
    (hcf : ∀ w, Sem.run Try.prog (callFunc k caps) w = .ok (.enter k caps) w)
    (hk : Calls Try.prog k caps (w.alloc (.cells #[.pointer (some ⟨g, 0, none⟩)] 50)) fun e w' => e = .returned (.tuple #[]) ∧ R w') :
    Calls Try.prog 92 #[.pointer (some ⟨g, 0, none⟩), .func (.func k) #[] caps] w fun e w' => e = .returned (.tuple #[]) ∧ R w' := by
  have hmf : ∀ (fn : Fn) (first cap : Array Value) (w : World), (Instr.makeFunc fn first cap).run Try.prog w = .ok (.func fn first cap) w := fun _ _ _ _ => rfl
  obtain ⟨A, c, hh, hrd, hc, hm⟩ := hr
  obtain ⟨c0, c1, f0, f1⟩ := cell_two hh
  have hlt := lt_of_block hh
  clear hh
  go_enter_defers Try.func92, Try.ntmps92
  have Hk := Lib.hid hk
  clear hk
  go_wp2_with fail
  refine (Hk.out).mono ?_
  rintro e w1 ⟨rfl, h1⟩
  have H1 := Lib.hid h1
  clear h1 Hk
  go_wp2
  refine leaves_cons (f := 125) (args := #[.pointer (some ⟨w.heap.size, 0, none⟩)]) (by simp) (by simp [go_sem]) ?_
  refine (catch_idle ⟨w.heap.size, 0, none⟩ _).mono ?_
  rintro e u' w'' ⟨rfl, rfl, rfl⟩
  exact ⟨_, results_none rfl _ _ _, rfl, H1.out⟩

/-- field, where it panics -/
theorem field_no (g : Nat) (l : List UInt8) (f' : Int) (k : FuncId) (caps : Array Value) (w : World) (R : World → Prop) (hr : RAt w g l 0)
    (hcf : ∀ w, Sem.run Try.prog (callFunc k caps) w = .ok (.enter k caps) w)
    (hk : Calls Try.prog k caps (w.alloc (.cells #[.pointer (some ⟨g, 0, none⟩)] 50)) fun e w' => e = .panicked [{ v := fewV f', recovered := false }] ∧ w'.cell? ⟨w.heap.size, 0, none⟩ = some (.pointer (some ⟨g, 0, none⟩)) ∧ (∃ l', RAt w' g l' 0) ∧ R w') :
    Calls Try.prog 92 #[.pointer (some ⟨g, 0, none⟩), .func (.func k) #[] caps] w fun e w' => e = .returned (.tuple #[]) ∧ RAt w' g [] f' ∧ ∃ w1, R w1 ∧ Keep [g] w1 w' := by
  have hmf : ∀ (fn : Fn) (first cap : Array Value) (w : World), (Instr.makeFunc fn first cap).run Try.prog w = .ok (.func fn first cap) w := fun _ _ _ _ => rfl
  obtain ⟨A, c, hh, hrd, hc, hm⟩ := hr
  obtain ⟨c0, c1, f0, f1⟩ := cell_two hh
  have hlt := lt_of_block hh
  clear hh
  go_enter_defers Try.func92, Try.ntmps92
  have Hk := Lib.hid hk
  clear hk
  go_wp2_with fail
  refine (Hk.out).mono ?_
  rintro e w1 ⟨rfl, h1, ⟨l', h2⟩, h3⟩
  have H1 := Lib.hid h1
  have H2 := Lib.hid h2
  have H3 := Lib.hid h3
  clear h1 h2 h3 Hk
  go_wp2
  refine leaves_cons (f := 125) (args := #[.pointer (some ⟨w.heap.size, 0, none⟩)]) (by simp) (by simp [go_sem]) ?_
  refine (catch_panicking w.heap.size g l' 0 f' [] _ H1.out H2.out).mono ?_
  rintro e u' w'' ⟨rfl, rfl, h4, h5⟩
  exact ⟨_, results_none rfl _ _ _, rfl, h4, w1, H3.out, h5⟩
/-- field, behind a fault -/
theorem field_idle (g : Nat) (l : List UInt8) (f : Int) (hf : f ≠ 0) (k : FuncId) (caps : Array Value) (w : World) (hr : RAt w g l f) :
    Calls Try.prog 92 #[.pointer (some ⟨g, 0, none⟩), .func (.func k) #[] caps] w fun e w' => e = .returned (.tuple #[]) ∧ Below w.heap.size w w' := by
  obtain ⟨A, c, hh, hrd, hc, hm⟩ := hr
  obtain ⟨c0, c1, f0, f1⟩ := cell_two hh
  have hlt := lt_of_block hh
  have hne := bne_yes hf
  clear hh hf
  go_enter_defers Try.func92, Try.ntmps92
  go_wp2
  exact ⟨_, results_none rfl _ _ _, rfl, b1alloc _ _⟩
theorem field_nil (k : FuncId) (caps : Array Value) (w : World) :
    Calls Try.prog 92 #[.pointer none, .func (.func k) #[] caps] w fun e w' => e = .returned (.tuple #[]) ∧ Below w.heap.size w w' := by
  go_enter_defers Try.func92, Try.ntmps92
  go_wp2
  exact ⟨_, results_none rfl _ _ _, rfl, b1alloc _ _⟩

def NumY (w : World) (g : Nat) (l : List UInt8) (s : Nat) (f : Int) (e : Ending) (w' : World) : Prop := e = .returned (.int .u64 (Num.getN (l.take s) : Int)) ∧ RAt w' g (l.drop s) f ∧ Keep [g] w w'
def NumN (w : World) (g : Nat) (f : Int) (e : Ending) (w' : World) : Prop := e = .panicked [{ v := fewV 4, recovered := false }] ∧ (∃ l', RAt w' g l' f) ∧ Keep [g] w w'
set_option maxHeartbeats 400000 in
theorem number_yes (g : Nat) (l : List UInt8) (s : Nat) (z : Int) (hz : z = (s : Int)) (f : Int) (w : World) (hr : RAt w g l f) (h1 : 1 ≤ s) (h8 : s ≤ 8) (hs : s ≤ l.length) :
    Calls Try.prog 96 #[.pointer (some ⟨g, 0, none⟩), .int .i64 z] w (NumY w g l s f) := by
  subst hz
  have hlen := Lib.hid (show s = (l.take s).length by rw [List.length_take]; omega)
  go_enter Try.func96, Try.ntmps96
  go_wp2_with fail
  refine (take_yes g l s _ (by rfl) f _ hr hs).mono ?_
  rintro e w1 ⟨A, rfl, h3, h4, h5⟩
  go_wp2_with fail
  refine (Num.get_any A (l.take s) s s g _ hlen.out h3 (by rw [List.length_take]; omega) (by rw [List.length_take]; omega)).mono ?_
  rintro e w2 ⟨rfl, rfl⟩
  have H4 := Lib.hid h4
  have H5 := Lib.hid h5
  clear h4 h5 h3
  go_wp2
  go_ret
  exact ⟨rfl, H4.out, H5.out⟩
set_option maxHeartbeats 400000 in
theorem number_no (g : Nat) (l : List UInt8) (z : Int) (f : Int) (w : World) (hr : RAt w g l f) (h : z < 1 ∨ 8 < z ∨ (l.length : Int) < z) (h0 : -9223372036854775808 ≤ z) (h1 : z ≤ 9223372036854775807) :
    Calls Try.prog 96 #[.pointer (some ⟨g, 0, none⟩), .int .i64 z] w (NumN w g f) := by
  by_cases hz : z < 0 ∨ (l.length : Int) < z
  · clear h
    go_enter Try.func96, Try.ntmps96
    go_wp2_with fail
    refine (take_no g l z hz h0 h1 f _ hr).mono ?_
    rintro e w1 ⟨rfl, rfl⟩
    exact ⟨rfl, rfl, ⟨l, hr⟩, Keep.refl _ _⟩
  · obtain ⟨n, rfl⟩ := Int.eq_ofNat_of_zero_le (show 0 ≤ z by omega)
    have hn : n = 0 ∨ 8 < n := by omega
    have hnl : n ≤ l.length := by omega
    clear h hz
    have hm : n ≤ maxLen := by unfold maxLen; omega
    go_enter Try.func96, Try.ntmps96
    go_wp2_with fail
    refine (take_yes g l n _ (by rfl) f _ hr hnl).mono ?_
    rintro e w1 ⟨A, rfl, h3, h4, h5⟩
    go_wp2_with fail
    refine (Num.get_no A n n _ hn hm).mono ?_
    rintro e w2 ⟨rfl, rfl⟩
    have H4 := Lib.hid h4
    have H5 := Lib.hid h5
    clear h4 h5 h3 hn hm
    go_wp2
    exact ⟨rfl, rfl, ⟨_, H4.out⟩, H5.out⟩

/-- the closures: what they captured: the reader's variable p, the result's q -/
def CloY (w : World) (g q : Nat) (v : Value) (l : List UInt8) (e : Ending) (w' : World) : Prop := e = .returned (.tuple #[]) ∧ Box w' q v ∧ RAt w' g l 0 ∧ Keep [g, q] w w'
def CloN (w : World) (g q : Nat) (e : Ending) (w' : World) : Prop := e = .panicked [{ v := fewV 4, recovered := false }] ∧ (∃ l', RAt w' g l' 0) ∧ Keep [g] w w'
theorem cloY_of {w w1 : World} {g q : Nat} {v u : Value} {l : List UInt8} (hq : Box w q u) (hgq : g < q) (h4 : RAt w1 g l 0) (h5 : Keep [g] w w1) : CloY w g q v l (.returned (.tuple #[])) (w1.setCell ⟨q, 0, none⟩ v) := by
  have hb := hq.keep h5 (by simp; omega)
  exact ⟨rfl, hb.set v, h4.keep (keep_set w1 q 0 v) (by simpa using hgq), (h5.more (by simp)).set (p := ⟨q, 0, none⟩) (.inl (by simp)) v⟩
set_option maxHeartbeats 400000 in
theorem byteC_yes (g p q : Nat) (x : UInt8) (l : List UInt8) (u : Value) (w : World) (hp : w.cell? ⟨p, 0, none⟩ = some (.pointer (some ⟨g, 0, none⟩))) (hq : Box w q u) (hgq : g < q) (hr : RAt w g (x :: l) 0) :
    Calls Try.prog 93 #[.pointer (some ⟨p, 0, none⟩), .pointer (some ⟨q, 0, none⟩)] w (CloY w g q (e8 x) l) := by
  go_enter Try.func93, Try.ntmps93
  go_wp2_with fail
  refine (take_yes g (x :: l) 1 _ (by rfl) 0 _ hr (by simp)).mono ?_
  rintro e w1 ⟨A, rfl, h3, h4, h5⟩
  obtain ⟨b, off, rfl, hb, hc⟩ := h3.get (k := 0) (by simp)
  simp only [List.take_succ_cons, List.take_zero, List.map_cons, List.map_nil, List.getElem_cons_zero, Nat.add_zero] at hc
  have hbx := hq.keep h5 (by simp; omega)
  have hqc := hbx.cell
  have hqf := hbx.free
  have H4 := Lib.hid h4
  have H5 := Lib.hid h5
  clear h4 h5 h3
  go_wp2
  go_end0
  exact cloY_of hq hgq H4.out H5.out
set_option maxHeartbeats 400000 in
theorem byteC_no (g p q : Nat) (w : World) (hp : w.cell? ⟨p, 0, none⟩ = some (.pointer (some ⟨g, 0, none⟩))) (hr : RAt w g [] 0) :
    Calls Try.prog 93 #[.pointer (some ⟨p, 0, none⟩), .pointer (some ⟨q, 0, none⟩)] w (CloN w g q) := by
  go_enter Try.func93, Try.ntmps93
  go_wp2_with fail
  refine (take_no g [] 1 (by simp) (by omega) (by omega) 0 _ hr).mono ?_
  rintro e w1 ⟨rfl, rfl⟩
  exact ⟨rfl, rfl, ⟨_, hr⟩, Keep.refl _ _⟩
set_option maxHeartbeats 400000 in
theorem numC_yes (g p o q : Nat) (s : Nat) (l : List UInt8) (u : Value) (w : World) (hp : w.cell? ⟨p, 0, none⟩ = some (.pointer (some ⟨g, 0, none⟩))) (ho : w.cell? ⟨o, 0, none⟩ = some (.int .i64 (s : Int))) (hq : Box w q u) (hgq : g < q) (hr : RAt w g l 0) (h1 : 1 ≤ s) (h8 : s ≤ 8) (hs : s ≤ l.length) :
    Calls Try.prog 95 #[.pointer (some ⟨p, 0, none⟩), .pointer (some ⟨o, 0, none⟩), .pointer (some ⟨q, 0, none⟩)] w (CloY w g q (.int .u64 (Num.getN (l.take s) : Int)) (l.drop s)) := by
  go_enter Try.func95, Try.ntmps95
  go_wp2_with fail
  refine (number_yes g l s _ (by rfl) 0 _ hr h1 h8 hs).mono ?_
  rintro e w1 ⟨rfl, h4, h5⟩
  have hbx := hq.keep h5 (by simp; omega)
  have hqc := hbx.cell
  have hqf := hbx.free
  have H4 := Lib.hid h4
  have H5 := Lib.hid h5
  clear h4 h5
  go_wp2
  go_end0
  exact cloY_of hq hgq H4.out H5.out
set_option maxHeartbeats 400000 in
theorem numC_no (g p o q : Nat) (z : Int) (l : List UInt8) (w : World) (hp : w.cell? ⟨p, 0, none⟩ = some (.pointer (some ⟨g, 0, none⟩))) (ho : w.cell? ⟨o, 0, none⟩ = some (.int .i64 z)) (hr : RAt w g l 0) (h : z < 1 ∨ 8 < z ∨ (l.length : Int) < z) (h0 : -9223372036854775808 ≤ z) (h1 : z ≤ 9223372036854775807) :
    Calls Try.prog 95 #[.pointer (some ⟨p, 0, none⟩), .pointer (some ⟨o, 0, none⟩), .pointer (some ⟨q, 0, none⟩)] w (CloN w g q) := by
  have Hh := Lib.hid h
  clear h
  go_enter Try.func95, Try.ntmps95
  go_wp2_with fail
  refine (number_no g l z 0 _ hr Hh.out h0 h1).mono ?_
  rintro e w1 ⟨rfl, h4, h5⟩
  exact ⟨rfl, rfl, h4, h5⟩

def CloB (w : World) (g q : Nat) (m l : List UInt8) (e : Ending) (w' : World) : Prop := e = .returned (.tuple #[]) ∧ RAt w' g l 0 ∧ Keep [g, q] w w' ∧ ∃ A c, Box w' q (.slice A m.length c) ∧ w'.ownsRow w.heap.size 5 1 (.slice A m.length c) m.length (m.map e8)
theorem cloB_of {w w1 w2 w3 : World} {g q : Nat} {u : Value} {l m : List UInt8} {A : Option Addr} {c : Nat} (hq : Box w q u) (hgq : g < q) (k1 : Keep [g] w w1) (k2 : Keep [g] w1 w2) (h4 : RAt w2 g l 0) (b3 : Below w2.heap.size w2 w3)
    (h3 : w3.ownsRow w2.heap.size 5 1 (.slice A m.length c) m.length (m.map e8)) : CloB w g q m l (.returned (.tuple #[])) (w3.setCell ⟨q, 0, none⟩ (.slice A m.length c)) := by
  have hs1 := k1.size
  have hs2 := k2.size
  have hlt := hq.lt
  have k13 : Keep [g] w w3 := (k1.trans k2 (Fresh.refl _ _)).trans (Keep.of_below b3 [g]) (Fresh.refl _ _)
  have hb := hq.keep k13 (by simp; omega)
  refine ⟨rfl, (h4.on b3).keep (keep_set w3 q 0 _) (by simpa using hgq), (k13.more (by simp)).set (p := ⟨q, 0, none⟩) (.inl (by simp)) _, A, c, hb.set _, own_base (own_keep h3 (keep_set w3 q 0 _) ?_) (by omega)⟩
  intro j hj e
  simp only [List.mem_singleton] at e
  subst e
  have := (h3.lt _ hj).1
  omega
theorem rd_len {w : World} {g : Nat} {l : List UInt8} {f : Int} (h : RAt w g l f) : l.length ≤ 9223372036854775807 := by
  obtain ⟨A, c, hh, hrd, hc, hm⟩ := h
  unfold maxLen at hm; omega
set_option maxHeartbeats 800000 in
theorem bytesC_yes (g p o q : Nat) (n : Nat) (z : Int) (l : List UInt8) (u : Value) (w : World) (hp : w.cell? ⟨p, 0, none⟩ = some (.pointer (some ⟨g, 0, none⟩))) (hpg : p ≠ g) (hob : Box w o (.int .i64 z)) (hog : g < o) (hq : Box w q u) (hgq : g < q) (hr : RAt w g l 0) (h2 : 2 ≤ l.length) (hn : n = Num.getN (l.take 2)) (hz : (n : Int) ≤ z) (hl : 2 + n ≤ l.length) :
    Calls Try.prog 97 #[.pointer (some ⟨p, 0, none⟩), .pointer (some ⟨o, 0, none⟩), .pointer (some ⟨q, 0, none⟩)] w (CloB w g q ((l.drop 2).take n) (l.drop (2 + n))) := by
  have hnb : n < 65536 := by
    have := Num.getN_lt l 2 h2
    rw [← hn] at this; omega
  have Hn := Lib.hid hn
  clear hn
  go_enter Try.func97, Try.ntmps97
  go_wp2_with fail
  refine (number_yes g l 2 _ (by rfl) 0 _ hr (by omega) (by omega) h2).mono ?_
  rintro e w1 ⟨rfl, h4, h5⟩
  rw [← Hn.out]
  have hop := (hob.keep h5 (by simp; omega)).cell
  have hpc : w1.cell? ⟨p, 0, none⟩ = some (.pointer (some ⟨g, 0, none⟩)) := by
    have hlt : p < w.heap.size := by
      rcases Nat.lt_or_ge p w.heap.size with h | h
      · exact h
      · simp [World.cell?, Array.getElem?_eq_none h] at hp
    rw [World.cell?_of_block (h5.block hlt (by simp; omega)), hp]
  have H5 := Lib.hid h5
  clear h5 hp
  go_wp2_with fail
  refine (take_yes g (l.drop 2) n _ (by rfl) 0 _ h4 (by rw [List.length_drop]; omega)).mono ?_
  rintro e w2 ⟨A, rfl, h6, h7, h8⟩
  rw [List.drop_drop] at h7
  have H7 := Lib.hid h7
  have H8 := Lib.hid h8
  have hlen : n = ((l.drop 2).take n).length := by rw [List.length_take, List.length_drop]; omega
  have h6' := h6.more (Nat.le_of_lt h7.lt)
  have Hlen := Lib.hid hlen
  have hle : ((l.drop 2).take n).length ≤ 65536 := by omega
  clear h7 h8 hlen h4 h6
  go_wp2_with fail
  refine (Sl.clone_any A ((l.drop 2).take n) n n _ Hlen.out h6' (by omega)).mono ?_
  rintro e w3 ⟨A3, c3, rfl, h9, h10⟩
  have hbx := ((hq.keep H5.out (by simp; omega)).keep H8.out (by simp; omega)).below h10 (by
    have := H5.out.size; have := H8.out.size; have := hq.lt; omega)
  have hqc := hbx.cell
  have hqf := hbx.free
  have hfin := Lib.hid (cloB_of hq hgq H5.out H8.out H7.out h10 h9)
  clear h9 h10 h6'
  go_wp2
  go_end0
  have h := hfin.out
  rw [show ((l.drop 2).take n).length = min n (l.length - 2) by simp] at h
  exact h
/-- when there are no bytes -/
def noB (l : List UInt8) (z : Int) : Prop := l.length < 2 ∨ z < (Num.getN (l.take 2) : Int) ∨ l.length < 2 + Num.getN (l.take 2)
set_option maxHeartbeats 800000 in
theorem bytesC_no (g p o q : Nat) (z : Int) (l : List UInt8) (w : World) (hp : w.cell? ⟨p, 0, none⟩ = some (.pointer (some ⟨g, 0, none⟩))) (hpg : p ≠ g) (hob : Box w o (.int .i64 z)) (hog : g < o) (hr : RAt w g l 0) (h : noB l z) :
    Calls Try.prog 97 #[.pointer (some ⟨p, 0, none⟩), .pointer (some ⟨o, 0, none⟩), .pointer (some ⟨q, 0, none⟩)] w (CloN w g q) := by
  by_cases h2 : l.length < 2
  · clear h
    go_enter Try.func97, Try.ntmps97
    go_wp2_with fail
    refine (number_no g l 2 0 _ hr (.inr (.inr (by omega))) (by omega) (by omega)).mono ?_
    rintro e w1 ⟨rfl, h4, h5⟩
    exact ⟨rfl, rfl, h4, h5⟩
  · have h := h.resolve_left h2
    obtain ⟨n, hn⟩ : ∃ n, n = Num.getN (l.take 2) := ⟨_, rfl⟩
    rw [← hn] at h
    have hnb : n < 65536 := by
      have := Num.getN_lt l 2 (by omega)
      rw [← hn] at this; omega
    have hlm := rd_len hr
    have Hn := Lib.hid hn
    have H := Lib.hid h
    clear hn h
    go_enter Try.func97, Try.ntmps97
    go_wp2_with fail
    refine (number_yes g l 2 _ (by rfl) 0 _ hr (by omega) (by omega) (by omega)).mono ?_
    rintro e w1 ⟨rfl, h4, h5⟩
    rw [← Hn.out]
    have hop := (hob.keep h5 (by simp; omega)).cell
    have hpc : w1.cell? ⟨p, 0, none⟩ = some (.pointer (some ⟨g, 0, none⟩)) := by
      have hlt : p < w.heap.size := by
        rcases Nat.lt_or_ge p w.heap.size with h | h
        · exact h
        · simp [World.cell?, Array.getElem?_eq_none h] at hp
      rw [World.cell?_of_block (h5.block hlt (by simp; omega)), hp]
    have H5 := Lib.hid h5
    clear h5 hp
    by_cases hz : z < (n : Int)
    · have H4 := Lib.hid h4
      clear h4
      go_wp2
      exact ⟨rfl, rfl, ⟨_, H4.out⟩, H5.out⟩
    · have hl : l.length < 2 + n := H.out.resolve_left hz
      go_wp2_with fail
      refine (take_no g (l.drop 2) n (.inr (by rw [List.length_drop]; omega)) (by omega) (by omega) 0 _ h4).mono ?_
      rintro e w2 ⟨rfl, rfl⟩
      exact ⟨rfl, rfl, ⟨_, h4⟩, H5.out⟩

theorem field_bad (g q : Nat) (l : List UInt8) (k : FuncId) (caps : Array Value) (w : World) (hr : RAt w g l 0)
    (hcf : ∀ w, Sem.run Try.prog (callFunc k caps) w = .ok (.enter k caps) w)
    (hk : Calls Try.prog k caps (w.alloc (.cells #[.pointer (some ⟨g, 0, none⟩)] 50)) (CloN (w.alloc (.cells #[.pointer (some ⟨g, 0, none⟩)] 50)) g q)) :
    Calls Try.prog 92 #[.pointer (some ⟨g, 0, none⟩), .func (.func k) #[] caps] w fun e w' => e = .returned (.tuple #[]) ∧ RAt w' g [] 4 ∧ Keep [g] w w' := by
  have hlt := hr.lt
  refine (field_no g l 4 k caps w (fun w' => Keep [g] (w.alloc (.cells #[.pointer (some ⟨g, 0, none⟩)] 50)) w') hr hcf (hk.mono ?_)).mono ?_
  · rintro e w1 ⟨rfl, h1, h2⟩
    refine ⟨rfl, ?_, h1, h2⟩
    rw [World.cell?_of_block (h2.block (by simp) (by simp; omega))]
    simp [go_sem]
  · rintro e w1 ⟨rfl, h2, w2, k1, k2⟩
    exact ⟨rfl, h2, ((Keep.refl [g] w).alloc _).trans (k1.trans k2 (Fresh.refl _ _)) (Fresh.refl _ _)⟩

theorem cf_byte (caps : Array Value) : ∀ w, Sem.run Try.prog (callFunc 93 caps) w = .ok (.enter 93 caps) w := fun w => by simp [go_sem]
theorem cf_num (caps : Array Value) : ∀ w, Sem.run Try.prog (callFunc 95 caps) w = .ok (.enter 95 caps) w := fun w => by simp [go_sem]
theorem cf_bytes (caps : Array Value) : ∀ w, Sem.run Try.prog (callFunc 97 caps) w = .ok (.enter 97 caps) w := fun w => by simp [go_sem]

/-- what a method does: a value comes back, the reader stands at what is left -/
def Got (w : World) (g : Nat) (v : Value) (l : List UInt8) (f : Int) (e : Ending) (w' : World) : Prop := e = .returned v ∧ RAt w' g l f ∧ Keep [g] w w'
theorem b4alloc (w : World) (o o' o'' o3 : Obj) : Below w.heap.size w ((((w.alloc o).alloc o').alloc o'').alloc o3) := bt (b3alloc w o o' o'') (b1alloc _ _)
theorem got_fin {w W w1 : World} {g q : Nat} {l : List UInt8} {f : Int} (b : Below w.heap.size w W) (hq : w.heap.size ≤ q) (hg : g < w.heap.size) (h2 : RAt w1 g l f) (k : Keep [g, q] W w1) (v : Value) :
    RAt (w1.setCell ⟨q, 0, none⟩ v) g l f ∧ Keep [g] w (w1.setCell ⟨q, 0, none⟩ v) := by
  refine ⟨h2.keep (keep_set w1 q 0 v) (by simp; omega), Keep.set (p := ⟨q, 0, none⟩) ?_ (.inr hq) v⟩
  refine (Keep.of_below b [g]).trans k fun j hj => ?_
  simp only [List.mem_cons, List.not_mem_nil, or_false] at hj ⊢
  rcases hj with rfl | rfl
  · exact .inl rfl
  · exact .inr hq
theorem got_mid {w W w1 : World} {g : Nat} (b : Below w.heap.size w W) (k : Keep [g] W w1) (q : Nat) : Keep [g, q] W w1 := k.more (by simp)
theorem box_of (w : World) (o o2 : Obj) (t : TypeId) (v : Value) : Box ((w.alloc (.cells #[v] t)).alloc o) w.heap.size v := (Box.new w t v).alloc o
/-- the frame that the methods share: behind the closure's call -/
theorem res_cell {fn : Func} {q : Nat} {t : Tmp} {T : TypeId} {v : Value} {tmps : Array Value} {w : World} (h : fn.results = #[.cell t T]) : True := trivial

set_option maxHeartbeats 400000 in
theorem byte_yes (g : Nat) (x : UInt8) (l : List UInt8) (w : World) (hr : RAt w g (x :: l) 0) :
    Calls Try.prog 41 #[.pointer (some ⟨g, 0, none⟩)] w (Got w g (e8 x) l 0) := by
  have hmf : ∀ (fn : Fn) (first cap : Array Value) (w : World), (Instr.makeFunc fn first cap).run Try.prog w = .ok (.func fn first cap) w := fun _ _ _ _ => rfl
  have hlt := hr.lt
  go_enter Try.func41, Try.ntmps41
  go_wp2_with fail
  have hbq : Box ((w.alloc (.cells #[.pointer (some ⟨g, 0, none⟩)] 50)).alloc (.cells #[.int .u8 0] 5)) (w.heap.size + 1) (.int .u8 0) := by
    have := Box.new (w.alloc (.cells #[.pointer (some ⟨g, 0, none⟩)] 50)) 5 (.int .u8 0)
    simpa using this
  refine (field_yes g (x :: l) 93 _ _ _ (hr.on (b2alloc _ _ _)) (cf_byte _) (byteC_yes g w.heap.size (w.heap.size + 1) x l (.int .u8 0) _ (by simp [go_sem]) (hbq.alloc _) (by omega) ((hr.on (b3alloc _ _ _ _))))).mono ?_
  rintro e w1 ⟨rfl, h1, h2, h3⟩
  have hfin := Lib.hid (got_fin (b3alloc w _ _ _) (by omega) hlt h2 h3 (e8 x))
  have hqc := h1.cell
  have hqf := h1.free
  clear h2 h3 hbq
  go_wp2
  refine bodyPost_ret (v := e8 x) (by simp [results, Try.results41, go_sem, hqc]) rfl ⟨rfl, hfin.out.1, hfin.out.2⟩
set_option maxHeartbeats 400000 in
theorem byte_no (g : Nat) (w : World) (hr : RAt w g [] 0) :
    Calls Try.prog 41 #[.pointer (some ⟨g, 0, none⟩)] w (Got w g (.int .u8 0) [] 4) := by
  have hmf : ∀ (fn : Fn) (first cap : Array Value) (w : World), (Instr.makeFunc fn first cap).run Try.prog w = .ok (.func fn first cap) w := fun _ _ _ _ => rfl
  have hlt := hr.lt
  go_enter Try.func41, Try.ntmps41
  go_wp2_with fail
  have hbq : Box ((w.alloc (.cells #[.pointer (some ⟨g, 0, none⟩)] 50)).alloc (.cells #[.int .u8 0] 5)) (w.heap.size + 1) (.int .u8 0) := by
    have := Box.new (w.alloc (.cells #[.pointer (some ⟨g, 0, none⟩)] 50)) 5 (.int .u8 0)
    simpa using this
  refine (field_bad g (w.heap.size + 1) [] 93 _ _ (hr.on (b2alloc _ _ _)) (cf_byte _) (byteC_no g w.heap.size (w.heap.size + 1) _ (by simp [go_sem]) ((hr.on (b3alloc _ _ _ _))))).mono ?_
  rintro e w1 ⟨rfl, h2, k12⟩
  have h1 := hbq.keep k12 (by simp; omega)
  have hfin := Lib.hid (got_fin (b2alloc w _ _) (by omega) hlt h2 (k12.more (fp' := [g, w.heap.size + 1]) (by simp)) (.int .u8 0))
  have hqc := h1.cell
  have hqf := h1.free
  clear h2 k12 hbq
  go_wp2
  refine bodyPost_ret (v := .int .u8 0) (by simp [results, Try.results41, go_sem, hqc]) rfl ⟨rfl, hfin.out.1, hfin.out.2⟩
set_option maxHeartbeats 400000 in
theorem byte_idle (g : Nat) (l : List UInt8) (f : Int) (hf : f ≠ 0) (w : World) (hr : RAt w g l f) :
    Calls Try.prog 41 #[.pointer (some ⟨g, 0, none⟩)] w (Got w g (.int .u8 0) l f) := by
  have hmf : ∀ (fn : Fn) (first cap : Array Value) (w : World), (Instr.makeFunc fn first cap).run Try.prog w = .ok (.func fn first cap) w := fun _ _ _ _ => rfl
  have hlt := hr.lt
  have Hf := Lib.hid hf
  clear hf
  go_enter Try.func41, Try.ntmps41
  go_wp2_with fail
  have hbq : Box ((w.alloc (.cells #[.pointer (some ⟨g, 0, none⟩)] 50)).alloc (.cells #[.int .u8 0] 5)) (w.heap.size + 1) (.int .u8 0) := by
    have := Box.new (w.alloc (.cells #[.pointer (some ⟨g, 0, none⟩)] 50)) 5 (.int .u8 0)
    simpa using this
  have hr2 := hr.on (b2alloc w (.cells #[.pointer (some ⟨g, 0, none⟩)] 50) (.cells #[.int .u8 0] 5))
  refine (field_idle g l f Hf.out 93 _ _ hr2).mono ?_
  rintro e w1 ⟨rfl, b⟩
  have h1 := hbq.below b hbq.lt
  have hfin := Lib.hid (got_fin (b2alloc w _ _) (show w.heap.size ≤ w.heap.size + 1 by omega) hlt (hr2.on b) (Keep.of_below b _) (.int .u8 0))
  have hqc := h1.cell
  have hqf := h1.free
  clear hr2 b hbq
  go_wp2
  refine bodyPost_ret (v := .int .u8 0) (by simp [results, Try.results41, go_sem, hqc]) rfl ⟨rfl, hfin.out.1, hfin.out.2⟩
set_option maxHeartbeats 800000 in
theorem numberM_yes (g : Nat) (l : List UInt8) (s : Nat) (z : Int) (hz : z = (s : Int)) (w : World) (hr : RAt w g l 0) (h1 : 1 ≤ s) (h8 : s ≤ 8) (hs : s ≤ l.length) :
    Calls Try.prog 42 #[.pointer (some ⟨g, 0, none⟩), .int .i64 z] w (Got w g (.int .u64 (Num.getN (l.take s) : Int)) (l.drop s) 0) := by
  obtain ⟨z', hz'⟩ : ∃ z', z' = z := ⟨z, rfl⟩
  have Hz := Lib.hid hz
  clear hz hz'
  have hmf : ∀ (fn : Fn) (first cap : Array Value) (w : World), (Instr.makeFunc fn first cap).run Try.prog w = .ok (.func fn first cap) w := fun _ _ _ _ => rfl
  have hlt := hr.lt
  go_enter Try.func42, Try.ntmps42
  go_wp2_with fail
  have hbq : Box (((w.alloc (.cells #[.pointer (some ⟨g, 0, none⟩)] 50)).alloc (.cells #[.int .i64 z] 3)).alloc (.cells #[.int .u64 0] 30)) (w.heap.size + 2) (.int .u64 0) := by
    have := Box.new ((w.alloc (.cells #[.pointer (some ⟨g, 0, none⟩)] 50)).alloc (.cells #[.int .i64 z] 3)) 30 (.int .u64 0)
    simpa using this
  have hbo : Box (((w.alloc (.cells #[.pointer (some ⟨g, 0, none⟩)] 50)).alloc (.cells #[.int .i64 z] 3)).alloc (.cells #[.int .u64 0] 30)) (w.heap.size + 1) (.int .i64 z) := by
    have := (Box.new (w.alloc (.cells #[.pointer (some ⟨g, 0, none⟩)] 50)) 3 (.int .i64 z)).alloc (.cells #[.int .u64 0] 30)
    simpa using this
  have hr3 := hr.on (b3alloc w (.cells #[.pointer (some ⟨g, 0, none⟩)] 50) (.cells #[.int .i64 z] 3) (.cells #[.int .u64 0] 30))
  have hr4 := hr3.on (b1alloc _ (.cells #[.pointer (some ⟨g, 0, none⟩)] 50))
  refine (field_yes g l 95 _ _ _ hr3 (cf_num _) (numC_yes g w.heap.size (w.heap.size + 1) (w.heap.size + 2) s l (.int .u64 0) _ (by simp [go_sem]) (by rw [← Hz.out]; simp [go_sem]) (hbq.alloc _) (by omega) hr4 h1 h8 hs)).mono ?_
  rintro e w1 ⟨rfl, h1, h2, k12⟩
  have hfin := Lib.hid (got_fin (b4alloc w (.cells #[.pointer (some ⟨g, 0, none⟩)] 50) (.cells #[.int .i64 z] 3) (.cells #[.int .u64 0] 30) (.cells #[.pointer (some ⟨g, 0, none⟩)] 50)) (show w.heap.size ≤ w.heap.size + 2 by omega) hlt h2 k12 (.int .u64 (Num.getN (l.take s) : Int)))
  have hqc := h1.cell
  have hqf := h1.free
  clear h2 k12 hbq hbo hr3 hr4
  go_wp2
  refine bodyPost_ret (v := .int .u64 (Num.getN (l.take s) : Int)) (by simp [results, Try.results42, go_sem, hqc]) rfl ⟨rfl, hfin.out.1, hfin.out.2⟩
set_option maxHeartbeats 800000 in
theorem numberM_no (g : Nat) (l : List UInt8) (z : Int) (w : World) (hr : RAt w g l 0) (h : z < 1 ∨ 8 < z ∨ (l.length : Int) < z) (h0 : -9223372036854775808 ≤ z) (h1 : z ≤ 9223372036854775807) :
    Calls Try.prog 42 #[.pointer (some ⟨g, 0, none⟩), .int .i64 z] w (Got w g (.int .u64 0) [] 4) := by
  have H := Lib.hid h
  clear h
  have hmf : ∀ (fn : Fn) (first cap : Array Value) (w : World), (Instr.makeFunc fn first cap).run Try.prog w = .ok (.func fn first cap) w := fun _ _ _ _ => rfl
  have hlt := hr.lt
  go_enter Try.func42, Try.ntmps42
  go_wp2_with fail
  have hbq : Box (((w.alloc (.cells #[.pointer (some ⟨g, 0, none⟩)] 50)).alloc (.cells #[.int .i64 z] 3)).alloc (.cells #[.int .u64 0] 30)) (w.heap.size + 2) (.int .u64 0) := by
    have := Box.new ((w.alloc (.cells #[.pointer (some ⟨g, 0, none⟩)] 50)).alloc (.cells #[.int .i64 z] 3)) 30 (.int .u64 0)
    simpa using this
  have hbo : Box (((w.alloc (.cells #[.pointer (some ⟨g, 0, none⟩)] 50)).alloc (.cells #[.int .i64 z] 3)).alloc (.cells #[.int .u64 0] 30)) (w.heap.size + 1) (.int .i64 z) := by
    have := (Box.new (w.alloc (.cells #[.pointer (some ⟨g, 0, none⟩)] 50)) 3 (.int .i64 z)).alloc (.cells #[.int .u64 0] 30)
    simpa using this
  have hr3 := hr.on (b3alloc w (.cells #[.pointer (some ⟨g, 0, none⟩)] 50) (.cells #[.int .i64 z] 3) (.cells #[.int .u64 0] 30))
  have hr4 := hr3.on (b1alloc _ (.cells #[.pointer (some ⟨g, 0, none⟩)] 50))
  refine (field_bad g (w.heap.size + 2) l 95 _ _ hr3 (cf_num _) (numC_no g w.heap.size (w.heap.size + 1) (w.heap.size + 2) z l _ (by simp [go_sem]) (by simp [go_sem]) hr4 H.out h0 h1)).mono ?_
  rintro e w1 ⟨rfl, h2, k1⟩
  have h1 := hbq.keep k1 (by simp; omega)
  have k12 := k1.more (fp' := [g, w.heap.size + 2]) (by simp)
  clear k1
  have hfin := Lib.hid (got_fin (b3alloc w (.cells #[.pointer (some ⟨g, 0, none⟩)] 50) (.cells #[.int .i64 z] 3) (.cells #[.int .u64 0] 30)) (show w.heap.size ≤ w.heap.size + 2 by omega) hlt h2 k12 (.int .u64 0))
  have hqc := h1.cell
  have hqf := h1.free
  clear h2 k12 hbq hbo hr3 hr4
  go_wp2
  refine bodyPost_ret (v := .int .u64 0) (by simp [results, Try.results42, go_sem, hqc]) rfl ⟨rfl, hfin.out.1, hfin.out.2⟩
set_option maxHeartbeats 800000 in
theorem numberM_idle (g : Nat) (l : List UInt8) (f : Int) (hf : f ≠ 0) (z : Int) (w : World) (hr : RAt w g l f) :
    Calls Try.prog 42 #[.pointer (some ⟨g, 0, none⟩), .int .i64 z] w (Got w g (.int .u64 0) l f) := by
  have Hf := Lib.hid hf
  clear hf
  have hmf : ∀ (fn : Fn) (first cap : Array Value) (w : World), (Instr.makeFunc fn first cap).run Try.prog w = .ok (.func fn first cap) w := fun _ _ _ _ => rfl
  have hlt := hr.lt
  go_enter Try.func42, Try.ntmps42
  go_wp2_with fail
  have hbq : Box (((w.alloc (.cells #[.pointer (some ⟨g, 0, none⟩)] 50)).alloc (.cells #[.int .i64 z] 3)).alloc (.cells #[.int .u64 0] 30)) (w.heap.size + 2) (.int .u64 0) := by
    have := Box.new ((w.alloc (.cells #[.pointer (some ⟨g, 0, none⟩)] 50)).alloc (.cells #[.int .i64 z] 3)) 30 (.int .u64 0)
    simpa using this
  have hbo : Box (((w.alloc (.cells #[.pointer (some ⟨g, 0, none⟩)] 50)).alloc (.cells #[.int .i64 z] 3)).alloc (.cells #[.int .u64 0] 30)) (w.heap.size + 1) (.int .i64 z) := by
    have := (Box.new (w.alloc (.cells #[.pointer (some ⟨g, 0, none⟩)] 50)) 3 (.int .i64 z)).alloc (.cells #[.int .u64 0] 30)
    simpa using this
  have hr3 := hr.on (b3alloc w (.cells #[.pointer (some ⟨g, 0, none⟩)] 50) (.cells #[.int .i64 z] 3) (.cells #[.int .u64 0] 30))
  have hr4 := hr3.on (b1alloc _ (.cells #[.pointer (some ⟨g, 0, none⟩)] 50))
  refine (field_idle g l f Hf.out 95 _ _ hr3).mono ?_
  rintro e w1 ⟨rfl, b⟩
  have h1 := hbq.below b hbq.lt
  have h2 := hr3.on b
  have k12 := Keep.of_below b [g, w.heap.size + 2]
  clear b
  have hfin := Lib.hid (got_fin (b3alloc w (.cells #[.pointer (some ⟨g, 0, none⟩)] 50) (.cells #[.int .i64 z] 3) (.cells #[.int .u64 0] 30)) (show w.heap.size ≤ w.heap.size + 2 by omega) hlt h2 k12 (.int .u64 0))
  have hqc := h1.cell
  have hqf := h1.free
  clear h2 k12 hbq hbo hr3 hr4
  go_wp2
  refine bodyPost_ret (v := .int .u64 0) (by simp [results, Try.results42, go_sem, hqc]) rfl ⟨rfl, hfin.out.1, hfin.out.2⟩
def GotB (w : World) (g : Nat) (m l : List UInt8) (f : Int) (e : Ending) (w' : World) : Prop := RAt w' g l f ∧ Keep [g] w w' ∧ ∃ A c, e = .returned (.slice A m.length c) ∧ w'.ownsRow w.heap.size 5 1 (.slice A m.length c) m.length (m.map e8)
set_option maxHeartbeats 800000 in
theorem bytesM_yes (g : Nat) (l : List UInt8) (n : Nat) (z : Int) (w : World) (hr : RAt w g l 0) (hl2 : 2 ≤ l.length) (hn : n = Num.getN (l.take 2)) (hz : (n : Int) ≤ z) (hl : 2 + n ≤ l.length) :
    Calls Try.prog 43 #[.pointer (some ⟨g, 0, none⟩), .int .i64 z] w (GotB w g ((l.drop 2).take n) (l.drop (2 + n)) 0) := by
  have Hn := Lib.hid hn
  clear hn
  have hmf : ∀ (fn : Fn) (first cap : Array Value) (w : World), (Instr.makeFunc fn first cap).run Try.prog w = .ok (.func fn first cap) w := fun _ _ _ _ => rfl
  have hlt := hr.lt
  go_enter Try.func43, Try.ntmps43
  go_wp2_with fail
  have hbq : Box (((w.alloc (.cells #[.pointer (some ⟨g, 0, none⟩)] 50)).alloc (.cells #[.int .i64 z] 3)).alloc (.cells #[.slice none 0 0] 26)) (w.heap.size + 2) (.slice none 0 0) := by
    have := Box.new ((w.alloc (.cells #[.pointer (some ⟨g, 0, none⟩)] 50)).alloc (.cells #[.int .i64 z] 3)) 26 (.slice none 0 0)
    simpa using this
  have hbo : Box (((w.alloc (.cells #[.pointer (some ⟨g, 0, none⟩)] 50)).alloc (.cells #[.int .i64 z] 3)).alloc (.cells #[.slice none 0 0] 26)) (w.heap.size + 1) (.int .i64 z) := by
    have := (Box.new (w.alloc (.cells #[.pointer (some ⟨g, 0, none⟩)] 50)) 3 (.int .i64 z)).alloc (.cells #[.slice none 0 0] 26)
    simpa using this
  have hr3 := hr.on (b3alloc w (.cells #[.pointer (some ⟨g, 0, none⟩)] 50) (.cells #[.int .i64 z] 3) (.cells #[.slice none 0 0] 26))
  have hr4 := hr3.on (b1alloc _ (.cells #[.pointer (some ⟨g, 0, none⟩)] 50))
  refine (field_yes g l 97 _ _ _ hr3 (cf_bytes _) ((bytesC_yes g w.heap.size (w.heap.size + 1) (w.heap.size + 2) n z l (.slice none 0 0) _ (by simp [go_sem]) (by omega) (hbo.alloc _) (by omega) (hbq.alloc _) (by omega) hr4 hl2 Hn.out hz hl).mono (fun e w' h => h))).mono ?_
  rintro e w1 ⟨rfl, h2, k12, A1, c1, h1, h9⟩
  have h10 := own_keep h9 (keep_set w1 (w.heap.size + 2) 0 (.slice A1 ((l.drop 2).take n).length c1)) (by
    intro j hj e
    simp only [List.mem_singleton] at e
    subst e
    have := (h9.lt _ hj).1
    simp at this
    omega)
  have H10 := Lib.hid (own_base h10 (show w.heap.size ≤ _ by simp; omega))
  clear h9 h10
  obtain ⟨m, hm⟩ : ∃ m, m = (l.drop 2).take n := ⟨_, rfl⟩
  rw [← hm] at h1 H10
  have Hm := Lib.hid hm
  clear hm
  have hfin := Lib.hid (got_fin (b4alloc w (.cells #[.pointer (some ⟨g, 0, none⟩)] 50) (.cells #[.int .i64 z] 3) (.cells #[.slice none 0 0] 26) (.cells #[.pointer (some ⟨g, 0, none⟩)] 50)) (show w.heap.size ≤ w.heap.size + 2 by omega) hlt h2 k12 (.slice A1 m.length c1))
  have hqc := h1.cell
  have hqf := h1.free
  clear h2 k12 hbq hbo hr3 hr4
  go_wp2
  refine bodyPost_ret (v := .slice A1 m.length c1) (by simp [results, Try.results43, go_sem, hqc]) rfl ?_
  rw [← Hm.out]
  exact ⟨hfin.out.1, hfin.out.2, A1, c1, rfl, H10.out⟩
set_option maxHeartbeats 800000 in
theorem bytesM_no (g : Nat) (l : List UInt8) (z : Int) (w : World) (hr : RAt w g l 0) (h : noB l z) :
    Calls Try.prog 43 #[.pointer (some ⟨g, 0, none⟩), .int .i64 z] w (GotB w g [] [] 4) := by
  have H := Lib.hid h
  clear h
  have hmf : ∀ (fn : Fn) (first cap : Array Value) (w : World), (Instr.makeFunc fn first cap).run Try.prog w = .ok (.func fn first cap) w := fun _ _ _ _ => rfl
  have hlt := hr.lt
  go_enter Try.func43, Try.ntmps43
  go_wp2_with fail
  have hbq : Box (((w.alloc (.cells #[.pointer (some ⟨g, 0, none⟩)] 50)).alloc (.cells #[.int .i64 z] 3)).alloc (.cells #[.slice none 0 0] 26)) (w.heap.size + 2) (.slice none 0 0) := by
    have := Box.new ((w.alloc (.cells #[.pointer (some ⟨g, 0, none⟩)] 50)).alloc (.cells #[.int .i64 z] 3)) 26 (.slice none 0 0)
    simpa using this
  have hbo : Box (((w.alloc (.cells #[.pointer (some ⟨g, 0, none⟩)] 50)).alloc (.cells #[.int .i64 z] 3)).alloc (.cells #[.slice none 0 0] 26)) (w.heap.size + 1) (.int .i64 z) := by
    have := (Box.new (w.alloc (.cells #[.pointer (some ⟨g, 0, none⟩)] 50)) 3 (.int .i64 z)).alloc (.cells #[.slice none 0 0] 26)
    simpa using this
  have hr3 := hr.on (b3alloc w (.cells #[.pointer (some ⟨g, 0, none⟩)] 50) (.cells #[.int .i64 z] 3) (.cells #[.slice none 0 0] 26))
  have hr4 := hr3.on (b1alloc _ (.cells #[.pointer (some ⟨g, 0, none⟩)] 50))
  refine (field_bad g (w.heap.size + 2) l 97 _ _ hr3 (cf_bytes _) (bytesC_no g w.heap.size (w.heap.size + 1) (w.heap.size + 2) z l _ (by simp [go_sem]) (by omega) (hbo.alloc _) (by omega) hr4 H.out)).mono ?_
  rintro e w1 ⟨rfl, h2, k1⟩
  have h1 := hbq.keep k1 (by simp; omega)
  have k12 := k1.more (fp' := [g, w.heap.size + 2]) (by simp)
  clear k1
  have hfin := Lib.hid (got_fin (b3alloc w (.cells #[.pointer (some ⟨g, 0, none⟩)] 50) (.cells #[.int .i64 z] 3) (.cells #[.slice none 0 0] 26)) (show w.heap.size ≤ w.heap.size + 2 by omega) hlt h2 k12 (.slice none 0 0))
  have hqc := h1.cell
  have hqf := h1.free
  clear h2 k12 hbq hbo hr3 hr4
  go_wp2
  refine bodyPost_ret (v := .slice none 0 0) (by simp [results, Try.results43, go_sem, hqc]) rfl ⟨hfin.out.1, hfin.out.2, none, 0, rfl, own_nil _ _ _ _⟩
set_option maxHeartbeats 800000 in
theorem bytesM_idle (g : Nat) (l : List UInt8) (f : Int) (hf : f ≠ 0) (z : Int) (w : World) (hr : RAt w g l f) :
    Calls Try.prog 43 #[.pointer (some ⟨g, 0, none⟩), .int .i64 z] w (GotB w g [] l f) := by
  have Hf := Lib.hid hf
  clear hf
  have hmf : ∀ (fn : Fn) (first cap : Array Value) (w : World), (Instr.makeFunc fn first cap).run Try.prog w = .ok (.func fn first cap) w := fun _ _ _ _ => rfl
  have hlt := hr.lt
  go_enter Try.func43, Try.ntmps43
  go_wp2_with fail
  have hbq : Box (((w.alloc (.cells #[.pointer (some ⟨g, 0, none⟩)] 50)).alloc (.cells #[.int .i64 z] 3)).alloc (.cells #[.slice none 0 0] 26)) (w.heap.size + 2) (.slice none 0 0) := by
    have := Box.new ((w.alloc (.cells #[.pointer (some ⟨g, 0, none⟩)] 50)).alloc (.cells #[.int .i64 z] 3)) 26 (.slice none 0 0)
    simpa using this
  have hbo : Box (((w.alloc (.cells #[.pointer (some ⟨g, 0, none⟩)] 50)).alloc (.cells #[.int .i64 z] 3)).alloc (.cells #[.slice none 0 0] 26)) (w.heap.size + 1) (.int .i64 z) := by
    have := (Box.new (w.alloc (.cells #[.pointer (some ⟨g, 0, none⟩)] 50)) 3 (.int .i64 z)).alloc (.cells #[.slice none 0 0] 26)
    simpa using this
  have hr3 := hr.on (b3alloc w (.cells #[.pointer (some ⟨g, 0, none⟩)] 50) (.cells #[.int .i64 z] 3) (.cells #[.slice none 0 0] 26))
  have hr4 := hr3.on (b1alloc _ (.cells #[.pointer (some ⟨g, 0, none⟩)] 50))
  refine (field_idle g l f Hf.out 97 _ _ hr3).mono ?_
  rintro e w1 ⟨rfl, b⟩
  have h1 := hbq.below b hbq.lt
  have h2 := hr3.on b
  have k12 := Keep.of_below b [g, w.heap.size + 2]
  clear b
  have hfin := Lib.hid (got_fin (b3alloc w (.cells #[.pointer (some ⟨g, 0, none⟩)] 50) (.cells #[.int .i64 z] 3) (.cells #[.slice none 0 0] 26)) (show w.heap.size ≤ w.heap.size + 2 by omega) hlt h2 k12 (.slice none 0 0))
  have hqc := h1.cell
  have hqf := h1.free
  clear h2 k12 hbq hbo hr3 hr4
  go_wp2
  refine bodyPost_ret (v := .slice none 0 0) (by simp [results, Try.results43, go_sem, hqc]) rfl ⟨hfin.out.1, hfin.out.2, none, 0, rfl, own_nil _ _ _ _⟩
end Go.Proofs.Ytdkcdojcglmlbaa.Read
