/- Texts of this claim, joined: Geom3, Geom4, Nod2, Arr2, NodDc, NodDd, NodEl, NodRh, NodAl, NodOl, NodRb, NodOf, Rows20, TabN. -/
import Derived.Test.YtnfhlnkbkfgihaaDoorNodeReadsC
import Derived.WalkMore
import Derived.Test.YtnfhlnkbkfgihaaDoorNodeReadsA
import Derived.Deep.DeepCutAuto
import Derived.Deep.Quiet
import Derived.Test.YtnfhlnkbkfgihaaDoorNodeReadsB
import Derived.Lib.MinMax
import Derived.Test.YtnfhlnkbkfgihaaDoorCards
import Derived.Test.YtnfhlnkbkfgihaaDoorTie
import Derived.ProofKit
import Derived.OpenShut
import Derived.Deep.DeepHandedRow
import Derived.Lib.LaidU8T
import Derived.Lib.LaidIn
import Derived.LaidMore
/- The walks of geom's places, and of its reference. -/
namespace Go.Proofs.YtnfhlnkbkfgihaaDoor.Geom
open Go.RowKit
set_option linter.unusedVariables false




















def logAt (a d g i : Int) : Int := if right a d g = true ∧ 0 ≤ i then 4 + i % g else -1













































def areaAt (a d g n i : Int) : Int := if 0 ≤ i ∧ i < pagesOf a d g then 4 + g + n % 2 * pagesOf a d g + i else -1
theorem pages_right {a d g i : Int} (h0 : 0 ≤ i) (h : i < pagesOf a d g) : right a d g = true := by
  by_cases hr : right a d g = true
  · exact hr
  · simp [pagesOf, nodesOf, leavesOf, hr] at h; omega







































set_option maxHeartbeats 400000 in
theorem rleast_any (a d g : Int) (w : World) (ha0 : -9223372036854775808 ≤ a) (ha1 : a ≤ 9223372036854775807) (hd0 : -9223372036854775808 ≤ d) (hd1 : d ≤ 9223372036854775807) :
    Calls Tryd.prog 40 #[.agg #[.int .i64 a, .int .i64 d, .int .i64 g]] w fun e w' => e = .returned (.int .i64 (least a d)) ∧ Below w.heap.size w w' := by
  by_cases h1 : a < 2
  · rw [least_out (by omega)]
    go_enter Tryd.func40, Tryd.ntmps40
    go_wp2
    go_ret
    exact ⟨rfl, below_lit _ _⟩
  by_cases h2 : 4 < a
  · rw [least_out (by omega)]
    go_enter Tryd.func40, Tryd.ntmps40
    go_wp2
    go_ret
    exact ⟨rfl, below_lit _ _⟩
  by_cases h3 : d < 1
  · rw [least_out (by omega)]
    go_enter Tryd.func40, Tryd.ntmps40
    go_wp2
    go_ret
    exact ⟨rfl, below_lit _ _⟩
  by_cases h4 : 3 < d
  · rw [least_out (by omega)]
    go_enter Tryd.func40, Tryd.ntmps40
    go_wp2
    go_ret
    exact ⟨rfl, below_lit _ _⟩
  rw [least_in (by omega) (by omega) (by omega) (by omega)]
  go_enter Tryd.func40, Tryd.ntmps40
  go_wp2
  go_ret
  exact ⟨rfl, below_lit _ _⟩


set_option maxHeartbeats 800000 in
theorem rright_any (a d g : Int) (w : World) (ha0 : lo ≤ a) (ha1 : a ≤ hi) (hd0 : lo ≤ d) (hd1 : d ≤ hi) (hg0 : lo ≤ g) (hg1 : g ≤ hi) :
    Calls Tryd.prog 19 #[.agg #[.int .i64 a, .int .i64 d, .int .i64 g]] w fun e w' => e = .returned (.bool (right a d g)) ∧ Below w.heap.size w w' := by
  by_cases h1 : 2 ≤ a ∧ a ≤ 4 ∧ 1 ≤ d ∧ d ≤ 3
  · obtain ⟨h1, h2, h3, h4⟩ := h1
    have hl := Lib.hid (least_in h1 h2 h3 h4)
    have hp : (0 : Int) < d + 2 := by omega
    by_cases h5 : d + 2 ≤ g
    · by_cases h6 : g ≤ 64
      · have hr := Lib.hid (show right a d g = true by unfold right; simp [h1, h2, h3, h4, h5, h6])
        go_enter Tryd.func19, Tryd.ntmps19
        go_wp2
        refine region_inb (by kernel_rfl) (by kernel_rfl) ?_
        have inbNe := InB.some
        have inbW := @wrap_small
        have inbU := IntKind.wrap_u8'
        repeat (refine wpQuiet_step (fun K hK => ?_); go_simp; first | (refine hK _ ?_; clear hK K) | (apply Exists.intro; refine ⟨?_, hK _ ?_⟩; (· (intro w' hw'; first | (go_at_call 40; refine (rleast_any _ _ _ _ ha0 ha1 hd0 hd1).mono ?_; rintro e w1 ⟨rfl, b1⟩; rw [hl.out]; exact ⟨rfl, hw'.on b1⟩) | (have hcw := hw'.cell; go_simp; exact rfl))); clear hK K))
        refine wpQuiet_nil ?_
        intro wq hq
        clear inbNe inbW inbU
        go_wp2
        go_ret
        exact ⟨ret_bool hr.out.symm, bt (b1alloc _ _) hq⟩
      · have hr := Lib.hid (show right a d g = false by unfold right; simp; omega)
        have h7 : decide (g ≤ 64) = false := by simp; omega
        go_enter Tryd.func19, Tryd.ntmps19
        go_wp2
        refine region_inb (by kernel_rfl) (by kernel_rfl) ?_
        have inbNe := InB.some
        have inbW := @wrap_small
        have inbU := IntKind.wrap_u8'
        repeat (refine wpQuiet_step (fun K hK => ?_); go_simp; first | (refine hK _ ?_; clear hK K) | (apply Exists.intro; refine ⟨?_, hK _ ?_⟩; (· (intro w' hw'; first | (go_at_call 40; refine (rleast_any _ _ _ _ ha0 ha1 hd0 hd1).mono ?_; rintro e w1 ⟨rfl, b1⟩; rw [hl.out]; exact ⟨rfl, hw'.on b1⟩) | (have hcw := hw'.cell; go_simp; exact rfl))); clear hK K))
        refine wpQuiet_nil ?_
        intro wq hq
        clear inbNe inbW inbU
        go_wp2
        go_ret
        exact ⟨ret_bool hr.out.symm, bt (b1alloc _ _) hq⟩
    · have hr := Lib.hid (show right a d g = false by unfold right; simp; omega)
      have h7 : decide (d + 2 ≤ g) = false := by simp; omega
      go_enter Tryd.func19, Tryd.ntmps19
      go_wp2
      refine region_inb (by kernel_rfl) (by kernel_rfl) ?_
      have inbNe := InB.some
      have inbW := @wrap_small
      have inbU := IntKind.wrap_u8'
      repeat (refine wpQuiet_step (fun K hK => ?_); go_simp; first | (refine hK _ ?_; clear hK K) | (apply Exists.intro; refine ⟨?_, hK _ ?_⟩; (· (intro w' hw'; first | (go_at_call 40; refine (rleast_any _ _ _ _ ha0 ha1 hd0 hd1).mono ?_; rintro e w1 ⟨rfl, b1⟩; rw [hl.out]; exact ⟨rfl, hw'.on b1⟩) | (have hcw := hw'.cell; go_simp; exact rfl))); clear hK K))
      refine wpQuiet_nil ?_
      intro wq hq
      clear inbNe inbW inbU
      go_wp2
      go_ret
      exact ⟨ret_bool hr.out.symm, bt (b1alloc _ _) hq⟩
  · have hr := Lib.hid (show right a d g = false by unfold right; simp; omega)
    have hl := Lib.hid (least_out (a := a) (d := d) (by omega))
    go_enter Tryd.func19, Tryd.ntmps19
    go_wp2
    refine region_inb (by kernel_rfl) (by kernel_rfl) ?_
    have inbNe := InB.some
    have inbW := @wrap_small
    have inbU := IntKind.wrap_u8'
    repeat (refine wpQuiet_step (fun K hK => ?_); go_simp; first | (refine hK _ ?_; clear hK K) | (apply Exists.intro; refine ⟨?_, hK _ ?_⟩; (· (intro w' hw'; first | (go_at_call 40; refine (rleast_any _ _ _ _ ha0 ha1 hd0 hd1).mono ?_; rintro e w1 ⟨rfl, b1⟩; rw [hl.out]; exact ⟨rfl, hw'.on b1⟩) | (have hcw := hw'.cell; go_simp; exact rfl))); clear hK K))
    refine wpQuiet_nil ?_
    intro wq hq
    clear inbNe inbW inbU
    go_wp2
    go_ret
    exact ⟨ret_bool hr.out.symm, bt (b1alloc _ _) hq⟩

















































































































end Go.Proofs.YtnfhlnkbkfgihaaDoor.Geom

/- The walks of geom.Where and of the reference's sizes and places. -/
namespace Go.Proofs.YtnfhlnkbkfgihaaDoor.Geom
open Go.RowKit
set_option linter.unusedVariables false

















































































































































































theorem size_bd (a d g : Int) : 0 ≤ sizeOf a d g ∧ sizeOf a d g ≤ 238 := by
  unfold sizeOf
  by_cases h : right a d g = true
  · rw [if_pos h]
    obtain ⟨h1, h2, h3, h4, h5, h6⟩ := right_yes h
    have := pagesOf_bd a d g
    omega
  · rw [if_neg h]; omega
theorem size_right {a d g p : Int} (h0 : 0 ≤ p) (h : p < sizeOf a d g) : right a d g = true ∧ p < 4 + g + 2 * pagesOf a d g := by
  by_cases hr : right a d g = true
  · exact ⟨hr, by simpa [sizeOf, hr] using h⟩
  · simp [sizeOf, hr] at h; omega
/-- what stands at a place -/
def whereW (a d g p : Int) : ByteArray := if p < 0 ∨ sizeOf a d g ≤ p then ⟨#[]⟩ else if p < 2 then ⟨#[114, 111, 111, 116]⟩ else if p < 4 then ⟨#[115, 117, 112, 101, 114]⟩ else if p < 4 + g then ⟨#[108, 111, 103]⟩ else ⟨#[97, 114, 101, 97]⟩
def whereK (a d g p : Int) : Int := if p < 0 ∨ sizeOf a d g ≤ p then 0 else if p < 2 then p else if p < 4 then p - 2 else if p < 4 + g then p - 4 else p - 4 - g

































































































































































































theorem keep3 {w wa w1 : World} {x y z : Value} (h0 : wa.cell? ⟨w.heap.size, 0, none⟩ = some x) (h1 : wa.cell? ⟨w.heap.size, 1, none⟩ = some y) (h2 : wa.cell? ⟨w.heap.size, 2, none⟩ = some z) (hs : w.heap.size < wa.heap.size) (b : Below wa.heap.size wa w1) :
    w1.cell? ⟨w.heap.size, 0, none⟩ = some x ∧ w1.cell? ⟨w.heap.size, 1, none⟩ = some y ∧ w1.cell? ⟨w.heap.size, 2, none⟩ = some z ∧ w.heap.size < w1.heap.size :=
  ⟨(b.cell (p := ⟨w.heap.size, 0, none⟩) hs).trans h0, (b.cell (p := ⟨w.heap.size, 1, none⟩) hs).trans h1, (b.cell (p := ⟨w.heap.size, 2, none⟩) hs).trans h2, Nat.lt_of_lt_of_le hs b.size⟩







































end Go.Proofs.YtnfhlnkbkfgihaaDoor.Geom

/- Nodes: Encode. No statement is proved here. -/
namespace Go.Proofs.YtnfhlnkbkfgihaaDoor.Nod
open Go.RowKit
open Go.Proofs.YtnfhlnkbkfgihaaDoor.Geom (right lo hi)
open Go.Proofs.YtnfhlnkbkfgihaaDoor.Wire (WAt Wrote bytes_any text_any out_any field field_few)
set_option linter.unusedVariables false
set_option maxRecDepth 100000
theorem field_fld {l : List UInt8} (h : l.length ≤ 65535) : field l = fld l := field_few h
/-- bytes that are the call's own, and a fault -/
def EncRet (w : World) (r : List UInt8) (f : Int) (e : Ending) (w' : World) : Prop := ∃ A c, e = .returned (.tuple #[.slice A r.length c, .int .i64 f]) ∧ w'.ownsRow w.heap.size 5 1 (.slice A r.length c) r.length (r.map e8) ∧ Below w.heap.size w w'
theorem EncRet.no {w w' : World} {f : Int} (b : Below w.heap.size w w') : EncRet w [] f (.returned (.tuple #[.slice none 0 0, .int .i64 f])) w' := ⟨none, 0, rfl, own_nil _ _ _ _, b⟩
/-- may they be rows of a node? -/
def okB (ga gd gl : Int) (l : List (List UInt8)) : Bool := right ga gd gl && (decide ((l.length : Int) = ga) && l.all rowB)
def encV (ga gd gl : Int) (l : List (List UInt8)) : List UInt8 := if okB ga gd gl l = true then encB l else []
def encF (ga gd gl : Int) (l : List (List UInt8)) : Int := if okB ga gd gl l = true then 0 else 2
theorem odd_all (l : List (List UInt8)) : (l.any fun b => !rowB b) = !(l.all rowB) := by
  induction l with
  | nil => rfl
  | cons b l ih => rw [List.any_cons, List.all_cons, ih]; cases rowB b <;> simp
theorem _root_.Go.Proofs.YtnfhlnkbkfgihaaDoor.Wire.WAt.mem {w : World} {base g : Nat} {l : List UInt8} {fp : List Nat} (h : WAt w base g l fp) : g ∈ fp := by
  obtain ⟨v, _, _, rfl, _, _⟩ := h
  simp
theorem flds_len (l : List (List UInt8)) (h : ∀ b ∈ l, b.length ≤ 60000) : (l.flatMap fld).length ≤ 60002 * l.length := by
  induction l with
  | nil => simp
  | cons m l ih =>
    have h1 := h m (by simp)
    have h2 := ih (fun b hb => h b (by simp [hb]))
    rw [List.flatMap_cons, List.length_append, fld_len, List.length_cons]; omega
theorem enc_room {l : List (List UInt8)} (h : ∀ b ∈ l, b.length ≤ 60000) (hl : l.length ≤ 1000) (k : Nat) (hk : k ≤ l.length) : ((l.take k).flatMap fld).length ≤ 1000000000 := by
  have h1 := flds_len (l.take k) (fun b hb => h b (List.mem_of_mem_take hb))
  rw [List.length_take] at h1
  omega
set_option maxHeartbeats 2000000 in
theorem nenc_any (ga gd gl : Int) (A : Option Addr) (l : List (List UInt8)) (c : Nat) (w : World) (ha0 : lo ≤ ga) (ha1 : ga ≤ hi) (hd0 : lo ≤ gd) (hd1 : gd ≤ hi) (hg0 : lo ≤ gl) (hg1 : gl ≤ hi) (hr : Rws w w.heap.size A l) (hl : l.length ≤ 1000) (hb : ∀ b ∈ l, b.length ≤ 60000) :
    Calls Tryd.prog 8 #[.agg #[.int .i64 ga, .int .i64 gd, .int .i64 gl], .slice A l.length c] w (EncRet w (encV ga gd gl l) (encF ga gd gl l)) := by
  have FG := Blk.new w [.int .i64 ga, .int .i64 gd, .int .i64 gl] 23
  have z0 := FG.cell (k := 0) (by simp)
  have z1 := FG.cell (k := 1) (by simp)
  have z2 := FG.cell (k := 2) (by simp)
  simp only [List.getElem_cons_zero, List.getElem_cons_succ] at z0 z1 z2
  have HA := Lib.hid FG
  have bw := b1alloc w (.cells #[.int .i64 ga, .int .i64 gd, .int .i64 gl] 23)
  have HR := Lib.hid (fun W => Geom.right_any ga gd gl W ha0 ha1 hd0 hd1 hg0 hg1)
  have H1 := Lib.hid (fun W (bW : Below w.heap.size w W) => contains1_any A l c W (hr.on bW) hl (fun b h => by have := hb b h; omega))
  have H2 := Lib.hid (fun W (bW : Below w.heap.size w W) => contains2_any A l c W (hr.on bW) hl (fun b h => by have := hb b h; omega))
  obtain ⟨V, hV⟩ : ∃ V, V = encV ga gd gl l := ⟨_, rfl⟩
  obtain ⟨F, hF⟩ : ∃ F, F = encF ga gd gl l := ⟨_, rfl⟩
  rw [← hV, ← hF]
  have HV := Lib.hid hV
  have HF := Lib.hid hF
  clear hV hF FG
  cases hq : right ga gd gl with
  | false =>
    have hk : okB ga gd gl l = false := by unfold okB; rw [hq]; rfl
    have hv : V = [] ∧ F = 2 := ⟨by rw [HV.out]; unfold encV; rw [hk]; rfl, by rw [HF.out]; unfold encF; rw [hk]; rfl⟩
    obtain ⟨rfl, rfl⟩ := hv
    rw [hq] at HR
    clear hk hq
    go_enter Tryd.func8, Tryd.ntmps8
    go_wp2_with (first
      | (go_at_call 24; refine (HR.out _).mono ?_; rintro e w1 ⟨rfl, b1⟩))
    go_ret2
    exact EncRet.no (bt bw b1)
  | true =>
  rw [hq] at HR
  by_cases hln : (l.length : Int) = ga
  rotate_left
  · have hk : okB ga gd gl l = false := by unfold okB; rw [decide_eq_false hln]; simp
    have hv : V = [] ∧ F = 2 := ⟨by rw [HV.out]; unfold encV; rw [hk]; rfl, by rw [HF.out]; unfold encF; rw [hk]; rfl⟩
    obtain ⟨rfl, rfl⟩ := hv
    have t0 := bne_yes hln
    clear hk hq hln
    go_enter Tryd.func8, Tryd.ntmps8
    go_wp2_with (first
      | (go_at_call 24; refine (HR.out _).mono ?_; rintro e w1 ⟨rfl, b1⟩; clear z0 z1 z2; have z0 := (HA.out.on b1).cell (k := 0) (by simp); simp only [List.getElem_cons_zero] at z0))
    go_ret2
    exact EncRet.no (bt bw b1)
  have t0 := bne_no hln
  rw [odd_all] at H1
  cases ho : l.all rowB with
  | false =>
    have hk : okB ga gd gl l = false := by unfold okB; rw [ho]; simp
    have hv : V = [] ∧ F = 2 := ⟨by rw [HV.out]; unfold encV; rw [hk]; rfl, by rw [HF.out]; unfold encF; rw [hk]; rfl⟩
    obtain ⟨rfl, rfl⟩ := hv
    rw [ho] at H1
    clear hk hq hln ho
    go_enter Tryd.func8, Tryd.ntmps8
    go_wp2_with (first
      | (go_at_call 24; refine (HR.out _).mono ?_; rintro e w1 ⟨rfl, b1⟩; clear z0 z1 z2; have z0 := (HA.out.on b1).cell (k := 0) (by simp); simp only [List.getElem_cons_zero] at z0)
      | (go_at_call 25; refine (H1.out _ (bt bw b1)).mono ?_; rintro e w2 ⟨rfl, rfl⟩))
    go_ret2
    exact EncRet.no (bt bw b1)
  | true =>
  rw [ho] at H1
  have hk : okB ga gd gl l = true := by unfold okB; rw [ho, hq, decide_eq_true hln]; rfl
  have hf : F = 0 := by rw [HF.out]; unfold encF; rw [if_pos hk]
  have hv : V = encB l := by rw [HV.out]; unfold encV; rw [if_pos hk]
  subst hf
  have HV := Lib.hid hv
  have t1 : True := trivial
  clear hk hq hln ho hv
  cases hs : l.any (fun b => decide (0 < b.length)) with
  | false =>
    have hv : V = [] := by rw [HV.out]; unfold encB; rw [show someB l = false from hs]; rfl
    subst hv
    rw [hs] at H2
    clear hs
    go_enter Tryd.func8, Tryd.ntmps8
    go_wp2_with (first
      | (go_at_call 24; refine (HR.out _).mono ?_; rintro e w1 ⟨rfl, b1⟩; clear z0 z1 z2; have z0 := (HA.out.on b1).cell (k := 0) (by simp); simp only [List.getElem_cons_zero] at z0)
      | (go_at_call 25; have _t := t1; refine (H1.out _ (bt bw b1)).mono ?_; rintro e w2 ⟨rfl, rfl⟩; clear t1; have t2 : True := trivial)
      | (go_at_call 25; have _t := t2; refine (H2.out _ (bt bw b1)).mono ?_; rintro e w2 ⟨rfl, rfl⟩))
    go_ret2
    exact EncRet.no (bt bw b1)
  | true =>
    have hv : V = l.flatMap fld := by rw [HV.out]; unfold encB; rw [if_pos (show someB l = true from hs)]
    rw [hs] at H2
    have HV := Lib.hid hv
    clear hs hv
    have hmf : ∀ (fn : Fn) (first cap : Array Value) (w : World), (Instr.makeFunc fn first cap).run Tryd.prog w = .ok (.func fn first cap) w := fun _ _ _ _ => rfl
    have hmc : ∀ (x : Array Value) (w : World), Sem.run Tryd.prog (callFunc 27 x) w = .ok (.enter 27 x) w := by intro x w; simp [go_sem]
    go_enter Tryd.func8, Tryd.ntmps8
    go_upto_region 9 with (first
      | (go_at_call 24; refine (HR.out _).mono ?_; rintro e w1 ⟨rfl, b1⟩; clear z0 z1 z2; have z0 := (HA.out.on b1).cell (k := 0) (by simp); simp only [List.getElem_cons_zero] at z0)
      | (go_at_call 25; have _t := t1; refine (H1.out _ (bt bw b1)).mono ?_; rintro e w2 ⟨rfl, rfl⟩; clear t1; have t2 : True := trivial)
      | (go_at_call 25; have _t := t2; refine (H2.out _ (bt bw b1)).mono ?_; rintro e w3 ⟨rfl, rfl⟩))
    have hdw := WAt.new w1 53
    have bA := bt bw b1
    have bB : Below w.heap.size w (w1.alloc (.cells #[.slice none 0 0] 53)) := bt bA (b1alloc _ _)
    have hg : w.heap.size ≤ w1.heap.size := bA.size
    clear z0 t2
    have HRw := Lib.hid hr
    have HLb := Lib.hid hb
    have HBT := Lib.hid (enc_room hb hl)
    clear H1 H2 HR HA bw b1 bA hr hb ha0 ha1 hd0 hd1 hg0 hg1
    go_loopw [10, 35] (fun v10 i wr => ∃ k : Nat, k ≤ l.length ∧ i = .int .i64 k ∧ Below w.heap.size w wr ∧ ∃ fp, WAt wr w1.heap.size w1.heap.size ((l.take k).flatMap fld) fp) (fun _ i _ => l.length - (intOf i).toNat)
    case atStart => exact ⟨0, by omega, rfl, bB, _, by simpa using hdw⟩
    case round =>
      obtain ⟨k, hk, rfl, bW, fp, hW⟩ := hrel
      clear hdw bB
      by_cases hlt : k < l.length
      · obtain ⟨b, off, Ai, ci, rfl, hbl, hc, hrd, hci, hcm⟩ := (HRw.out.below bW).get hlt
        have hkn : (k : Int) < (l.length : Int) := by omega
        have hwk : wrap64 ((k : Int) + 1) = (k : Int) + 1 := by unfold wrap64; omega
        have h6 := HLb.out _ (List.getElem_mem hlt)
        obtain ⟨S, hS⟩ : ∃ S, S = (l.take k).flatMap fld := ⟨_, rfl⟩
        obtain ⟨m, hm⟩ : ∃ m, m = l[k] := ⟨_, rfl⟩
        have hSl := HBT.out k hk
        rw [← hS] at hW hSl
        rw [← hm] at hc hrd hci h6
        have hB := Lib.hid (fun W (bWW : W = wr) => bytes_any w1.heap.size w1.heap.size S m fp Ai _ ci W rfl (bWW ▸ hW) (bWW ▸ RdN.of hrd (fun j hj => Nat.le_trans hg (hW.ge j hj)) bW.size) (bWW ▸ Nat.le_of_lt (hW.lt _ hW.mem)) hSl (by omega) hci)
        have hnx := Lib.hid (show S ++ field m = (l.take (k + 1)).flatMap fld by rw [hS, field_fld (by omega), hm, List.take_succ_eq_append_getElem hlt, List.flatMap_append]; simp)
        have hge := hW.ge
        clear hrd h6 hW hS hm hSl
        go_wp2_with (first
          | (go_at_call 27; refine (hB.out _ rfl).mono ?_; rintro e w5 ⟨rfl, fp5, hW5, k5, f5⟩))
        case roundEnd => exact ⟨⟨k + 1, by omega, by first | rfl | (rw [hwk]; rfl), bW.trans (k5.below (fun j hj => Nat.le_trans hg (hge j hj)) bW.size), fp5, hnx.out ▸ hW5⟩, by first | (simp only [intOf]; omega) | (rw [hwk]; simp only [intOf]; omega)⟩
      · have hkn : ¬ (k : Int) < (l.length : Int) := by omega
        have hkl : k = l.length := by omega
        have hx : (l.take k).flatMap fld = V := by rw [hkl, List.take_length]; exact HV.out.symm
        have hb1 := HBT.out k hk
        rw [hx] at hW hb1
        have hO := Lib.hid (fun W (bWW : W = wr) => out_any w1.heap.size w1.heap.size V fp W (bWW ▸ hW) hb1)
        clear hW hkl hx hb1
        go_wp2_with (first
          | (go_at_call 28; refine (hO.out _ rfl).mono ?_; rintro e w5 ⟨A5, c5, rfl, h5, b5⟩))
        go_ret2
        exact ⟨A5, c5, rfl, own_base h5 bW.size, bt bW b5⟩
end Go.Proofs.YtnfhlnkbkfgihaaDoor.Nod

/- Making slices of numbers with room behind them. -/
namespace Go.Proofs.YtnfhlnkbkfgihaaDoor
open Go.RowKit
set_option linter.unusedVariables false
section
variable {P : Program}
/-- make of a slice of numbers, with room behind it -/
theorem wpList_makeN {w : World} {ops : Array Oper} {rest : List Oper} {o : Oper} {a : Act} {Q : Exit → Act → World → Prop} (hgd : o.guard = none) (t : TypeId) (x y : Operand) (ho : o.op = .makeSlice t x y)
    {e : TypeId} {i : TypeInfo} {k kl kc : IntKind} (ht : P.underlying t = some (.slice e)) (hi : P.info? e = some i) (hz : i.zero = some (.int k 0)) (hs : i.size = 1) (l c : Nat) {lz cz : Int} (hl : a.eval x = .int kl lz) (hlz : lz = (l : Int)) (hc : a.eval y = .int kc cz) (hcz : cz = (c : Int))
    (hlc : l ≤ c) (hb : i.bytes * c ≤ 281474976710656) (hm : c ≤ maxLen)
    (h : ∀ w1, w1.ownsRow w.heap.size e 1 (.slice (some ⟨w.heap.size, 0, none⟩) l c) l (List.replicate l (.int k 0)) → Below w.heap.size w w1 → w.heap.size < w1.heap.size →
      wpList P ops Q rest (a.put o.dst (.slice (some ⟨w.heap.size, 0, none⟩) l c)) w1) : wpList P ops Q (o :: rest) a w := by
  subst hlz hcz
  have hb' : (i.bytes : Int) * (c : Int) ≤ 281474976710656 := by
    have h : ((i.bytes * c : Nat) : Int) ≤ 281474976710656 := by omega
    rwa [Int.natCast_mul] at h
  have hm' : (c : Int) ≤ 9223372036854775807 := by
    have h := hm
    simp [maxLen] at h
    omega
  have hr := run_make (P := P) w t e i _ ht hi hz kl kc l c (by omega) (by omega) hb' hm'
  simp only [Int.toNat_natCast] at hr
  refine wpList_run (w' := w.alloc (.cells (madeCells (Value.int k 0).cells (c * i.size)) e)) hgd (.slice (some ⟨w.heap.size, 0, none⟩) l c) ?_ (h _ ⟨by simp, .inr ⟨w.heap.size, c, _, rfl, Nat.le_refl _, heap_alloc_new w _, hlc, hm, ?_, ?_⟩⟩ (b1alloc _ _) (by simp))
  · unfold execOp
    simp only [ho, hl, hc]
    simp [hr]
  · rw [hs, size_madeCells]
  · rw [hs, made_int, List.take_replicate]
    congr 1
    omega
/-! whole arrays in a region that draws its order -/
theorem wpQuiet_run {ops : Array Oper} {C : World → Prop} {Q : Act → Prop} {a : Act} {o : Oper} {rest : List Oper} (hg : o.guard = none) (v : Value) (hrun : ∀ w, C w → (execOp a.eval o).run P w = .ok (.value v) w)
    (h : wpQuiet P ops C Q rest (a.put o.dst v)) : wpQuiet P ops C Q (o :: rest) a := by
  refine wpQuiet_step fun K hK => ?_
  rw [if_pos (by simp [Region.wanted, hg])]
  refine ⟨v, fun w hw => ?_, hK _ h⟩
  unfold Oper.quietAt
  rw [hrun w hw]
  exact ⟨rfl, rfl⟩
theorem wpQuiet_loadA {ops : Array Oper} {C : World → Prop} {Q : Act → Prop} {a : Act} {o : Oper} {rest : List Oper} (hg : o.guard = none) (t : TypeId) (x : Operand) (ho : o.op = .load t x)
    {g : Nat} (hx : a.eval x = .pointer (some ⟨g, 0, none⟩)) {xs : List Value} (hb : ∀ w, C w → Blk w g xs) {n : Nat} {e : TypeId} (hu : P.underlying t = some (.array n e)) (hi : (P.info? t).map (·.size) = some xs.length)
    (h : wpQuiet P ops C Q rest (a.put o.dst (arrV xs))) : wpQuiet P ops C Q (o :: rest) a := by
  refine wpQuiet_run hg (arrV xs) (fun w hw => ?_) h
  obtain ⟨t', hb⟩ := hb w hw
  unfold execOp
  simp only [ho, hx]
  have := run_loadVar_row (P := P) w g t' t _ _ _ hb hu rfl (by simpa using hi)
  simp [Instr.loadAt, Instr.sureAddr, this, arrV]
end
end Go.Proofs.YtnfhlnkbkfgihaaDoor

/- Nodes: Decode. No statement is proved here. -/
namespace Go.Proofs.YtnfhlnkbkfgihaaDoor.Nod
open Go.RowKit
open Go.Proofs.YtnfhlnkbkfgihaaDoor.Geom (right lo hi right_yes)
open Go.Proofs.YtnfhlnkbkfgihaaDoor.Read (RAt GotB end_any read_any)
set_option linter.unusedVariables false
set_option maxRecDepth 100000
theorem made_nil (s : Nat) : (madeCells (Value.slice none 0 0).cells (s * 1)).toList = List.replicate s (Value.slice none 0 0) := by
  apply List.ext_getElem
  · simp [madeCells]
  · intro i h1 h2
    simp [madeCells, Value.cells, Nat.mod_one]
theorem infoS : (Tryd.prog.info? 25).map (fun i => (i.zero, i.size, i.bytes)) = some (some (.slice none 0 0), 1, 24) := by kernel_rfl
theorem mkS_run (n : Nat) (hn : n ≤ 1000) : ∃ O : Obj, (∀ W, (Instr.makeSlice 24 (.int .i64 (n : Int)) (.int .i64 (n : Int))).run Tryd.prog W = .ok (.slice (some ⟨W.heap.size, 0, none⟩) n n) (W.alloc O)) ∧ ∀ W : World, Blk (W.alloc O) W.heap.size (List.replicate n (.slice none 0 0)) := by
  obtain ⟨i0, hi0, hz0, hz1, hz2⟩ := info_parts infoS
  refine ⟨.cells (madeCells (Value.slice none 0 0).cells (n * i0.size)) 25, fun W => ?_, fun W => ⟨25, ?_⟩⟩
  · have hr := run_make (P := Tryd.prog) W 24 25 i0 _ Tryd.underlying24 hi0 hz0 .i64 .i64 n n (by omega) (by omega) (by rw [hz2]; omega) (by omega)
    simpa using hr
  · have h1 : (madeCells (Value.slice none 0 0).cells (n * i0.size)) = (List.replicate n (Value.slice none 0 0)).toArray := by
      apply Array.ext'
      rw [hz1, made_nil]
    rw [h1]
    exact heap_alloc_new W _
def DcRet (w : World) (e : Ending) (w' : World) : Option (List (List UInt8)) → Prop
  | none => e = .returned (.tuple #[.slice none 0 0, .int .i64 4]) ∧ Below w.heap.size w w'
  | some rs => ∃ A c, e = .returned (.tuple #[.slice A rs.length c, .int .i64 0]) ∧ Rws w' w'.heap.size A rs ∧ rs.length ≤ c ∧ Below w.heap.size w w'
def dcR (n : Nat) (b : List UInt8) : Option (List (List UInt8)) := if b = [] then some (List.replicate n []) else dec n b
/-- a row that lies in a cell -/
def RowAt (wr : World) (fp : List Nat) (v : Option Value) (m : List UInt8) : Prop := ∃ A c, v = some (.slice A m.length c) ∧ RdN wr fp A (m.map e8) ∧ m.length ≤ c ∧ c ≤ maxLen
theorem RowAt.keep {w w' : World} {fp : List Nat} {v : Option Value} {m : List UInt8} (h : RowAt w fp v m) (k : Keep fp w w') : RowAt w' fp v m := by
  obtain ⟨A, c, h1, h2, h3⟩ := h
  exact ⟨A, c, h1, h2.keep k (Fresh.refl _ _), h3⟩
/-- between two rounds -/
structure DInv (n : Nat) (R : Option (List (List UInt8))) (w w0 wr : World) (gO g : Nat) (k : Nat) (sm : Bool) (l : List UInt8) (f : Int) (xs : List Value) (rs : List (List UInt8)) : Prop where
  len : rs.length = k
  xl : xs.length = n
  blk : Blk wr gO xs
  rd : RAt wr g l f
  bel : Below w.heap.size w wr
  b0 : w0.heap.size ≤ wr.heap.size
  sl : ∀ v ∈ xs, ∃ A n c, v = Value.slice A n c
  row : ∀ j (hj : j < rs.length), RowAt wr [gO, g] xs[j]? rs[j]
  sm : sm = someB rs
  rel : R = match decL (n - k) l f with
    | none => none
    | some (t, l', f') => if endF l' f' = 0 ∧ someB (rs ++ t) = true then some (rs ++ t) else none
theorem decL_succ {n k : Nat} (h : k < n) (l : List UInt8) (f : Int) : decL (n - k) l f = if rowB (step 80 l f).1 = true then (decL (n - (k + 1)) (step 80 l f).2.1 (step 80 l f).2.2).map (fun t => ((step 80 l f).1 :: t.1, t.2)) else none := by
  rw [show n - k = (n - (k + 1)) + 1 by omega]; rfl
theorem DInv.no {n : Nat} {R : Option (List (List UInt8))} {w w0 wr : World} {gO g k : Nat} {sm : Bool} {l : List UInt8} {f : Int} {xs : List Value} {rs : List (List UInt8)} (h : DInv n R w w0 wr gO g k sm l f xs rs) (hk : k < n) (hr : rowB (step 80 l f).1 = false) : R = none := by
  rw [h.rel, decL_succ hk, hr]; rfl
theorem DInv.next {n : Nat} {R : Option (List (List UInt8))} {w w0 wr w1 : World} {gO g k : Nat} {sm : Bool} {l : List UInt8} {f : Int} {xs : List Value} {rs : List (List UInt8)} (h : DInv n R w w0 wr gO g k sm l f xs rs) (hk : k < n) (hgO : w.heap.size ≤ gO) (hg : w.heap.size ≤ g) (hne : gO ≠ g)
    {m l' : List UInt8} {f' : Int} (hst : step 80 l f = (m, l', f')) (hrow : rowB m = true) (hr1 : RAt w1 g l' f') (k1 : Keep [g] wr w1) {A : Option Addr} {c : Nat} (ho : w1.ownsRow wr.heap.size 5 1 (.slice A m.length c) m.length (m.map e8)) (hlt : gO < g) :
    DInv n R w w0 (w1.setCell ⟨gO, k, none⟩ (.slice A m.length c)) gO g (k + 1) (sm || decide (0 < m.length)) l' f' (xs.set k (.slice A m.length c)) (rs ++ [m]) := by
  have hgl := h.blk.lt
  have hrl := h.rd.lt
  have hB1 : Blk w1 gO xs := by
    obtain ⟨t, hh⟩ := h.blk
    exact ⟨t, (k1.block hgl (by simp; exact hne)).trans hh⟩
  have kS : Keep [gO, g] wr (w1.setCell ⟨gO, k, none⟩ (.slice A m.length c)) := (k1.more (by simp)).set (.inl (by simp)) _
  have hrdm : RdN (w1.setCell ⟨gO, k, none⟩ (.slice A m.length c)) [gO, g] A (m.map e8) := fun hne' => by
    obtain ⟨b, off, e, hb, hc⟩ := (Rd.own ho) hne'
    subst e
    have h2 : wr.heap.size ≤ b := own_block ho (by simp [Value.ownBlock])
    have hbb : b ≠ gO ∧ b ≠ g := by omega
    exact ⟨b, off, rfl, by simpa using hb, by simp; exact hbb, fun i hi => by
      rw [World.cell?_of_block (heap_setCell_other _ _ b _ (by simpa using hbb.1))]
      exact hc i hi⟩
  obtain ⟨oc1, oc2⟩ := own_cap ho
  refine ⟨by rw [List.length_append, h.len]; rfl, by rw [List.length_set]; exact h.xl, hB1.set _, ?_, ?_, ?_, ?_, ?_, ?_, ?_⟩
  · obtain ⟨A0, c0, h1, h2, h3⟩ := hr1
    refine ⟨A0, c0, (heap_setCell_other _ _ g _ (by simpa using Ne.symm hne)).trans h1, ?_, h3⟩
    intro hne'
    obtain ⟨b, off, e, hb, hc⟩ := h2 hne'
    refine ⟨b, off, e, hb, fun i hi => ?_⟩
    have hci := hc i hi
    have hbo : b ≠ gO := fun e2 => by
      subst e2
      obtain ⟨t, hh⟩ := hB1
      rw [cell_of_row w1 b (off + i) _ _ _ hh] at hci
      have hm2 : (List.map e8 l')[i] ∈ xs := by
        have h5 := Array.mem_of_getElem? hci
        simpa using h5
      obtain ⟨A5, n5, c5, e5⟩ := h.sl _ hm2
      rw [List.getElem_map] at e5
      cases e5
    rw [World.cell?_of_block (heap_setCell_other _ _ b _ (by simpa using hbo))]
    exact hci
  · exact (h.bel.trans (k1.below (fun j hj => by simp at hj; subst hj; exact hg) h.bel.size)).trans ((Keep.set (Keep.refl [gO] w1) (.inl (by simp)) _).below (fun j hj => by simp at hj; subst hj; exact hgO) (Nat.le_trans h.bel.size k1.size))
  · simpa using Nat.le_trans h.b0 k1.size
  · intro v hv
    rcases List.mem_or_eq_of_mem_set hv with h5 | h5
    · exact h.sl v h5
    · exact ⟨A, m.length, c, h5⟩
  · intro j hj
    rw [List.length_append] at hj
    by_cases hjk : j < rs.length
    · rw [List.getElem_append_left hjk, List.getElem?_set_ne (by rw [← h.len]; omega)]
      exact (h.row j hjk).keep kS
    · have hjk' : j = rs.length := by simp at hj; omega
      subst hjk'
      rw [List.getElem_append_right (Nat.le_refl _)]
      simp only [Nat.sub_self, List.getElem_cons_zero]
      rw [h.len, List.getElem?_set_self (by rw [h.xl]; exact hk)]
      exact ⟨A, c, rfl, hrdm, oc1, oc2⟩
  · rw [h.sm]; unfold someB; rw [List.any_append]; simp
  · have e := decL_succ hk l f
    rw [hst] at e
    simp only at e
    rw [if_pos hrow] at e
    rw [h.rel, e]
    cases decL (n - (k + 1)) l' f' with
    | none => rfl
    | some t => simp only [Option.map_some, List.append_assoc, List.singleton_append]
end Go.Proofs.YtnfhlnkbkfgihaaDoor.Nod

/- Nodes: the walk of Decode. No statement is proved here. -/
namespace Go.Proofs.YtnfhlnkbkfgihaaDoor.Nod
open Go.RowKit
open Go.Proofs.YtnfhlnkbkfgihaaDoor.Geom (right lo hi right_yes)
open Go.Proofs.YtnfhlnkbkfgihaaDoor.Read (RAt GotB end_any read_any)
set_option linter.unusedVariables false
set_option maxRecDepth 100000
theorem step80_len (l : List UInt8) (f : Int) : (step 80 l f).1.length ≤ 80 := by
  unfold step
  split
  · cases h : rdF 80 l with
    | none => simp
    | some t =>
      obtain ⟨m, r⟩ := t
      exact (rdF_some h).2.1
  · simp
set_option maxHeartbeats 1000000 in
theorem dec_bad (ga gd gl : Int) (A : Option Addr) (n c : Nat) (w : World) (ha0 : lo ≤ ga) (ha1 : ga ≤ hi) (hd0 : lo ≤ gd) (hd1 : gd ≤ hi) (hg0 : lo ≤ gl) (hg1 : gl ≤ hi) (hq : right ga gd gl = false) :
    Calls Tryd.prog 15 #[.agg #[.int .i64 ga, .int .i64 gd, .int .i64 gl], .slice A n c] w fun e w' => e = .returned (.tuple #[.slice none 0 0, .int .i64 2]) ∧ Below w.heap.size w w' := by
  have FG := Blk.new w [.int .i64 ga, .int .i64 gd, .int .i64 gl] 23
  have z0 := FG.cell (k := 0) (by simp)
  have z1 := FG.cell (k := 1) (by simp)
  have z2 := FG.cell (k := 2) (by simp)
  simp only [List.getElem_cons_zero, List.getElem_cons_succ] at z0 z1 z2
  have bw := b1alloc w (.cells #[.int .i64 ga, .int .i64 gd, .int .i64 gl] 23)
  have HR := Lib.hid (fun W => Geom.right_any ga gd gl W ha0 ha1 hd0 hd1 hg0 hg1)
  rw [hq] at HR
  clear FG hq ha0 ha1 hd0 hd1 hg0 hg1
  go_enter Tryd.func15, Tryd.ntmps15
  go_wp2_with (go_at_call 24; refine (HR.out _).mono ?_; rintro e w1 ⟨rfl, b1⟩)
  go_ret2
  exact ⟨rfl, bt bw b1⟩
theorem Rws.repl {w : World} {gO n : Nat} (h : Blk w gO (List.replicate n (.slice none 0 0))) : Rws w w.heap.size (some ⟨gO, 0, none⟩) (List.replicate n []) := by
  intro hne
  refine ⟨gO, 0, rfl, h.lt, fun i hi => ?_⟩
  have hi' : i < n := by simpa using hi
  refine ⟨none, 0, ?_, ?_, ?_, by unfold maxLen; omega⟩
  · have := h.cell (k := i) (by simpa using hi')
    rw [Nat.zero_add, this]
    simp
  · simp [Rd]
  · simp
theorem DInv.rws {n : Nat} {R : Option (List (List UInt8))} {w w0 wr : World} {gO g k : Nat} {sm : Bool} {l : List UInt8} {f : Int} {xs : List Value} {rs : List (List UInt8)} (h : DInv n R w w0 wr gO g k sm l f xs rs) : Rws wr wr.heap.size (some ⟨gO, 0, none⟩) rs := by
  intro hne
  refine ⟨gO, 0, rfl, h.blk.lt, fun i hi => ?_⟩
  obtain ⟨A, c, h1, h2, h3, h4⟩ := h.row i hi
  obtain ⟨t, hh⟩ := h.blk
  refine ⟨A, c, ?_, h2.rd, h3, h4⟩
  rw [Nat.zero_add, cell_of_row wr gO i _ _ _ hh]
  simpa using h1
theorem blk_keep {w w' : World} {g : Nat} {xs : List Value} {fp : List Nat} (h : Blk w g xs) (k : Keep fp w w') (hn : g ∉ fp) : Blk w' g xs := by
  obtain ⟨t, hh⟩ := h
  exact ⟨t, (k.block (lt_of_block hh) hn).trans hh⟩
theorem dec_bel {n : Nat} {R : Option (List (List UInt8))} {w w0 wr w1 : World} {gO g k : Nat} {sm : Bool} {l : List UInt8} {f : Int} {xs : List Value} {rs : List (List UInt8)} (h : DInv n R w w0 wr gO g k sm l f xs rs) (hk : k < n) (hlt : gO < g) (hgO : w.heap.size ≤ gO) (k1 : Keep [g] wr w1) {v : Value} :
    Below w.heap.size w (w1.setCell ⟨gO, k, none⟩ v) :=
  (h.bel.trans (k1.below (fun j hj => by simp at hj; subst hj; omega) h.bel.size)).trans ((Keep.set (Keep.refl [gO] w1) (.inl (by simp)) _).below (fun j hj => by simp at hj; subst hj; exact hgO) (Nat.le_trans h.bel.size k1.size))
set_option maxHeartbeats 4000000 in
theorem dec_any (n : Nat) (gd gl : Int) (b : List UInt8) (A : Option Addr) (c : Nat) (w : World) (hd0 : lo ≤ gd) (hd1 : gd ≤ hi) (hg0 : lo ≤ gl) (hg1 : gl ≤ hi) (hq : right (n : Int) gd gl = true) (hr : Rd w w.heap.size A (b.map e8)) (hb : b.length ≤ 2000) :
    Calls Tryd.prog 15 #[.agg #[.int .i64 (n : Int), .int .i64 gd, .int .i64 gl], .slice A b.length c] w fun e w' => DcRet w e w' (dcR n b) := by
  obtain ⟨q1, q2, _⟩ := right_yes hq
  have hn4 : n ≤ 4 := by omega
  have FG := Blk.new w [.int .i64 (n : Int), .int .i64 gd, .int .i64 gl] 23
  have z0 := FG.cell (k := 0) (by simp)
  have z1 := FG.cell (k := 1) (by simp)
  have z2 := FG.cell (k := 2) (by simp)
  simp only [List.getElem_cons_zero, List.getElem_cons_succ] at z0 z1 z2
  have HA := Lib.hid FG
  have bw := b1alloc w (.cells #[.int .i64 (n : Int), .int .i64 gd, .int .i64 gl] 23)
  have HR := Lib.hid (fun W => Geom.right_any (n : Int) gd gl W (by show (-9223372036854775808 : Int) ≤ _; omega) (by show _ ≤ (9223372036854775807 : Int); omega) hd0 hd1 hg0 hg1)
  rw [hq] at HR
  obtain ⟨O, hmk, hblk⟩ := mkS_run n (by omega)
  have HBk := Lib.hid hblk
  have HE := Lib.hid (fun W => empty_any A b.length c W)
  clear FG hq hd0 hd1 hg0 hg1 hblk q1 q2
  by_cases h0 : b = []
  · subst h0
    rw [show dcR n [] = some (List.replicate n []) from if_pos rfl]
    clear hr
    go_enter Tryd.func15, Tryd.ntmps15
    go_wp2_with (first
      | (go_at_call 24; refine (HR.out _).mono ?_; rintro e w1 ⟨rfl, b1⟩; clear z0 z1 z2; have z0 := (HA.out.on b1).cell (k := 0) (by simp); simp only [List.getElem_cons_zero] at z0; have bO := b1alloc w1 O)
      | (go_at_call 18; refine (HE.out _).mono ?_; rintro e w2 ⟨rfl, rfl⟩))
    go_ret2
    exact ⟨some ⟨w1.heap.size, 0, none⟩, n, by rw [List.length_replicate]; rfl, Rws.repl (HBk.out w1), by rw [List.length_replicate]; exact Nat.le_refl n, bt bw (bt b1 bO)⟩
  have hnz : decide (b.length = 0) = false := decide_eq_false (fun h => h0 (List.eq_nil_of_length_eq_zero h))
  rw [hnz] at HE
  obtain ⟨R, hR⟩ : ∃ R, R = dcR n b := ⟨_, rfl⟩
  rw [← hR]
  have HRR := Lib.hid (show R = dec n b by rw [hR, dcR, if_neg h0])
  have HRd := Lib.hid (fun W (hW : Below w.heap.size w W) => read_any A b b.length c W rfl (hr.on hW) (by omega))
  clear hR hr h0 hnz hb
  have hmf : ∀ (fn : Fn) (first cap : Array Value) (w : World), (Instr.makeFunc fn first cap).run Tryd.prog w = .ok (.func fn first cap) w := fun _ _ _ _ => rfl
  have hmc : ∀ (x : Array Value) (w : World), Sem.run Tryd.prog (callFunc 35 x) w = .ok (.enter 35 x) w := by intro x w; simp [go_sem]
  go_enter Tryd.func15, Tryd.ntmps15
  go_upto_region 10 with (first
    | (go_at_call 24; refine (HR.out _).mono ?_; rintro e w1 ⟨rfl, b1⟩; clear z0 z1 z2; have z0 := (HA.out.on b1).cell (k := 0) (by simp); simp only [List.getElem_cons_zero] at z0; have bO := bt bw (bt b1 (b1alloc w1 O)))
    | (go_at_call 18; refine (HE.out _).mono ?_; rintro e w2 ⟨rfl, rfl⟩)
    | (go_at_call 34; refine (HRd.out _ bO).mono ?_; rintro e w3 ⟨g, rfl, h3, hg3, b3⟩))
  obtain ⟨gO, hgO⟩ : ∃ gO, gO = w1.heap.size := ⟨_, rfl⟩
  have hBO : Blk w3 gO (List.replicate n (.slice none 0 0)) := by rw [hgO]; exact (HBk.out w1).on b3
  have hgg : gO < g := by rw [hgO]; have : w1.heap.size < (w1.alloc O).heap.size := by simp
                          omega
  have hwO : w.heap.size ≤ gO := by rw [hgO]; exact (bt bw b1).size
  have bel3 := bt bO b3
  rw [← hgO]
  have HgO := Lib.hid hgO
  have Hgg := Lib.hid hgg
  have HwO := Lib.hid hwO
  have hst0 : DInv n R w w w3 gO g 0 false b 0 (List.replicate n (.slice none 0 0)) [] := ⟨rfl, List.length_replicate, hBO, h3, bel3, bel3.size, fun v hv => ⟨none, 0, 0, List.eq_of_mem_replicate hv⟩, fun j hj => absurd hj (Nat.not_lt_zero j), rfl, by
    rw [HRR.out]; unfold dec; rw [Nat.sub_zero]
    cases decL n b 0 with
    | none => rfl
    | some t => obtain ⟨rs, l, f⟩ := t; rfl⟩
  clear hgO hgg hwO hBO h3 hg3 b3 bO b1 bw z0 HA HR HE HRd HBk HRR bel3
  go_loopw [9, 10, 26] (fun v9 v10 i wr => ∃ (k : Nat) (sm : Bool) (l : List UInt8) (f : Int) (xs : List Value) (rs : List (List UInt8)), k ≤ n ∧ v9 = .bool sm ∧ i = .int .i64 k ∧ DInv n R w w wr gO g k sm l f xs rs) (fun _ _ i _ => n - (intOf i).toNat)
  case atStart => exact ⟨0, false, b, 0, _, [], by omega, rfl, rfl, hst0⟩
  case round =>
    obtain ⟨k, sm, l, f, xs, rs, hk, rfl, rfl, hI⟩ := hrel
    clear hst0
    by_cases hlt : k < n
    · have hkn : (k : Int) < (n : Int) := by omega
      have hwk : wrap64 ((k : Int) + 1) = (k : Int) + 1 := by unfold wrap64; omega
      have h80 := step80_len l f
      obtain ⟨⟨m, l', f'⟩, hst⟩ : ∃ t, step 80 l f = t := ⟨_, rfl⟩
      have HB := Lib.hid (fun W (hW : W = wr) => bytesS g l f 80 W (hW ▸ hI.rd))
      rw [hst] at HB h80
      simp only at HB h80
      have Hst := Lib.hid hst
      have Hrow := Lib.hid (fun (A5 : Option Addr) (c5 : Nat) W => row_any A5 m c5 W (by omega))
      have hno := Lib.hid (show rowB m = false → R = none from fun h => hI.no hlt (by rw [hst]; exact h))
      have HI := Lib.hid hI
      have bW := hI.bel
      clear hI hst h80
      cases sm with
      | true =>
        cases hrw : rowB m with
        | false =>
          have hv := Lib.hid (hno.out hrw)
          rw [hrw] at Hrow
          clear hrw hno
          go_wp2_with (first
          | (go_at_call 36; refine (size_any 32 _ (by decide) (by decide)).mono ?_; rintro e w4 ⟨rfl, rfl⟩)
          | (go_at_call 35; refine (HB.out _ rfl).mono ?_; rintro e w5 ⟨h5, k5, A5, c5, rfl, o5⟩; have y5 := blk_keep HI.out.blk k5 (by have := Hgg.out; simp; omega); have y0 := y5.cell (k := k) (by rw [HI.out.xl]; exact hlt); have yf := y5.free k; have HX := Lib.hid (show Keep [g] wr w5 ∧ Blk w5 gO xs from ⟨k5, y5⟩); clear k5 y5; have H5 := Lib.hid h5; clear h5)
          | (go_at_call 23; refine (Hrow.out A5 c5 _).mono ?_; rintro e w6 ⟨rfl, rfl⟩))
          go_ret2
          rw [hv.out]
          exact ⟨rfl, dec_bel HI.out hlt Hgg.out HwO.out HX.out.1⟩
        | true =>
          have Hrw := Lib.hid hrw
          rw [hrw] at Hrow
          clear hrw hno
          go_wp2_with (first
          | (go_at_call 36; refine (size_any 32 _ (by decide) (by decide)).mono ?_; rintro e w4 ⟨rfl, rfl⟩)
          | (go_at_call 35; refine (HB.out _ rfl).mono ?_; rintro e w5 ⟨h5, k5, A5, c5, rfl, o5⟩; have y5 := blk_keep HI.out.blk k5 (by have := Hgg.out; simp; omega); have y0 := y5.cell (k := k) (by rw [HI.out.xl]; exact hlt); have yf := y5.free k; have HX := Lib.hid (show Keep [g] wr w5 ∧ Blk w5 gO xs from ⟨k5, y5⟩); clear k5 y5; have H5 := Lib.hid h5; clear h5)
          | (go_at_call 23; refine (Hrow.out A5 c5 _).mono ?_; rintro e w6 ⟨rfl, rfl⟩))
          case roundEnd =>
            exact ⟨⟨k + 1, _, l', f', _, rs ++ [m], by omega, rfl, by first | rfl | (rw [hwk]; rfl), HI.out.next hlt HwO.out (by have := HwO.out; have := Hgg.out; omega) (by have := Hgg.out; omega) Hst.out Hrw.out H5.out HX.out.1 o5 Hgg.out⟩, by first | (simp only [intOf]; omega) | (rw [hwk]; simp only [intOf]; omega)⟩
      | false =>
        by_cases hm0 : m = []
        · subst hm0
          clear hno
          have hrw : rowB [] = true := rfl
          rw [hrw] at Hrow
          clear hrw
          go_wp2_with (first
          | (go_at_call 36; refine (size_any 32 _ (by decide) (by decide)).mono ?_; rintro e w4 ⟨rfl, rfl⟩)
          | (go_at_call 35; refine (HB.out _ rfl).mono ?_; rintro e w5 ⟨h5, k5, A5, c5, rfl, o5⟩; have y5 := blk_keep HI.out.blk k5 (by have := Hgg.out; simp; omega); have y0 := y5.cell (k := k) (by rw [HI.out.xl]; exact hlt); have yf := y5.free k; have HX := Lib.hid (show Keep [g] wr w5 ∧ Blk w5 gO xs from ⟨k5, y5⟩); clear k5 y5; have H5 := Lib.hid h5; clear h5)
          | (go_at_call 23; refine (Hrow.out A5 c5 _).mono ?_; rintro e w6 ⟨rfl, rfl⟩))
          case roundEnd =>
            exact ⟨⟨k + 1, _, l', f', _, rs ++ [[]], by omega, rfl, by first | rfl | (rw [hwk]; rfl), HI.out.next (m := []) hlt HwO.out (by have := HwO.out; have := Hgg.out; omega) (by have := Hgg.out; omega) Hst.out rfl H5.out HX.out.1 o5 Hgg.out⟩, by first | (simp only [intOf]; omega) | (rw [hwk]; simp only [intOf]; omega)⟩
        · have t0 : (0 : Int) < (m.length : Int) := by
            have := List.length_pos_iff.2 hm0
            omega
          clear hm0
          cases hrw : rowB m with
          | false =>
            have hv := Lib.hid (hno.out hrw)
            rw [hrw] at Hrow
            clear hrw hno
            go_wp2_with (first
            | (go_at_call 36; refine (size_any 32 _ (by decide) (by decide)).mono ?_; rintro e w4 ⟨rfl, rfl⟩)
            | (go_at_call 35; refine (HB.out _ rfl).mono ?_; rintro e w5 ⟨h5, k5, A5, c5, rfl, o5⟩; have y5 := blk_keep HI.out.blk k5 (by have := Hgg.out; simp; omega); have y0 := y5.cell (k := k) (by rw [HI.out.xl]; exact hlt); have yf := y5.free k; have HX := Lib.hid (show Keep [g] wr w5 ∧ Blk w5 gO xs from ⟨k5, y5⟩); clear k5 y5; have H5 := Lib.hid h5; clear h5)
            | (go_at_call 23; refine (Hrow.out A5 c5 _).mono ?_; rintro e w6 ⟨rfl, rfl⟩))
            go_ret2
            rw [hv.out]
            exact ⟨rfl, dec_bel HI.out hlt Hgg.out HwO.out HX.out.1⟩
          | true =>
            have Hrw := Lib.hid hrw
            rw [hrw] at Hrow
            clear hrw hno
            go_wp2_with (first
            | (go_at_call 36; refine (size_any 32 _ (by decide) (by decide)).mono ?_; rintro e w4 ⟨rfl, rfl⟩)
            | (go_at_call 35; refine (HB.out _ rfl).mono ?_; rintro e w5 ⟨h5, k5, A5, c5, rfl, o5⟩; have y5 := blk_keep HI.out.blk k5 (by have := Hgg.out; simp; omega); have y0 := y5.cell (k := k) (by rw [HI.out.xl]; exact hlt); have yf := y5.free k; have HX := Lib.hid (show Keep [g] wr w5 ∧ Blk w5 gO xs from ⟨k5, y5⟩); clear k5 y5; have H5 := Lib.hid h5; clear h5)
            | (go_at_call 23; refine (Hrow.out A5 c5 _).mono ?_; rintro e w6 ⟨rfl, rfl⟩))
            case roundEnd =>
              exact ⟨⟨k + 1, _, l', f', _, rs ++ [m], by omega, rfl, by first | rfl | (rw [hwk]; rfl), HI.out.next hlt HwO.out (by have := HwO.out; have := Hgg.out; omega) (by have := Hgg.out; omega) Hst.out Hrw.out H5.out HX.out.1 o5 Hgg.out⟩, by first | (simp only [intOf]; omega) | (rw [hwk]; simp only [intOf]; omega)⟩
    · have hkn : ¬ (k : Int) < (n : Int) := by omega
      have hkk : k = n := by omega
      have hrel := hI.rel
      rw [hkk, Nat.sub_self] at hrel
      unfold decL at hrel
      simp only [List.append_nil] at hrel
      have HN := Lib.hid (fun W (hW : W = wr) => end_any g l f W (hW ▸ hI.rd))
      obtain ⟨F, hF⟩ : ∃ F, F = endF l f := ⟨_, rfl⟩
      rw [← hF] at hrel
      have hF' : Read.endF l f = F := hF.symm
      rw [hF'] at HN
      have hsm := hI.sm
      have HI := Lib.hid hI
      have bW := hI.bel
      have hlen : rs.length = n := by rw [hI.len, hkk]
      have Hlen := Lib.hid hlen
      clear hI hF hF' hkk hlen
      by_cases hf : F = 0
      rotate_left
      · have hv := Lib.hid (show R = none by rw [hrel, if_neg (fun h => hf h.1)])
        have t0 := bne_yes hf
        clear hrel hf hsm
        go_wp2_with (go_at_call 37; refine (HN.out _ rfl).mono ?_; rintro e w5 ⟨rfl, rfl⟩)
        go_ret2
        rw [hv.out]
        exact ⟨rfl, bW⟩
      subst hf
      cases sm with
      | false =>
        have hv := Lib.hid (show R = none by rw [hrel, if_neg (fun h => by rw [← hsm] at h; exact absurd h.2 (by simp))])
        clear hrel hsm
        go_wp2_with (go_at_call 37; refine (HN.out _ rfl).mono ?_; rintro e w5 ⟨rfl, rfl⟩)
        go_ret2
        rw [hv.out]
        exact ⟨rfl, bW⟩
      | true =>
        have hv := Lib.hid (show R = some rs by rw [hrel, if_pos ⟨rfl, hsm.symm⟩])
        clear hrel hsm
        go_wp2_with (go_at_call 37; refine (HN.out _ rfl).mono ?_; rintro e w5 ⟨rfl, rfl⟩)
        go_ret2
        rw [hv.out]
        exact ⟨some ⟨gO, 0, none⟩, n, by rw [Hlen.out]; rfl, HI.out.rws, by rw [Hlen.out]; exact Nat.le_refl n, bW⟩
end Go.Proofs.YtnfhlnkbkfgihaaDoor.Nod

/- Nodes: EncodeLeaf. No statement is proved here. -/
namespace Go.Proofs.YtnfhlnkbkfgihaaDoor.Nod
open Go.RowKit
open Go.Proofs.YtnfhlnkbkfgihaaDoor.Nam (nameB)
open Go.Proofs.YtnfhlnkbkfgihaaDoor.Utf (Tabs)
open Go.Proofs.YtnfhlnkbkfgihaaDoor.Wire (WAt Wrote bytes_any text_any out_any field field_few)
set_option linter.unusedVariables false
set_option maxRecDepth 100000
def elV (s x : List UInt8) : List UInt8 := if leafB nameB s x = true then leafE s x else []
def elF (s x : List UInt8) : Int := if leafB nameB s x = true then 0 else 2
set_option maxHeartbeats 1000000 in
theorem encleaf_any (s x : List UInt8) (A : Option Addr) (c : Nat) (w : World) (hT : Tabs w) (hr : Rd w w.heap.size A (x.map e8)) (hx : x.length ≤ 1000) (hs : s.length ≤ 1000) (hc : x.length ≤ c) :
    Calls Tryd.prog 9 #[.string ⟨s.toArray⟩, .slice A x.length c] w (EncRet w (elV s x) (elF s x)) := by
  have HL := Lib.hid (leaf_any s x A x.length c w hT rfl (by omega) (by omega))
  clear hT
  cases hb : leafB nameB s x with
  | false =>
    rw [hb] at HL
    rw [show elV s x = [] by unfold elV; rw [hb]; rfl, show elF s x = 2 by unfold elF; rw [hb]; rfl]
    clear hb hr
    go_enter Tryd.func9, Tryd.ntmps9
    go_wp2_with (go_at_call 29; refine (HL.out).mono ?_; rintro e w1 ⟨rfl, b1⟩)
    go_ret2
    exact EncRet.no b1
  | true =>
    rw [hb] at HL
    by_cases h0 : s = []
    · subst h0
      rw [show elV [] x = [] by unfold elV; rw [hb]; rfl, show elF [] x = 0 by unfold elF; rw [hb]; rfl]
      clear hb hr
      go_enter Tryd.func9, Tryd.ntmps9
      go_wp2_with (go_at_call 29; refine (HL.out).mono ?_; rintro e w1 ⟨rfl, b1⟩)
      go_ret2
      exact EncRet.no b1
    · rw [show elF s x = 0 by unfold elF; rw [hb]; rfl]
      obtain ⟨V, hV⟩ : ∃ V, V = elV s x := ⟨_, rfl⟩
      rw [← hV]
      have HV := Lib.hid (show [] ++ field s ++ field x = V by rw [hV, elV, if_pos hb, leafE, if_neg h0, field_fld (by omega), field_fld (by omega)]; rfl)
      have hfs := Lib.hid (show ([] ++ field s).length ≤ 1000000000 by rw [field_fld (by omega), List.nil_append, fld_len]; omega)
      have hVl : V.length ≤ 1000000000 := by rw [← HV.out, field_fld (by omega), field_fld (by omega), List.nil_append, List.length_append, fld_len, fld_len]; omega
      have hne := emp_no h0
      have HR := Lib.hid hr
      have hs6 : s.length ≤ 65535 := by omega
      have hx6 : x.length ≤ 65535 := by omega
      clear hb hV h0 hr
      go_enter Tryd.func9, Tryd.ntmps9
      go_wp2_with (first
        | (go_at_call 29; refine (HL.out).mono ?_; rintro e w1 ⟨rfl, b1⟩; have hw0 := WAt.new w1 53; have hl0 := le_alloc (Nat.le_refl w1.heap.size) (.cells #[.slice none 0 0] 53); have bl0 := bt b1 (b1alloc w1 (.cells #[.slice none 0 0] 53)))
        | (go_at_call 30; refine (text_any w1.heap.size w1.heap.size [] s _ rfl _ _ hw0 hl0 (by simp) hs6).mono ?_; rintro e w2 ⟨rfl, fp2, hw2, k2, f2⟩; have hg2 := hw2.ge; have bl2 := bl0.trans (k2.below (fun j hj => by simp at hj; subst hj; exact b1.size) bl0.size); have hsz2 := Nat.le_of_lt (hw2.lt _ hw2.mem))
        | (go_at_call 27; refine (bytes_any w1.heap.size w1.heap.size ([] ++ field s) x fp2 A _ c _ rfl hw2 (RdN.of (HR.out.below bl2) (fun j hj => Nat.le_trans b1.size (hg2 j hj)) bl2.size) hsz2 hfs.out hx6 hc).mono ?_; rintro e w3 ⟨rfl, fp3, hw3, k3, f3⟩; rw [HV.out] at hw3; have bl3 := bl2.trans (k3.below (fun j hj => Nat.le_trans b1.size (hg2 j hj)) bl2.size))
        | (go_at_call 28; refine (out_any w1.heap.size w1.heap.size V fp3 _ hw3 hVl).mono ?_; rintro e w4 ⟨A4, c4, rfl, h4, b4⟩))
      go_ret2
      exact ⟨A4, c4, rfl, own_base h4 bl3.size, bt bl3 b4⟩
end Go.Proofs.YtnfhlnkbkfgihaaDoor.Nod

/- Nodes: light, the document's Right and Bytes. No statement is proved here. -/
namespace Go.Proofs.YtnfhlnkbkfgihaaDoor.Nod
open Go.RowKit
open Go.Proofs.YtnfhlnkbkfgihaaDoor.Geom (right lo hi)
set_option linter.unusedVariables false
set_option maxRecDepth 100000
def lightB (l : List (List UInt8)) : Bool := decide (l.length ≤ 20) && l.all fun b => decide (b.length ≤ 600)
theorem all_at {p : List UInt8 → Bool} {l : List (List UInt8)} (h : ∀ j (hj : j < l.length), p l[j] = true) : l.all p = true := by
  rw [List.all_eq_true]
  intro b hb
  obtain ⟨j, hj, rfl⟩ := List.mem_iff_getElem.1 hb
  exact h j hj
theorem all_not {p : List UInt8 → Bool} {l : List (List UInt8)} {k : Nat} (hk : k < l.length) (h : p l[k] = false) : l.all p = false := by
  cases ha : l.all p with
  | false => rfl
  | true => rw [List.all_eq_true.1 ha _ (List.getElem_mem hk)] at h; cases h
set_option maxHeartbeats 1000000 in
theorem light_any (A : Option Addr) (l : List (List UInt8)) (c : Nat) (w : World) (hr : Rws w w.heap.size A l) (hl : l.length ≤ maxLen) :
    Calls Tryd.prog 6 #[.slice A l.length c] w fun e w' => e = .returned (.bool (lightB l)) ∧ w = w' := by
  unfold maxLen at hl
  obtain ⟨R, hR⟩ : ∃ R, R = lightB l := ⟨_, rfl⟩
  rw [← hR]
  have HR := Lib.hid hR
  clear hR
  by_cases h20 : l.length ≤ 20
  · have t0 : ¬ (20 : Int) < (l.length : Int) := by omega
    have Hv := Lib.hid (show R = l.all fun b => decide (b.length ≤ 600) by rw [HR.out, lightB, decide_eq_true h20]; rfl)
    go_enter Tryd.func6, Tryd.ntmps6
    go_wp2_with fail
    go_loopw [3] (fun i wr => ∃ k : Nat, k ≤ l.length ∧ i = .int .i64 k ∧ wr = w ∧ Hid (∀ j (hj : j < l.length), j < k → decide (l[j].length ≤ 600) = true)) (fun i _ => l.length - (intOf i).toNat)
    case atStart => exact ⟨0, by omega, rfl, rfl, Lib.hid fun j hj h => by omega⟩
    case round =>
      obtain ⟨k, hk, rfl, rfl, hall⟩ := hrel
      by_cases hlt : k < l.length
      · obtain ⟨b, off, Ai, ci, rfl, hbl, hc, _, _, _⟩ := hr.get hlt
        have hkn : (k : Int) < (l.length : Int) := by omega
        have hwk : wrap64 ((k : Int) + 1) = (k : Int) + 1 := by unfold wrap64; omega
        obtain ⟨m, hm⟩ : ∃ m, m = l[k].length := ⟨_, rfl⟩
        rw [← hm] at hc
        have Hm := Lib.hid hm
        clear hm
        by_cases h6 : m ≤ 600
        · have t1 : ¬ (600 : Int) < (m : Int) := by omega
          go_wp2_with fail
          go_roundw
          case rel => exact ⟨k + 1, by omega, by first | rfl | (rw [hwk]; rfl), by first | trivial | rfl, Lib.hid fun j hj h => by
            rcases (show j < k ∨ j = k by omega) with h1 | h1
            · exact hall.out j hj h1
            · subst h1; exact decide_eq_true (by have := Hm.out; omega)⟩
          case measure => first | (simp only [intOf]; omega) | (rw [hwk]; simp only [intOf]; omega)
        · have t1 : (600 : Int) < (m : Int) := by omega
          have hf := Lib.hid (show false = R by rw [Hv.out]; exact (all_not hlt (decide_eq_false (by have := Hm.out; omega))).symm)
          go_wp2_with fail
          go_ret
          exact ⟨ret_bool hf.out, rfl⟩
      · have hkn : ¬ (k : Int) < (l.length : Int) := by omega
        have hf := Lib.hid (show true = R by rw [Hv.out]; exact (all_at fun j hj => hall.out j hj (by omega)).symm)
        go_wp2_with fail
        go_ret
        exact ⟨ret_bool hf.out, rfl⟩
  · have t0 : (20 : Int) < (l.length : Int) := by omega
    have Hv := Lib.hid (show false = R by rw [HR.out, lightB, decide_eq_false h20]; rfl)
    go_enter Tryd.func6, Tryd.ntmps6
    go_wp2_with fail
    go_ret
    exact ⟨ret_bool Hv.out, rfl⟩
set_option maxHeartbeats 1000000 in
theorem rright28_any (ga gd gl : Int) (A : Option Addr) (l : List (List UInt8)) (c : Nat) (w : World) (ha0 : lo ≤ ga) (ha1 : ga ≤ hi) (hd0 : lo ≤ gd) (hd1 : gd ≤ hi) (hg0 : lo ≤ gl) (hg1 : gl ≤ hi) (hr : Rws w w.heap.size A l) (hl : l.length ≤ 1000) (hb : ∀ b ∈ l, b.length ≤ 1000000) :
    Calls Tryd.prog 10 #[.agg #[.int .i64 ga, .int .i64 gd, .int .i64 gl], .slice A l.length c] w fun e w' => e = .returned (.bool (l.all rowB && (right ga gd gl && decide ((l.length : Int) = ga)))) ∧ Below w.heap.size w w' := by
  have FG := Blk.new w [.int .i64 ga, .int .i64 gd, .int .i64 gl] 23
  obtain ⟨wg, hwg⟩ : ∃ wg, wg = w.alloc (.cells #[.int .i64 ga, .int .i64 gd, .int .i64 gl] 23) := ⟨_, rfl⟩
  have bw : Below w.heap.size w wg := by rw [hwg]; exact b1alloc _ _
  have FG' : Blk wg w.heap.size [.int .i64 ga, .int .i64 gd, .int .i64 gl] := by rw [hwg]; exact FG
  have HWg := Lib.hid hwg
  obtain ⟨R, hR⟩ : ∃ R, R = (l.all rowB && (right ga gd gl && decide ((l.length : Int) = ga))) := ⟨_, rfl⟩
  rw [← hR]
  have HR := Lib.hid hR
  have HRw := Lib.hid hr
  have HLb := Lib.hid hb
  have HG := Lib.hid (fun W => Geom.rright_any ga gd gl W ha0 ha1 hd0 hd1 hg0 hg1)
  clear hR hr FG
  go_enter Tryd.func10, Tryd.ntmps10
  go_wp2_with fail
  rw [← HWg.out]
  have z0 := FG'.cell (k := 0) (by simp)
  have z1 := FG'.cell (k := 1) (by simp)
  have z2 := FG'.cell (k := 2) (by simp)
  simp only [List.getElem_cons_zero, List.getElem_cons_succ] at z0 z1 z2
  have HF := Lib.hid FG'
  clear hwg FG' hb ha0 ha1 hd0 hd1 hg0 hg1
  go_loopw [5] (fun i wr => ∃ k : Nat, k ≤ l.length ∧ i = .int .i64 k ∧ wr = wg ∧ Hid (∀ j (hj : j < l.length), j < k → rowB l[j] = true)) (fun i _ => l.length - (intOf i).toNat)
  case atStart => exact ⟨0, by omega, rfl, rfl, Lib.hid fun j hj h => by omega⟩
  case round =>
    obtain ⟨k, hk, rfl, rfl, hall⟩ := hrel
    by_cases hlt : k < l.length
    · obtain ⟨b, off, Ai, ci, rfl, hbl, hc, _, _, _⟩ := (HRw.out.on bw).get hlt
      have hkn : (k : Int) < (l.length : Int) := by omega
      have hwk : wrap64 ((k : Int) + 1) = (k : Int) + 1 := by unfold wrap64; omega
      have hst := Lib.hid (show rowB l[k] = false → false = R from fun h => by rw [HR.out, all_not hlt h]; rfl)
      have hgo := Lib.hid (show rowB l[k] = true → ∀ j (hj : j < l.length), j < k + 1 → rowB l[j] = true from fun hh j hj h => by
        rcases (show j < k ∨ j = k by omega) with h1 | h1
        · exact hall.out j hj h1
        · subst h1; exact hh)
      have h7 := HLb.out _ (List.getElem_mem hlt)
      have hrb : rowB l[k] = (decide (l[k].length = 0) || decide (l[k].length = 80)) := rfl
      obtain ⟨m, hm⟩ : ∃ m, m = l[k].length := ⟨_, rfl⟩
      rw [← hm] at hc h7 hrb
      have Hrb := Lib.hid hrb
      clear hm hrb
      by_cases h0 : m = 0
      · have t1 : ((m : Int) != 0) = false := bne_no (by omega)
        have hf := Lib.hid (hgo.out (by rw [Hrb.out, decide_eq_true h0]; rfl))
        clear hgo hst
        go_wp2_with fail
        go_roundw
        case rel => exact ⟨k + 1, by omega, by first | rfl | (rw [hwk]; rfl), by first | trivial | rfl, hf⟩
        case measure => first | (simp only [intOf]; omega) | (rw [hwk]; simp only [intOf]; omega)
      · have t1 : ((m : Int) != 0) = true := bne_yes (by omega)
        by_cases h8 : m = 80
        · have t2 : ((m : Int) != 80) = false := bne_no (by omega)
          have hf := Lib.hid (hgo.out (by rw [Hrb.out, decide_eq_true h8]; simp))
          clear hgo hst h0
          go_wp2_with fail
          go_roundw
          case rel => exact ⟨k + 1, by omega, by first | rfl | (rw [hwk]; rfl), by first | trivial | rfl, hf⟩
          case measure => first | (simp only [intOf]; omega) | (rw [hwk]; simp only [intOf]; omega)
        · have t2 : ((m : Int) != 80) = true := bne_yes (by omega)
          have hf := Lib.hid (hst.out (by rw [Hrb.out, decide_eq_false h0, decide_eq_false h8]; rfl))
          clear hgo hst h0 h8
          go_wp2_with fail
          go_ret
          exact ⟨ret_bool hf.out, bw⟩
    · have hkn : ¬ (k : Int) < (l.length : Int) := by omega
      have hv := Lib.hid (show R = (right ga gd gl && decide ((l.length : Int) = ga)) by rw [HR.out, all_at fun j hj => hall.out j hj (by omega)]; rfl)
      cases hq : right ga gd gl with
      | false =>
        rw [hq] at HG
        have hf := Lib.hid (show false = R by rw [hv.out, hq]; rfl)
        go_wp2_with (go_at_call 19; refine (HG.out _).mono ?_; rintro e w1 ⟨rfl, b1⟩)
        go_ret
        exact ⟨ret_bool hf.out, bt bw b1⟩
      | true =>
        rw [hq] at HG
        by_cases hln : (l.length : Int) = ga
        · have t1 := beq_yes hln
          have hf := Lib.hid (show true = R by rw [hv.out, hq, decide_eq_true hln]; rfl)
          clear hln
          go_wp2_with (go_at_call 19; refine (HG.out _).mono ?_; rintro e w1 ⟨rfl, b1⟩; clear z0 z1 z2; have z0 := (HF.out.on b1).cell (k := 0) (by simp); simp only [List.getElem_cons_zero] at z0)
          go_ret
          exact ⟨ret_bool hf.out, bt bw b1⟩
        · have t1 := beq_no hln
          have hf := Lib.hid (show false = R by rw [hv.out, hq, decide_eq_false hln]; rfl)
          clear hln
          go_wp2_with (go_at_call 19; refine (HG.out _).mono ?_; rintro e w1 ⟨rfl, b1⟩; clear z0 z1 z2; have z0 := (HF.out.on b1).cell (k := 0) (by simp); simp only [List.getElem_cons_zero] at z0)
          go_ret
          exact ⟨ret_bool hf.out, bt bw b1⟩
end Go.Proofs.YtnfhlnkbkfgihaaDoor.Nod

/- Nodes: what must come at any rate. No statement is proved here. -/
namespace Go.Proofs.YtnfhlnkbkfgihaaDoor.Nod
open Go.RowKit
open Go.Proofs.YtnfhlnkbkfgihaaDoor.Geom (right lo hi)
set_option linter.unusedVariables false
set_option maxRecDepth 100000
theorem right213 : right 2 1 3 = true := by decide
set_option maxHeartbeats 1000000 in
theorem alive_any (w : World) : Calls Tryd.prog 7 #[] w fun e w' => e = .returned (.bool true) ∧ Below w.heap.size w w' := by
  have FG := Blk.new w [.int .i64 2, .int .i64 1, .int .i64 3] 23
  obtain ⟨wg, hwg⟩ : ∃ wg, wg = w.alloc (.cells #[.int .i64 2, .int .i64 1, .int .i64 3] 23) := ⟨_, rfl⟩
  have bw : Below w.heap.size w wg := by rw [hwg]; exact b1alloc _ _
  have FG' : Blk wg w.heap.size [.int .i64 2, .int .i64 1, .int .i64 3] := by rw [hwg]; exact FG
  have z0 := FG.cell (k := 0) (by simp)
  have z1 := FG.cell (k := 1) (by simp)
  have z2 := FG.cell (k := 2) (by simp)
  simp only [List.getElem_cons_zero, List.getElem_cons_succ] at z0 z1 z2
  have hRw := Rws.repl (n := 2) (Blk.new (w.alloc (.cells #[.int .i64 2, .int .i64 1, .int .i64 3] 23)) [.slice none 0 0, .slice none 0 0] 25)
  have hsz : (w.alloc (.cells #[.int .i64 2, .int .i64 1, .int .i64 3] 23)).heap.size = w.heap.size + 1 := by simp
  rw [hsz] at hRw
  obtain ⟨wb, hwb⟩ : ∃ wb, wb = (w.alloc (.cells #[.int .i64 2, .int .i64 1, .int .i64 3] 23)).alloc (.cells #[.slice none 0 0, .slice none 0 0] 25) := ⟨_, rfl⟩
  have bb : Below w.heap.size w wb := by rw [hwb]; exact bt (b1alloc _ _) (b1alloc _ _)
  have FB : Blk wb w.heap.size [.int .i64 2, .int .i64 1, .int .i64 3] := by rw [hwb]; exact FG.alloc _
  have HRw := Lib.hid (show Rws wb wb.heap.size (some ⟨w.heap.size + 1, 0, none⟩) [[], []] by rw [hwb]; exact hRw)
  have HWb := Lib.hid hwb
  have HFB := Lib.hid FB
  have HEn := Lib.hid (nenc_any 2 1 3 (some ⟨w.heap.size + 1, 0, none⟩) [[], []] 2 wb (by decide) (by decide) (by decide) (by decide) (by decide) (by decide) HRw.out (by simp) (by intro b hb; simp at hb; subst hb; simp))
  rw [show encV 2 1 3 [[], []] = [] from rfl, show encF 2 1 3 [[], []] = 0 from rfl] at HEn
  have HDe := Lib.hid (fun W => dec_any 2 1 3 [] none 0 W (by decide) (by decide) (by decide) (by decide) right213 (Rd.nil _ _ _) (by simp))
  rw [show dcR 2 [] = some [[], []] from rfl] at HDe
  clear hRw hsz hwb FB FG FG' bw hwg wg
  go_enter Tryd.func7, Tryd.ntmps7
  go_wp2_with fail
  rw [← HWb.out]
  refine HEn.out.mono ?_
  rintro e w1 ⟨A1, c1, rfl, h1, b1⟩
  have F1 := HFB.out.on b1
  have y0 := F1.cell (k := 0) (by simp)
  have y1 := F1.cell (k := 1) (by simp)
  have y2 := F1.cell (k := 2) (by simp)
  simp only [List.getElem_cons_zero, List.getElem_cons_succ] at y0 y1 y2
  clear F1 z0 z1 z2 h1
  go_wp2_with (first
    | (go_at_call 15; refine (HDe.out _).mono ?_; rintro e w2 ⟨A2, c2, rfl, h2, h3, b2⟩; clear h2)
    | (go_at_call 18; refine (empty_any _ _ _ _).mono ?_; rintro e w3 ⟨rfl, rfl⟩))
  go_ret
  exact ⟨rfl, bt (bt bb b1) b2⟩
end Go.Proofs.YtnfhlnkbkfgihaaDoor.Nod

/- Nodes: the document's Take as a total answer, and OfLeaf. No statement is proved here. -/
namespace Go.Proofs.YtnfhlnkbkfgihaaDoor.Nod
open Go.RowKit
open Go.Proofs.YtnfhlnkbkfgihaaDoor.Nam (nameB)
set_option linter.unusedVariables false
set_option maxRecDepth 100000
/-- what is taken, and what is left -/
def tkR (z : Nat) (l : List UInt8) : List UInt8 × List UInt8 := match rdF z l with
  | some (m, r) => (m, r)
  | none => ([], l)
def TkRet (w : World) (B : Nat) (l m r : List UInt8) (e : Ending) (w' : World) : Prop := Below w.heap.size w w' ∧ ∃ (k : Int) (A : Option Addr) (c sz : Nat) (ok : Bool), e = .returned (.tuple #[.agg #[.int .i64 k, .int .i64 0, .int .u64 0, .slice A m.length c], .int .i64 (sz : Int), .bool ok]) ∧ Rd w B A (m.map e8) ∧ m.length ≤ c ∧ c ≤ maxLen ∧ sz ≤ l.length ∧ r = l.drop sz ∧ m.length ≤ l.length
theorem tk_any (A : Option Addr) (l : List UInt8) (n cap : Nat) (z : Nat) (hz : z ≤ 100000) (w : World) (hn : n = l.length) (B : Nat) (hB : B ≤ w.heap.size) (hr : Rd w B A (l.map e8)) (hl : l.length ≤ 100000) (hc : l.length ≤ cap) (hcm : cap ≤ maxLen) :
    Calls Tryd.prog 39 #[.slice A n cap, .int .i64 2, .int .i64 (z : Int)] w (TkRet w B l (tkR z l).1 (tkR z l).2) := by
  refine (take_any A l n cap z hz w hn B hB hr hl hc hcm).mono ?_
  intro e w' h
  unfold tkR
  cases hq : rdF z l with
  | none =>
    rw [hq] at h
    obtain ⟨rfl, b⟩ := h
    exact ⟨b, 0, none, 0, 0, false, rfl, Rd.nil _ _ _, Nat.le_refl _, by unfold maxLen; omega, Nat.zero_le _, rfl, Nat.zero_le _⟩
  | some t =>
    obtain ⟨m, r⟩ := t
    rw [hq] at h
    obtain ⟨b, A1, c1, rfl, h1, h2, h3, h4, h5⟩ := h
    exact ⟨b, 2, A1, c1, 2 + m.length, true, by simp only [Int.natCast_add]; rfl, h1, h2, h3, h5, h4, by show m.length ≤ l.length; omega⟩
theorem tkR_len (z : Nat) (l : List UInt8) : (tkR z l).1.length ≤ l.length ∧ (tkR z l).2.length ≤ l.length := by
  unfold tkR
  cases h : rdF z l with
  | none => simp
  | some t =>
    obtain ⟨m, r⟩ := t
    have := congrArg List.length (rdF_some h).1
    rw [List.length_append, fld_len] at this
    simp only
    omega
theorem ref_leaf (b : List UInt8) : refLeaf nameB b = if leafB nameB (tkR 65535 b).1 (tkR 65535 (tkR 65535 b).2).1 = true ∧ leafE (tkR 65535 b).1 (tkR 65535 (tkR 65535 b).2).1 = b then some ((tkR 65535 b).1, (tkR 65535 (tkR 65535 b).2).1) else none := rfl
def OlRet (w : World) (e : Ending) (w' : World) : Option (List UInt8 × List UInt8) → Prop
  | none => e = .returned (.tuple #[.string ⟨#[]⟩, .slice none 0 0, .bool false]) ∧ Below w.heap.size w w'
  | some (s, x) => ∃ A c, e = .returned (.tuple #[.string ⟨s.toArray⟩, .slice A x.length c, .bool true]) ∧ Rd w' w'.heap.size A (x.map e8) ∧ x.length ≤ c ∧ Below w.heap.size w w'
set_option maxHeartbeats 2000000 in
theorem ofleaf_any (b : List UInt8) (A : Option Addr) (c : Nat) (w : World) (hr : Rd w w.heap.size A (b.map e8)) (hb : b.length ≤ 1000) (hc : b.length ≤ c) (hcm : c ≤ maxLen) :
    Calls Tryd.prog 17 #[.slice A b.length c] w fun e w' => OlRet w e w' (refLeaf nameB b) := by
  obtain ⟨r, hr0⟩ : ∃ r, r = refLeaf nameB b := ⟨_, rfl⟩
  rw [← hr0]
  rw [ref_leaf] at hr0
  have HT := Lib.hid (tk_any A b b.length c 65535 (by omega) w rfl w.heap.size (Nat.le_refl _) hr (by omega) hc hcm)
  obtain ⟨⟨S, R⟩, hs1⟩ : ∃ t, t = tkR 65535 b := ⟨_, rfl⟩
  rw [← hs1] at hr0 HT
  simp only at hr0 HT
  obtain ⟨⟨X, R2⟩, hs2⟩ : ∃ t, t = tkR 65535 R := ⟨_, rfl⟩
  have HT2 := Lib.hid (fun A' n cap W hn hrd hl h1 h2 => tk_any A' R n cap 65535 (by omega) W hn W.heap.size (Nat.le_refl _) hrd hl h1 h2)
  rw [← hs2] at hr0 HT2
  simp only at hr0 HT2
  have hSl : S.length ≤ b.length ∧ R.length ≤ b.length := by have := tkR_len 65535 b; rw [← hs1] at this; exact this
  have hXl : X.length ≤ R.length := by have := tkR_len 65535 R; rw [← hs2] at this; exact this.1
  have HL := Lib.hid (fun W A' c' => rightleaf_any S X A' X.length c' W rfl (by omega) (by omega))
  have HLb := Lib.hid (fun W (hW : Below w.heap.size w W) A' c' hrd hcc => leafbytes_any S X A' c' W hrd (by omega) (by omega) hcc)
  obtain ⟨V, hV⟩ : ∃ V, V = leafE S X := ⟨_, rfl⟩
  have hVl : V.length ≤ 10000 := by
    rw [hV]; unfold leafE; split
    · simp
    · rw [List.length_append, fld_len, fld_len]; omega
  rw [← hV] at hr0 HLb
  have HSa := Lib.hid (fun W C c2 c9 (hW : Below w.heap.size w W) (hC : Rd W W.heap.size C (V.map e8)) => R1.same_any C A V b V.length b.length c2 c9 W rfl rfl hC (hr.on hW) (by omega) (by omega))
  have HR0 := Lib.hid hr0
  have HRd := Lib.hid hr
  have HRl := Lib.hid hSl
  clear hr0 hV hs1 hs2 hr hVl hSl hXl
  go_enter Tryd.func17, Tryd.ntmps17
  go_wp2_with fail
  refine HT.out.mono ?_
  rintro e w1 ⟨b1, k, A1, c1, sz, ok, rfl, q1, q2, q3, q4, q5, q6⟩
  have HqR := Lib.hid q5
  have Hq1 := Lib.hid q1
  clear q5 q1
  go_wp2_with fail
  · refine (HT2.out _ (b.length - sz) _ _ (by rw [HqR.out, List.length_drop]) (by rw [show R = [] from by rw [HqR.out, List.drop_of_length_le (by omega)]]; exact Rd.nil _ _ _) (by have := HRl.out.2; omega) (by rw [HqR.out, List.length_drop]; omega) (by first | exact Nat.zero_le _ | exact Nat.le_trans (Nat.sub_le _ _) hcm)).mono ?_
    rintro e w2 ⟨b2, k2, A2, c2, sz2, ok2, rfl, p1, p2, p3, p4, p5, p6⟩
    have FA := ((Blk.new w1 [.int .i64 k, .int .i64 0, .int .u64 0, .slice A1 S.length c1] 68).on b2).alloc (.cells #[.int .i64 k2, .int .i64 0, .int .u64 0, .slice A2 X.length c2] 68)
    have FB := Blk.new w2 [.int .i64 k2, .int .i64 0, .int .u64 0, .slice A2 X.length c2] 68
    have zA := FA.cell (k := 3) (by simp)
    have zB := FB.cell (k := 3) (by simp)
    simp only [List.getElem_cons_zero, List.getElem_cons_succ] at zA zB
    have HlA := Lib.hid (show _ ∧ _ from ⟨FA.lt, FB.lt⟩)
    have HbA := Lib.hid (bt (bt b1 (b1alloc w1 (.cells #[.int .i64 k, .int .i64 0, .int .u64 0, .slice A1 S.length c1] 68))) (bt b2 (b1alloc w2 (.cells #[.int .i64 k2, .int .i64 0, .int .u64 0, .slice A2 X.length c2] 68))))
    have HqA := Lib.hid (Hq1.out.on HbA.out)
    have HqB := Lib.hid (p1.on (bt b2 (b1alloc w2 (.cells #[.int .i64 k2, .int .i64 0, .int .u64 0, .slice A2 X.length c2] 68))))
    have hcv := run_conv_rd (P := Tryd.prog) 25 9 5 S.length c1 rfl Tryd.underlying25 Tryd.underlying5 Tryd.underlying9 HqA.out
    clear FA FB p1 p5
    cases hl : leafB nameB S X with
    | false =>
      have hv := Lib.hid (show r = none by rw [HR0.out, hl]; rfl)
      rw [hl] at HL
      clear hl HR0
      go_wp2_with (first
        | (go_at_call 13; refine (HL.out _ A2 c2).mono ?_; rintro e w3 ⟨rfl, b3⟩; have y5 := (World.cell?_of_block (b3.block _ HlA.out.1)).trans zA; have y8 := (World.cell?_of_block (b3.block _ HlA.out.2)).trans zB; have hcv3 := run_conv_rd (P := Tryd.prog) 25 9 5 S.length c1 rfl Tryd.underlying25 Tryd.underlying5 Tryd.underlying9 (HqA.out.on b3); have hb3 := bt HbA.out b3)
        | (go_at_call 14; (refine (HLb.out _ hb3 A2 c2 (HqB.out.on b3) p2).mono ?_; rintro e w4 ⟨A4, c4, rfl, h4, b4⟩; have hb4 := bt hb3 b4; have H4 := Lib.hid h4; clear h4))
        | (go_at_call 11; refine (HSa.out _ A4 c4 _ hb4 (Rd.own H4.out)).mono ?_; rintro e w5 ⟨rfl, b5⟩; have hb5 := bt hb4 b5; have bb := bt b3 (bt b4 b5); have x5 := (World.cell?_of_block (bb.block _ HlA.out.1)).trans zA; have x8 := (World.cell?_of_block (bb.block _ HlA.out.2)).trans zB; have hcv5 := run_conv_rd (P := Tryd.prog) 25 9 5 S.length c1 rfl Tryd.underlying25 Tryd.underlying5 Tryd.underlying9 (HqA.out.on bb)))
      go_ret3
      rw [hv.out]
      exact ⟨rfl, hb3⟩
    | true =>
      rw [hl] at HL
      cases hs : R1.sameB V b with
      | false =>
        have hv := Lib.hid (show r = none by rw [HR0.out, if_neg (fun h => by rw [h.2, R1.sameB_self] at hs; cases hs)])
        rw [hs] at HSa
        clear hl hs HR0
        go_wp2_with (first
        | (go_at_call 13; refine (HL.out _ A2 c2).mono ?_; rintro e w3 ⟨rfl, b3⟩; have y5 := (World.cell?_of_block (b3.block _ HlA.out.1)).trans zA; have y8 := (World.cell?_of_block (b3.block _ HlA.out.2)).trans zB; have hcv3 := run_conv_rd (P := Tryd.prog) 25 9 5 S.length c1 rfl Tryd.underlying25 Tryd.underlying5 Tryd.underlying9 (HqA.out.on b3); have hb3 := bt HbA.out b3)
        | (go_at_call 14; (refine (HLb.out _ hb3 A2 c2 (HqB.out.on b3) p2).mono ?_; rintro e w4 ⟨A4, c4, rfl, h4, b4⟩; have hb4 := bt hb3 b4; have H4 := Lib.hid h4; clear h4))
        | (go_at_call 11; refine (HSa.out _ A4 c4 _ hb4 (Rd.own H4.out)).mono ?_; rintro e w5 ⟨rfl, b5⟩; have hb5 := bt hb4 b5; have bb := bt b3 (bt b4 b5); have x5 := (World.cell?_of_block (bb.block _ HlA.out.1)).trans zA; have x8 := (World.cell?_of_block (bb.block _ HlA.out.2)).trans zB; have hcv5 := run_conv_rd (P := Tryd.prog) 25 9 5 S.length c1 rfl Tryd.underlying25 Tryd.underlying5 Tryd.underlying9 (HqA.out.on bb)))
        go_ret3
        rw [hv.out]
        exact ⟨rfl, hb5⟩
      | true =>
        have hv := Lib.hid (show r = some (S, X) by rw [HR0.out, hl, if_pos ⟨rfl, by simpa [R1.sameB] using hs⟩])
        rw [hs] at HSa
        clear hl hs HR0
        go_upto_region 5 with (first
        | (go_at_call 13; refine (HL.out _ A2 c2).mono ?_; rintro e w3 ⟨rfl, b3⟩; have y5 := (World.cell?_of_block (b3.block _ HlA.out.1)).trans zA; have y8 := (World.cell?_of_block (b3.block _ HlA.out.2)).trans zB; have hcv3 := run_conv_rd (P := Tryd.prog) 25 9 5 S.length c1 rfl Tryd.underlying25 Tryd.underlying5 Tryd.underlying9 (HqA.out.on b3); have hb3 := bt HbA.out b3)
        | (go_at_call 14; (refine (HLb.out _ hb3 A2 c2 (HqB.out.on b3) p2).mono ?_; rintro e w4 ⟨A4, c4, rfl, h4, b4⟩; have hb4 := bt hb3 b4; have H4 := Lib.hid h4; clear h4))
        | (go_at_call 11; refine (HSa.out _ A4 c4 _ hb4 (Rd.own H4.out)).mono ?_; rintro e w5 ⟨rfl, b5⟩; have hb5 := bt hb4 b5; have bb := bt b3 (bt b4 b5); have x5 := (World.cell?_of_block (bb.block _ HlA.out.1)).trans zA; have x8 := (World.cell?_of_block (bb.block _ HlA.out.2)).trans zB; have hcv5 := run_conv_rd (P := Tryd.prog) 25 9 5 S.length c1 rfl Tryd.underlying25 Tryd.underlying5 Tryd.underlying9 (HqA.out.on bb)))
        have hcv6 := run_conv_rd (P := Tryd.prog) (w := w5.drew) 25 9 5 S.length c1 rfl Tryd.underlying25 Tryd.underlying5 Tryd.underlying9 ((HqA.out.on bb).on ((Below.refl _ _).drew))
        have HqB5 := Lib.hid ((HqB.out.on bb).on (Below.refl _ _).drew)
        clear hcv hcv3 hcv5 y5 y8 zA zB
        go_region
        go_wp2_with fail
        go_ret3
        rw [hv.out]
        exact ⟨A2, c2, rfl, HqB5.out, p2, bdrew hb5 _⟩
  · refine (HT2.out _ (b.length - sz) _ _ (by rw [HqR.out, List.length_drop]) (by rw [HqR.out, List.map_drop]; exact (HRd.out.on (bt b1 (b1alloc _ _))).drop sz) (by have := HRl.out.2; omega) (by rw [HqR.out, List.length_drop]; omega) (by first | exact Nat.zero_le _ | exact Nat.le_trans (Nat.sub_le _ _) hcm)).mono ?_
    rintro e w2 ⟨b2, k2, A2, c2, sz2, ok2, rfl, p1, p2, p3, p4, p5, p6⟩
    have FA := ((Blk.new w1 [.int .i64 k, .int .i64 0, .int .u64 0, .slice A1 S.length c1] 68).on b2).alloc (.cells #[.int .i64 k2, .int .i64 0, .int .u64 0, .slice A2 X.length c2] 68)
    have FB := Blk.new w2 [.int .i64 k2, .int .i64 0, .int .u64 0, .slice A2 X.length c2] 68
    have zA := FA.cell (k := 3) (by simp)
    have zB := FB.cell (k := 3) (by simp)
    simp only [List.getElem_cons_zero, List.getElem_cons_succ] at zA zB
    have HlA := Lib.hid (show _ ∧ _ from ⟨FA.lt, FB.lt⟩)
    have HbA := Lib.hid (bt (bt b1 (b1alloc w1 (.cells #[.int .i64 k, .int .i64 0, .int .u64 0, .slice A1 S.length c1] 68))) (bt b2 (b1alloc w2 (.cells #[.int .i64 k2, .int .i64 0, .int .u64 0, .slice A2 X.length c2] 68))))
    have HqA := Lib.hid (Hq1.out.on HbA.out)
    have HqB := Lib.hid (p1.on (bt b2 (b1alloc w2 (.cells #[.int .i64 k2, .int .i64 0, .int .u64 0, .slice A2 X.length c2] 68))))
    have hcv := run_conv_rd (P := Tryd.prog) 25 9 5 S.length c1 rfl Tryd.underlying25 Tryd.underlying5 Tryd.underlying9 HqA.out
    clear FA FB p1 p5
    cases hl : leafB nameB S X with
    | false =>
      have hv := Lib.hid (show r = none by rw [HR0.out, hl]; rfl)
      rw [hl] at HL
      clear hl HR0
      go_wp2_with (first
        | (go_at_call 13; refine (HL.out _ A2 c2).mono ?_; rintro e w3 ⟨rfl, b3⟩; have y5 := (World.cell?_of_block (b3.block _ HlA.out.1)).trans zA; have y8 := (World.cell?_of_block (b3.block _ HlA.out.2)).trans zB; have hcv3 := run_conv_rd (P := Tryd.prog) 25 9 5 S.length c1 rfl Tryd.underlying25 Tryd.underlying5 Tryd.underlying9 (HqA.out.on b3); have hb3 := bt HbA.out b3)
        | (go_at_call 14; (refine (HLb.out _ hb3 A2 c2 (HqB.out.on b3) p2).mono ?_; rintro e w4 ⟨A4, c4, rfl, h4, b4⟩; have hb4 := bt hb3 b4; have H4 := Lib.hid h4; clear h4))
        | (go_at_call 11; refine (HSa.out _ A4 c4 _ hb4 (Rd.own H4.out)).mono ?_; rintro e w5 ⟨rfl, b5⟩; have hb5 := bt hb4 b5; have bb := bt b3 (bt b4 b5); have x5 := (World.cell?_of_block (bb.block _ HlA.out.1)).trans zA; have x8 := (World.cell?_of_block (bb.block _ HlA.out.2)).trans zB; have hcv5 := run_conv_rd (P := Tryd.prog) 25 9 5 S.length c1 rfl Tryd.underlying25 Tryd.underlying5 Tryd.underlying9 (HqA.out.on bb)))
      go_ret3
      rw [hv.out]
      exact ⟨rfl, hb3⟩
    | true =>
      rw [hl] at HL
      cases hs : R1.sameB V b with
      | false =>
        have hv := Lib.hid (show r = none by rw [HR0.out, if_neg (fun h => by rw [h.2, R1.sameB_self] at hs; cases hs)])
        rw [hs] at HSa
        clear hl hs HR0
        go_wp2_with (first
        | (go_at_call 13; refine (HL.out _ A2 c2).mono ?_; rintro e w3 ⟨rfl, b3⟩; have y5 := (World.cell?_of_block (b3.block _ HlA.out.1)).trans zA; have y8 := (World.cell?_of_block (b3.block _ HlA.out.2)).trans zB; have hcv3 := run_conv_rd (P := Tryd.prog) 25 9 5 S.length c1 rfl Tryd.underlying25 Tryd.underlying5 Tryd.underlying9 (HqA.out.on b3); have hb3 := bt HbA.out b3)
        | (go_at_call 14; (refine (HLb.out _ hb3 A2 c2 (HqB.out.on b3) p2).mono ?_; rintro e w4 ⟨A4, c4, rfl, h4, b4⟩; have hb4 := bt hb3 b4; have H4 := Lib.hid h4; clear h4))
        | (go_at_call 11; refine (HSa.out _ A4 c4 _ hb4 (Rd.own H4.out)).mono ?_; rintro e w5 ⟨rfl, b5⟩; have hb5 := bt hb4 b5; have bb := bt b3 (bt b4 b5); have x5 := (World.cell?_of_block (bb.block _ HlA.out.1)).trans zA; have x8 := (World.cell?_of_block (bb.block _ HlA.out.2)).trans zB; have hcv5 := run_conv_rd (P := Tryd.prog) 25 9 5 S.length c1 rfl Tryd.underlying25 Tryd.underlying5 Tryd.underlying9 (HqA.out.on bb)))
        go_ret3
        rw [hv.out]
        exact ⟨rfl, hb5⟩
      | true =>
        have hv := Lib.hid (show r = some (S, X) by rw [HR0.out, hl, if_pos ⟨rfl, by simpa [R1.sameB] using hs⟩])
        rw [hs] at HSa
        clear hl hs HR0
        go_upto_region 5 with (first
        | (go_at_call 13; refine (HL.out _ A2 c2).mono ?_; rintro e w3 ⟨rfl, b3⟩; have y5 := (World.cell?_of_block (b3.block _ HlA.out.1)).trans zA; have y8 := (World.cell?_of_block (b3.block _ HlA.out.2)).trans zB; have hcv3 := run_conv_rd (P := Tryd.prog) 25 9 5 S.length c1 rfl Tryd.underlying25 Tryd.underlying5 Tryd.underlying9 (HqA.out.on b3); have hb3 := bt HbA.out b3)
        | (go_at_call 14; (refine (HLb.out _ hb3 A2 c2 (HqB.out.on b3) p2).mono ?_; rintro e w4 ⟨A4, c4, rfl, h4, b4⟩; have hb4 := bt hb3 b4; have H4 := Lib.hid h4; clear h4))
        | (go_at_call 11; refine (HSa.out _ A4 c4 _ hb4 (Rd.own H4.out)).mono ?_; rintro e w5 ⟨rfl, b5⟩; have hb5 := bt hb4 b5; have bb := bt b3 (bt b4 b5); have x5 := (World.cell?_of_block (bb.block _ HlA.out.1)).trans zA; have x8 := (World.cell?_of_block (bb.block _ HlA.out.2)).trans zB; have hcv5 := run_conv_rd (P := Tryd.prog) 25 9 5 S.length c1 rfl Tryd.underlying25 Tryd.underlying5 Tryd.underlying9 (HqA.out.on bb)))
        have hcv6 := run_conv_rd (P := Tryd.prog) (w := w5.drew) 25 9 5 S.length c1 rfl Tryd.underlying25 Tryd.underlying5 Tryd.underlying9 ((HqA.out.on bb).on ((Below.refl _ _).drew))
        have HqB5 := Lib.hid ((HqB.out.on bb).on (Below.refl _ _).drew)
        clear hcv hcv3 hcv5 y5 y8 zA zB
        go_region
        go_wp2_with fail
        go_ret3
        rw [hv.out]
        exact ⟨A2, c2, rfl, HqB5.out, p2, bdrew hb5 _⟩
end Go.Proofs.YtnfhlnkbkfgihaaDoor.Nod

/- Nodes: the document's bytes of rows. No statement is proved here. -/
namespace Go.Proofs.YtnfhlnkbkfgihaaDoor.Nod
open Go.RowKit
set_option linter.unusedVariables false
set_option maxRecDepth 100000
theorem flds_few (l : List (List UInt8)) (h : ∀ b ∈ l, b.length ≤ 1000) : (l.flatMap fld).length ≤ 1002 * l.length := by
  induction l with
  | nil => simp
  | cons m l ih =>
    have h1 := h m (by simp)
    have h2 := ih (fun b hb => h b (by simp [hb]))
    rw [List.flatMap_cons, List.length_append, fld_len, List.length_cons]; omega
set_option maxHeartbeats 2000000 in
theorem rowbytes_any (A : Option Addr) (l : List (List UInt8)) (c : Nat) (w : World) (hr : Rws w w.heap.size A l) (hl : l.length ≤ 1000) (hb : ∀ b ∈ l, b.length ≤ 1000) :
    Calls Tryd.prog 12 #[.slice A l.length c] w fun e w' => RetB 5 w (encB l) e w' := by
  obtain ⟨i0, hi0, hz0, hz1, hz2⟩ := info_parts R1.info8
  obtain ⟨V, hV⟩ : ∃ V, V = encB l := ⟨_, rfl⟩
  rw [← hV]
  have HV := Lib.hid hV
  have HRw := Lib.hid hr
  have HLb := Lib.hid hb
  have HFl := Lib.hid (fun k (hk : k ≤ l.length) => show ((l.take k).flatMap fld).length ≤ 10000000 from by
    have h1 := flds_few (l.take k) (fun b hb' => hb b (List.mem_of_mem_take hb'))
    rw [List.length_take] at h1
    omega)
  clear hV hr hb
  go_enter Tryd.func12, Tryd.ntmps12
  go_wp2_with fail
  go_loopw [3, 4, 5] (fun v sm i wr => ∃ (k : Nat) (sb : Bool) (n : Nat) (S : List UInt8), k ≤ l.length ∧ i = .int .i64 k ∧ sm = .bool sb ∧ Below w.heap.size w wr ∧ wr.ownsRow w.heap.size 5 1 v n (S.map e8) ∧ n ≤ 10000000 ∧ Hid (n = S.length ∧ S = (l.take k).flatMap fld ∧ sb = someB (l.take k))) (fun _ _ i _ => l.length - (intOf i).toNat)
  case atStart => exact ⟨0, false, 0, [], by omega, rfl, rfl, Below.refl _ _, own_nil _ _ _ _, by omega, Lib.hid ⟨rfl, rfl, rfl⟩⟩
  case round =>
    obtain ⟨k, sb, n, S, hk, rfl, rfl, bW, hown, hn, hid⟩ := hrel
    by_cases hlt : k < l.length
    · obtain ⟨b, off, Ai, ci, rfl, hbl, hc, hrd, hci, _⟩ := HRw.out.get hlt
      have hkn : (k : Int) < (l.length : Int) := by omega
      have hwk : wrap64 ((k : Int) + 1) = (k : Int) + 1 := by unfold wrap64; omega
      have h6 := HLb.out _ (List.getElem_mem hlt)
      obtain ⟨m, hm⟩ : ∃ m, m = l[k] := ⟨_, rfl⟩
      have htk : l.take (k + 1) = l.take k ++ [m] := by rw [List.take_succ_eq_append_getElem hlt, hm]
      have hfs : ((l.take (k + 1)).flatMap fld).length ≤ 10000000 := HFl.out (k + 1) hlt
      rw [← hm] at hc hrd hci h6
      have hcA := Lib.hid (fun W (hW : Below w.heap.size w W) => (World.cell?_of_block (hW.block b hbl)).trans hc)
      have z0 := hcA.out wr bW
      have HF := Lib.hid (fun W (hW : Below w.heap.size w W) => field_any Ai m ci W (hrd.on hW) h6 hci)
      obtain ⟨F, hF⟩ : ∃ F, F = fld m := ⟨_, rfl⟩
      have hFl : F.length ≤ 1002 := by rw [hF, fld_len]; omega
      rw [← hF] at HF
      have hst := Lib.hid (show n + F.length = (S ++ F).length ∧ S ++ F = (l.take (k + 1)).flatMap fld ∧ someB (l.take (k + 1)) = (sb || decide (0 < m.length)) from ⟨by rw [List.length_append, hid.out.1], by rw [htk, List.flatMap_append, hid.out.2.1, hF]; simp, by rw [htk]; unfold someB; rw [List.any_append, hid.out.2.2]; unfold someB; simp⟩)
      have hnF : n + F.length ≤ 10000000 := by rw [hst.out.1, hst.out.2.1]; exact hfs
      have Hm := Lib.hid hm
      clear hm htk hfs hc hrd hF hid
      cases sb with
      | true =>
        go_wp2_with (first
          | (go_at_call 31; refine (HF.out _ bW).mono ?_; rintro e w3 ⟨A3, c3, rfl, h3, b3⟩; have bW3 := bt bW b3; have hown3 := own_on hown b3; have hr3 := Rd.own h3; have hbk := bW3.size; clear h3)
          | (at_builtin; refine wpList_append_rd _ rfl _ _ _ rfl w.heap.size 5 i0 _ 1 1 Tryd.underlying25 hi0 hz0 hz1 hz2 rfl (by omega) _ n _ rfl hown3 _ A3 F.length c3 (F.map e8) rfl (by simp) hr3 (e8_one _) (by simp only [maxLen]; omega) (by omega) hbk ?_; intro v5 w5 own5 hg5 hat5; have bW5 := bW3.grown hg5 bW3.size (fun g hg => own_block hown3 hg); have y0 := hcA.out w5 bW5))
        case roundEnd =>
          refine ⟨⟨k + 1, _, n + F.length, S ++ F, by omega, by first | rfl | (rw [hwk]; rfl), rfl, bW5, by rw [List.map_append]; exact own5, hnF, Lib.hid ⟨hst.out.1, hst.out.2.1, hst.out.2.2.symm⟩⟩, by first | (simp only [intOf]; omega) | (rw [hwk]; simp only [intOf]; omega)⟩
      | false =>
        by_cases hm0 : m = []
        · subst hm0
          go_wp2_with (first
            | (go_at_call 31; refine (HF.out _ bW).mono ?_; rintro e w3 ⟨A3, c3, rfl, h3, b3⟩; have bW3 := bt bW b3; have hown3 := own_on hown b3; have hr3 := Rd.own h3; have hbk := bW3.size; clear h3)
            | (at_builtin; refine wpList_append_rd _ rfl _ _ _ rfl w.heap.size 5 i0 _ 1 1 Tryd.underlying25 hi0 hz0 hz1 hz2 rfl (by omega) _ n _ rfl hown3 _ A3 F.length c3 (F.map e8) rfl (by simp) hr3 (e8_one _) (by simp only [maxLen]; omega) (by omega) hbk ?_; intro v5 w5 own5 hg5 hat5; have bW5 := bW3.grown hg5 bW3.size (fun g hg => own_block hown3 hg); have y0 := hcA.out w5 bW5))
          case roundEnd =>
            refine ⟨⟨k + 1, _, n + F.length, S ++ F, by omega, by first | rfl | (rw [hwk]; rfl), rfl, bW5, by rw [List.map_append]; exact own5, hnF, Lib.hid ⟨hst.out.1, hst.out.2.1, hst.out.2.2.symm⟩⟩, by first | (simp only [intOf]; omega) | (rw [hwk]; simp only [intOf]; omega)⟩
        · have t0 : (0 : Int) < (m.length : Int) := by
            have := List.length_pos_iff.2 hm0
            omega
          clear hm0
          go_wp2_with (first
            | (go_at_call 31; refine (HF.out _ bW).mono ?_; rintro e w3 ⟨A3, c3, rfl, h3, b3⟩; have bW3 := bt bW b3; have hown3 := own_on hown b3; have hr3 := Rd.own h3; have hbk := bW3.size; clear h3)
            | (at_builtin; refine wpList_append_rd _ rfl _ _ _ rfl w.heap.size 5 i0 _ 1 1 Tryd.underlying25 hi0 hz0 hz1 hz2 rfl (by omega) _ n _ rfl hown3 _ A3 F.length c3 (F.map e8) rfl (by simp) hr3 (e8_one _) (by simp only [maxLen]; omega) (by omega) hbk ?_; intro v5 w5 own5 hg5 hat5; have bW5 := bW3.grown hg5 bW3.size (fun g hg => own_block hown3 hg); have y0 := hcA.out w5 bW5))
          case roundEnd =>
            refine ⟨⟨k + 1, _, n + F.length, S ++ F, by omega, by first | rfl | (rw [hwk]; rfl), rfl, bW5, by rw [List.map_append]; exact own5, hnF, Lib.hid ⟨hst.out.1, hst.out.2.1, hst.out.2.2.symm⟩⟩, by first | (simp only [intOf]; omega) | (rw [hwk]; simp only [intOf]; omega)⟩
    · have hkn : ¬ (k : Int) < (l.length : Int) := by omega
      have hkk : l.take k = l := List.take_of_length_le (by omega)
      have h1 := hid.out
      rw [hkk] at h1
      obtain ⟨h1, h2, h3⟩ := h1
      have hn2 : n = V.length ∧ S = V ∨ sb = false := by
        cases sb with
        | false => exact .inr rfl
        | true => exact .inl (by
          have e : V = S := by rw [HV.out, encB, if_pos h3.symm, h2]
          exact ⟨by rw [e, h1], e.symm⟩)
      have Hid2 := Lib.hid (show sb = false → V = [] from fun e => by rw [HV.out, encB, ← h3, e]; rfl)
      clear h1 h2 h3 hkk hid
      cases sb with
      | false =>
        have hv := Hid2.out rfl
        clear Hid2 hn2
        subst hv
        go_wp2_with fail
        go_ret
        exact ⟨none, 0, rfl, own_nil _ _ _ _, bW⟩
      | true =>
        obtain ⟨A5, c5, rfl⟩ := own_form hown
        have HO := Lib.hid (show wr.ownsRow w.heap.size 5 1 (.slice A5 n c5) n (S.map e8) from hown)
        have hn3 := Lib.hid (hn2.resolve_right (by simp))
        clear hn2 Hid2 hown
        go_wp2_with fail
        go_ret
        have h7 := HO.out
        rw [hn3.out.1, hn3.out.2] at h7
        exact ⟨A5, c5, by rw [← hn3.out.1]; rfl, h7, bW⟩
end Go.Proofs.YtnfhlnkbkfgihaaDoor.Nod

/- Nodes: the document's Of: the rows of any bytes. No statement is proved here. -/
namespace Go.Proofs.YtnfhlnkbkfgihaaDoor.Nod
open Go.RowKit
open Go.Proofs.YtnfhlnkbkfgihaaDoor.Geom (right lo hi right_yes)
set_option linter.unusedVariables false
set_option maxRecDepth 100000
/-- one of the rows: where it lies, its bytes, its room -/
structure Oi where
  A : Option Addr
  body : List UInt8
  c : Nat
def Oi.sl (x : Oi) : Value := .slice x.A x.body.length x.c
def Oi.Ok (w : World) (x : Oi) : Prop := Rd w w.heap.size x.A (x.body.map e8) ∧ x.body.length ≤ x.c ∧ x.c ≤ maxLen
theorem Oi.Ok.on {w w' : World} {x : Oi} (h : Oi.Ok w x) (b : Below w.heap.size w w') : Oi.Ok w' x := ⟨h.1.on b, h.2⟩
theorem oi_rws {w w0 : World} {base : Nat} {A : Option Addr} {n c : Nat} {its : List Oi} (b : Below w0.heap.size w0 w) (h : w.ownsRow base 25 1 (.slice A n c) n (its.map Oi.sl)) (hall : ∀ x ∈ its, Oi.Ok w0 x) : Rws w w.heap.size A (its.map Oi.body) := by
  have hrd := Rd.own h
  intro hne
  have hne' : its.map Oi.sl ≠ [] := by intro e; apply hne; simp at e; simp [e]
  obtain ⟨b', off, rfl, hb, hc⟩ := hrd hne'
  refine ⟨b', off, rfl, hb, fun i hi => ?_⟩
  have hi' : i < its.length := by simpa using hi
  have h1 := hc i (by simpa using hi')
  rw [List.getElem_map] at h1
  have h2 := (hall _ (List.getElem_mem hi')).on b
  refine ⟨its[i].A, its[i].c, ?_, ?_, ?_, h2.2.2⟩
  · rw [h1]; simp [Oi.sl]
  · rw [List.getElem_map]; exact h2.1
  · rw [List.getElem_map]; exact h2.2.1
theorem takes_succ (n : Nat) (l : List UInt8) : takes (n + 1) l = (tkR 80 l).1 :: takes n (tkR 80 l).2 := by
  unfold tkR
  cases h : rdF 80 l with
  | none => conv => lhs; unfold takes; rw [h]
  | some t => obtain ⟨m, r⟩ := t; conv => lhs; unfold takes; rw [h]
theorem takes_short : ∀ (n : Nat) (l : List UInt8), ∀ b ∈ takes n l, b.length ≤ l.length
  | 0, l, b, h => by cases h
  | n + 1, l, b, h => by
    rw [takes_succ] at h
    have := tkR_len 80 l
    rcases List.mem_cons.1 h with e | e
    · rw [e]; exact this.1
    · have := takes_short n _ b e; omega
theorem rd_lit2 (w : World) (o : Obj) (v : Value) (t : TypeId) : Rd ((w.alloc o).alloc (.cells #[v] t)) (w.heap.size + 2) (some ⟨w.heap.size + 1, 0, none⟩) [v] := by
  have h := Rd.lit (w.alloc o) #[v] t [v] (w.heap.size + 2) rfl (by simp)
  simpa using h
def OfRet (w : World) (e : Ending) (w' : World) : Option (List (List UInt8)) → Prop
  | none => e = .returned (.tuple #[.slice none 0 0, .bool false]) ∧ Below w.heap.size w w'
  | some l => ∃ A c, e = .returned (.tuple #[.slice A l.length c, .bool true]) ∧ Rws w' w'.heap.size A l ∧ Below w.heap.size w w'
set_option maxHeartbeats 2000000 in
theorem of_any (n : Nat) (gd gl : Int) (b : List UInt8) (A : Option Addr) (c : Nat) (w : World) (hd0 : lo ≤ gd) (hd1 : gd ≤ hi) (hg0 : lo ≤ gl) (hg1 : gl ≤ hi) (hq : right (n : Int) gd gl = true) (hr : Rd w w.heap.size A (b.map e8)) (hb : b.length ≤ 1000) (hc : b.length ≤ c) (hcm : c ≤ maxLen) :
    Calls Tryd.prog 20 #[.agg #[.int .i64 (n : Int), .int .i64 gd, .int .i64 gl], .slice A b.length c] w fun e w' => OfRet w e w' (refOf n b) := by
  obtain ⟨q1, q2, _⟩ := right_yes hq
  have hn4 : n ≤ 4 := by omega
  obtain ⟨i0, hi0, hz0, hz1, hz2⟩ := info_parts infoS
  obtain ⟨r, hr0⟩ : ∃ r, r = refOf n b := ⟨_, rfl⟩
  rw [← hr0]
  have HR0 := Lib.hid hr0
  have HSh := Lib.hid (takes_short n b)
  have HRd := Lib.hid hr
  have HC := Lib.hid (show b.length ≤ c ∧ c ≤ maxLen from ⟨hc, hcm⟩)
  have HG := Lib.hid (show right (n : Int) gd gl = true ∧ lo ≤ gd ∧ gd ≤ hi ∧ lo ≤ gl ∧ gl ≤ hi from ⟨hq, hd0, hd1, hg0, hg1⟩)
  have FG := Lib.hid (Blk.new w [.int .i64 (n : Int), .int .i64 gd, .int .i64 gl] 23)
  have bw := b1alloc w (.cells #[.int .i64 (n : Int), .int .i64 gd, .int .i64 gl] 23)
  obtain ⟨wg, hwg⟩ : ∃ wg, wg = w.alloc (.cells #[.int .i64 (n : Int), .int .i64 gd, .int .i64 gl] 23) := ⟨_, rfl⟩
  have HWg := Lib.hid hwg
  have FG' := Lib.hid (show Blk wg w.heap.size [.int .i64 (n : Int), .int .i64 gd, .int .i64 gl] from by rw [hwg]; exact FG.out)
  have bw' := Lib.hid (show Below w.heap.size w wg by rw [hwg]; exact bw)
  clear hr0 hr hc hcm hq hd0 hd1 hg0 hg1 FG bw hwg q1 q2
  go_enter Tryd.func20, Tryd.ntmps20
  go_wp2_with fail
  rw [← HWg.out]
  go_loopw [6, 7, 8] (fun v rs i wr => ∃ (k : Nat) (its : List Oi) (A1 : Option Addr) (R : List UInt8) (c1 : Nat), k ≤ n ∧ i = .int .i64 (k : Int) ∧ rs = .slice A1 R.length c1 ∧ R.length ≤ 1000 ∧ wr.ownsRow wg.heap.size 25 1 v k (its.map Oi.sl) ∧ Hid (Below wg.heap.size wg wr ∧ Rd w w.heap.size A1 (R.map e8) ∧ R.length ≤ c1 ∧ c1 ≤ maxLen ∧ its.length = k ∧ (∀ x ∈ its, Oi.Ok w x) ∧ takes n b = its.map Oi.body ++ takes (n - k) R)) (fun _ _ i _ => n - (intOf i).toNat)
  case atStart => exact ⟨0, [], A, b, c, by omega, rfl, rfl, hb, own_nil _ _ _ _, Lib.hid ⟨Below.refl _ _, HRd.out, HC.out.1, HC.out.2, rfl, fun x h => by (cases h), rfl⟩⟩
  case round =>
    obtain ⟨k, its, A1, R, c1, hk, rfl, rfl, hRl, hown, hid⟩ := hrel
    have hwk : wrap64 ((k : Int) + 1) = (k : Int) + 1 := by unfold wrap64; omega
    have hzg := (FG'.out.on hid.out.1)
    have z0 := hzg.cell (k := 0) (by simp)
    have z1 := hzg.cell (k := 1) (by simp)
    have z2 := hzg.cell (k := 2) (by simp)
    simp only [List.getElem_cons_zero, List.getElem_cons_succ] at z0 z1 z2
    by_cases hlt : k < n
    · have hkn : (k : Int) < (n : Int) := by omega
      have hbwr := Lib.hid (bt bw'.out hid.out.1)
      have HT := Lib.hid (tk_any A1 R R.length c1 80 (by omega) wr rfl w.heap.size (hbwr.out.size) (hid.out.2.1.below hbwr.out) (by omega) hid.out.2.2.1 hid.out.2.2.2.1)
      have Htk := Lib.hid (show takes n b = its.map Oi.body ++ ((tkR 80 R).1 :: takes (n - (k + 1)) (tkR 80 R).2) from by rw [hid.out.2.2.2.2.2.2, show n - k = (n - (k + 1)) + 1 by omega, takes_succ])
      have HRl := Lib.hid (tkR_len 80 R)
      obtain ⟨⟨m, R2⟩, hm⟩ : ∃ t, t = tkR 80 R := ⟨_, rfl⟩
      rw [← hm] at HT Htk HRl
      simp only at HT Htk HRl
      obtain ⟨Ao, co, rfl⟩ := own_form hown
      have HO := Lib.hid hown
      have hR2 := HRl.out.2
      have hml := HRl.out.1
      clear hm hown hR2 hml
      go_wp2_with (first
        | (go_at_call 39; refine HT.out.mono ?_; rintro e w1 ⟨b1, k1, A2, c2, sz, ok, rfl, p1, p2, p3, p4, p5, p6⟩; have HP := Lib.hid (And.intro p1 (And.intro p2 (And.intro p3 (And.intro p4 (And.intro p5 p6))))); have FA := Blk.new w1 [.int .i64 k1, .int .i64 0, .int .u64 0, .slice A2 m.length c2] 68; have zA := FA.cell (k := 3) (by simp); simp only [List.getElem_cons_zero, List.getElem_cons_succ] at zA; have HL := Lib.hid (rd_lit2 w1 (.cells #[.int .i64 k1, .int .i64 0, .int .u64 0, .slice A2 m.length c2] 68) (.slice A2 m.length c2) 25); have Hb2 := Lib.hid (bt b1 (b2alloc w1 (.cells #[.int .i64 k1, .int .i64 0, .int .u64 0, .slice A2 m.length c2] 68) (.cells #[.slice A2 m.length c2] 25))); clear FA p1 p2 p3 p5 p6)
        | (at_builtin; go_loud (refine wpList_append_rd _ rfl _ _ _ rfl wg.heap.size 25 i0 _ 1 24 Tryd.underlying24 hi0 hz0 hz1 hz2 rfl (by omega) (.slice Ao k co) k (its.map Oi.sl) rfl (own_on HO.out Hb2.out) (w1.heap.size + 2) (some ⟨w1.heap.size + 1, 0, none⟩) 1 1 [.slice A2 m.length c2] rfl rfl HL.out (by simp [Value.oneCell']) (by simp only [maxLen]; omega) (by omega) (bt hid.out.1 Hb2.out).size ?_; intro v20 w20 own20 hg20 hat20; have Hown := Lib.hid own20; have Hb20 := Lib.hid ((bt hid.out.1 Hb2.out).grown hg20 (bt hid.out.1 Hb2.out).size (fun g hg => own_block (own_on HO.out Hb2.out) hg)); clear own20 hg20 hat20)))
      case roundEnd =>
        obtain ⟨p1, p2, p3, _, p5, p6⟩ := HP.out
        have hbk := hbwr.out
        refine ⟨⟨k + 1, its ++ [⟨A2, m, c2⟩], (if c1 = sz then A1 else A1.map fun x => x.add sz), R.drop sz, c1 - sz, hlt, rfl, by rw [List.length_drop], by rw [List.length_drop]; omega, by rw [List.map_append]; exact Hown.out, Lib.hid ⟨Hb20.out, ?_, ?_, ?_, ?_, ?_, ?_⟩⟩, ?_⟩
        · split
          · rename_i he
            have h9 := hid.out.2.2.1
            rw [List.drop_of_length_le (by omega)]; exact Rd.nil _ _ _
          · rw [List.map_drop]; exact hid.out.2.1.drop sz
        · rw [List.length_drop]; have := hid.out.2.2.1; omega
        · have := hid.out.2.2.2.1; omega
        · rw [List.length_append, hid.out.2.2.2.2.1]; rfl
        · intro x hx
          rcases List.mem_append.1 hx with hx | hx
          · exact hid.out.2.2.2.2.2.1 x hx
          · rw [List.mem_singleton] at hx
            rw [hx]
            exact ⟨p1.keep fun p hp => (hbk.cell hp).symm, p2, p3⟩
        · rw [Htk.out, List.map_append, List.append_assoc, p5]; rfl
        · simp only [intOf]; omega
    · have hkn : ¬ (k : Int) < (n : Int) := by omega
      obtain rfl : k = n := by omega
      obtain ⟨Ao, co, rfl⟩ := own_form hown
      have hbwr := Lib.hid (bt bw'.out hid.out.1)
      obtain ⟨T, hT⟩ : ∃ T, T = takes k b := ⟨_, rfl⟩
      have hTe : T = its.map Oi.body := by rw [hT, hid.out.2.2.2.2.2.2, Nat.sub_self]; simp [takes]
      have hTl : T.length = k := by rw [hTe, List.length_map, hid.out.2.2.2.2.1]
      have hTs : ∀ x ∈ T, x.length ≤ 1000 := fun x hx => by rw [hT] at hx; have := HSh.out x hx; omega
      have HW := Lib.hid (show Rws wr wr.heap.size Ao T from by rw [hTe]; exact oi_rws hbwr.out hown hid.out.2.2.2.2.2.1)
      have HRr := Lib.hid (show ∀ W, Below wr.heap.size wr W → Calls Tryd.prog 10 #[.agg #[.int .i64 (k : Int), .int .i64 gd, .int .i64 gl], .slice Ao k co] W fun e w' => e = .returned (.bool (T.all rowB)) ∧ Below W.heap.size W w' from fun W hW => by
        have h := rright28_any (k : Int) gd gl Ao T co W (by show (-9223372036854775808 : Int) ≤ _; omega) (by show _ ≤ (9223372036854775807 : Int); omega) HG.out.2.1 HG.out.2.2.1 HG.out.2.2.2.1 HG.out.2.2.2.2 (HW.out.on hW) (by omega) (fun x hx => by have := hTs x hx; omega)
        rw [HG.out.1, hTl, decide_eq_true rfl] at h
        simpa using h)
      have HRb := Lib.hid (show ∀ W, Below wr.heap.size wr W → Calls Tryd.prog 12 #[.slice Ao k co] W fun e w' => RetB 5 W (encB T) e w' from fun W hW => by
        have h := rowbytes_any Ao T co W (HW.out.on hW) (by omega) hTs
        rw [hTl] at h
        exact h)
      have hVl : (encB T).length ≤ 10000000 := by
        unfold encB
        split
        · have := flds_few T hTs; omega
        · simp
      have HRr0 := Lib.hid (show r = if T.all rowB = true ∧ encB T = b then some T else none by rw [HR0.out, hT]; rfl)
      have HTl := Lib.hid (show T.length = k ∧ ∀ x ∈ T, x.length ≤ 1000 from ⟨hTl, hTs⟩)
      obtain ⟨V, hV⟩ : ∃ V, V = encB T := ⟨_, rfl⟩
      rw [← hV] at HRb hVl HRr0
      have HSa := Lib.hid (fun W C c2 c9 (hW : Below w.heap.size w W) (hC : Rd W W.heap.size C (V.map e8)) => R1.same_any C A V b V.length b.length c2 c9 W rfl rfl hC (HRd.out.on hW) (by omega) (by omega))
      clear hT hTe hTl hTs hV hVl hown hid
      cases ha : T.all rowB with
      | false =>
        have hv := Lib.hid (show r = none by rw [HRr0.out, ha]; rfl)
        rw [ha] at HRr
        clear ha HRr0
        go_wp2_with (first
          | (go_at_call 10; refine (HRr.out _ (Below.refl _ _)).mono ?_; rintro e w3 ⟨rfl, b3⟩))
        go_ret2
        rw [hv.out]
        exact ⟨rfl, bt hbwr.out b3⟩
      | true =>
        rw [ha] at HRr
        cases hs : R1.sameB V b with
        | false =>
          have hv := Lib.hid (show r = none by rw [HRr0.out, if_neg (fun h => by rw [h.2, R1.sameB_self] at hs; cases hs)])
          rw [hs] at HSa
          clear ha hs HRr0
          go_wp2_with (first
            | (go_at_call 10; refine (HRr.out _ (Below.refl _ _)).mono ?_; rintro e w3 ⟨rfl, b3⟩)
            | (go_at_call 12; refine (HRb.out _ b3).mono ?_; rintro e w4 ⟨A4, c4, rfl, h4, b4⟩; have hb4 := bt hbwr.out (bt b3 b4); have H4 := Lib.hid h4; clear h4)
            | (go_at_call 11; refine (HSa.out _ A4 c4 _ hb4 (Rd.own H4.out)).mono ?_; rintro e w5 ⟨rfl, b5⟩; have hb5 := bt hb4 b5))
          go_ret2
          rw [hv.out]
          exact ⟨rfl, hb5⟩
        | true =>
          have hv := Lib.hid (show r = some T from by rw [HRr0.out, if_pos (And.intro ha (of_decide_eq_true (p := V = b) hs))])
          rw [hs] at HSa
          clear ha hs HRr0
          go_wp2_with (first
            | (go_at_call 10; refine (HRr.out _ (Below.refl _ _)).mono ?_; rintro e w3 ⟨rfl, b3⟩)
            | (go_at_call 12; refine (HRb.out _ b3).mono ?_; rintro e w4 ⟨A4, c4, rfl, h4, b4⟩; have hb4 := bt hbwr.out (bt b3 b4); have H4 := Lib.hid h4; clear h4)
            | (go_at_call 11; refine (HSa.out _ A4 c4 _ hb4 (Rd.own H4.out)).mono ?_; rintro e w5 ⟨rfl, b5⟩; have hb5 := bt hb4 b5; have HW5 := Lib.hid (HW.out.on (bt b3 (bt b4 b5)))))
          go_ret2
          rw [hv.out]
          exact ⟨Ao, co, by rw [HTl.out.1]; rfl, HW5.out, hb5⟩
end Go.Proofs.YtnfhlnkbkfgihaaDoor.Nod

/- The document's comparisons: rows of bytes, rows of numbers. -/
namespace Go.Proofs.YtnfhlnkbkfgihaaDoor.R20
open Go.RowKit
set_option linter.unusedVariables false
set_option maxRecDepth 100000
theorem take_snoc_eq {α : Type} {a b : List α} {k : Nat} (ha : k < a.length) (hb : k < b.length) : a.take (k + 1) = b.take (k + 1) ↔ (a.take k = b.take k ∧ a[k] = b[k]) := by
  rw [List.take_succ_eq_append_getElem ha, List.take_succ_eq_append_getElem hb]
  constructor
  · intro h
    have h1 := List.append_inj_left h (by simp; omega)
    have h2 := List.append_inj_right h (by simp; omega)
    exact ⟨h1, by simpa using h2⟩
  · rintro ⟨h1, h2⟩
    rw [h1, h2]
def Diffs (d : Bool) (e : Ending) : Prop := ∃ C k c, e = .returned (.slice C k c) ∧ (((k : Nat) : Int) == 0) = d
theorem infoI : (Tryd.prog.info? 3).map (fun i => (i.zero, i.size, i.bytes)) = some (some (.int .i64 0), 1, 8) := by kernel_rfl
set_option maxHeartbeats 1000000 in
theorem diff_any (A B : Option Addr) (a b : List (List UInt8)) (n m ca cb : Nat) (w : World) (ha : Rws w w.heap.size A a) (hb : Rws w w.heap.size B b) (hn : n = a.length) (hm : m = n) (hl : a.length = b.length) (hl1 : n ≤ 1000) (hla : ∀ x ∈ a, x.length ≤ 1000000) (hlb : ∀ x ∈ b, x.length ≤ 1000000) :
    Calls Tryd.prog 41 #[.slice A n ca, .slice B m cb] w fun e w' => Diffs (decide (a = b)) e ∧ Below w.heap.size w w' := by
  subst hm
  obtain ⟨i0, hi0, hz0, hz1, hz2⟩ := info_parts infoI
  have Hn := Lib.hid hn
  have HL := Lib.hid hl
  clear hn hl
  go_enter Tryd.func41, Tryd.ntmps41
  go_wp2_with fail
  go_loopw [5, 6] (fun o i wr => ∃ k : Nat, k ≤ m ∧ i = .int .i64 (k : Int) ∧ Below w.heap.size w wr ∧ ∃ j xs, wr.ownsRow w.heap.size 3 1 o j xs ∧ j ≤ k ∧ Hid ((j = 0) ↔ a.take k = b.take k)) (fun _ i _ => m - (intOf i).toNat)
  case atStart => exact ⟨0, by omega, rfl, Below.refl _ _, 0, [], own_nil _ _ _ _, Nat.le_refl _, Lib.hid (by simp)⟩
  case round =>
    obtain ⟨k, hk, rfl, bel, j, xs, hown, hjk, hj⟩ := hrel
    have hmx : max (m : Int) (m : Int) = (m : Int) := by omega
    have hwk : wrap64 ((k : Int) + 1) = (k : Int) + 1 := by unfold wrap64; omega
    by_cases hlt : k < m
    · have hka : k < a.length := by have := Hn.out; omega
      have hkb : k < b.length := by have := Hn.out; have := HL.out; omega
      have hkm : (k : Int) < (m : Int) := by omega
      have hge : ¬ (m : Int) ≤ (k : Int) := by omega
      obtain ⟨b1, o1, A1, c1, rfl, hb1, hc1, hr1, _, _⟩ := (ha.below bel).get hka
      obtain ⟨b2, o2, A2, c2, rfl, hb2, hc2, hr2, _, _⟩ := (hb.below bel).get hkb
      have hS := fun W (bW : Below wr.heap.size wr W) => R1.same_any A1 A2 a[k] b[k] _ _ c1 c2 W rfl rfl ((hr1.below (bW.mono bel.size)).more (by have := bel.size; have := bW.size; omega)) ((hr2.below (bW.mono bel.size)).more (by have := bel.size; have := bW.size; omega)) (by have := hla _ (List.getElem_mem hka); omega) (by have := hlb _ (List.getElem_mem hkb); omega)
      have hst := take_snoc_eq hka hkb
      have hsame : R1.sameB a[k] b[k] = decide (a[k] = b[k]) := rfl
      obtain ⟨x, hx⟩ : ∃ x, x = a[k] := ⟨_, rfl⟩
      obtain ⟨y, hy⟩ : ∃ y, y = b[k] := ⟨_, rfl⟩
      rw [← hx, ← hy] at hS hst hsame
      rw [← hx] at hc1
      rw [← hy] at hc2
      have hb1' : b1 < wr.heap.size := by have := bel.size; omega
      have hb2' : b2 < wr.heap.size := by have := bel.size; omega
      by_cases he : x = y
      · rw [hsame, decide_eq_true he] at hS
        have HS := Lib.hid hS
        have Hst := Lib.hid hst
        have He := Lib.hid he
        clear hS hst hsame hx hy he hr1 hr2 ha hb
        go_wp2_with fail
        refine region_inb (by kernel_rfl) (by kernel_rfl) ?_
        have inbNe := InB.some
        have inbW := @wrap_small
        have inbU := IntKind.wrap_u8'
        repeat (refine wpQuiet_step (fun K hK => ?_); go_simp; first | (refine hK _ ?_; clear hK K) | (apply Exists.intro; refine ⟨?_, hK _ ?_⟩; (· (intro w' hw'; first | (go_at_call 11; refine (HS.out _ hw'.below).mono ?_; rintro e w1 ⟨rfl, b1⟩; exact ⟨rfl, hw'.on b1⟩) | (have hcw := hw'.cell; go_simp; exact rfl))); clear hK K))
        refine wpQuiet_nil ?_
        intro wq hq
        clear inbNe inbW inbU
        go_wp2
        case roundEnd => exact ⟨⟨k + 1, by omega, rfl, bt bel hq.below, j, xs, own_on hown hq.below, by omega, Lib.hid (by rw [hj.out, Hst.out]; exact ⟨fun h => ⟨h, He.out⟩, fun h => h.1⟩)⟩, by simp only [intOf]; omega⟩
      · rw [hsame, decide_eq_false he] at hS
        have HS := Lib.hid hS
        have Hst := Lib.hid hst
        have He := Lib.hid he
        clear hS hst hsame hx hy he hr1 hr2 ha hb
        obtain ⟨A5, c5, rfl⟩ := own_form hown
        go_wp2_with fail
        refine region_inb (by kernel_rfl) (by kernel_rfl) ?_
        have inbNe := InB.some
        have inbW := @wrap_small
        have inbU := IntKind.wrap_u8'
        repeat (refine wpQuiet_step (fun K hK => ?_); go_simp; first | (refine hK _ ?_; clear hK K) | (apply Exists.intro; refine ⟨?_, hK _ ?_⟩; (· (intro w' hw'; first | (go_at_call 11; refine (HS.out _ hw'.below).mono ?_; rintro e w1 ⟨rfl, b1⟩; exact ⟨rfl, hw'.on b1⟩) | (have hcw := hw'.cell; go_simp; exact rfl))); clear hK K))
        refine wpQuiet_nil ?_
        intro wq hq
        clear inbNe inbW inbU
        have own2 := own_on hown hq.below
        have hsz2 := hq.below.size
        go_wp2_with (refine wpList_append_rd _ rfl _ _ _ rfl w.heap.size 3 i0 _ 1 8 Tryd.underlying72 hi0 hz0 hz1 hz2 rfl (by omega) _ j xs rfl (own2.alloc _) (wq.heap.size + 1) (some ⟨wq.heap.size, 0, none⟩) 1 1 [.int .i64 (k : Int)] rfl rfl (Rd.lit wq _ _ _ _ rfl (by omega)) (one_int _ _) (by simp only [maxLen]; omega) (by omega) (le_alloc (Nat.le_trans bel.size hsz2) _) ?_; intro v2 w2 hown2 hg2 hat2)
        have bel2 : Below w.heap.size w w2 := by
          refine ((bt bel hq.below).alloc (Nat.le_trans bel.size hsz2) _).grown hg2 (le_alloc (Nat.le_trans bel.size hsz2) _) (fun g hg => ?_)
          exact own_block hown hg
        case roundEnd => exact ⟨⟨k + 1, by omega, rfl, bel2, j + 1, _, hown2, by omega, Lib.hid ⟨fun h => absurd h (by omega), fun h => absurd (Hst.out.1 h).2 He.out⟩⟩, by simp only [intOf]; omega⟩
    · have hkm : k = m := by omega
      have hkn : ¬ (k : Int) < (m : Int) := by omega
      obtain ⟨A5, c5, rfl⟩ := own_form hown
      have Hk := Lib.hid hkm
      clear hkm
      go_wp2
      go_ret
      refine ⟨⟨A5, j, c5, rfl, ?_⟩, bel⟩
      have h1 := hj.out
      have h2 := Hk.out
      have h3 := Hn.out
      have h4 := HL.out
      rw [List.take_of_length_le (by omega), List.take_of_length_le (by omega)] at h1
      by_cases hj0 : j = 0
      · rw [beq_yes (by omega), decide_eq_true (h1.1 hj0)]
      · rw [beq_no (by omega), decide_eq_false (fun e => hj0 (h1.2 e))]
theorem rows_any (A B : Option Addr) (a b : List (List UInt8)) (n m ca cb : Nat) (w : World) (ha : Rws w w.heap.size A a) (hb : Rws w w.heap.size B b) (hn : n = a.length) (hm : m = b.length) (hl1 : n ≤ 1000) (hla : ∀ x ∈ a, x.length ≤ 1000000) (hlb : ∀ x ∈ b, x.length ≤ 1000000) :
    Calls Tryd.prog 21 #[.slice A n ca, .slice B m cb] w fun e w' => e = .returned (.bool (decide (a = b))) ∧ Below w.heap.size w w' := by
  by_cases hl : n = m
  · have HD := Lib.hid (diff_any A B a b n m ca cb w ha hb hn hl.symm (by omega) hl1 hla hlb)
    obtain ⟨d, hd⟩ : ∃ d, d = decide (a = b) := ⟨_, rfl⟩
    rw [← hd] at HD ⊢
    have t0 := bne_no (show (n : Int) = (m : Int) by omega)
    clear ha hb hn hm hd hl hla hlb
    go_enter Tryd.func21, Tryd.ntmps21
    go_wp2_with (go_at_call 41; refine HD.out.mono ?_; rintro e w1 ⟨⟨C, k, c, rfl, hk⟩, b1⟩)
    go_ret
    exact ⟨by first | rfl | exact ret_bool hk, b1⟩
  · have hne : decide (a = b) = false := decide_eq_false (fun e => hl (by rw [hn, hm, e]))
    rw [hne]
    have t0 := bne_yes (show (n : Int) ≠ (m : Int) by omega)
    clear ha hb hn hm hl hla hlb hne
    go_enter Tryd.func21, Tryd.ntmps21
    go_wp2
    go_ret
    exact ⟨rfl, Below.refl _ _⟩
end Go.Proofs.YtnfhlnkbkfgihaaDoor.R20

/- What the rows' list of the library's tables gives; a world that bears them; a slice of runes as an argument. -/
namespace Go.Proofs.YtnfhlnkbkfgihaaDoor
open Go.ChangeShapes Go.WideShapes Go.ChangeAt Go.RowKit Go.Joins
set_option linter.unusedVariables false
set_option maxRecDepth 100000
namespace Laid
theorem acc_eq : (Rows.laid_unicode_utf8_acceptRanges : DataW Unit) = Lib.acceptData := by kernel_rfl
theorem first_eq : Rows.laid_unicode_utf8_first = Lib.firstData := by kernel_rfl
theorem tab {W : World} (h : laidMetH Tryd.prog [("unicode/utf8.acceptRanges", Rows.laid_unicode_utf8_acceptRanges), ("unicode/utf8.first", Rows.laid_unicode_utf8_first)] W) : Utf.Tabs W := by
  rw [acc_eq, first_eq] at h
  exact utf8Tabs_of_readsT (ρ := Utf.laysDec_ren) ({ Utf.laysDec with } : U8Types Tryd.prog Utf.laysDec_ren) ⟨by kernel_rfl, by kernel_rfl, by kernel_rfl, by kernel_rfl, by kernel_rfl, by kernel_rfl, by kernel_rfl⟩ (Lib.laidMet.reads h (.tail _ (.head _))) (Lib.laidMet.reads h (.head _))
def put (h : Array Obj) (g : Nat) (cs : Array Value) : Array Obj := h.modify g fun
  | .cells _ t frozen => .cells cs t frozen
  | o => o
noncomputable def laidWorld (os : Os) : World :=
  { World.holding Tryd.prog os ⟨#[], #[], []⟩ with heap := put (put (World.holding Tryd.prog os ⟨#[], #[], []⟩).heap 0 (Lib.firstTab.map fun z => Value.int .u8 z).toArray) 1 ((List.range 16).flatMap fun i => [Value.int .u8 (Lib.accLo i), Value.int .u8 (Lib.accHi i)]).toArray }
end Laid
theorem runes_of {w : World} {A : Option Addr} {len cap : Nat} {E : Type} {P : Program} {enc : TypeId × Value → E} {t e : TypeId} {spare : Nat → Bool} {held : Bool} {fuel : Nat} {x : DataW E × List MemPlace}
    (hs : spare = fun _ => true) (ht : P.underlying t = some (.slice e)) (he : P.underlying e = some (.int .i32)) (hc : P.cellsOf e = 1) (h : DataW.trod enc P w 0 spare held fuel t (Value.slice A len cap).cells.toList = some x) :
    ∃ l : List Int, l.length = len ∧ Rd w w.heap.size A (l.map (Value.int .i32)) ∧ len ≤ cap ∧ cap ≤ maxLen ∧ (∀ n ∈ l, -2147483648 ≤ n ∧ n ≤ 2147483647) := by
  subst hs
  rcases open_ints ht he hc h with ⟨hcs, _⟩ | ⟨x, l, c, zs, hcs, _, hl, hm, hz, _, hcell, hwz⟩
  · simp [Value.cells] at hcs
    obtain ⟨rfl, rfl, rfl⟩ := hcs
    exact ⟨[], rfl, Rd.nil _ _ _, by omega, by unfold maxLen; omega, by simp⟩
  · simp [Value.cells] at hcs
    obtain ⟨rfl, rfl, rfl⟩ := hcs
    have hz' : zs.length = cap := by simpa using hz
    refine ⟨zs.take len, by simp; omega, ?_, hl, hm, fun n hn => ?_⟩
    · have := rd_row (len := len) hl hz' hcell
      simpa [List.map_take, Function.comp_def] using this
    · have := hwz n (List.mem_of_mem_take hn)
      simp [Lit.wf, IntKind.min, IntKind.max, IntKind.signed, IntKind.bits] at this
      omega
end Go.Proofs.YtnfhlnkbkfgihaaDoor
