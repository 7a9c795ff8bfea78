/- The walks of the package kdf: one tag more, Expand. -/
import Derived.Test.YtggldbadefbdaaaDoorMac5
import Derived.Deep.RegionHeld3
import Derived.Deep.AppendLies
namespace Go.Proofs.YtggldbadefbdaaaDoor.Kdf
open Go.RowKit
open Go.Proofs.YtggldbadefbdaaaDoor.Sha (Tab)
open Go.Proofs.YtggldbadefbdaaaDoor.Mac (mac mac_len of_any rof_any)
open Go.Proofs.YtggldbadefbdaaaDoor.Cat (Pc PcAt Pcs cat lens)
set_option linter.unusedVariables false
set_option maxRecDepth 100000
theorem info8 : (Tryd.prog.info? 5).map (fun i => (i.zero, i.size, i.bytes)) = some (some (.int .u8 0), 1, 1) := by kernel_rfl

theorem step_append_rd {P : Program} (w : World) {ops : Array Oper} {o : Oper} {a : Act} {K : Act → World → Prop} {Q : Exit → Act → World → Prop} {E : Prop} (hgd : o.guard = none) (s x : Operand) (t : TypeId)
    (ho : o.op = .call { callee := .builtin .append, args := #[s, x], argTypes := #[t, t] })
    (base : Nat) (e : TypeId) (i : TypeInfo) (z : Value) (size bytes : Nat) (ht : P.underlying t = some (.slice e)) (hi : P.info? e = some i) (hz : i.zero = some z)
    (hsize : i.size = size) (hby : i.bytes = bytes) (hzs : z.cells.size = size) (hsz : 0 < size)
    (v : Value) (n : Nat) (xs : List Value) (hs : a.eval s = v) (hown : w.ownsRow base e size v n xs)
    (A : Option Addr) (m c : Nat) (news : List Value) (hx : a.eval x = .slice A m c) (hl : news.length = m * size) (hr : Rd w w.heap.size A news) (h1 : ∀ u ∈ news, u.oneCell' = true)
    (h63 : n + m ≤ maxLen) (hbytes : (n + m) * bytes ≤ 140737488355328) (hbase : base ≤ w.heap.size)
    (h : ∀ v' w', w'.ownsRow base e size v' (n + m) (xs ++ news) → w.grownBy w' v.ownBlock → K (a.put o.dst v') w') :
    if Region.wanted o (yielded ops a.tmps) = true then Oper.wp P o a w K Q else E := by
  have hw : Region.wanted o (yielded ops a.tmps) = true := by simp [Region.wanted, hgd]
  rw [if_pos hw]
  exact wp_append_rd w s x t ho base e i z size bytes ht hi hz hsize hby hzs hsz v n xs hs hown w.heap.size A m c news hx hl hr h1 h63 hbytes hbase fun v' w' h2 h3 _ => h v' w' h2 h3
theorem B1 (w : World) (o : Obj) : Below w.heap.size w (w.alloc o).drew := (b1alloc w o).drew
theorem B2 (w : World) (o o' : Obj) : Below w.heap.size w ((w.alloc o).alloc o').drew := (b2alloc w o o').drew
theorem rd_byte {w : World} {g : Nat} {c : UInt8} (h : w.cell? ⟨g, 0, none⟩ = some (e8 c)) (hg : g < w.heap.size) : Rd w w.heap.size (some ⟨g, 0, none⟩) [e8 c] := fun _ =>
  ⟨g, 0, rfl, hg, fun i hi => by
    match i, hi with
    | 0, _ => exact h⟩
set_option maxHeartbeats 1600000 in
theorem next_any (gk gl gi : Nat) (Ak Al Ai : Option Addr) (k last info : List UInt8) (nk nl ni ck cl ci : Nat) (n : Nat) (m : Int) (hm : m = (n : Int)) (hn : n ≤ 255) (w : World) (hnk : nk = k.length) (hnl : nl = last.length) (hni : ni = info.length)
    (hk : w.cell? ⟨gk, 0, none⟩ = some (.slice Ak nk ck)) (hl : w.cell? ⟨gl, 0, none⟩ = some (.slice Al nl cl)) (hi : w.cell? ⟨gi, 0, none⟩ = some (.slice Ai ni ci)) (lk : gk < w.heap.size) (ll : gl < w.heap.size) (li : gi < w.heap.size)
    (rk : Rd w w.heap.size Ak (k.map e8)) (rl : Rd w w.heap.size Al (last.map e8)) (ri : Rd w w.heap.size Ai (info.map e8)) (bk : k.length ≤ 1000000000) (bl : last.length ≤ 1000000) (bi : info.length ≤ 1000000) (ht : Tab w) :
    Calls Tryd.prog 65 #[.int .i64 m, .pointer (some ⟨gk, 0, none⟩), .pointer (some ⟨gl, 0, none⟩), .pointer (some ⟨gi, 0, none⟩)] w fun e w' => RetB 5 w (mac k (last ++ info ++ [UInt8.ofNat n])) e w' := by
  subst hm hnk hnl hni
  obtain ⟨i0, hi0, hz0, hz1, hz2⟩ := info_parts info8
  have hcv : IntKind.u8.wrap (n : Int) = ((UInt8.ofNat n).toNat : Int) := by rw [IntKind.wrap_u8, UInt8.toNat_ofNat']; omega
  obtain ⟨c, hc⟩ : ∃ c, c = UInt8.ofNat n := ⟨_, rfl⟩
  rw [← hc] at hcv ⊢
  have hcat : cat [⟨Al, last, cl⟩, ⟨Ai, info, ci⟩] = last ++ info := by simp [Cat.cat]
  have Hcat := Lib.hid hcat
  clear hc hcat
  have hll : (last ++ info).length = last.length + info.length := List.length_append
  have HL := Lib.hid hll
  clear hll
  have hcc : ∀ (W : World) (g : Nat), Below w.heap.size w W → g < W.heap.size → W.cell? ⟨g, 0, none⟩ = some (.slice Al last.length cl) → W.cell? ⟨g, 1, none⟩ = some (.slice Ai info.length ci) →
      Calls Tryd.prog 57 #[.slice (some ⟨g, 0, none⟩) 2 2] W fun e w' => RetB 5 W (last ++ info) e w' := fun W g hW hg h0 h1 => by
    have := Cat.concat_any g [⟨Al, last, cl⟩, ⟨Ai, info, ci⟩] 2 2 W rfl hg
      (by intro j hj
          match j, hj with
          | 0, _ => exact h0
          | 1, _ => exact h1)
      (by intro p hp
          simp only [List.mem_cons, List.not_mem_nil, or_false] at hp
          rcases hp with rfl | rfl
          · exact rl.on hW
          · exact ri.on hW) (by unfold Cat.lens; rw [Hcat.out, HL.out]; omega) (by simp)
    rwa [Hcat.out] at this
  have Hcc := Lib.hid hcc
  clear hcc
  have hof : ∀ (W : World) (A2 : Option Addr) (c2 n2 : Nat), Below w.heap.size w W → n2 = last.length + info.length + 1 → Rd W W.heap.size A2 ((last ++ info ++ [c]).map e8) →
      Calls Tryd.prog 33 #[.slice Ak k.length ck, .slice A2 n2 c2] W fun e w' => RetB 5 W (mac k (last ++ info ++ [c])) e w' := fun W A2 c2 n2 hW hn2 hr2 =>
    of_any Ak A2 k (last ++ info ++ [c]) _ _ _ _ W rfl (by rw [List.length_append, HL.out]; exact hn2) (rk.on hW) hr2 bk (by rw [List.length_append, HL.out, List.length_singleton]; omega) (ht.on hW)
  obtain ⟨T, hT⟩ : ∃ T, T = mac k (last ++ info ++ [c]) := ⟨_, rfl⟩
  rw [← hT] at hof ⊢
  have Hof := Lib.hid hof
  clear hof hT
  go_enter Tryd.func65, Tryd.ntmps65
  go_wp2
  go_region_held3 (fun w' => w'.cell? ⟨gk, 0, none⟩ = some (.slice Ak k.length ck) ∧ w'.cell? ⟨gl, 0, none⟩ = some (.slice Al last.length cl) ∧ w'.cell? ⟨gi, 0, none⟩ = some (.slice Ai info.length ci)) (first | go_keep | exact ⟨k1, k2, k3⟩ | exact ⟨j1, j2, j3⟩ | exact ⟨i1, i2, i3⟩)
    (first
    | (go_at_call 57; refine (Hcc.out _ _ (by first | exact B1 _ _ | exact B2 _ _ _) (by simp; try omega) (by simp) (by simp)).mono ?_; rintro e w1 ⟨A1, c1, rfl, own1, b1⟩; rw [HL.out] at own1 ⊢; have hb1 : Below w.heap.size w w1 := bt (by first | exact B1 _ _ | exact B2 _ _ _) b1; have own1' : w1.ownsRow w.heap.size 5 1 (.slice A1 (last.length + info.length) c1) (last.length + info.length) ((last ++ info).map e8) := own_base own1 (by simp; try omega); have hby := fun g (hg : g < _) => b1.cell (p := ⟨g, 0, none⟩) hg; have hs1 := b1.size; simp at hs1; have k1 := (hb1.cell (p := ⟨gk, 0, none⟩) lk).trans hk; have k2 := (hb1.cell (p := ⟨gl, 0, none⟩) ll).trans hl; have k3 := (hb1.cell (p := ⟨gi, 0, none⟩) li).trans hi)
    | ((refine step_append_rd _ (by rfl) _ _ _ (by rfl) w.heap.size 5 i0 _ 1 1 Tryd.underlying24 hi0 hz0 hz1 hz2 rfl (by omega) _ (last.length + info.length) ((last ++ info).map e8) (by rfl) ?_ _ 1 1 [e8 c] (by rfl) (by rfl) ?_ (one_int _ _) (by simp only [maxLen]; omega) (by omega) ?_ ?_); (· first | exact own1' | exact own1'.alloc _); (· first | (refine rd_byte ((hby w.heap.size ?_).trans ?_) ?_ <;> first | (simp; done) | omega | (simp; omega)) | (refine rd_byte ((hby (w.heap.size + 1) ?_).trans ?_) ?_ <;> first | (simp; done) | omega | (simp; omega)) | (refine rd_byte ?_ ?_ <;> first | (simp; done) | omega | (simp; omega))); (· first | exact hb1.size | exact le_alloc hb1.size _); intro v2 w2 own2 hg2; obtain ⟨A2, c2, rfl⟩ := own_form own2; have hb2 : Below w.heap.size w w2 := (by first | exact hb1.grown hg2 hb1.size (fun k hk => own_block own1' hk) | exact (hb1.alloc hb1.size _).grown hg2 (le_alloc hb1.size _) (fun k hk => own_block own1' hk)); rw [show (last ++ info).map e8 ++ [e8 c] = (last ++ info ++ [c]).map e8 by simp] at own2; have j1 := (hb2.cell (p := ⟨gk, 0, none⟩) lk).trans hk; have j2 := (hb2.cell (p := ⟨gl, 0, none⟩) ll).trans hl; have j3 := (hb2.cell (p := ⟨gi, 0, none⟩) li).trans hi)
    | (go_at_call 33; refine (Hof.out w2 A2 c2 _ hb2 rfl (Rd.own own2)).mono ?_; rintro e w3 ⟨A3, c3, rfl, own3, b3⟩; have hb3 : Below w.heap.size w w3 := bt hb2 b3; have i1 := (hb3.cell (p := ⟨gk, 0, none⟩) lk).trans hk; have i2 := (hb3.cell (p := ⟨gl, 0, none⟩) ll).trans hl; have i3 := (hb3.cell (p := ⟨gi, 0, none⟩) li).trans hi))
  all_goals
    go_wp2
    go_ret
    exact RetB.after hb2 own3 b3
end Go.Proofs.YtggldbadefbdaaaDoor.Kdf
