/- Texts of this claim, joined: Kdf, Kdf2, Kdf3, Kdf4, Kdf5, Kdf6. -/
import Derived.Test.YteecbjpnnklbpaaDoorGG
import Derived.Deep.RegionHeld3
import Derived.Deep.AppendLies
import Derived.Lib.AppendStr
import Derived.Lib.MinMax
/- The walks of the package kdf: one tag more, Expand. -/
namespace Go.Proofs.YteecbjpnnklbpaaDoor.Kdf
open Go.RowKit
open Go.Proofs.YteecbjpnnklbpaaDoor.Sha (Tab)
open Go.Proofs.YteecbjpnnklbpaaDoor.Mac (mac mac_len of_any rof_any)
open Go.Proofs.YteecbjpnnklbpaaDoor.Cat (Pc PcAt Pcs cat lens)
set_option linter.unusedVariables false
set_option maxRecDepth 100000
theorem info8 : (Tryd.prog.info? 5).map (fun i => (i.zero, i.size, i.bytes)) = some (some (.int .u8 0), 1, 1) := by kernel_rfl

theorem step_append_rd {P : Program} (w : World) {ops : Array Oper} {o : Oper} {a : Act} {K : Act → World → Prop} {Q : Exit → Act → World → Prop} {E : Prop} (hgd : o.guard = none) (s x : Operand) (t : TypeId)
    (ho : o.op = .call { callee := .builtin .append, args := #[s, x], argTypes := #[t, t] })
    (base : Nat) (e : TypeId) (i : TypeInfo) (z : Value) (size bytes : Nat) (ht : P.underlying t = some (.slice e)) (hi : P.info? e = some i) (hz : i.zero = some z)
    (hsize : i.size = size) (hby : i.bytes = bytes) (hzs : z.cells.size = size) (hsz : 0 < size)
    (v : Value) (n : Nat) (xs : List Value) (hs : a.eval s = v) (hown : w.ownsRow base e size v n xs)
    (A : Option Addr) (m c : Nat) (news : List Value) (hx : a.eval x = .slice A m c) (hl : news.length = m * size) (hr : Rd w w.heap.size A news) (h1 : ∀ u ∈ news, u.oneCell' = true)
    (h63 : n + m ≤ maxLen) (hbytes : (n + m) * bytes ≤ 140737488355328) (hbase : base ≤ w.heap.size)
    (h : ∀ v' w', w'.ownsRow base e size v' (n + m) (xs ++ news) → w.grownBy w' v.ownBlock → K (a.put o.dst v') w') :
    if Region.wanted o (yielded ops a.tmps) = true then Oper.wp P o a w K Q else E := by
  have hw : Region.wanted o (yielded ops a.tmps) = true := by simp [Region.wanted, hgd]
  rw [if_pos hw]
  exact wp_append_rd w s x t ho base e i z size bytes ht hi hz hsize hby hzs hsz v n xs hs hown w.heap.size A m c news hx hl hr h1 h63 hbytes hbase fun v' w' h2 h3 _ => h v' w' h2 h3
theorem B1 (w : World) (o : Obj) : Below w.heap.size w (w.alloc o).drew := (b1alloc w o).drew
theorem B2 (w : World) (o o' : Obj) : Below w.heap.size w ((w.alloc o).alloc o').drew := (b2alloc w o o').drew
theorem rd_byte {w : World} {g : Nat} {c : UInt8} (h : w.cell? ⟨g, 0, none⟩ = some (e8 c)) (hg : g < w.heap.size) : Rd w w.heap.size (some ⟨g, 0, none⟩) [e8 c] := fun _ =>
  ⟨g, 0, rfl, hg, fun i hi => by
    match i, hi with
    | 0, _ => exact h⟩
set_option maxHeartbeats 1600000 in
theorem next_any (gk gl gi : Nat) (Ak Al Ai : Option Addr) (k last info : List UInt8) (nk nl ni ck cl ci : Nat) (n : Nat) (m : Int) (hm : m = (n : Int)) (hn : n ≤ 255) (w : World) (hnk : nk = k.length) (hnl : nl = last.length) (hni : ni = info.length)
    (hk : w.cell? ⟨gk, 0, none⟩ = some (.slice Ak nk ck)) (hl : w.cell? ⟨gl, 0, none⟩ = some (.slice Al nl cl)) (hi : w.cell? ⟨gi, 0, none⟩ = some (.slice Ai ni ci)) (lk : gk < w.heap.size) (ll : gl < w.heap.size) (li : gi < w.heap.size)
    (rk : Rd w w.heap.size Ak (k.map e8)) (rl : Rd w w.heap.size Al (last.map e8)) (ri : Rd w w.heap.size Ai (info.map e8)) (bk : k.length ≤ 1000000000) (bl : last.length ≤ 1000000) (bi : info.length ≤ 1000000) (ht : Tab w) :
    Calls Tryd.prog 87 #[.int .i64 m, .pointer (some ⟨gk, 0, none⟩), .pointer (some ⟨gl, 0, none⟩), .pointer (some ⟨gi, 0, none⟩)] w fun e w' => RetB 5 w (mac k (last ++ info ++ [UInt8.ofNat n])) e w' := by
  subst hm hnk hnl hni
  obtain ⟨i0, hi0, hz0, hz1, hz2⟩ := info_parts info8
  have hcv : IntKind.u8.wrap (n : Int) = ((UInt8.ofNat n).toNat : Int) := by rw [IntKind.wrap_u8, UInt8.toNat_ofNat']; omega
  obtain ⟨c, hc⟩ : ∃ c, c = UInt8.ofNat n := ⟨_, rfl⟩
  rw [← hc] at hcv ⊢
  have hcat : cat [⟨Al, last, cl⟩, ⟨Ai, info, ci⟩] = last ++ info := by simp [Cat.cat]
  have Hcat := Lib.hid hcat
  clear hc hcat
  have hll : (last ++ info).length = last.length + info.length := List.length_append
  have HL := Lib.hid hll
  clear hll
  have hcc : ∀ (W : World) (g : Nat), Below w.heap.size w W → g < W.heap.size → W.cell? ⟨g, 0, none⟩ = some (.slice Al last.length cl) → W.cell? ⟨g, 1, none⟩ = some (.slice Ai info.length ci) →
      Calls Tryd.prog 44 #[.slice (some ⟨g, 0, none⟩) 2 2] W fun e w' => RetB 5 W (last ++ info) e w' := fun W g hW hg h0 h1 => by
    have := Cat.concat_any g [⟨Al, last, cl⟩, ⟨Ai, info, ci⟩] 2 2 W rfl hg
      (by intro j hj
          match j, hj with
          | 0, _ => exact h0
          | 1, _ => exact h1)
      (by intro p hp
          simp only [List.mem_cons, List.not_mem_nil, or_false] at hp
          rcases hp with rfl | rfl
          · exact rl.on hW
          · exact ri.on hW) (by unfold Cat.lens; rw [Hcat.out, HL.out]; omega) (by simp)
    rwa [Hcat.out] at this
  have Hcc := Lib.hid hcc
  clear hcc
  have hof : ∀ (W : World) (A2 : Option Addr) (c2 n2 : Nat), Below w.heap.size w W → n2 = last.length + info.length + 1 → Rd W W.heap.size A2 ((last ++ info ++ [c]).map e8) →
      Calls Tryd.prog 45 #[.slice Ak k.length ck, .slice A2 n2 c2] W fun e w' => RetB 5 W (mac k (last ++ info ++ [c])) e w' := fun W A2 c2 n2 hW hn2 hr2 =>
    of_any Ak A2 k (last ++ info ++ [c]) _ _ _ _ W rfl (by rw [List.length_append, HL.out]; exact hn2) (rk.on hW) hr2 bk (by rw [List.length_append, HL.out, List.length_singleton]; omega) (ht.on hW)
  obtain ⟨T, hT⟩ : ∃ T, T = mac k (last ++ info ++ [c]) := ⟨_, rfl⟩
  rw [← hT] at hof ⊢
  have Hof := Lib.hid hof
  clear hof hT
  go_enter Tryd.func87, Tryd.ntmps87
  go_wp2
  go_region_held3 (fun w' => w'.cell? ⟨gk, 0, none⟩ = some (.slice Ak k.length ck) ∧ w'.cell? ⟨gl, 0, none⟩ = some (.slice Al last.length cl) ∧ w'.cell? ⟨gi, 0, none⟩ = some (.slice Ai info.length ci)) (first | go_keep | exact ⟨k1, k2, k3⟩ | exact ⟨j1, j2, j3⟩ | exact ⟨i1, i2, i3⟩)
    (first
    | (go_at_call 44; refine (Hcc.out _ _ (by first | exact B1 _ _ | exact B2 _ _ _) (by simp; try omega) (by simp) (by simp)).mono ?_; rintro e w1 ⟨A1, c1, rfl, own1, b1⟩; rw [HL.out] at own1 ⊢; have hb1 : Below w.heap.size w w1 := bt (by first | exact B1 _ _ | exact B2 _ _ _) b1; have own1' : w1.ownsRow w.heap.size 5 1 (.slice A1 (last.length + info.length) c1) (last.length + info.length) ((last ++ info).map e8) := own_base own1 (by simp; try omega); have hby := fun g (hg : g < _) => b1.cell (p := ⟨g, 0, none⟩) hg; have hs1 := b1.size; simp at hs1; have k1 := (hb1.cell (p := ⟨gk, 0, none⟩) lk).trans hk; have k2 := (hb1.cell (p := ⟨gl, 0, none⟩) ll).trans hl; have k3 := (hb1.cell (p := ⟨gi, 0, none⟩) li).trans hi)
    | ((refine step_append_rd _ (by rfl) _ _ _ (by rfl) w.heap.size 5 i0 _ 1 1 Tryd.underlying37 hi0 hz0 hz1 hz2 rfl (by omega) _ (last.length + info.length) ((last ++ info).map e8) (by rfl) ?_ _ 1 1 [e8 c] (by rfl) (by rfl) ?_ (one_int _ _) (by simp only [maxLen]; omega) (by omega) ?_ ?_); (· first | exact own1' | exact own1'.alloc _); (· first | (refine rd_byte ((hby w.heap.size ?_).trans ?_) ?_ <;> first | (simp; done) | omega | (simp; omega)) | (refine rd_byte ((hby (w.heap.size + 1) ?_).trans ?_) ?_ <;> first | (simp; done) | omega | (simp; omega)) | (refine rd_byte ?_ ?_ <;> first | (simp; done) | omega | (simp; omega))); (· first | exact hb1.size | exact le_alloc hb1.size _); intro v2 w2 own2 hg2; obtain ⟨A2, c2, rfl⟩ := own_form own2; have hb2 : Below w.heap.size w w2 := (by first | exact hb1.grown hg2 hb1.size (fun k hk => own_block own1' hk) | exact (hb1.alloc hb1.size _).grown hg2 (le_alloc hb1.size _) (fun k hk => own_block own1' hk)); rw [show (last ++ info).map e8 ++ [e8 c] = (last ++ info ++ [c]).map e8 by simp] at own2; have j1 := (hb2.cell (p := ⟨gk, 0, none⟩) lk).trans hk; have j2 := (hb2.cell (p := ⟨gl, 0, none⟩) ll).trans hl; have j3 := (hb2.cell (p := ⟨gi, 0, none⟩) li).trans hi)
    | (go_at_call 45; refine (Hof.out w2 A2 c2 _ hb2 rfl (Rd.own own2)).mono ?_; rintro e w3 ⟨A3, c3, rfl, own3, b3⟩; have hb3 : Below w.heap.size w w3 := bt hb2 b3; have i1 := (hb3.cell (p := ⟨gk, 0, none⟩) lk).trans hk; have i2 := (hb3.cell (p := ⟨gl, 0, none⟩) ll).trans hl; have i3 := (hb3.cell (p := ⟨gi, 0, none⟩) li).trans hi))
  all_goals
    go_wp2
    go_ret
    exact RetB.after hb2 own3 b3
end Go.Proofs.YteecbjpnnklbpaaDoor.Kdf

/- The walk of kdf.Expand. -/
namespace Go.Proofs.YteecbjpnnklbpaaDoor.Kdf
open Go.RowKit
open Go.Proofs.YteecbjpnnklbpaaDoor.Sha (Tab)
open Go.Proofs.YteecbjpnnklbpaaDoor.Ch (KpX)
set_option linter.unusedVariables false
set_option maxRecDepth 100000
/-- a slice comes back that reads so, and a fault; nothing that lay has turned -/
def RetR (w : World) (l : List UInt8) (f : Int) (e : Ending) (w' : World) : Prop :=
  ∃ A c, e = .returned (.tuple #[.slice A l.length c, .int .i64 f]) ∧ Rd w' w'.heap.size A (l.map e8) ∧ l.length ≤ c ∧ c ≤ maxLen ∧ Below w.heap.size w w'
theorem rd_apart {w w' : World} {A : Option Addr} {xs : List Value} {r : Option Nat} (h : Rd w w.heap.size A xs) (hg : w.grownBy w' r) (hs : ∀ a, A = some a → some a.block ≠ r) : Rd w' w'.heap.size A xs := fun hne => by
  obtain ⟨b, off, rfl, hlt, hc⟩ := h hne
  exact ⟨b, off, rfl, Nat.lt_of_lt_of_le hlt hg.size, fun i hi => (World.cell?_of_block (hg.block b hlt (hs _ rfl))).trans (hc i hi)⟩
theorem own_at_base {w : World} {base : Nat} {e : TypeId} {A : Option Addr} {n c : Nat} {xs : List Value} (h : w.ownsRow base e 1 (.slice A n c) n xs) : ∀ a, A = some a → base ≤ a.block ∧ a.block < w.heap.size := fun a ha => by
  subst ha
  exact h.lt a.block rfl
theorem tags_le {k info : List UInt8} (j : Nat) : (tag k info j).length ≤ 1000000 := Nat.le_trans (tag_le k info j) (by omega)
set_option maxHeartbeats 800000 in
theorem expand_no (A B : Option Addr) (n c o d : Nat) (s : Int) (hs0 : -9223372036854775808 ≤ s) (hs1 : s ≤ 9223372036854775807) (h : s < 1 ∨ 8160 < s) (w : World) :
    Calls Tryd.prog 66 #[.slice A n c, .slice B o d, .int .i64 s] w fun e w' => RetR w [] 2 e w' := by
  rcases h with h | h
  all_goals
    go_enter Tryd.func66, Tryd.ntmps66
    go_wp2
    go_step3
    go_wp2
    try rw [Exit.noGoto_ret]
    go_ret2
    exact ⟨none, 0, rfl, Rd.nil _ _ _, by simp, by simp [maxLen], b2alloc _ _ _⟩
set_option maxHeartbeats 1600000 in
theorem expand_yes (A B : Option Addr) (k info : List UInt8) (n c o d : Nat) (s : Nat) (z : Int) (hz : z = (s : Int)) (h1 : 1 ≤ s) (h2 : s ≤ 8160) (w : World) (hn : n = k.length) (ho : o = info.length) (hr : Rd w w.heap.size A (k.map e8)) (hi : Rd w w.heap.size B (info.map e8))
    (bk : k.length ≤ 1000000000) (bi : info.length ≤ 1000000) (hk : Tab w) :
    Calls Tryd.prog 66 #[.slice A n c, .slice B o d, .int .i64 z] w fun e w' => RetR w (expand k info s) 0 e w' := by
  subst hz hn ho
  obtain ⟨i0, hi0, hz0, hz1, hz2⟩ := info_parts info8
  have t1 : ((s : Int) < 1) = False := by simp; omega
  have t2 : (8160 < (s : Int)) = False := by simp; omega
  go_enter Tryd.func66, Tryd.ntmps66
  go_wp2_with fail
  go_step3
  go_wp2_with fail
  obtain ⟨W0, hW0⟩ : ∃ W, W = ((w.alloc (.cells #[.slice A k.length c] 37)).alloc (.cells #[.slice B info.length d] 37)).alloc (.cells #[.slice none 0 0] 37) := ⟨_, rfl⟩
  have hb0 : Below w.heap.size w W0 := by rw [hW0]; exact b3alloc _ _ _ _
  have c0 : W0.cell? ⟨w.heap.size, 0, none⟩ = some (.slice A k.length c) := by subst hW0; simp [go_sem]
  have c1 : W0.cell? ⟨w.heap.size + 1, 0, none⟩ = some (.slice B info.length d) := by subst hW0; simp [go_sem]
  have c2 : W0.cell? ⟨w.heap.size + 1 + 1, 0, none⟩ = some (.slice none 0 0) := by subst hW0; simp [go_sem]
  have f2 : W0.frozen? ⟨w.heap.size + 1 + 1, 0, none⟩ = false := by subst hW0; simp [go_sem]
  have hs0 : W0.heap.size = w.heap.size + 3 := by rw [hW0]; simp
  rw [← hW0]
  obtain ⟨G, hG⟩ : ∃ G, G = w.heap.size + 1 + 1 := ⟨_, rfl⟩
  rw [← hG] at c2 f2
  rw [← hG]
  have hGl : w.heap.size + 1 < G := by omega
  have hG0 : G < W0.heap.size := by omega
  clear hW0 hG
  have hmany := Lib.hid (show 32 * (many s - 1) < s ∧ s ≤ 32 * many s ∧ 1 ≤ many s ∧ many s ≤ 255 by unfold many; omega)
  go_step3
  go_wp2_with fail
  go_loopw [6, 10] (fun v i wr => ∃ (j : Nat) (Al : Option Addr) (cl : Nat), j < many s ∧ i = .int .i64 ((j : Int) + 1) ∧ wr.ownsRow W0.heap.size 5 1 v (32 * j) ((tags k info j).map e8) ∧
    wr.cell? ⟨G, 0, none⟩ = some (.slice Al (tag k info j).length cl) ∧ wr.frozen? ⟨G, 0, none⟩ = false ∧ Rd wr wr.heap.size Al ((tag k info j).map e8) ∧ KpX G W0.heap.size W0 wr ∧ Below w.heap.size w wr) (fun _ i _ => 300 - (intOf i).toNat)
  case atStart => exact ⟨0, none, 0, by have := hmany.out; omega, rfl, own_nil _ _ _ _, c2, f2, Rd.nil _ _ _, KpX.refl _ _ _, hb0⟩
  case round =>
    obtain ⟨j, Al, cl, hj, rfl, hown, hcl, hfr, hrl, hkp, bel⟩ := hrel
    clear c2 f2
    obtain ⟨m1, m2, m3, m4⟩ := hmany.out
    have hj255 : j + 1 ≤ 255 := by omega
    have hsz := hkp.1
    have d0 := (hkp.cell (b := w.heap.size) (by omega) (by omega) 0).trans c0
    have d1 := (hkp.cell (b := w.heap.size + 1) (by omega) (by omega) 0).trans c1
    have hnext := next_any w.heap.size G (w.heap.size + 1) A Al B k (tag k info j) info k.length (tag k info j).length info.length c cl d (j + 1) ((j : Int) + 1) (by omega) hj255 wr rfl rfl rfl d0 hcl d1 (by omega) (by omega) (by omega)
      (hr.on bel) hrl (hi.on bel) bk (tags_le j) bi (hk.on bel)
    rw [show Mac.mac k (tag k info j ++ info ++ [UInt8.ofNat (j + 1)]) = tag k info (j + 1) from rfl] at hnext
    have hlen := tag_len k info j
    have htags := Lib.hid (show tags k info (j + 1) = tags k info j ++ tag k info (j + 1) from rfl)
    obtain ⟨T, hT⟩ : ∃ T, T = tag k info (j + 1) := ⟨_, rfl⟩
    rw [← hT] at hnext hlen htags
    have HT := Lib.hid hT
    have HL := Lib.hid hlen
    clear hT hlen
    go_wp2_with fail
    refine hnext.mono ?_
    clear hnext
    rintro e w3 ⟨A3, c3, rfl, own3, b3⟩
    rw [HL.out] at own3 ⊢
    have bel3 := bt bel b3
    have hfr3 := (b3.frozen (p := ⟨G, 0, none⟩) (by show G < wr.heap.size; omega)).trans hfr
    have hcl3 := (b3.cell (p := ⟨G, 0, none⟩) (by show G < wr.heap.size; omega)).trans hcl
    have hsz3 := b3.size
    have hap3 := own_at_base own3
    have hcap3 := own_cap own3
    have hr3 := Rd.own own3
    have hown3 := own_on hown b3
    have hr4 : Rd (w3.setCell ⟨G, 0, none⟩ (.slice A3 32 c3)) (w3.setCell ⟨G, 0, none⟩ (.slice A3 32 c3)).heap.size A3 (T.map e8) := rd_apart hr3 (grown_set w3 ⟨G, 0, none⟩ _) (fun a ha => by have := (hap3 a ha).1; simp; omega)
    have hown4 : (w3.setCell ⟨G, 0, none⟩ (.slice A3 32 c3)).ownsRow W0.heap.size 5 1 _ (32 * j) ((tags k info j).map e8) := hown3.kept (grown_set w3 ⟨G, 0, none⟩ _) (by
      rcases hown3.2 with ⟨rfl, _⟩ | ⟨g, cap, cur, rfl, hg, _⟩
      · exact .inl rfl
      · refine .inr fun e' => ?_
        have : g = G := by simpa [Value.ownBlock] using e'
        omega)
    have hbase4 : W0.heap.size ≤ (w3.setCell ⟨G, 0, none⟩ (.slice A3 32 c3)).heap.size := by simp; omega
    have bel4 : Below w.heap.size w (w3.setCell ⟨G, 0, none⟩ (.slice A3 32 c3)) := bset bel3 (by omega) _
    by_cases hfin : s ≤ 32 * j + 32
    · have hfin' : (s : Int) ≤ 32 * (j : Int) + 32 := by omega
      go_wp2_with (at_builtin; refine wpList_append_rd _ rfl _ _ _ rfl W0.heap.size 5 i0 _ 1 1 Tryd.underlying37 hi0 hz0 hz1 hz2 rfl (by omega) _ (32 * j) _ rfl hown4 _ A3 32 c3 (T.map e8) rfl (by rw [List.length_map, HL.out]) hr4 (e8_one _) (by simp only [maxLen]; omega) (by omega) hbase4 ?_; intro v5 w5 own5 hg5 hat5; obtain ⟨A5, c5, rfl⟩ := own_form own5; have hcp5 := own_cap own5; have hcp6 : (32 * j + 32 : Int) ≤ (c5 : Int) := (by omega))
      try rw [Exit.noGoto_ret]
      go_ret2
      have hjm : many s = j + 1 := by omega
      have hall : expand k info s = (tags k info j ++ T).take s := by rw [expand, hjm, htags.out]
      have hlen : (expand k info s).length = s := expand_len k info s
      have hr5 := (Rd.own own5).take s
      rw [← List.map_append, ← List.map_take, ← hall] at hr5
      refine ⟨A5, s, by rw [hlen]; rfl, hr5, by omega, by unfold maxLen; omega, ?_⟩
      exact bel4.grown hg5 bel4.size (fun g hg => by have := own_block hown4 hg; omega)
    · have hfin' : ¬ ((s : Int) ≤ 32 * (j : Int) + 32) := by omega
      go_wp2_with (at_builtin; refine wpList_append_rd _ rfl _ _ _ rfl W0.heap.size 5 i0 _ 1 1 Tryd.underlying37 hi0 hz0 hz1 hz2 rfl (by omega) _ (32 * j) _ rfl hown4 _ A3 32 c3 (T.map e8) rfl (by rw [List.length_map, HL.out]) hr4 (e8_one _) (by simp only [maxLen]; omega) (by omega) hbase4 ?_; intro v5 w5 own5 hg5 hat5; obtain ⟨A5, c5, rfl⟩ := own_form own5; have hcp5 := own_cap own5; have hcp6 : (32 * j + 32 : Int) ≤ (c5 : Int) := (by omega))
      go_roundw
      case rel =>
        have hG5 : w5.heap[G]? = (w3.setCell ⟨G, 0, none⟩ (.slice A3 32 c3)).heap[G]? := hg5.block G (by simp; omega) (fun e => by have := (hown4.lt G e.symm).1; omega)
        have hc5 : w5.cell? ⟨G, 0, none⟩ = some (.slice A3 32 c3) := (World.cell?_of_block hG5).trans (World.cell?_setCell_same' _ _ _ (by rw [hcl3]; rfl))
        have hf5 : w5.frozen? ⟨G, 0, none⟩ = false := (World.frozen?_of_block hG5).trans (by rw [World.frozen?_setCell]; exact hfr3)
        have hr5 := rd_apart hr4 hg5 (fun a ha e => by have h1 := (hap3 a ha).1; have h2 := (hown.lt _ e.symm).2; omega)
        have hk5 : KpX G W0.heap.size W0 w5 := hkp.trans ((KpX.of_below b3 hsz).trans ⟨by have := hg5.size; simp at this; omega, fun b hb hn => (hg5.block b (by simp; omega) (fun e => by have := (hown4.lt b e.symm).1; omega)).trans (Below.heap_setCell w3 ⟨G, 0, none⟩ _ b hn)⟩)
        refine ⟨j + 1, A3, c3, by omega, by go_num, ?_, ?_, hf5, ?_, hk5, bel4.grown hg5 bel4.size (fun g hg => by have := own_block hown4 hg; omega)⟩
        · rw [htags.out, List.map_append, show 32 * (j + 1) = 32 * j + 32 by omega]; exact own5
        · rw [← HT.out, HL.out]; exact hc5
        · rw [← HT.out]; exact hr5
      case measure => simp [intOf]; omega
end Go.Proofs.YteecbjpnnklbpaaDoor.Kdf

/- The walks of kdf.Derive, Chain, Mix, Extract. -/
namespace Go.Proofs.YteecbjpnnklbpaaDoor.Kdf
open Go.RowKit
open Go.Proofs.YteecbjpnnklbpaaDoor.Sha (Tab)
open Go.Proofs.YteecbjpnnklbpaaDoor.Mac (mac of_any)
set_option linter.unusedVariables false
set_option maxRecDepth 100000
/-- a slice comes back that reads so; nothing that lay has turned -/
def RetD (w : World) (l : List UInt8) (e : Ending) (w' : World) : Prop :=
  ∃ A c, e = .returned (.slice A l.length c) ∧ Rd w' w'.heap.size A (l.map e8) ∧ Below w.heap.size w w'
/-- the same, with what is known of the room behind it -/
def RetDC (w : World) (l : List UInt8) (e : Ending) (w' : World) : Prop :=
  ∃ A c, e = .returned (.slice A l.length c) ∧ Rd w' w'.heap.size A (l.map e8) ∧ l.length ≤ c ∧ c ≤ maxLen ∧ Below w.heap.size w w'
theorem RetDC.plain {w w' : World} {l : List UInt8} {e : Ending} (h : RetDC w l e w') : RetD w l e w' := by
  obtain ⟨A, c, he, hr, _, _, hb⟩ := h
  exact ⟨A, c, he, hr, hb⟩
theorem RetD.of {E : TypeId} {w w' : World} {l : List UInt8} {e : Ending} (h : RetB E w l e w') : RetD w l e w' := by
  obtain ⟨A, c, he, hown, hb⟩ := h
  exact ⟨A, c, he, Rd.own hown, hb⟩
theorem RetD.after {w w1 w2 : World} {l : List UInt8} {e : Ending} (h1 : Below w.heap.size w w1) (h : RetD w1 l e w2) : RetD w l e w2 := by
  obtain ⟨A, c, he, hr, hb⟩ := h
  exact ⟨A, c, he, hr, bt h1 hb⟩
theorem put32 : Num.putL (UInt64.ofNat 32).toNat 2 = [0, 32] := by decide
theorem wrap8 (n : Nat) : IntKind.u8.wrap (n : Int) = ((UInt8.ofNat n).toNat : Int) := by rw [IntKind.wrap_u8, UInt8.toNat_ofNat']; omega
theorem strCells_l (l : List UInt8) : Lib.strCells ⟨l.toArray⟩ = l.map e8 := rfl
theorem ba_size (l : List UInt8) : (⟨l.toArray⟩ : ByteArray).size = l.length := by simp [ByteArray.size]
theorem infoB_len (lab : List UInt8) : (infoB lab).length = 13 + lab.length := by simp [infoB, prefixB]; omega
set_option maxHeartbeats 800000 in
theorem derive_cap (A : Option Addr) (k lab : List UInt8) (n c : Nat) (w : World) (hn : n = k.length) (hr : Rd w w.heap.size A (k.map e8)) (bk : k.length ≤ 1000000000) (bl : lab.length ≤ 100000) (hk : Tab w) :
    Calls Tryd.prog 50 #[.slice A n c, .string ⟨lab.toArray⟩] w fun e w' => RetDC w (derive k lab) e w' := by
  subst hn
  obtain ⟨i0, hi0, hz0, hz1, hz2⟩ := info_parts info8
  have hpt := Num.put_any (UInt64.ofNat 32) 32 (by decide) 2 2 rfl (by omega) (by omega) w
  rw [put32] at hpt
  obtain ⟨t, ht⟩ : ∃ t, t = prefixB ++ lab := ⟨_, rfl⟩
  have hcat : (⟨#[111, 117, 98, 108, 105, 101, 116, 116, 101, 32]⟩ ++ ⟨lab.toArray⟩ : ByteArray) = ⟨t.toArray⟩ := by rw [ht]; exact ba_append prefixB lab
  have htl : t.length = 10 + lab.length := by rw [ht]; simp [prefixB]; omega
  have hsz := ba_size t
  have hwr := wrap8 t.length
  have hinfo : infoB lab = [0, 32] ++ [UInt8.ofNat t.length] ++ t := by rw [infoB, ← ht]; rfl
  have hil := infoB_len lab
  obtain ⟨b, hb⟩ : ∃ b, b = UInt8.ofNat t.length := ⟨_, rfl⟩
  rw [← hb] at hwr hinfo
  have Hi := Lib.hid hinfo
  have Hil := Lib.hid hil
  have Htl := Lib.hid htl
  clear ht hinfo hil htl hb
  go_enter Tryd.func50, Tryd.ntmps50
  go_wp2_with fail
  refine hpt.mono ?_
  clear hpt
  rintro e w1 ⟨A1, c1, rfl, own1, b1⟩
  go_wp2_with (at_builtin; (first
    | (refine wpList_append_rd _ rfl _ _ _ rfl w.heap.size 5 i0 _ 1 1 Tryd.underlying37 hi0 hz0 hz1 hz2 rfl (by omega) _ 2 ([0, 32].map e8) (by rfl) (own1.alloc _) _ (some ⟨w1.heap.size, 0, none⟩) 1 1 [e8 b] (by rfl) (by rfl) (rd_byte (by simp) (by simp)) (one_int _ _) (by simp only [maxLen]; omega) (by omega) (le_alloc b1.size _) ?_; intro v2 w2 own2 hg2 hat2; obtain ⟨A2, c2, rfl⟩ := own_form own2; have b2 : Below w.heap.size w w2 := (b1.alloc b1.size _).grown hg2 (le_alloc b1.size _) (fun k hk => own_block own1 hk))
    | (refine Lib.wpList_append_own_string _ rfl _ _ _ _ rfl w.heap.size 5 i0 Tryd.underlying37 Tryd.underlying9 hi0 hz0 hz1 hz2 _ 3 _ (by rfl) own2 ⟨t.toArray⟩ (by rfl) (by rw [hsz]; simp only [maxLen]; have := Htl.out; omega) (by rw [hsz]; have := Htl.out; omega) b2.size ?_; intro v3 w3 own3 hg3 hat3; clear hat3; obtain ⟨A3, c3, rfl⟩ := own_form own3; have b3 : Below w.heap.size w w3 := b2.grown hg3 b2.size (fun k hk => own_block own2 hk))))
  have hl3 : 3 + t.length = (infoB lab).length := by rw [Hil.out, Htl.out]; omega
  have own4 : w3.ownsRow w.heap.size 5 1 (.slice A3 (3 + t.length) c3) (3 + t.length) ((infoB lab).map e8) := by
    rw [Hi.out, List.map_append, List.map_append]
    rw [hsz] at own3
    exact own3
  refine (expand_yes A A3 k (infoB lab) _ _ _ _ 32 _ rfl (by omega) (by omega) w3 rfl hl3 (hr.on b3) (Rd.own own4) bk (by rw [Hil.out]; omega) (hk.on b3)).mono ?_
  rintro e w4 ⟨A4, c4, rfl, hr4, hq1, hq2, b4⟩
  rw [show expand k (infoB lab) 32 = derive k lab from rfl] at hr4 hq1 ⊢
  have hdl := derive_len k lab
  go_wp2_with fail
  go_ret
  exact ⟨A4, c4, rfl, hr4, hq1, hq2, bt b3 b4⟩
theorem derive_any (A : Option Addr) (k lab : List UInt8) (n c : Nat) (w : World) (hn : n = k.length) (hr : Rd w w.heap.size A (k.map e8)) (bk : k.length ≤ 1000000000) (bl : lab.length ≤ 100000) (hk : Tab w) :
    Calls Tryd.prog 50 #[.slice A n c, .string ⟨lab.toArray⟩] w fun e w' => RetD w (derive k lab) e w' :=
  (derive_cap A k lab n c w hn hr bk bl hk).mono fun _ _ h => h.plain
end Go.Proofs.YteecbjpnnklbpaaDoor.Kdf

/- The walks of kdf.Chain, Mix, Extract, alive; the reference's Expand, Derive, Chain, Mix. -/
namespace Go.Proofs.YteecbjpnnklbpaaDoor.Kdf
open Go.RowKit
open Go.Proofs.YteecbjpnnklbpaaDoor.Sha (Tab)
open Go.Proofs.YteecbjpnnklbpaaDoor.Mac (mac mac_len of_any rof_any)
set_option linter.unusedVariables false
set_option maxRecDepth 100000
theorem chain_le (k lab : List UInt8) (j : Nat) : (chain k lab j).length ≤ k.length + 32 := by
  cases j with
  | zero => simp [chain]
  | succ j => rw [chain, derive_len]; omega
theorem chain_succ (k lab : List UInt8) (j : Nat) : chain k lab (j + 1) = derive (chain k lab j) lab := rfl
end Go.Proofs.YteecbjpnnklbpaaDoor.Kdf

/- The walks of the reference's Expand, Derive, Chain, Mix; kdf.Mix, Extract, alive. -/
namespace Go.Proofs.YteecbjpnnklbpaaDoor.Kdf
open Go.RowKit
open Go.Proofs.YteecbjpnnklbpaaDoor.Sha (Tab)
open Go.Proofs.YteecbjpnnklbpaaDoor.Mac (mac mac_len of_any rof_any)
set_option linter.unusedVariables false
set_option maxRecDepth 100000
set_option maxHeartbeats 800000 in
theorem rexpand_no (A B : Option Addr) (n c o d : Nat) (s : Int) (hs0 : -9223372036854775808 ≤ s) (hs1 : s ≤ 9223372036854775807) (h : s < 1 ∨ 8160 < s) (w : World) :
    Calls Tryd.prog 51 #[.slice A n c, .slice B o d, .int .i64 s] w fun e w' => RetR w [] 2 e w' := by
  rcases h with h | h
  all_goals
    go_enter Tryd.func51, Tryd.ntmps51
    go_wp2
    try go_step3
    try go_wp2
    try rw [Exit.noGoto_ret]
    go_ret2
    exact ⟨none, 0, rfl, Rd.nil _ _ _, by simp, by simp [maxLen], Below.refl _ _⟩
set_option maxHeartbeats 1600000 in
theorem rexpand_yes (A B : Option Addr) (k info : List UInt8) (n c o d : Nat) (s : Nat) (z : Int) (hz : z = (s : Int)) (h1 : 1 ≤ s) (h2 : s ≤ 8160) (w : World) (hn : n = k.length) (ho : o = info.length) (hr : Rd w w.heap.size A (k.map e8)) (hi : Rd w w.heap.size B (info.map e8))
    (bk : k.length ≤ 100000000) (bi : info.length ≤ 1000000) :
    Calls Tryd.prog 51 #[.slice A n c, .slice B o d, .int .i64 z] w fun e w' => RetR w (expand k info s) 0 e w' := by
  subst hz hn ho
  obtain ⟨i0, hi0, hz0, hz1, hz2⟩ := info_parts info8
  have t1 : ((s : Int) < 1) = False := eq_false (by omega)
  have t2 : (8160 < (s : Int)) = False := eq_false (by omega)
  have hmany := Lib.hid (show 32 * (many s - 1) < s ∧ s ≤ 32 * many s ∧ 1 ≤ many s ∧ many s ≤ 255 by unfold many; omega)
  go_enter Tryd.func51, Tryd.ntmps51
  go_wp2_with fail
  go_loopw [8, 9, 10] (fun v t i wr => ∃ (j : Nat) (Al : Option Addr) (cl : Nat), j ≤ many s ∧ i = .int .i64 ((j : Int) + 1) ∧ wr.ownsRow w.heap.size 5 1 v (32 * j) ((tags k info j).map e8) ∧
    t = .slice Al (tag k info j).length cl ∧ Rd wr wr.heap.size Al ((tag k info j).map e8) ∧ Below w.heap.size w wr) (fun _ _ i _ => 300 - (intOf i).toNat)
  case atStart => exact ⟨0, none, 0, by omega, rfl, own_nil _ _ _ _, rfl, Rd.nil _ _ _, Below.refl _ _⟩
  case round =>
    obtain ⟨j, Al, cl, hj, rfl, hown, rfl, hrl, bel⟩ := hrel
    obtain ⟨m1, m2, m3, m4⟩ := hmany.out
    obtain ⟨Ao, co, rfl⟩ := own_form hown
    have hcap := own_cap hown
    by_cases hjm : j < many s
    · have hlt : (32 * (j : Int) < (s : Int)) = True := eq_true (by omega)
      have htags := Lib.hid (show tags k info (j + 1) = tags k info j ++ tag k info (j + 1) from rfl)
      have hle := Lib.hid (tag_le k info j)
      have hj1 : j + 1 ≤ 255 := by omega
      have hcv : IntKind.u8.wrap ((j : Int) + 1) = ((UInt8.ofNat (j + 1)).toNat : Int) := by have := wrap8 (j + 1); push_cast at this; exact this
      have hsucc := Lib.hid (show tag k info (j + 1) = mac k (tag k info j ++ info ++ [UInt8.ofNat (j + 1)]) from rfl)
      obtain ⟨b, hb⟩ : ∃ b, b = UInt8.ofNat (j + 1) := ⟨_, rfl⟩
      rw [← hb] at hcv hsucc
      have Hb := Lib.hid hb
      clear hb
      obtain ⟨T0, hT0⟩ : ∃ T, T = tag k info j := ⟨_, rfl⟩
      rw [← hT0] at hle hsucc hrl ⊢
      have HT0 := Lib.hid hT0
      clear hT0
      go_wp2_with fail
      refine (R1.join_any Al B T0 info _ _ _ _ wr rfl rfl hrl (hi.on bel) (by have := hle.out; omega)).mono ?_
      rintro e w3 ⟨A3, c3, rfl, own3, b3⟩
      have hll : (T0 ++ info).length = T0.length + info.length := List.length_append
      rw [hll] at own3 ⊢
      have Hll := Lib.hid hll
      clear hll
      go_wp2_with fail
      have ba := b1alloc w3 (.cells #[e8 b] 5)
      refine (R1.join_any A3 (some ⟨w3.heap.size, 0, none⟩) (T0 ++ info) [b] _ _ _ _ _ Hll.out.symm rfl ((Rd.own own3).on ba) (rd_byte (by simp) (by simp)) (by rw [Hll.out, List.length_singleton]; have := hle.out; omega)).mono ?_
      rintro e w4 ⟨A4, c4, rfl, own4, b4⟩
      have b34 := bt (bt bel b3) (bt ba b4)
      have hl4 : (T0 ++ info ++ [b]).length = T0.length + info.length + 1 := by rw [List.length_append, Hll.out, List.length_singleton]
      rw [hl4] at own4 ⊢
      have Hl4 := Lib.hid hl4
      clear hl4
      have hof := rof_any A A4 k (T0 ++ info ++ [b]) _ c _ c4 w4 rfl Hl4.out.symm (hr.on b34) (Rd.own own4) (by omega) (by rw [Hl4.out]; have := hle.out; omega)
      obtain ⟨T, hT⟩ : ∃ T, T = mac k (T0 ++ info ++ [b]) := ⟨_, rfl⟩
      have hlen : T.length = 32 := by rw [hT]; exact mac_len _ _
      rw [← hT] at hof hsucc
      clear hT
      have HL := Lib.hid hlen
      clear hlen
      go_wp2_with fail
      refine hof.mono ?_
      clear hof
      rintro e w5 ⟨A5, c5, rfl, own5, b5⟩
      rw [HL.out] at own5 ⊢
      have bel5 := bt b34 b5
      have hap5 := own_at_base own5
      have hr5 := Rd.own own5
      have hown5 := own_on (own_on (own_on (own_on hown b3) ba) b4) b5
      go_wp2_with (at_builtin; refine wpList_append_rd _ rfl _ _ _ rfl w.heap.size 5 i0 _ 1 1 Tryd.underlying37 hi0 hz0 hz1 hz2 rfl (by omega) _ (32 * j) _ (by rfl) hown5 _ A5 32 c5 (T.map e8) (by rfl) (by rw [List.length_map, HL.out]) hr5 (e8_one _) (by simp only [maxLen]; omega) (by omega) bel5.size ?_; intro v6 w6 own6 hg6 hat6; obtain ⟨A6, c6, rfl⟩ := own_form own6)
      go_roundw
      case rel =>
        have hr6 := rd_apart hr5 hg6 (fun a ha e => by have h1 := (hap5 a ha).1; have h2 := (hown.lt _ e.symm).2; have := b34.size; have := bel.size; have := b3.size; have := ba.size; have := b4.size; omega)
        refine ⟨j + 1, A5, c5, by omega, by go_num, ?_, ?_, ?_, bel5.grown hg6 bel5.size (fun g hg => own_block hown5 hg)⟩
        · rw [htags.out, hsucc.out, List.map_append, show 32 * (j + 1) = 32 * j + 32 by omega]; exact own6
        · rw [hsucc.out, HL.out]
        · rw [hsucc.out]; exact hr6
      case measure => simp [intOf]; omega
    · have hlt : (32 * (j : Int) < (s : Int)) = False := eq_false (by omega)
      have hjm : many s = j := by omega
      have hall : expand k info s = (tags k info j).take s := by rw [expand, hjm]
      have hlen : (expand k info s).length = s := expand_len k info s
      have hr6 := (Rd.own hown).take s
      rw [← List.map_take, ← hall] at hr6
      have Hall := Lib.hid hall
      have Hlen := Lib.hid hlen
      clear hall hlen
      have hc1 : (s : Int) ≤ (co : Int) := by omega
      go_wp2_with fail
      go_ret2
      exact ⟨Ao, co, by rw [Hlen.out]; rfl, hr6, by rw [Hlen.out]; omega, hcap.2, bel⟩
end Go.Proofs.YteecbjpnnklbpaaDoor.Kdf

/- The walks of the reference's Derive, Chain, Mix; kdf.Mix, Extract, alive. -/
namespace Go.Proofs.YteecbjpnnklbpaaDoor.Kdf
open Go.RowKit
open Go.Proofs.YteecbjpnnklbpaaDoor.Sha (Tab)
open Go.Proofs.YteecbjpnnklbpaaDoor.Mac (mac mac_len of_any rof_any)
set_option linter.unusedVariables false
set_option maxRecDepth 100000
set_option maxHeartbeats 800000 in
theorem rderive_cap (A : Option Addr) (k lab : List UInt8) (n c : Nat) (w : World) (hn : n = k.length) (hr : Rd w w.heap.size A (k.map e8)) (bk : k.length ≤ 100000000) (bl : lab.length ≤ 100000) :
    Calls Tryd.prog 30 #[.slice A n c, .string ⟨lab.toArray⟩] w fun e w' => RetDC w (derive k lab) e w' := by
  subst hn
  obtain ⟨t, ht⟩ : ∃ t, t = prefixB ++ lab := ⟨_, rfl⟩
  have hcat : (⟨#[111, 117, 98, 108, 105, 101, 116, 116, 101, 32]⟩ ++ ⟨lab.toArray⟩ : ByteArray) = ⟨t.toArray⟩ := by rw [ht]; exact ba_append prefixB lab
  have htl : t.length = 10 + lab.length := by rw [ht]; simp [prefixB]; omega
  have hsz := ba_size t
  have hrem : (t.length : Int).tmod 256 = ((t.length % 256 : Nat) : Int) := by rw [Int.tmod_eq_emod_of_nonneg (by omega)]; omega
  obtain ⟨q, hq⟩ : ∃ q, q = t.length % 256 := ⟨_, rfl⟩
  have hwr : IntKind.u8.wrap (q : Int) = ((UInt8.ofNat t.length).toNat : Int) := by rw [IntKind.wrap_u8, UInt8.toNat_ofNat', hq]; omega
  have hinfo : infoB lab = [0, 32, UInt8.ofNat t.length] ++ t := by rw [infoB, ← ht]
  have hil := infoB_len lab
  obtain ⟨b, hb⟩ : ∃ b, b = UInt8.ofNat t.length := ⟨_, rfl⟩
  rw [← hb] at hwr hinfo
  rw [← hq] at hrem
  have Hi := Lib.hid hinfo
  have Hil := Lib.hid hil
  have Htl := Lib.hid htl
  clear ht hinfo hil htl hb hq
  have ba := b1alloc w (.cells #[.int .u8 0, .int .u8 32, .int .u8 (b.toNat : Int)] 5)
  have hr3 : Rd (w.alloc (.cells #[.int .u8 0, .int .u8 32, .int .u8 (b.toNat : Int)] 5)) (w.alloc (.cells #[.int .u8 0, .int .u8 32, .int .u8 (b.toNat : Int)] 5)).heap.size (some ⟨w.heap.size, 0, none⟩) ([0, 32, b].map e8) := fun _ =>
    ⟨w.heap.size, 0, rfl, by simp, fun i hi => by
      match i, hi with
      | 0, _ => simp
      | 1, _ => simp
      | 2, _ => simp⟩
  obtain ⟨c1, w1, hrun, b1, hs1, hc1, hcell⟩ := run_conv_new (P := Tryd.prog) (w.alloc (.cells #[.int .u8 0, .int .u8 32, .int .u8 (b.toNat : Int)] 5)) 9 37 5 t Tryd.underlying9 Tryd.underlying37 Tryd.underlying5
  have hr4 : Rd w1 w1.heap.size (some ⟨(w.alloc (.cells #[.int .u8 0, .int .u8 32, .int .u8 (b.toNat : Int)] 5)).heap.size, 0, none⟩) (t.map e8) := fun _ => ⟨_, _, rfl, hs1, hcell⟩
  have hr5 := hr3.on b1
  have bb := bt ba b1
  clear hcell hr3 hs1 hc1 b1 ba
  rw [show (w.alloc (.cells #[.int .u8 0, .int .u8 32, .int .u8 (b.toNat : Int)] 5)).heap.size = w.heap.size + 1 by simp] at hr4 hrun
  go_enter Tryd.func30, Tryd.ntmps30
  go_wp2_with fail
  refine (R1.join_any (some ⟨w.heap.size, 0, none⟩) (some ⟨w.heap.size + 1, 0, none⟩) [0, 32, b] t _ _ _ _ w1 rfl rfl hr5 hr4 (by have := Htl.out; simp; omega)).mono ?_
  rintro e w2 ⟨A2, c2, rfl, own2, b2⟩
  have bt2 := bt bb b2
  rw [← Hi.out] at own2 ⊢
  have hr2 := Rd.own own2
  go_wp2_with fail
  refine (rexpand_yes A A2 k (infoB lab) _ _ _ _ 32 _ rfl (by omega) (by omega) w2 rfl rfl (hr.on bt2) hr2 bk (by rw [Hil.out]; omega)).mono ?_
  rintro e w4 ⟨A4, c4, rfl, hr4, hq1, hq2, b4⟩
  rw [show expand k (infoB lab) 32 = derive k lab from rfl] at hr4 hq1 ⊢
  have hdl := derive_len k lab
  go_wp2_with fail
  go_ret
  exact ⟨A4, c4, rfl, hr4, hq1, hq2, bt bt2 b4⟩
theorem rderive_any (A : Option Addr) (k lab : List UInt8) (n c : Nat) (w : World) (hn : n = k.length) (hr : Rd w w.heap.size A (k.map e8)) (bk : k.length ≤ 100000000) (bl : lab.length ≤ 100000) :
    Calls Tryd.prog 30 #[.slice A n c, .string ⟨lab.toArray⟩] w fun e w' => RetD w (derive k lab) e w' :=
  (rderive_cap A k lab n c w hn hr bk bl).mono fun _ _ h => h.plain
end Go.Proofs.YteecbjpnnklbpaaDoor.Kdf
