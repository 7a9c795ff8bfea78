/- The walk of kdf.Expand. -/
import Derived.Test.YtggldbadefbdaaaDoorKdf
namespace Go.Proofs.YtggldbadefbdaaaDoor.Kdf
open Go.RowKit
open Go.Proofs.YtggldbadefbdaaaDoor.Sha (Tab)
open Go.Proofs.YtggldbadefbdaaaDoor.Ch (KpX)
set_option linter.unusedVariables false
set_option maxRecDepth 100000
/-- a slice comes back that reads so, and a fault; nothing that lay has turned -/
def RetR (w : World) (l : List UInt8) (f : Int) (e : Ending) (w' : World) : Prop :=
  ∃ A c, e = .returned (.tuple #[.slice A l.length c, .int .i64 f]) ∧ Rd w' w'.heap.size A (l.map e8) ∧ l.length ≤ c ∧ c ≤ maxLen ∧ Below w.heap.size w w'
theorem rd_apart {w w' : World} {A : Option Addr} {xs : List Value} {r : Option Nat} (h : Rd w w.heap.size A xs) (hg : w.grownBy w' r) (hs : ∀ a, A = some a → some a.block ≠ r) : Rd w' w'.heap.size A xs := fun hne => by
  obtain ⟨b, off, rfl, hlt, hc⟩ := h hne
  exact ⟨b, off, rfl, Nat.lt_of_lt_of_le hlt hg.size, fun i hi => (World.cell?_of_block (hg.block b hlt (hs _ rfl))).trans (hc i hi)⟩
theorem own_at_base {w : World} {base : Nat} {e : TypeId} {A : Option Addr} {n c : Nat} {xs : List Value} (h : w.ownsRow base e 1 (.slice A n c) n xs) : ∀ a, A = some a → base ≤ a.block ∧ a.block < w.heap.size := fun a ha => by
  subst ha
  exact h.lt a.block rfl
theorem tags_le {k info : List UInt8} (j : Nat) : (tag k info j).length ≤ 1000000 := Nat.le_trans (tag_le k info j) (by omega)
set_option maxHeartbeats 800000 in
theorem expand_no (A B : Option Addr) (n c o d : Nat) (s : Int) (hs0 : -9223372036854775808 ≤ s) (hs1 : s ≤ 9223372036854775807) (h : s < 1 ∨ 8160 < s) (w : World) :
    Calls Tryd.prog 40 #[.slice A n c, .slice B o d, .int .i64 s] w fun e w' => RetR w [] 2 e w' := by
  rcases h with h | h
  all_goals
    go_enter Tryd.func40, Tryd.ntmps40
    go_wp2
    go_step3
    go_wp2
    try rw [Exit.noGoto_ret]
    go_ret2
    exact ⟨none, 0, rfl, Rd.nil _ _ _, by simp, by simp [maxLen], b2alloc _ _ _⟩
set_option maxHeartbeats 1600000 in
theorem expand_yes (A B : Option Addr) (k info : List UInt8) (n c o d : Nat) (s : Nat) (z : Int) (hz : z = (s : Int)) (h1 : 1 ≤ s) (h2 : s ≤ 8160) (w : World) (hn : n = k.length) (ho : o = info.length) (hr : Rd w w.heap.size A (k.map e8)) (hi : Rd w w.heap.size B (info.map e8))
    (bk : k.length ≤ 1000000000) (bi : info.length ≤ 1000000) (hk : Tab w) :
    Calls Tryd.prog 40 #[.slice A n c, .slice B o d, .int .i64 z] w fun e w' => RetR w (expand k info s) 0 e w' := by
  subst hz hn ho
  obtain ⟨i0, hi0, hz0, hz1, hz2⟩ := info_parts info8
  have t1 : ((s : Int) < 1) = False := by simp; omega
  have t2 : (8160 < (s : Int)) = False := by simp; omega
  go_enter Tryd.func40, Tryd.ntmps40
  go_wp2_with fail
  go_step3
  go_wp2_with fail
  obtain ⟨W0, hW0⟩ : ∃ W, W = ((w.alloc (.cells #[.slice A k.length c] 24)).alloc (.cells #[.slice B info.length d] 24)).alloc (.cells #[.slice none 0 0] 24) := ⟨_, rfl⟩
  have hb0 : Below w.heap.size w W0 := by rw [hW0]; exact b3alloc _ _ _ _
  have c0 : W0.cell? ⟨w.heap.size, 0, none⟩ = some (.slice A k.length c) := by subst hW0; simp [go_sem]
  have c1 : W0.cell? ⟨w.heap.size + 1, 0, none⟩ = some (.slice B info.length d) := by subst hW0; simp [go_sem]
  have c2 : W0.cell? ⟨w.heap.size + 1 + 1, 0, none⟩ = some (.slice none 0 0) := by subst hW0; simp [go_sem]
  have f2 : W0.frozen? ⟨w.heap.size + 1 + 1, 0, none⟩ = false := by subst hW0; simp [go_sem]
  have hs0 : W0.heap.size = w.heap.size + 3 := by rw [hW0]; simp
  rw [← hW0]
  obtain ⟨G, hG⟩ : ∃ G, G = w.heap.size + 1 + 1 := ⟨_, rfl⟩
  rw [← hG] at c2 f2
  rw [← hG]
  have hGl : w.heap.size + 1 < G := by omega
  have hG0 : G < W0.heap.size := by omega
  clear hW0 hG
  have hmany := Lib.hid (show 32 * (many s - 1) < s ∧ s ≤ 32 * many s ∧ 1 ≤ many s ∧ many s ≤ 255 by unfold many; omega)
  go_step3
  go_wp2_with fail
  go_loopw [6, 10] (fun v i wr => ∃ (j : Nat) (Al : Option Addr) (cl : Nat), j < many s ∧ i = .int .i64 ((j : Int) + 1) ∧ wr.ownsRow W0.heap.size 5 1 v (32 * j) ((tags k info j).map e8) ∧
    wr.cell? ⟨G, 0, none⟩ = some (.slice Al (tag k info j).length cl) ∧ wr.frozen? ⟨G, 0, none⟩ = false ∧ Rd wr wr.heap.size Al ((tag k info j).map e8) ∧ KpX G W0.heap.size W0 wr ∧ Below w.heap.size w wr) (fun _ i _ => 300 - (intOf i).toNat)
  case atStart => exact ⟨0, none, 0, by have := hmany.out; omega, rfl, own_nil _ _ _ _, c2, f2, Rd.nil _ _ _, KpX.refl _ _ _, hb0⟩
  case round =>
    obtain ⟨j, Al, cl, hj, rfl, hown, hcl, hfr, hrl, hkp, bel⟩ := hrel
    clear c2 f2
    obtain ⟨m1, m2, m3, m4⟩ := hmany.out
    have hj255 : j + 1 ≤ 255 := by omega
    have hsz := hkp.1
    have d0 := (hkp.cell (b := w.heap.size) (by omega) (by omega) 0).trans c0
    have d1 := (hkp.cell (b := w.heap.size + 1) (by omega) (by omega) 0).trans c1
    have hnext := next_any w.heap.size G (w.heap.size + 1) A Al B k (tag k info j) info k.length (tag k info j).length info.length c cl d (j + 1) ((j : Int) + 1) (by omega) hj255 wr rfl rfl rfl d0 hcl d1 (by omega) (by omega) (by omega)
      (hr.on bel) hrl (hi.on bel) bk (tags_le j) bi (hk.on bel)
    rw [show Mac.mac k (tag k info j ++ info ++ [UInt8.ofNat (j + 1)]) = tag k info (j + 1) from rfl] at hnext
    have hlen := tag_len k info j
    have htags := Lib.hid (show tags k info (j + 1) = tags k info j ++ tag k info (j + 1) from rfl)
    obtain ⟨T, hT⟩ : ∃ T, T = tag k info (j + 1) := ⟨_, rfl⟩
    rw [← hT] at hnext hlen htags
    have HT := Lib.hid hT
    have HL := Lib.hid hlen
    clear hT hlen
    go_wp2_with fail
    refine hnext.mono ?_
    clear hnext
    rintro e w3 ⟨A3, c3, rfl, own3, b3⟩
    rw [HL.out] at own3 ⊢
    have bel3 := bt bel b3
    have hfr3 := (b3.frozen (p := ⟨G, 0, none⟩) (by show G < wr.heap.size; omega)).trans hfr
    have hcl3 := (b3.cell (p := ⟨G, 0, none⟩) (by show G < wr.heap.size; omega)).trans hcl
    have hsz3 := b3.size
    have hap3 := own_at_base own3
    have hcap3 := own_cap own3
    have hr3 := Rd.own own3
    have hown3 := own_on hown b3
    have hr4 : Rd (w3.setCell ⟨G, 0, none⟩ (.slice A3 32 c3)) (w3.setCell ⟨G, 0, none⟩ (.slice A3 32 c3)).heap.size A3 (T.map e8) := rd_apart hr3 (grown_set w3 ⟨G, 0, none⟩ _) (fun a ha => by have := (hap3 a ha).1; simp; omega)
    have hown4 : (w3.setCell ⟨G, 0, none⟩ (.slice A3 32 c3)).ownsRow W0.heap.size 5 1 _ (32 * j) ((tags k info j).map e8) := hown3.kept (grown_set w3 ⟨G, 0, none⟩ _) (by
      rcases hown3.2 with ⟨rfl, _⟩ | ⟨g, cap, cur, rfl, hg, _⟩
      · exact .inl rfl
      · refine .inr fun e' => ?_
        have : g = G := by simpa [Value.ownBlock] using e'
        omega)
    have hbase4 : W0.heap.size ≤ (w3.setCell ⟨G, 0, none⟩ (.slice A3 32 c3)).heap.size := by simp; omega
    have bel4 : Below w.heap.size w (w3.setCell ⟨G, 0, none⟩ (.slice A3 32 c3)) := bset bel3 (by omega) _
    by_cases hfin : s ≤ 32 * j + 32
    · have hfin' : (s : Int) ≤ 32 * (j : Int) + 32 := by omega
      go_wp2_with (at_builtin; refine wpList_append_rd _ rfl _ _ _ rfl W0.heap.size 5 i0 _ 1 1 Tryd.underlying24 hi0 hz0 hz1 hz2 rfl (by omega) _ (32 * j) _ rfl hown4 _ A3 32 c3 (T.map e8) rfl (by rw [List.length_map, HL.out]) hr4 (e8_one _) (by simp only [maxLen]; omega) (by omega) hbase4 ?_; intro v5 w5 own5 hg5 hat5; obtain ⟨A5, c5, rfl⟩ := own_form own5; have hcp5 := own_cap own5; have hcp6 : (32 * j + 32 : Int) ≤ (c5 : Int) := (by omega))
      try rw [Exit.noGoto_ret]
      go_ret2
      have hjm : many s = j + 1 := by omega
      have hall : expand k info s = (tags k info j ++ T).take s := by rw [expand, hjm, htags.out]
      have hlen : (expand k info s).length = s := expand_len k info s
      have hr5 := (Rd.own own5).take s
      rw [← List.map_append, ← List.map_take, ← hall] at hr5
      refine ⟨A5, s, by rw [hlen]; rfl, hr5, by omega, by unfold maxLen; omega, ?_⟩
      exact bel4.grown hg5 bel4.size (fun g hg => by have := own_block hown4 hg; omega)
    · have hfin' : ¬ ((s : Int) ≤ 32 * (j : Int) + 32) := by omega
      go_wp2_with (at_builtin; refine wpList_append_rd _ rfl _ _ _ rfl W0.heap.size 5 i0 _ 1 1 Tryd.underlying24 hi0 hz0 hz1 hz2 rfl (by omega) _ (32 * j) _ rfl hown4 _ A3 32 c3 (T.map e8) rfl (by rw [List.length_map, HL.out]) hr4 (e8_one _) (by simp only [maxLen]; omega) (by omega) hbase4 ?_; intro v5 w5 own5 hg5 hat5; obtain ⟨A5, c5, rfl⟩ := own_form own5; have hcp5 := own_cap own5; have hcp6 : (32 * j + 32 : Int) ≤ (c5 : Int) := (by omega))
      go_roundw
      case rel =>
        have hG5 : w5.heap[G]? = (w3.setCell ⟨G, 0, none⟩ (.slice A3 32 c3)).heap[G]? := hg5.block G (by simp; omega) (fun e => by have := (hown4.lt G e.symm).1; omega)
        have hc5 : w5.cell? ⟨G, 0, none⟩ = some (.slice A3 32 c3) := (World.cell?_of_block hG5).trans (World.cell?_setCell_same' _ _ _ (by rw [hcl3]; rfl))
        have hf5 : w5.frozen? ⟨G, 0, none⟩ = false := (World.frozen?_of_block hG5).trans (by rw [World.frozen?_setCell]; exact hfr3)
        have hr5 := rd_apart hr4 hg5 (fun a ha e => by have h1 := (hap3 a ha).1; have h2 := (hown.lt _ e.symm).2; omega)
        have hk5 : KpX G W0.heap.size W0 w5 := hkp.trans ((KpX.of_below b3 hsz).trans ⟨by have := hg5.size; simp at this; omega, fun b hb hn => (hg5.block b (by simp; omega) (fun e => by have := (hown4.lt b e.symm).1; omega)).trans (Below.heap_setCell w3 ⟨G, 0, none⟩ _ b hn)⟩)
        refine ⟨j + 1, A3, c3, by omega, by go_num, ?_, ?_, hf5, ?_, hk5, bel4.grown hg5 bel4.size (fun g hg => by have := own_block hown4 hg; omega)⟩
        · rw [htags.out, List.map_append, show 32 * (j + 1) = 32 * j + 32 by omega]; exact own5
        · rw [← HT.out, HL.out]; exact hc5
        · rw [← HT.out]; exact hr5
      case measure => simp [intOf]; omega
end Go.Proofs.YtggldbadefbdaaaDoor.Kdf
