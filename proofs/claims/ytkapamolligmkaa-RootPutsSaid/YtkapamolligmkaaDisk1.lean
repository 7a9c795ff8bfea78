/- A disk in memory; the walks of its small methods. -/
import Derived.Test.YtkapamolligmkaaBig
import Derived.Test.YtkapamolligmkaaDiskPlain
import Derived.Test.YtkapamolligmkaaRows
import Derived.Outline
import Derived.BigQuiet
import Derived.Lib.MinMax
namespace Go.Proofs.Ytkapamolligmkaa.Disk
open Go.RowKit
set_option linter.unusedVariables false
set_option maxRecDepth 100000

/-- a block of a type that holds just these cells -/
def BlkT (w : World) (b : Nat) (t : TypeId) (xs : List Value) : Prop := w.heap[b]? = some (.cells xs.toArray t (0, 0))
theorem keep_set (w : World) (g o : Nat) (u : Value) : Keep [g] w (w.setCell ⟨g, o, none⟩ u) := (Keep.refl _ _).set (.inl (by simp)) _
def wcells (x : Wr) : List Value := .int .i64 (x.1 : Int) :: x.2.map e8
def kcells (n : Nat) (all : List Wr) : List Value := (List.range n).flatMap fun p => (kept all p).map e8
def pcells (l : List Wr) : List Value := l.flatMap wcells
/-- what came to be kept is told: its place, and a slice of a block with its bytes -/
def Told (w : World) (fp : List Nat) (vk : Value) (l : List Wr) (acs : List Value) : Prop :=
  ∀ i (h : i < l.length), ∃ b c, acs[i * 2]? = some (.int .i64 (l[i].1 : Int)) ∧ acs[i * 2 + 1]? = some (.slice (some ⟨b, 0, none⟩) 512 c) ∧ BlkT w b 83 (l[i].2.map e8) ∧ b ∈ fp ∧ vk.ownBlock ≠ some b ∧ 512 ≤ c ∧ c ≤ maxLen
/-- a disk lies at block g, in the blocks fp -/
structure Lies (w : World) (g : Nat) (fp : List Nat) (s : St) (vk vp va : Value) (acs : List Value) : Prop where
  blk : w.heap[g]? = some (.cells #[vk, vp, va, .int .i64 s.fuse, .int .i64 (s.calls : Int), .bool s.down] 63 (0, 0))
  kept : w.ownsRow 0 83 512 vk s.size (kcells s.size s.all)
  pend : w.ownsRow 0 89 513 vp s.pend.length (pcells s.pend)
  all : w.ownsRow 0 110 2 va s.all.length acs
  told : Told w fp vk s.all acs
  inG : g ∈ fp
  inK : ∀ j, vk.ownBlock = some j → j ∈ fp
  inP : ∀ j, vp.ownBlock = some j → j ∈ fp
  inA : ∀ j, va.ownBlock = some j → j ∈ fp
  lt : ∀ j ∈ fp, j < w.heap.size
  ok : ok s
def DAt (w : World) (g : Nat) (fp : List Nat) (s : St) : Prop := ∃ vk vp va acs, Lies w g fp s vk vp va acs
theorem own_type {w : World} {base : Nat} {e t : TypeId} {size n g : Nat} {v : Value} {xs : List Value} {cs : Array Value} {fr : Nat × Nat} (h : w.ownsRow base e size v n xs) (hg : w.heap[g]? = some (.cells cs t fr)) (hne : e ≠ t) : v.ownBlock ≠ some g := by
  rcases h.2 with ⟨rfl, _⟩ | ⟨k, cap, cur, rfl, _, hh, _⟩
  · simp [Value.ownBlock]
  · intro e2
    have : k = g := by simpa [Value.ownBlock] using e2
    subst this
    rw [hg] at hh
    injection hh with hh
    injection hh with h1 h2 h3
    exact hne h2.symm
theorem six {w : World} {g : Nat} {v0 v1 v2 v3 v4 v5 : Value} {t : TypeId} (h : w.heap[g]? = some (.cells #[v0, v1, v2, v3, v4, v5] t (0, 0))) :
    w.cell? ⟨g, 0, none⟩ = some v0 ∧ w.cell? ⟨g, 1, none⟩ = some v1 ∧ w.cell? ⟨g, 2, none⟩ = some v2 ∧ w.cell? ⟨g, 3, none⟩ = some v3 ∧ w.cell? ⟨g, 4, none⟩ = some v4 ∧ w.cell? ⟨g, 5, none⟩ = some v5 ∧ ∀ o, w.frozen? ⟨g, o, none⟩ = false := by
  refine ⟨?_, ?_, ?_, ?_, ?_, ?_, ?_⟩ <;> simp [World.cell?, World.frozen?, h]
theorem Lies.keep {w w' : World} {g : Nat} {fp fp' : List Nat} {s : St} {vk vp va : Value} {acs : List Value} (h : Lies w g fp s vk vp va acs) (k : Keep fp' w w') (hd : ∀ j ∈ fp, j ∉ fp') : Lies w' g fp s vk vp va acs :=
  ⟨(k.block (h.lt g h.inG) (hd g h.inG)).trans h.blk, own_keep h.kept k (fun j hj => hd j (h.inK j hj)), own_keep h.pend k (fun j hj => hd j (h.inP j hj)), own_keep h.all k (fun j hj => hd j (h.inA j hj)),
    fun i hi => by
      obtain ⟨b, c, h1, h2, h3, h4, h5⟩ := h.told i hi
      exact ⟨b, c, h1, h2, (k.block (h.lt b h4) (hd b h4)).trans h3, h4, h5⟩,
    h.inG, h.inK, h.inP, h.inA, fun j hj => Nat.lt_of_lt_of_le (h.lt j hj) k.size, h.ok⟩
theorem Lies.on {w w' : World} {g : Nat} {fp : List Nat} {s : St} {vk vp va : Value} {acs : List Value} (h : Lies w g fp s vk vp va acs) (b : Below w.heap.size w w') : Lies w' g fp s vk vp va acs := h.keep (Keep.of_below b []) (fun _ _ => by simp)
/-- the block of the numbers is turned -/
theorem Lies.turn {w w' : World} {g : Nat} {fp : List Nat} {s s' : St} {vk vp va : Value} {acs : List Value} (h : Lies w g fp s vk vp va acs) (k : Keep [g] w w')
    (hb : w'.heap[g]? = some (.cells #[vk, vp, va, .int .i64 s'.fuse, .int .i64 (s'.calls : Int), .bool s'.down] 63 (0, 0))) (h1 : s'.size = s.size) (h2 : s'.pend = s.pend) (h3 : s'.all = s.all) (h4 : Disk.ok s') : Lies w' g fp s' vk vp va acs := by
  have hK := own_type h.kept h.blk (by decide)
  have hP := own_type h.pend h.blk (by decide)
  have hA := own_type h.all h.blk (by decide)
  refine ⟨hb, ?_, ?_, ?_, ?_, h.inG, h.inK, h.inP, h.inA, fun j hj => Nat.lt_of_lt_of_le (h.lt j hj) k.size, h4⟩
  · rw [h1, h3]; exact own_keep h.kept k (fun j hj e => by rw [List.mem_singleton] at e; subst e; exact hK hj)
  · rw [h2]; exact own_keep h.pend k (fun j hj e => by rw [List.mem_singleton] at e; subst e; exact hP hj)
  · rw [h3]; exact own_keep h.all k (fun j hj e => by rw [List.mem_singleton] at e; subst e; exact hA hj)
  · rw [h3]
    intro i hi
    obtain ⟨b, c, h1, h2, h3, h4, h5⟩ := h.told i hi
    refine ⟨b, c, h1, h2, (k.block (h.lt b h4) ?_).trans h3, h4, h5⟩
    intro e
    rw [List.mem_singleton] at e
    subst e
    have := h.blk
    unfold BlkT at h3
    rw [h3] at this
    injection this with this
    injection this with e1 e2 e3
    exact absurd e2 (by decide)
theorem DAt.on {w w' : World} {g : Nat} {fp : List Nat} {s : St} (h : DAt w g fp s) (b : Below w.heap.size w w') : DAt w' g fp s := by
  obtain ⟨vk, vp, va, acs, h⟩ := h; exact ⟨vk, vp, va, acs, h.on b⟩
theorem DAt.keep {w w' : World} {g : Nat} {fp fp' : List Nat} {s : St} (h : DAt w g fp s) (k : Keep fp' w w') (hd : ∀ j ∈ fp, j ∉ fp') : DAt w' g fp s := by
  obtain ⟨vk, vp, va, acs, h⟩ := h; exact ⟨vk, vp, va, acs, h.keep k hd⟩
theorem DAt.lt {w : World} {g : Nat} {fp : List Nat} {s : St} (h : DAt w g fp s) : ∀ j ∈ fp, j < w.heap.size := by
  obtain ⟨vk, vp, va, acs, h⟩ := h; exact h.lt
theorem DAt.ok {w : World} {g : Nat} {fp : List Nat} {s : St} (h : DAt w g fp s) : Disk.ok s := by
  obtain ⟨vk, vp, va, acs, h⟩ := h; exact h.ok
def ptr (g : Nat) : Value := .pointer (some ⟨g, 0, none⟩)
/-- may a place be asked for? -/
def askF (s : St) (p : Int) : Int := if p < 0 ∨ (s.size : Int) ≤ p then 2 else 0

set_option maxHeartbeats 400000 in
theorem asked_any (g : Nat) (fp : List Nat) (s : St) (p : Int) (w : World) (h : DAt w g fp s) :
    Calls Try.prog 38 #[.pointer (some ⟨g, 0, none⟩), .int .i64 p] w fun e w' => e = .returned (.int .i64 (askF s p)) ∧ w = w' := by
  obtain ⟨vk, vp, va, acs, h⟩ := h
  obtain ⟨A, c, rfl⟩ := own_form h.kept
  obtain ⟨c0, _, _, _, _, _, fr⟩ := six h.blk
  by_cases h0 : p < 0
  · have he := Lib.hid (show askF s p = 2 from if_pos (.inl h0))
    clear h
    go_enter Try.func38, Try.ntmps38
    go_wp2
    go_ret
    exact ⟨ret_int he.out.symm, rfl⟩
  · by_cases h1 : (s.size : Int) ≤ p
    · have he := Lib.hid (show askF s p = 2 from if_pos (.inr h1))
      clear h
      go_enter Try.func38, Try.ntmps38
      go_wp2
      go_ret
      exact ⟨ret_int he.out.symm, rfl⟩
    · have he := Lib.hid (show askF s p = 0 from if_neg (by omega))
      clear h
      go_enter Try.func38, Try.ntmps38
      go_wp2
      go_ret
      exact ⟨ret_int he.out.symm, rfl⟩
theorem asked_nil (p : Int) (w : World) : Calls Try.prog 38 #[.pointer none, .int .i64 p] w fun e w' => e = .returned (.int .i64 1) ∧ w = w' := by
  go_enter Try.func38, Try.ntmps38
  go_wp2
  go_ret
  exact ⟨rfl, rfl⟩
theorem down_any (g : Nat) (fp : List Nat) (s : St) (w : World) (h : DAt w g fp s) : Calls Try.prog 46 #[.pointer (some ⟨g, 0, none⟩)] w fun e w' => e = .returned (.bool s.down) ∧ w = w' := by
  obtain ⟨vk, vp, va, acs, h⟩ := h
  obtain ⟨_, _, _, _, _, c5, fr⟩ := six h.blk
  clear h
  go_enter Try.func46, Try.ntmps46
  go_wp2
  go_ret
  exact ⟨rfl, rfl⟩
theorem down_nil (w : World) : Calls Try.prog 46 #[.pointer none] w fun e w' => e = .returned (.bool false) ∧ w = w' := by
  go_enter Try.func46, Try.ntmps46
  go_wp2
  go_ret
  exact ⟨rfl, rfl⟩









set_option maxHeartbeats 400000 in
theorem burn_any (g : Nat) (fp : List Nat) (s : St) (vk vp va : Value) (acs : List Value) (w : World) (h : Lies w g fp s vk vp va acs) (hs : s.sz ≤ 1000000000) :
    Calls Try.prog 57 #[.pointer (some ⟨g, 0, none⟩)] w fun e w' => e = .returned (.int .i64 (burn s).2) ∧ Lies w' g fp (burn s).1 vk vp va acs ∧ Keep [g] w w' := by
  obtain ⟨_, _, _, c3, c4, c5, fr⟩ := six h.blk
  have hc : s.calls ≤ 1000000000 := by unfold St.sz at hs; omega
  have hf := h.ok.fuse
  have hbl := burn_lists s
  have hbo := ok_burn h.ok
  have fin : ∀ (w' : World) (r : Int), (burn s).2 = r → Keep [g] w w' → w'.heap[g]? = some (.cells #[vk, vp, va, .int .i64 (burn s).1.fuse, .int .i64 ((burn s).1.calls : Int), .bool (burn s).1.down] 63 (0, 0)) →
      Ending.returned (.int .i64 r) = .returned (.int .i64 (burn s).2) ∧ Lies w' g fp (burn s).1 vk vp va acs ∧ Keep [g] w w' := fun w' r hr k hb =>
    ⟨by rw [hr], h.turn k hb hbl.2.2 hbl.1 hbl.2.1 hbo, k⟩
  have Hblk := Lib.hid h.blk
  have Fin := Lib.hid fin
  clear h fin hbl hbo
  by_cases h0 : s.fuse = 0
  · have hb := Lib.hid (show burn s = ({ s with calls := s.calls + 1, down := true }, 12) from if_pos h0)
    have t0 := beq_yes h0
    have H0 := Lib.hid h0
    clear h0
    go_enter Try.func57, Try.ntmps57
    go_wp2
    go_ret
    refine Fin.out _ _ (by rw [hb.out]) ((keep_set _ _ _ _).trans (keep_set _ _ _ _) (Fresh.refl _ _)) ?_
    rw [hb.out]
    simp [World.setCell, Array.getElem?_modify, Hblk.out]
  · by_cases h1 : 0 < s.fuse
    · have hb := Lib.hid (show burn s = ({ s with calls := s.calls + 1, fuse := s.fuse - 1 }, 0) by unfold burn; rw [if_neg h0, if_pos h1])
      have t0 := beq_no h0
      go_enter Try.func57, Try.ntmps57
      go_wp2
      go_ret
      refine Fin.out _ _ (by rw [hb.out]) ((keep_set _ _ _ _).trans (keep_set _ _ _ _) (Fresh.refl _ _)) ?_
      rw [hb.out]
      simp [World.setCell, Array.getElem?_modify, Hblk.out]
    · have hb := Lib.hid (show burn s = ({ s with calls := s.calls + 1 }, 0) by unfold burn; rw [if_neg h0, if_neg h1])
      have t0 := beq_no h0
      go_enter Try.func57, Try.ntmps57
      go_wp2
      go_ret
      refine Fin.out _ _ (by rw [hb.out]) (keep_set _ _ _ _) ?_
      rw [hb.out]
      simp [World.setCell, Array.getElem?_modify, Hblk.out]
end Go.Proofs.Ytkapamolligmkaa.Disk
