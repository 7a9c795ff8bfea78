/- The header of the next epoch, both sides. -/
import Derived.Test.YtdkcdojcglmlbaaPol2
import Derived.Deep.RegionHeld3
import Derived.Lib.MinMax
namespace Go.Proofs.Ytdkcdojcglmlbaa.Pol
open Go.RowKit
open Go.Proofs.Ytdkcdojcglmlbaa.Utf
set_option linter.unusedVariables false
set_option maxRecDepth 100000
/-- the next header, and what is told -/
def turn (k d e o s : Int) (t : List UInt8) : (Int × Int × Int × List UInt8) × Int :=
  if rightP k d = true ∧ rightH e o s t = true then (if 99999999 ≤ e then ((0, 0, 0, []), 13) else ((e + 1, max o (oldest k d (e + 1)), s, []), 0)) else ((0, 0, 0, []), 2)
def hv (x : Int × Int × Int × List UInt8) : Value := hdr x.1 x.2.1 x.2.2.1 x.2.2.2
/-- a block that holds just these cells -/
def Bl (w : World) (g : Nat) (t : TypeId) (xs : List Value) : Prop := w.heap[g]? = some (.cells xs.toArray t (0, 0))
theorem Bl.set {w : World} {g : Nat} {t : TypeId} {xs : List Value} (h : Bl w g t xs) (k : Nat) (v : Value) : Bl (w.setCell ⟨g, k, none⟩ v) g t (xs.set k v) := by
  unfold Bl
  rw [heap_setCell_same w g k _ t v h]
  simp
theorem Bl.other {w : World} {g b : Nat} {t : TypeId} {xs : List Value} (h : Bl w g t xs) (k : Nat) (v : Value) (hn : g ≠ b) : Bl (w.setCell ⟨b, k, none⟩ v) g t xs := (heap_setCell_other w _ g v (by simpa using hn)).trans h
theorem Bl.four {w : World} {g : Nat} {t : TypeId} {v0 v1 v2 v3 : Value} (h : Bl w g t [v0, v1, v2, v3]) : w.cell? ⟨g, 0, none⟩ = some v0 ∧ w.cell? ⟨g, 1, none⟩ = some v1 ∧ w.cell? ⟨g, 2, none⟩ = some v2 ∧ w.cell? ⟨g, 3, none⟩ = some v3 ∧ ∀ o, w.frozen? ⟨g, o, none⟩ = false := by
  have h' : w.heap[g]? = some (.cells #[v0, v1, v2, v3] t (0, 0)) := h
  refine ⟨?_, ?_, ?_, ?_, ?_⟩ <;> simp [World.cell?, World.frozen?, h']
theorem Bl.two {w : World} {g : Nat} {t : TypeId} {v0 v1 : Value} (h : Bl w g t [v0, v1]) : w.cell? ⟨g, 0, none⟩ = some v0 ∧ w.cell? ⟨g, 1, none⟩ = some v1 := by
  have h' : w.heap[g]? = some (.cells #[v0, v1] t (0, 0)) := h
  refine ⟨?_, ?_⟩ <;> simp [World.cell?, h']
theorem Bl.on {w w1 : World} {g : Nat} {t : TypeId} {xs : List Value} (h : Bl w g t xs) (b : Below w.heap.size w w1) : Bl w1 g t xs := (b.block _ (lt_of_block h)).trans h
theorem four_set {w wx : World} {g : Nat} {t : TypeId} {u0 u1 u2 u3 : Value} (h : Bl w g t [u0, u1, u2, u3]) (v0 v1 v2 v3 : Value) (hx : wx = (((w.setCell ⟨g, 0, none⟩ v0).setCell ⟨g, 1, none⟩ v1).setCell ⟨g, 2, none⟩ v2).setCell ⟨g, 3, none⟩ v3) :
    Bl wx g t [v0, v1, v2, v3] ∧ ∀ n0 a, Below n0 a w → n0 ≤ g → Below n0 a wx := by
  subst hx
  exact ⟨(((h.set 0 v0).set 1 v1).set 2 v2).set 3 v3, fun n0 a hb hn => bset (bset (bset (bset hb hn _) hn _) hn _) hn _⟩
/-- three new blocks -/
theorem three (w : World) (a b c : List Value) (ta tb tc : TypeId) :
    Bl (((w.alloc (.cells a.toArray ta)).alloc (.cells b.toArray tb)).alloc (.cells c.toArray tc)) w.heap.size ta a ∧ Bl (((w.alloc (.cells a.toArray ta)).alloc (.cells b.toArray tb)).alloc (.cells c.toArray tc)) (w.heap.size + 1) tb b ∧ Bl (((w.alloc (.cells a.toArray ta)).alloc (.cells b.toArray tb)).alloc (.cells c.toArray tc)) (w.heap.size + 1 + 1) tc c := by
  have h1 : Bl (w.alloc (.cells a.toArray ta)) w.heap.size ta a := heap_alloc_new w _
  have h2 : Bl ((w.alloc (.cells a.toArray ta)).alloc (.cells b.toArray tb)) (w.heap.size + 1) tb b := by
    have := heap_alloc_new (w.alloc (.cells a.toArray ta)) (.cells b.toArray tb)
    simpa [Bl] using this
  have h3 : Bl (((w.alloc (.cells a.toArray ta)).alloc (.cells b.toArray tb)).alloc (.cells c.toArray tc)) (w.heap.size + 1 + 1) tc c := by
    have := heap_alloc_new ((w.alloc (.cells a.toArray ta)).alloc (.cells b.toArray tb)) (.cells c.toArray tc)
    simpa [Bl] using this
  exact ⟨(h1.on (b1alloc _ _)).on (b1alloc _ _), h2.on (b1alloc _ _), h3⟩
theorem b3 (w : World) (a b c : Obj) : Below w.heap.size w (((w.alloc a).alloc b).alloc c) := b3alloc _ _ _ _
/-- the tuple comes back, and nothing that lay has turned -/
def RetT (w : World) (T : (Int × Int × Int × List UInt8) × Int) (E : Ending) (w' : World) : Prop := E = .returned (.tuple #[hv T.1, .int .i64 T.2]) ∧ Below w.heap.size w w'
set_option maxHeartbeats 2000000 in
theorem rturn_any (k d e o s : Int) (t : List UInt8) (w : World) (ht : t.length ≤ 300) : Calls Try.prog 23 #[.agg #[.int .i64 k, .int .i64 d], hdr e o s t] w (RetT w (turn k d e o s t)) := by
  have hp := fun w => rpright_any k d w
  have hh := fun w => rhright_any e o s t w (by omega)
  obtain ⟨T, hT⟩ : ∃ T, T = turn k d e o s t := ⟨_, rfl⟩
  rw [← hT]
  have bW := Lib.hid (b3 w (.cells #[.int .i64 k, .int .i64 d] 39) (.cells #[.int .i64 e, .int .i64 o, .int .i64 s, .string ⟨t.toArray⟩] 41) (.cells #[.int .i64 0, .int .i64 0, .int .i64 0, .string ⟨#[]⟩] 41))
  have T0 := three w [.int .i64 k, .int .i64 d] [.int .i64 e, .int .i64 o, .int .i64 s, .string ⟨t.toArray⟩] [.int .i64 0, .int .i64 0, .int .i64 0, .string ⟨#[]⟩] 39 41 41
  unfold hdr at hh ⊢
  cases hP : rightP k d with
  | false =>
    rw [hP] at hp
    have Hp := Lib.hid hp
    have hE : T = ((0, 0, 0, []), 2) := by rw [hT]; unfold turn; rw [if_neg (fun h => by rw [hP] at h; exact Bool.noConfusion h.1)]
    clear hp hP hT hh
    subst hE
    go_enter Try.func23, Try.ntmps23
    go_wp2_with (go_at_call 54; refine (Hp.out _).mono ?_; rintro e1 w1 ⟨rfl, b2⟩; obtain ⟨p0, p1⟩ := (T0.1.on b2).two; obtain ⟨h0, h1, h2, h3, hf⟩ := (T0.2.1.on b2).four; obtain ⟨z0, z1, z2, z3, zf⟩ := (T0.2.2.on b2).four; have bw := Lib.hid (bt bW.out b2))
    clear z0 z1 z2 z3 zf
    generalize hwe : (((w1.setCell ⟨w.heap.size + 1 + 1, 0, none⟩ (.int .i64 0)).setCell ⟨w.heap.size + 1 + 1, 1, none⟩ (.int .i64 0)).setCell ⟨w.heap.size + 1 + 1, 2, none⟩ (.int .i64 0)).setCell ⟨w.heap.size + 1 + 1, 3, none⟩ (.string ⟨#[]⟩) = we
    obtain ⟨E1, E2⟩ := four_set (T0.2.2.on b2) _ _ _ _ hwe.symm
    obtain ⟨z0, z1, z2, z3, zf⟩ := E1.four
    refine bodyPost_ret (v := .tuple #[hv (0, 0, 0, []), .int .i64 2]) (by simp [results, Try.results23, go_sem, hv, hdr, z0, z1, z2, z3]) rfl ?_
    exact ⟨rfl, E2 _ _ bw.out (by omega)⟩
  | true =>
    rw [hP] at hp
    have Hp := Lib.hid hp
    cases hH : rightH e o s t with
    | false =>
      rw [hH] at hh
      have Hh := Lib.hid hh
      have hE : T = ((0, 0, 0, []), 2) := by rw [hT]; unfold turn; rw [if_neg (fun h => by rw [hH] at h; exact Bool.noConfusion h.2)]
      clear hp hP hT hh hH
      subst hE
      go_enter Try.func23, Try.ntmps23
      go_wp2_with (first | (go_at_call 54; refine (Hp.out _).mono ?_; rintro e1 w1 ⟨rfl, b2⟩; obtain ⟨p0, p1⟩ := (T0.1.on b2).two; obtain ⟨h0, h1, h2, h3, hf⟩ := (T0.2.1.on b2).four; obtain ⟨z0, z1, z2, z3, zf⟩ := (T0.2.2.on b2).four) | (go_at_call 83; refine (Hh.out _).mono ?_; rintro e2 w2 ⟨rfl, b4⟩; have b5 := bt b2 b4; clear p0 p1 h0 h1 h2 h3 hf z0 z1 z2 z3 zf; obtain ⟨p0, p1⟩ := (T0.1.on b5).two; obtain ⟨h0, h1, h2, h3, hf⟩ := (T0.2.1.on b5).four; obtain ⟨z0, z1, z2, z3, zf⟩ := (T0.2.2.on b5).four; have bw := Lib.hid (bt bW.out b5)))
      clear z0 z1 z2 z3 zf
      generalize hwe : (((w2.setCell ⟨w.heap.size + 1 + 1, 0, none⟩ (.int .i64 0)).setCell ⟨w.heap.size + 1 + 1, 1, none⟩ (.int .i64 0)).setCell ⟨w.heap.size + 1 + 1, 2, none⟩ (.int .i64 0)).setCell ⟨w.heap.size + 1 + 1, 3, none⟩ (.string ⟨#[]⟩) = we
      obtain ⟨E1, E2⟩ := four_set (T0.2.2.on b5) _ _ _ _ hwe.symm
      obtain ⟨z0, z1, z2, z3, zf⟩ := E1.four
      refine bodyPost_ret (v := .tuple #[hv (0, 0, 0, []), .int .i64 2]) (by simp [results, Try.results23, go_sem, hv, hdr, z0, z1, z2, z3]) rfl ?_
      exact ⟨rfl, E2 _ _ bw.out (by omega)⟩
    | true =>
      rw [hH] at hh
      have Hh := Lib.hid hh
      obtain ⟨r1, r2, r3, r4, r5, _⟩ := of_decide_eq_true hH
      by_cases hc : 99999999 ≤ e
      · have hE : T = ((0, 0, 0, []), 13) := by rw [hT]; unfold turn; rw [if_pos ⟨hP, hH⟩, if_pos hc]
        clear hp hP hT hh hH
        subst hE
        go_enter Try.func23, Try.ntmps23
        go_wp2_with (first | (go_at_call 54; refine (Hp.out _).mono ?_; rintro e1 w1 ⟨rfl, b2⟩; obtain ⟨p0, p1⟩ := (T0.1.on b2).two; obtain ⟨h0, h1, h2, h3, hf⟩ := (T0.2.1.on b2).four; obtain ⟨z0, z1, z2, z3, zf⟩ := (T0.2.2.on b2).four) | (go_at_call 83; refine (Hh.out _).mono ?_; rintro e2 w2 ⟨rfl, b4⟩; have b5 := bt b2 b4; clear p0 p1 h0 h1 h2 h3 hf z0 z1 z2 z3 zf; obtain ⟨p0, p1⟩ := (T0.1.on b5).two; obtain ⟨h0, h1, h2, h3, hf⟩ := (T0.2.1.on b5).four; obtain ⟨z0, z1, z2, z3, zf⟩ := (T0.2.2.on b5).four; have bw := Lib.hid (bt bW.out b5)))
        clear z0 z1 z2 z3 zf
        generalize hwe : (((w2.setCell ⟨w.heap.size + 1 + 1, 0, none⟩ (.int .i64 0)).setCell ⟨w.heap.size + 1 + 1, 1, none⟩ (.int .i64 0)).setCell ⟨w.heap.size + 1 + 1, 2, none⟩ (.int .i64 0)).setCell ⟨w.heap.size + 1 + 1, 3, none⟩ (.string ⟨#[]⟩) = we
        obtain ⟨E1, E2⟩ := four_set (T0.2.2.on b5) _ _ _ _ hwe.symm
        obtain ⟨z0, z1, z2, z3, zf⟩ := E1.four
        refine bodyPost_ret (v := .tuple #[hv (0, 0, 0, []), .int .i64 13]) (by simp [results, Try.results23, go_sem, hv, hdr, z0, z1, z2, z3]) rfl ?_
        exact ⟨rfl, E2 _ _ bw.out (by omega)⟩
      · have hE : T = ((e + 1, max o (oldest k d (e + 1)), s, []), 0) := by rw [hT]; unfold turn; rw [if_pos ⟨hP, hH⟩, if_neg hc]
        have hOl := Lib.hid (fun w => roldest_any k d (e + 1) w (by omega) (by omega))
        obtain ⟨M, hM⟩ : ∃ M, M = oldest k d (e + 1) := ⟨_, rfl⟩
        rw [← hM] at hE hOl
        have hw1 : wrap64 (e + 1) = e + 1 := by unfold wrap64; omega
        clear hp hP hT hh hH hM
        subst hE
        go_enter Try.func23, Try.ntmps23
        go_wp2_with (first | (go_at_call 54; refine (Hp.out _).mono ?_; rintro e1 w1 ⟨rfl, b2⟩; obtain ⟨p0, p1⟩ := (T0.1.on b2).two; obtain ⟨h0, h1, h2, h3, hf⟩ := (T0.2.1.on b2).four; obtain ⟨z0, z1, z2, z3, zf⟩ := (T0.2.2.on b2).four) | (go_at_call 83; refine (Hh.out _).mono ?_; rintro e2 w2 ⟨rfl, b4⟩; have b5 := bt b2 b4; clear p0 p1 h0 h1 h2 h3 hf z0 z1 z2 z3 zf; obtain ⟨p0, p1⟩ := (T0.1.on b5).two; obtain ⟨h0, h1, h2, h3, hf⟩ := (T0.2.1.on b5).four; obtain ⟨z0, z1, z2, z3, zf⟩ := (T0.2.2.on b5).four; have bw := Lib.hid (bt bW.out b5)))
        have P2 := T0.1.on b5
        have H2 := T0.2.1.on b5
        have R2 := T0.2.2.on b5
        clear p0 p1 h0 h1 h2 h3 hf z0 z1 z2 z3 zf
        generalize hw3 : w2.setCell ⟨w.heap.size + 1, 0, none⟩ (.int .i64 (e + 1)) = w3
        have P3 : Bl w3 _ _ _ := hw3 ▸ P2.other 0 (.int .i64 (e + 1)) (by omega)
        have H3 : Bl w3 _ _ [.int .i64 (e + 1), .int .i64 o, .int .i64 s, .string ⟨t.toArray⟩] := hw3 ▸ H2.set 0 (.int .i64 (e + 1))
        have R3 : Bl w3 _ _ _ := hw3 ▸ R2.other 0 (.int .i64 (e + 1)) (by omega)
        have bw3 : Below w.heap.size w w3 := hw3 ▸ bset bw.out (Nat.le_succ _) (.int .i64 (e + 1))
        clear hw3 P2 H2 R2
        obtain ⟨p0, p1⟩ := P3.two
        obtain ⟨h0, h1, h2, h3, hf⟩ := H3.four
        have bd : Below w3.heap.size w3 w3.drew := (Below.refl _ _).drew
        have hS := (show ∀ W, Below w3.heap.size w3 W → (fun w' : World => (w'.cell? ⟨w.heap.size, 0, none⟩ = some (.int .i64 k) ∧ w'.cell? ⟨w.heap.size, 1, none⟩ = some (.int .i64 d)) ∧ w'.cell? ⟨w.heap.size + 1, 0, none⟩ = some (.int .i64 (e + 1))) W from fun W b => ⟨(P3.on b).two, (H3.on b).four.1⟩)
        refine wp_region_held_drew (S := (fun w' => (w'.cell? ⟨w.heap.size, 0, none⟩ = some (.int .i64 k) ∧ w'.cell? ⟨w.heap.size, 1, none⟩ = some (.int .i64 d)) ∧ w'.cell? ⟨w.heap.size + 1, 0, none⟩ = some (.int .i64 (e + 1)))) (by kernel_rfl) (by exact hS _ bd) (fun hHeld => ?_)
        refine wpAnyH_take (i := 0) (oi := { dst := some 23, op := Op.fieldAddr 41 (Operand.tmp 3) 1, type := 0, pos := "ref.go:55", after := #[], guard := none }) (v := ?_) rfl (by kernel_rfl) (by kernel_rfl) (by kernel_rfl) (fun _ _ _ h => h) (Or.inl ⟨by rfl, ?_⟩) (by assumption) ?_; rotate_left; · ((intro w hSw; (try dsimp only at hSw); go_simp) <;> with_reducible rfl)
        try simp only [Act.put, List.setIfInBounds_toArray, List.set_cons_zero, List.set_cons_succ]
        refine wpAnyH_take (i := 2) (oi := { dst := some 25, op := Op.load 39 (Operand.tmp 2), type := 39, pos := "ref.go:55", after := #[], guard := none }) (v := ?_) rfl (by kernel_rfl) (by kernel_rfl) (by kernel_rfl) (fun _ _ _ h => h) (Or.inl ⟨by rfl, ?_⟩) (by assumption) ?_; rotate_left; · ((intro w hSw; (try dsimp only at hSw); go_simp) <;> with_reducible rfl)
        try simp only [Act.put, List.setIfInBounds_toArray, List.set_cons_zero, List.set_cons_succ]
        refine wpAnyH_take (i := 3) (oi := { dst := some 26, op := Op.fieldAddr 41 (Operand.tmp 3) 0, type := 0, pos := "ref.go:55", after := #[], guard := none }) (v := ?_) rfl (by kernel_rfl) (by kernel_rfl) (by kernel_rfl) (fun _ _ _ h => h) (Or.inl ⟨by rfl, ?_⟩) (by assumption) ?_; rotate_left; · ((intro w hSw; (try dsimp only at hSw); go_simp) <;> with_reducible rfl)
        try simp only [Act.put, List.setIfInBounds_toArray, List.set_cons_zero, List.set_cons_succ]
        refine wpAnyH_take (i := 4) (oi := { dst := some 27, op := Op.load 3 (Operand.tmp 26), type := 3, pos := "ref.go:55", after := #[{ on := 3, ground := Ground.data }], guard := none }) (v := ?_) rfl (by kernel_rfl) (by kernel_rfl) (by kernel_rfl) (fun _ _ _ h => h) (Or.inl ⟨by rfl, ?_⟩) (by assumption) ?_; rotate_left; · ((intro w hSw; (try dsimp only at hSw); go_simp) <;> with_reducible rfl)
        try simp only [Act.put, List.setIfInBounds_toArray, List.set_cons_zero, List.set_cons_succ]
        refine wpAnyH_ready (rs := [1, 5]) (by kernel_rfl) (by simp) ?_
        refine (AllReadyH.cons (o := { dst := some 24, op := Op.load 3 (Operand.tmp 23), type := 3, pos := "ref.go:55", after := #[{ on := 0, ground := Ground.data }], guard := none }) rfl (fun K hK => ?way2) (AllReadyH.cons (o := { dst := some 28, op := Op.call { callee := Callee.value (Operand.func 84), args := #[Operand.tmp 25, Operand.tmp 27], argTypes := #[39, 3] }, type := 3, pos := "ref.go:55", after := #[{ on := 2, ground := Ground.data }, { on := 4, ground := Ground.data }], guard := none }) rfl (fun K hK => ?way1) AllReadyH.nil))
        case' way2 =>
          go_simp; (first | (go_at_call 84; refine (hOl.out _).mono ?_; rintro e4 w4 ⟨rfl, b6⟩; have bb := bt bd b6; have P4 := P3.on bb; have H4 := H3.on bb; have R4 := R3.on bb; obtain ⟨h0', h1', h2', h3', hf'⟩ := H4.four; have hS1 := (fun v => ⟨(P4.other 1 v (by omega)).two, (H4.set 1 v).four.1⟩ : ∀ v, (fun w' : World => (w'.cell? ⟨w.heap.size, 0, none⟩ = some (.int .i64 k) ∧ w'.cell? ⟨w.heap.size, 1, none⟩ = some (.int .i64 d)) ∧ w'.cell? ⟨w.heap.size + 1, 0, none⟩ = some (.int .i64 (e + 1))) (w4.setCell ⟨w.heap.size + 1, 1, none⟩ v)); have hS2 := (fun v u => ⟨(((P4.other 1 v (by omega)).other 3 u (by omega))).two, ((H4.set 1 v).set 3 u).four.1⟩ : ∀ v u, (fun w' : World => (w'.cell? ⟨w.heap.size, 0, none⟩ = some (.int .i64 k) ∧ w'.cell? ⟨w.heap.size, 1, none⟩ = some (.int .i64 d)) ∧ w'.cell? ⟨w.heap.size + 1, 0, none⟩ = some (.int .i64 (e + 1))) ((w4.setCell ⟨w.heap.size + 1, 1, none⟩ v).setCell ⟨w.heap.size + 1, 3, none⟩ u))) | skip); (try (go_wp2_with fail)); refine hK.out _ _ (by first | (first | with_reducible exact hS _ bd | with_reducible exact hS _ bb | with_reducible exact hS1 _ | with_reducible exact hS2 _ _) | ((try dsimp only); (first | with_reducible exact hS _ bd | with_reducible exact hS _ bb | with_reducible exact hS1 _ | with_reducible exact hS2 _ _))) (fun hHeld => ?_)
          clear hK K
          try simp only [Act.put, List.setIfInBounds_toArray, List.set_cons_zero, List.set_cons_succ]
          refine wpAnyH_ready (rs := [5]) (by kernel_rfl) (by simp) ?_
          refine AllReadyH.cons (o := { dst := some 28, op := Op.call { callee := Callee.value (Operand.func 84), args := #[Operand.tmp 25, Operand.tmp 27], argTypes := #[39, 3] }, type := 3, pos := "ref.go:55", after := #[{ on := 2, ground := Ground.data }, { on := 4, ground := Ground.data }], guard := none }) rfl (fun K hK => ?_) AllReadyH.nil
          go_simp; (first | (go_at_call 84; refine (hOl.out _).mono ?_; rintro e4 w4 ⟨rfl, b6⟩; have bb := bt bd b6; have P4 := P3.on bb; have H4 := H3.on bb; have R4 := R3.on bb; obtain ⟨h0', h1', h2', h3', hf'⟩ := H4.four; have hS1 := (fun v => ⟨(P4.other 1 v (by omega)).two, (H4.set 1 v).four.1⟩ : ∀ v, (fun w' : World => (w'.cell? ⟨w.heap.size, 0, none⟩ = some (.int .i64 k) ∧ w'.cell? ⟨w.heap.size, 1, none⟩ = some (.int .i64 d)) ∧ w'.cell? ⟨w.heap.size + 1, 0, none⟩ = some (.int .i64 (e + 1))) (w4.setCell ⟨w.heap.size + 1, 1, none⟩ v)); have hS2 := (fun v u => ⟨(((P4.other 1 v (by omega)).other 3 u (by omega))).two, ((H4.set 1 v).set 3 u).four.1⟩ : ∀ v u, (fun w' : World => (w'.cell? ⟨w.heap.size, 0, none⟩ = some (.int .i64 k) ∧ w'.cell? ⟨w.heap.size, 1, none⟩ = some (.int .i64 d)) ∧ w'.cell? ⟨w.heap.size + 1, 0, none⟩ = some (.int .i64 (e + 1))) ((w4.setCell ⟨w.heap.size + 1, 1, none⟩ v).setCell ⟨w.heap.size + 1, 3, none⟩ u))) | skip); (try (go_wp2_with fail)); refine hK.out _ _ (by first | (first | with_reducible exact hS _ bd | with_reducible exact hS _ bb | with_reducible exact hS1 _ | with_reducible exact hS2 _ _) | ((try dsimp only); (first | with_reducible exact hS _ bd | with_reducible exact hS _ bb | with_reducible exact hS1 _ | with_reducible exact hS2 _ _))) (fun hHeld => ?_)
          clear hK K
          try simp only [Act.put, List.setIfInBounds_toArray, List.set_cons_zero, List.set_cons_succ]
          refine wpAnyH_ready (rs := [6]) (by kernel_rfl) (by simp) ?_
          refine AllReadyH.cons (o := { dst := some 29, op := Op.call { callee := Callee.builtin Builtin.max, args := #[Operand.tmp 24, Operand.tmp 28], argTypes := #[3, 3] }, type := 3, pos := "ref.go:55", after := #[{ on := 1, ground := Ground.data }, { on := 5, ground := Ground.data }], guard := none }) rfl (fun K hK => ?_) AllReadyH.nil
          go_simp; (first | (go_at_call 84; refine (hOl.out _).mono ?_; rintro e4 w4 ⟨rfl, b6⟩; have bb := bt bd b6; have P4 := P3.on bb; have H4 := H3.on bb; have R4 := R3.on bb; obtain ⟨h0', h1', h2', h3', hf'⟩ := H4.four; have hS1 := (fun v => ⟨(P4.other 1 v (by omega)).two, (H4.set 1 v).four.1⟩ : ∀ v, (fun w' : World => (w'.cell? ⟨w.heap.size, 0, none⟩ = some (.int .i64 k) ∧ w'.cell? ⟨w.heap.size, 1, none⟩ = some (.int .i64 d)) ∧ w'.cell? ⟨w.heap.size + 1, 0, none⟩ = some (.int .i64 (e + 1))) (w4.setCell ⟨w.heap.size + 1, 1, none⟩ v)); have hS2 := (fun v u => ⟨(((P4.other 1 v (by omega)).other 3 u (by omega))).two, ((H4.set 1 v).set 3 u).four.1⟩ : ∀ v u, (fun w' : World => (w'.cell? ⟨w.heap.size, 0, none⟩ = some (.int .i64 k) ∧ w'.cell? ⟨w.heap.size, 1, none⟩ = some (.int .i64 d)) ∧ w'.cell? ⟨w.heap.size + 1, 0, none⟩ = some (.int .i64 (e + 1))) ((w4.setCell ⟨w.heap.size + 1, 1, none⟩ v).setCell ⟨w.heap.size + 1, 3, none⟩ u))) | skip); (try (go_wp2_with fail)); refine hK.out _ _ (by first | (first | with_reducible exact hS _ bd | with_reducible exact hS _ bb | with_reducible exact hS1 _ | with_reducible exact hS2 _ _) | ((try dsimp only); (first | with_reducible exact hS _ bd | with_reducible exact hS _ bb | with_reducible exact hS1 _ | with_reducible exact hS2 _ _))) (fun hHeld => ?_)
          clear hK K
          try simp only [Act.put, List.setIfInBounds_toArray, List.set_cons_zero, List.set_cons_succ]
          refine wpAnyH_take (i := 7) (oi := { dst := some 30, op := Op.fieldAddr 41 (Operand.tmp 3) 1, type := 0, pos := "ref.go:55", after := #[{ on := 0, ground := Ground.phase }, { on := 1, ground := Ground.phase }, { on := 2, ground := Ground.phase }, { on := 3, ground := Ground.phase }, { on := 4, ground := Ground.phase }, { on := 5, ground := Ground.phase }, { on := 6, ground := Ground.phase }], guard := none }) (v := ?_) rfl (by kernel_rfl) (by kernel_rfl) (by kernel_rfl) (fun _ _ _ h => h) (Or.inl ⟨by rfl, ?_⟩) (by assumption) ?_; rotate_left; · ((intro w hSw; (try dsimp only at hSw); go_simp) <;> with_reducible rfl)
          try simp only [Act.put, List.setIfInBounds_toArray, List.set_cons_zero, List.set_cons_succ]
          refine wpAnyH_ready (rs := [8]) (by kernel_rfl) (by simp) ?_
          refine AllReadyH.cons (o := { dst := none, op := Op.store 3 (Operand.tmp 30) (Operand.tmp 29), type := 0, pos := "ref.go:55", after := #[{ on := 7, ground := Ground.data }, { on := 6, ground := Ground.data }, { on := 5, ground := Ground.chain }, { on := 0, ground := Ground.phase }, { on := 1, ground := Ground.phase }, { on := 2, ground := Ground.phase }, { on := 3, ground := Ground.phase }, { on := 4, ground := Ground.phase }, { on := 5, ground := Ground.phase }, { on := 6, ground := Ground.phase }], guard := none }) rfl (fun K hK => ?_) AllReadyH.nil
          go_simp; (first | (go_at_call 84; refine (hOl.out _).mono ?_; rintro e4 w4 ⟨rfl, b6⟩; have bb := bt bd b6; have P4 := P3.on bb; have H4 := H3.on bb; have R4 := R3.on bb; obtain ⟨h0', h1', h2', h3', hf'⟩ := H4.four; have hS1 := (fun v => ⟨(P4.other 1 v (by omega)).two, (H4.set 1 v).four.1⟩ : ∀ v, (fun w' : World => (w'.cell? ⟨w.heap.size, 0, none⟩ = some (.int .i64 k) ∧ w'.cell? ⟨w.heap.size, 1, none⟩ = some (.int .i64 d)) ∧ w'.cell? ⟨w.heap.size + 1, 0, none⟩ = some (.int .i64 (e + 1))) (w4.setCell ⟨w.heap.size + 1, 1, none⟩ v)); have hS2 := (fun v u => ⟨(((P4.other 1 v (by omega)).other 3 u (by omega))).two, ((H4.set 1 v).set 3 u).four.1⟩ : ∀ v u, (fun w' : World => (w'.cell? ⟨w.heap.size, 0, none⟩ = some (.int .i64 k) ∧ w'.cell? ⟨w.heap.size, 1, none⟩ = some (.int .i64 d)) ∧ w'.cell? ⟨w.heap.size + 1, 0, none⟩ = some (.int .i64 (e + 1))) ((w4.setCell ⟨w.heap.size + 1, 1, none⟩ v).setCell ⟨w.heap.size + 1, 3, none⟩ u))) | skip); (try (go_wp2_with fail)); refine hK.out _ _ (by first | (first | with_reducible exact hS _ bd | with_reducible exact hS _ bb | with_reducible exact hS1 _ | with_reducible exact hS2 _ _) | ((try dsimp only); (first | with_reducible exact hS _ bd | with_reducible exact hS _ bb | with_reducible exact hS1 _ | with_reducible exact hS2 _ _))) (fun hHeld => ?_)
          clear hK K
          try simp only [Act.put, List.setIfInBounds_toArray, List.set_cons_zero, List.set_cons_succ]
          refine wpAnyH_done (by kernel_rfl) ?_ _
        case' way1 =>
          go_simp; (first | (go_at_call 84; refine (hOl.out _).mono ?_; rintro e4 w4 ⟨rfl, b6⟩; have bb := bt bd b6; have P4 := P3.on bb; have H4 := H3.on bb; have R4 := R3.on bb; obtain ⟨h0', h1', h2', h3', hf'⟩ := H4.four; have hS1 := (fun v => ⟨(P4.other 1 v (by omega)).two, (H4.set 1 v).four.1⟩ : ∀ v, (fun w' : World => (w'.cell? ⟨w.heap.size, 0, none⟩ = some (.int .i64 k) ∧ w'.cell? ⟨w.heap.size, 1, none⟩ = some (.int .i64 d)) ∧ w'.cell? ⟨w.heap.size + 1, 0, none⟩ = some (.int .i64 (e + 1))) (w4.setCell ⟨w.heap.size + 1, 1, none⟩ v)); have hS2 := (fun v u => ⟨(((P4.other 1 v (by omega)).other 3 u (by omega))).two, ((H4.set 1 v).set 3 u).four.1⟩ : ∀ v u, (fun w' : World => (w'.cell? ⟨w.heap.size, 0, none⟩ = some (.int .i64 k) ∧ w'.cell? ⟨w.heap.size, 1, none⟩ = some (.int .i64 d)) ∧ w'.cell? ⟨w.heap.size + 1, 0, none⟩ = some (.int .i64 (e + 1))) ((w4.setCell ⟨w.heap.size + 1, 1, none⟩ v).setCell ⟨w.heap.size + 1, 3, none⟩ u))) | skip); (try (go_wp2_with fail)); refine hK.out _ _ (by first | (first | with_reducible exact hS _ bd | with_reducible exact hS _ bb | with_reducible exact hS1 _ | with_reducible exact hS2 _ _) | ((try dsimp only); (first | with_reducible exact hS _ bd | with_reducible exact hS _ bb | with_reducible exact hS1 _ | with_reducible exact hS2 _ _))) (fun hHeld => ?_)
          clear hK K
          try simp only [Act.put, List.setIfInBounds_toArray, List.set_cons_zero, List.set_cons_succ]
          refine wpAnyH_ready (rs := [1]) (by kernel_rfl) (by simp) ?_
          refine AllReadyH.cons (o := { dst := some 24, op := Op.load 3 (Operand.tmp 23), type := 3, pos := "ref.go:55", after := #[{ on := 0, ground := Ground.data }], guard := none }) rfl (fun K hK => ?_) AllReadyH.nil
          go_simp; (first | (go_at_call 84; refine (hOl.out _).mono ?_; rintro e4 w4 ⟨rfl, b6⟩; have bb := bt bd b6; have P4 := P3.on bb; have H4 := H3.on bb; have R4 := R3.on bb; obtain ⟨h0', h1', h2', h3', hf'⟩ := H4.four; have hS1 := (fun v => ⟨(P4.other 1 v (by omega)).two, (H4.set 1 v).four.1⟩ : ∀ v, (fun w' : World => (w'.cell? ⟨w.heap.size, 0, none⟩ = some (.int .i64 k) ∧ w'.cell? ⟨w.heap.size, 1, none⟩ = some (.int .i64 d)) ∧ w'.cell? ⟨w.heap.size + 1, 0, none⟩ = some (.int .i64 (e + 1))) (w4.setCell ⟨w.heap.size + 1, 1, none⟩ v)); have hS2 := (fun v u => ⟨(((P4.other 1 v (by omega)).other 3 u (by omega))).two, ((H4.set 1 v).set 3 u).four.1⟩ : ∀ v u, (fun w' : World => (w'.cell? ⟨w.heap.size, 0, none⟩ = some (.int .i64 k) ∧ w'.cell? ⟨w.heap.size, 1, none⟩ = some (.int .i64 d)) ∧ w'.cell? ⟨w.heap.size + 1, 0, none⟩ = some (.int .i64 (e + 1))) ((w4.setCell ⟨w.heap.size + 1, 1, none⟩ v).setCell ⟨w.heap.size + 1, 3, none⟩ u))) | skip); (try (go_wp2_with fail)); refine hK.out _ _ (by first | (first | with_reducible exact hS _ bd | with_reducible exact hS _ bb | with_reducible exact hS1 _ | with_reducible exact hS2 _ _) | ((try dsimp only); (first | with_reducible exact hS _ bd | with_reducible exact hS _ bb | with_reducible exact hS1 _ | with_reducible exact hS2 _ _))) (fun hHeld => ?_)
          clear hK K
          try simp only [Act.put, List.setIfInBounds_toArray, List.set_cons_zero, List.set_cons_succ]
          refine wpAnyH_ready (rs := [6]) (by kernel_rfl) (by simp) ?_
          refine AllReadyH.cons (o := { dst := some 29, op := Op.call { callee := Callee.builtin Builtin.max, args := #[Operand.tmp 24, Operand.tmp 28], argTypes := #[3, 3] }, type := 3, pos := "ref.go:55", after := #[{ on := 1, ground := Ground.data }, { on := 5, ground := Ground.data }], guard := none }) rfl (fun K hK => ?_) AllReadyH.nil
          go_simp; (first | (go_at_call 84; refine (hOl.out _).mono ?_; rintro e4 w4 ⟨rfl, b6⟩; have bb := bt bd b6; have P4 := P3.on bb; have H4 := H3.on bb; have R4 := R3.on bb; obtain ⟨h0', h1', h2', h3', hf'⟩ := H4.four; have hS1 := (fun v => ⟨(P4.other 1 v (by omega)).two, (H4.set 1 v).four.1⟩ : ∀ v, (fun w' : World => (w'.cell? ⟨w.heap.size, 0, none⟩ = some (.int .i64 k) ∧ w'.cell? ⟨w.heap.size, 1, none⟩ = some (.int .i64 d)) ∧ w'.cell? ⟨w.heap.size + 1, 0, none⟩ = some (.int .i64 (e + 1))) (w4.setCell ⟨w.heap.size + 1, 1, none⟩ v)); have hS2 := (fun v u => ⟨(((P4.other 1 v (by omega)).other 3 u (by omega))).two, ((H4.set 1 v).set 3 u).four.1⟩ : ∀ v u, (fun w' : World => (w'.cell? ⟨w.heap.size, 0, none⟩ = some (.int .i64 k) ∧ w'.cell? ⟨w.heap.size, 1, none⟩ = some (.int .i64 d)) ∧ w'.cell? ⟨w.heap.size + 1, 0, none⟩ = some (.int .i64 (e + 1))) ((w4.setCell ⟨w.heap.size + 1, 1, none⟩ v).setCell ⟨w.heap.size + 1, 3, none⟩ u))) | skip); (try (go_wp2_with fail)); refine hK.out _ _ (by first | (first | with_reducible exact hS _ bd | with_reducible exact hS _ bb | with_reducible exact hS1 _ | with_reducible exact hS2 _ _) | ((try dsimp only); (first | with_reducible exact hS _ bd | with_reducible exact hS _ bb | with_reducible exact hS1 _ | with_reducible exact hS2 _ _))) (fun hHeld => ?_)
          clear hK K
          try simp only [Act.put, List.setIfInBounds_toArray, List.set_cons_zero, List.set_cons_succ]
          refine wpAnyH_take (i := 7) (oi := { dst := some 30, op := Op.fieldAddr 41 (Operand.tmp 3) 1, type := 0, pos := "ref.go:55", after := #[{ on := 0, ground := Ground.phase }, { on := 1, ground := Ground.phase }, { on := 2, ground := Ground.phase }, { on := 3, ground := Ground.phase }, { on := 4, ground := Ground.phase }, { on := 5, ground := Ground.phase }, { on := 6, ground := Ground.phase }], guard := none }) (v := ?_) rfl (by kernel_rfl) (by kernel_rfl) (by kernel_rfl) (fun _ _ _ h => h) (Or.inl ⟨by rfl, ?_⟩) (by assumption) ?_; rotate_left; · ((intro w hSw; (try dsimp only at hSw); go_simp) <;> with_reducible rfl)
          try simp only [Act.put, List.setIfInBounds_toArray, List.set_cons_zero, List.set_cons_succ]
          refine wpAnyH_ready (rs := [8]) (by kernel_rfl) (by simp) ?_
          refine AllReadyH.cons (o := { dst := none, op := Op.store 3 (Operand.tmp 30) (Operand.tmp 29), type := 0, pos := "ref.go:55", after := #[{ on := 7, ground := Ground.data }, { on := 6, ground := Ground.data }, { on := 5, ground := Ground.chain }, { on := 0, ground := Ground.phase }, { on := 1, ground := Ground.phase }, { on := 2, ground := Ground.phase }, { on := 3, ground := Ground.phase }, { on := 4, ground := Ground.phase }, { on := 5, ground := Ground.phase }, { on := 6, ground := Ground.phase }], guard := none }) rfl (fun K hK => ?_) AllReadyH.nil
          go_simp; (first | (go_at_call 84; refine (hOl.out _).mono ?_; rintro e4 w4 ⟨rfl, b6⟩; have bb := bt bd b6; have P4 := P3.on bb; have H4 := H3.on bb; have R4 := R3.on bb; obtain ⟨h0', h1', h2', h3', hf'⟩ := H4.four; have hS1 := (fun v => ⟨(P4.other 1 v (by omega)).two, (H4.set 1 v).four.1⟩ : ∀ v, (fun w' : World => (w'.cell? ⟨w.heap.size, 0, none⟩ = some (.int .i64 k) ∧ w'.cell? ⟨w.heap.size, 1, none⟩ = some (.int .i64 d)) ∧ w'.cell? ⟨w.heap.size + 1, 0, none⟩ = some (.int .i64 (e + 1))) (w4.setCell ⟨w.heap.size + 1, 1, none⟩ v)); have hS2 := (fun v u => ⟨(((P4.other 1 v (by omega)).other 3 u (by omega))).two, ((H4.set 1 v).set 3 u).four.1⟩ : ∀ v u, (fun w' : World => (w'.cell? ⟨w.heap.size, 0, none⟩ = some (.int .i64 k) ∧ w'.cell? ⟨w.heap.size, 1, none⟩ = some (.int .i64 d)) ∧ w'.cell? ⟨w.heap.size + 1, 0, none⟩ = some (.int .i64 (e + 1))) ((w4.setCell ⟨w.heap.size + 1, 1, none⟩ v).setCell ⟨w.heap.size + 1, 3, none⟩ u))) | skip); (try (go_wp2_with fail)); refine hK.out _ _ (by first | (first | with_reducible exact hS _ bd | with_reducible exact hS _ bb | with_reducible exact hS1 _ | with_reducible exact hS2 _ _) | ((try dsimp only); (first | with_reducible exact hS _ bd | with_reducible exact hS _ bb | with_reducible exact hS1 _ | with_reducible exact hS2 _ _))) (fun hHeld => ?_)
          clear hK K
          try simp only [Act.put, List.setIfInBounds_toArray, List.set_cons_zero, List.set_cons_succ]
          refine wpAnyH_done (by kernel_rfl) ?_ _
        all_goals
          clear p0 p1 h0 h1 h2 h3 hf hS hS1 hS2 h0' h1' h2' h3' hf'
          generalize hw5 : w4.setCell ⟨w.heap.size + 1, 1, none⟩ (.int .i64 (max o M)) = w5
          have H5 : Bl w5 _ _ [.int .i64 (e + 1), .int .i64 (max o M), .int .i64 s, .string ⟨t.toArray⟩] := hw5 ▸ H4.set 1 (.int .i64 (max o M))
          have R5 : Bl w5 _ _ _ := hw5 ▸ R4.other 1 (.int .i64 (max o M)) (by omega)
          have bw5 : Below w.heap.size w w5 := hw5 ▸ bset (bt bw3 bb) (Nat.le_succ _) (.int .i64 (max o M))
          clear hw5 H4 R4 P4 P3 H3 R3 hHeld
          obtain ⟨h0, h1, h2, h3, hf⟩ := H5.four
          obtain ⟨z0, z1, z2, z3, zf⟩ := R5.four
          go_wp2_with fail
          generalize hw6 : w5.setCell ⟨w.heap.size + 1, 3, none⟩ (.string ⟨#[]⟩) = w6
          have H6 : Bl w6 _ _ [.int .i64 (e + 1), .int .i64 (max o M), .int .i64 s, .string ⟨#[]⟩] := hw6 ▸ H5.set 3 (.string ⟨#[]⟩)
          have R6 : Bl w6 _ _ _ := hw6 ▸ R5.other 3 (.string ⟨#[]⟩) (by omega)
          have bw6 : Below w.heap.size w w6 := hw6 ▸ bset bw5 (Nat.le_succ _) (.string ⟨#[]⟩)
          clear hw6
          generalize hwe : (((w6.setCell ⟨w.heap.size + 1 + 1, 0, none⟩ (.int .i64 (e + 1))).setCell ⟨w.heap.size + 1 + 1, 1, none⟩ (.int .i64 (max o M))).setCell ⟨w.heap.size + 1 + 1, 2, none⟩ (.int .i64 s)).setCell ⟨w.heap.size + 1 + 1, 3, none⟩ (.string ⟨#[]⟩) = we
          obtain ⟨E1, E2⟩ := four_set R6 _ _ _ _ hwe.symm
          (try clear z0 z1 z2 z3 zf)
          obtain ⟨z0, z1, z2, z3, zf⟩ := E1.four
          refine bodyPost_ret (v := .tuple #[hv (e + 1, max o M, s, []), .int .i64 0]) (by simp [results, Try.results23, go_sem, hv, hdr, z0, z1, z2, z3]) rfl ?_
          exact ⟨rfl, E2 _ _ bw6 (by omega)⟩
set_option maxHeartbeats 2000000 in
theorem turn_any (k d e o s : Int) (t : List UInt8) (w : World) (ht : t.length ≤ 300) : Calls Try.prog 22 #[.agg #[.int .i64 k, .int .i64 d], hdr e o s t] w (RetT w (turn k d e o s t)) := by
  have hp := fun w => pright_any k d w
  have hh := fun w => polright_any e o s t w (by omega)
  obtain ⟨T, hT⟩ : ∃ T, T = turn k d e o s t := ⟨_, rfl⟩
  rw [← hT]
  have bW := Lib.hid (b3 w (.cells #[.int .i64 k, .int .i64 d] 46) (.cells #[.int .i64 e, .int .i64 o, .int .i64 s, .string ⟨t.toArray⟩] 42) (.cells #[.int .i64 0, .int .i64 0, .int .i64 0, .string ⟨#[]⟩] 42))
  have T0 := three w [.int .i64 k, .int .i64 d] [.int .i64 e, .int .i64 o, .int .i64 s, .string ⟨t.toArray⟩] [.int .i64 0, .int .i64 0, .int .i64 0, .string ⟨#[]⟩] 46 42 42
  unfold hdr at hh ⊢
  cases hP : rightP k d with
  | false =>
    rw [hP] at hp
    have Hp := Lib.hid hp
    have hE : T = ((0, 0, 0, []), 2) := by rw [hT]; unfold turn; rw [if_neg (fun h => by rw [hP] at h; exact Bool.noConfusion h.1)]
    clear hp hP hT hh
    subst hE
    go_enter Try.func22, Try.ntmps22
    go_wp2_with (go_at_call 81; refine (Hp.out _).mono ?_; rintro e1 w1 ⟨rfl, b2⟩; obtain ⟨p0, p1⟩ := (T0.1.on b2).two; obtain ⟨h0, h1, h2, h3, hf⟩ := (T0.2.1.on b2).four; obtain ⟨z0, z1, z2, z3, zf⟩ := (T0.2.2.on b2).four; have bw := Lib.hid (bt bW.out b2))
    clear z0 z1 z2 z3 zf
    generalize hwe : (((w1.setCell ⟨w.heap.size + 1 + 1, 0, none⟩ (.int .i64 0)).setCell ⟨w.heap.size + 1 + 1, 1, none⟩ (.int .i64 0)).setCell ⟨w.heap.size + 1 + 1, 2, none⟩ (.int .i64 0)).setCell ⟨w.heap.size + 1 + 1, 3, none⟩ (.string ⟨#[]⟩) = we
    obtain ⟨E1, E2⟩ := four_set (T0.2.2.on b2) _ _ _ _ hwe.symm
    obtain ⟨z0, z1, z2, z3, zf⟩ := E1.four
    refine bodyPost_ret (v := .tuple #[hv (0, 0, 0, []), .int .i64 2]) (by simp [results, Try.results22, go_sem, hv, hdr, z0, z1, z2, z3]) rfl ?_
    exact ⟨rfl, E2 _ _ bw.out (by omega)⟩
  | true =>
    rw [hP] at hp
    have Hp := Lib.hid hp
    cases hH : rightH e o s t with
    | false =>
      rw [hH] at hh
      have Hh := Lib.hid hh
      have hE : T = ((0, 0, 0, []), 2) := by rw [hT]; unfold turn; rw [if_neg (fun h => by rw [hH] at h; exact Bool.noConfusion h.2)]
      clear hp hP hT hh hH
      subst hE
      go_enter Try.func22, Try.ntmps22
      go_wp2_with (first | (go_at_call 81; refine (Hp.out _).mono ?_; rintro e1 w1 ⟨rfl, b2⟩; obtain ⟨p0, p1⟩ := (T0.1.on b2).two; obtain ⟨h0, h1, h2, h3, hf⟩ := (T0.2.1.on b2).four; obtain ⟨z0, z1, z2, z3, zf⟩ := (T0.2.2.on b2).four) | (go_at_call 82; refine (Hh.out _).mono ?_; rintro e2 w2 ⟨rfl, b4⟩; have b5 := bt b2 b4; clear p0 p1 h0 h1 h2 h3 hf z0 z1 z2 z3 zf; obtain ⟨p0, p1⟩ := (T0.1.on b5).two; obtain ⟨h0, h1, h2, h3, hf⟩ := (T0.2.1.on b5).four; obtain ⟨z0, z1, z2, z3, zf⟩ := (T0.2.2.on b5).four; have bw := Lib.hid (bt bW.out b5)))
      clear z0 z1 z2 z3 zf
      generalize hwe : (((w2.setCell ⟨w.heap.size + 1 + 1, 0, none⟩ (.int .i64 0)).setCell ⟨w.heap.size + 1 + 1, 1, none⟩ (.int .i64 0)).setCell ⟨w.heap.size + 1 + 1, 2, none⟩ (.int .i64 0)).setCell ⟨w.heap.size + 1 + 1, 3, none⟩ (.string ⟨#[]⟩) = we
      obtain ⟨E1, E2⟩ := four_set (T0.2.2.on b5) _ _ _ _ hwe.symm
      obtain ⟨z0, z1, z2, z3, zf⟩ := E1.four
      refine bodyPost_ret (v := .tuple #[hv (0, 0, 0, []), .int .i64 2]) (by simp [results, Try.results22, go_sem, hv, hdr, z0, z1, z2, z3]) rfl ?_
      exact ⟨rfl, E2 _ _ bw.out (by omega)⟩
    | true =>
      rw [hH] at hh
      have Hh := Lib.hid hh
      obtain ⟨r1, r2, r3, r4, r5, _⟩ := of_decide_eq_true hH
      by_cases hc : 99999999 ≤ e
      · have hE : T = ((0, 0, 0, []), 13) := by rw [hT]; unfold turn; rw [if_pos ⟨hP, hH⟩, if_pos hc]
        clear hp hP hT hh hH
        subst hE
        go_enter Try.func22, Try.ntmps22
        go_wp2_with (first | (go_at_call 81; refine (Hp.out _).mono ?_; rintro e1 w1 ⟨rfl, b2⟩; obtain ⟨p0, p1⟩ := (T0.1.on b2).two; obtain ⟨h0, h1, h2, h3, hf⟩ := (T0.2.1.on b2).four; obtain ⟨z0, z1, z2, z3, zf⟩ := (T0.2.2.on b2).four) | (go_at_call 82; refine (Hh.out _).mono ?_; rintro e2 w2 ⟨rfl, b4⟩; have b5 := bt b2 b4; clear p0 p1 h0 h1 h2 h3 hf z0 z1 z2 z3 zf; obtain ⟨p0, p1⟩ := (T0.1.on b5).two; obtain ⟨h0, h1, h2, h3, hf⟩ := (T0.2.1.on b5).four; obtain ⟨z0, z1, z2, z3, zf⟩ := (T0.2.2.on b5).four; have bw := Lib.hid (bt bW.out b5)))
        clear z0 z1 z2 z3 zf
        generalize hwe : (((w2.setCell ⟨w.heap.size + 1 + 1, 0, none⟩ (.int .i64 0)).setCell ⟨w.heap.size + 1 + 1, 1, none⟩ (.int .i64 0)).setCell ⟨w.heap.size + 1 + 1, 2, none⟩ (.int .i64 0)).setCell ⟨w.heap.size + 1 + 1, 3, none⟩ (.string ⟨#[]⟩) = we
        obtain ⟨E1, E2⟩ := four_set (T0.2.2.on b5) _ _ _ _ hwe.symm
        obtain ⟨z0, z1, z2, z3, zf⟩ := E1.four
        refine bodyPost_ret (v := .tuple #[hv (0, 0, 0, []), .int .i64 13]) (by simp [results, Try.results22, go_sem, hv, hdr, z0, z1, z2, z3]) rfl ?_
        exact ⟨rfl, E2 _ _ bw.out (by omega)⟩
      · have hE : T = ((e + 1, max o (oldest k d (e + 1)), s, []), 0) := by rw [hT]; unfold turn; rw [if_pos ⟨hP, hH⟩, if_neg hc]
        have hOl := Lib.hid (fun w => poldest_any k d (e + 1) w (by omega) (by omega))
        obtain ⟨M, hM⟩ : ∃ M, M = oldest k d (e + 1) := ⟨_, rfl⟩
        rw [← hM] at hE hOl
        have hw1 : wrap64 (e + 1) = e + 1 := by unfold wrap64; omega
        clear hp hP hT hh hH hM
        subst hE
        go_enter Try.func22, Try.ntmps22
        go_wp2_with (first | (go_at_call 81; refine (Hp.out _).mono ?_; rintro e1 w1 ⟨rfl, b2⟩; obtain ⟨p0, p1⟩ := (T0.1.on b2).two; obtain ⟨h0, h1, h2, h3, hf⟩ := (T0.2.1.on b2).four; obtain ⟨z0, z1, z2, z3, zf⟩ := (T0.2.2.on b2).four) | (go_at_call 82; refine (Hh.out _).mono ?_; rintro e2 w2 ⟨rfl, b4⟩; have b5 := bt b2 b4; clear p0 p1 h0 h1 h2 h3 hf z0 z1 z2 z3 zf; obtain ⟨p0, p1⟩ := (T0.1.on b5).two; obtain ⟨h0, h1, h2, h3, hf⟩ := (T0.2.1.on b5).four; obtain ⟨z0, z1, z2, z3, zf⟩ := (T0.2.2.on b5).four; have bw := Lib.hid (bt bW.out b5)))
        have P2 := T0.1.on b5
        have H2 := T0.2.1.on b5
        have R2 := T0.2.2.on b5
        clear p0 p1 h0 h1 h2 h3 hf z0 z1 z2 z3 zf
        generalize hw3 : w2.setCell ⟨w.heap.size + 1, 0, none⟩ (.int .i64 (e + 1)) = w3
        have P3 : Bl w3 _ _ _ := hw3 ▸ P2.other 0 (.int .i64 (e + 1)) (by omega)
        have H3 : Bl w3 _ _ [.int .i64 (e + 1), .int .i64 o, .int .i64 s, .string ⟨t.toArray⟩] := hw3 ▸ H2.set 0 (.int .i64 (e + 1))
        have R3 : Bl w3 _ _ _ := hw3 ▸ R2.other 0 (.int .i64 (e + 1)) (by omega)
        have bw3 : Below w.heap.size w w3 := hw3 ▸ bset bw.out (Nat.le_succ _) (.int .i64 (e + 1))
        clear hw3 P2 H2 R2
        obtain ⟨p0, p1⟩ := P3.two
        obtain ⟨h0, h1, h2, h3, hf⟩ := H3.four
        have bd : Below w3.heap.size w3 w3.drew := (Below.refl _ _).drew
        have hS := (show ∀ W, Below w3.heap.size w3 W → (fun w' : World => (w'.cell? ⟨w.heap.size, 0, none⟩ = some (.int .i64 k) ∧ w'.cell? ⟨w.heap.size, 1, none⟩ = some (.int .i64 d)) ∧ w'.cell? ⟨w.heap.size + 1, 0, none⟩ = some (.int .i64 (e + 1))) W from fun W b => ⟨(P3.on b).two, (H3.on b).four.1⟩)
        refine wp_region_held_drew (S := (fun w' => (w'.cell? ⟨w.heap.size, 0, none⟩ = some (.int .i64 k) ∧ w'.cell? ⟨w.heap.size, 1, none⟩ = some (.int .i64 d)) ∧ w'.cell? ⟨w.heap.size + 1, 0, none⟩ = some (.int .i64 (e + 1)))) (by kernel_rfl) (by exact hS _ bd) (fun hHeld => ?_)
        refine wpAnyH_take (i := 0) (oi := { dst := some 25, op := Op.fieldAddr 42 (Operand.tmp 3) 1, type := 0, pos := "policy.go:72", after := #[], guard := none }) (v := ?_) rfl (by kernel_rfl) (by kernel_rfl) (by kernel_rfl) (fun _ _ _ h => h) (Or.inl ⟨by rfl, ?_⟩) (by assumption) ?_; rotate_left; · ((intro w hSw; (try dsimp only at hSw); go_simp) <;> with_reducible rfl)
        try simp only [Act.put, List.setIfInBounds_toArray, List.set_cons_zero, List.set_cons_succ]
        refine wpAnyH_take (i := 2) (oi := { dst := some 27, op := Op.load 46 (Operand.tmp 2), type := 46, pos := "policy.go:72", after := #[], guard := none }) (v := ?_) rfl (by kernel_rfl) (by kernel_rfl) (by kernel_rfl) (fun _ _ _ h => h) (Or.inl ⟨by rfl, ?_⟩) (by assumption) ?_; rotate_left; · ((intro w hSw; (try dsimp only at hSw); go_simp) <;> with_reducible rfl)
        try simp only [Act.put, List.setIfInBounds_toArray, List.set_cons_zero, List.set_cons_succ]
        refine wpAnyH_take (i := 3) (oi := { dst := some 28, op := Op.fieldAddr 42 (Operand.tmp 3) 0, type := 0, pos := "policy.go:72", after := #[], guard := none }) (v := ?_) rfl (by kernel_rfl) (by kernel_rfl) (by kernel_rfl) (fun _ _ _ h => h) (Or.inl ⟨by rfl, ?_⟩) (by assumption) ?_; rotate_left; · ((intro w hSw; (try dsimp only at hSw); go_simp) <;> with_reducible rfl)
        try simp only [Act.put, List.setIfInBounds_toArray, List.set_cons_zero, List.set_cons_succ]
        refine wpAnyH_take (i := 4) (oi := { dst := some 29, op := Op.load 3 (Operand.tmp 28), type := 3, pos := "policy.go:72", after := #[{ on := 3, ground := Ground.data }], guard := none }) (v := ?_) rfl (by kernel_rfl) (by kernel_rfl) (by kernel_rfl) (fun _ _ _ h => h) (Or.inl ⟨by rfl, ?_⟩) (by assumption) ?_; rotate_left; · ((intro w hSw; (try dsimp only at hSw); go_simp) <;> with_reducible rfl)
        try simp only [Act.put, List.setIfInBounds_toArray, List.set_cons_zero, List.set_cons_succ]
        refine wpAnyH_ready (rs := [1, 5]) (by kernel_rfl) (by simp) ?_
        refine (AllReadyH.cons (o := { dst := some 26, op := Op.load 3 (Operand.tmp 25), type := 3, pos := "policy.go:72", after := #[{ on := 0, ground := Ground.data }], guard := none }) rfl (fun K hK => ?way2) (AllReadyH.cons (o := { dst := some 30, op := Op.call { callee := Callee.value (Operand.func 80), args := #[Operand.tmp 27, Operand.tmp 29], argTypes := #[46, 3] }, type := 3, pos := "policy.go:72", after := #[{ on := 2, ground := Ground.data }, { on := 4, ground := Ground.data }], guard := none }) rfl (fun K hK => ?way1) AllReadyH.nil))
        case' way2 =>
          go_simp; (first | (go_at_call 80; refine (hOl.out _).mono ?_; rintro e4 w4 ⟨rfl, b6⟩; have bb := bt bd b6; have P4 := P3.on bb; have H4 := H3.on bb; have R4 := R3.on bb; obtain ⟨h0', h1', h2', h3', hf'⟩ := H4.four; have hS1 := (fun v => ⟨(P4.other 1 v (by omega)).two, (H4.set 1 v).four.1⟩ : ∀ v, (fun w' : World => (w'.cell? ⟨w.heap.size, 0, none⟩ = some (.int .i64 k) ∧ w'.cell? ⟨w.heap.size, 1, none⟩ = some (.int .i64 d)) ∧ w'.cell? ⟨w.heap.size + 1, 0, none⟩ = some (.int .i64 (e + 1))) (w4.setCell ⟨w.heap.size + 1, 1, none⟩ v)); have hS2 := (fun v u => ⟨(((P4.other 1 v (by omega)).other 3 u (by omega))).two, ((H4.set 1 v).set 3 u).four.1⟩ : ∀ v u, (fun w' : World => (w'.cell? ⟨w.heap.size, 0, none⟩ = some (.int .i64 k) ∧ w'.cell? ⟨w.heap.size, 1, none⟩ = some (.int .i64 d)) ∧ w'.cell? ⟨w.heap.size + 1, 0, none⟩ = some (.int .i64 (e + 1))) ((w4.setCell ⟨w.heap.size + 1, 1, none⟩ v).setCell ⟨w.heap.size + 1, 3, none⟩ u))) | skip); (try (go_wp2_with fail)); refine hK.out _ _ (by first | (first | with_reducible exact hS _ bd | with_reducible exact hS _ bb | with_reducible exact hS1 _ | with_reducible exact hS2 _ _) | ((try dsimp only); (first | with_reducible exact hS _ bd | with_reducible exact hS _ bb | with_reducible exact hS1 _ | with_reducible exact hS2 _ _))) (fun hHeld => ?_)
          clear hK K
          try simp only [Act.put, List.setIfInBounds_toArray, List.set_cons_zero, List.set_cons_succ]
          refine wpAnyH_ready (rs := [5]) (by kernel_rfl) (by simp) ?_
          refine AllReadyH.cons (o := { dst := some 30, op := Op.call { callee := Callee.value (Operand.func 80), args := #[Operand.tmp 27, Operand.tmp 29], argTypes := #[46, 3] }, type := 3, pos := "policy.go:72", after := #[{ on := 2, ground := Ground.data }, { on := 4, ground := Ground.data }], guard := none }) rfl (fun K hK => ?_) AllReadyH.nil
          go_simp; (first | (go_at_call 80; refine (hOl.out _).mono ?_; rintro e4 w4 ⟨rfl, b6⟩; have bb := bt bd b6; have P4 := P3.on bb; have H4 := H3.on bb; have R4 := R3.on bb; obtain ⟨h0', h1', h2', h3', hf'⟩ := H4.four; have hS1 := (fun v => ⟨(P4.other 1 v (by omega)).two, (H4.set 1 v).four.1⟩ : ∀ v, (fun w' : World => (w'.cell? ⟨w.heap.size, 0, none⟩ = some (.int .i64 k) ∧ w'.cell? ⟨w.heap.size, 1, none⟩ = some (.int .i64 d)) ∧ w'.cell? ⟨w.heap.size + 1, 0, none⟩ = some (.int .i64 (e + 1))) (w4.setCell ⟨w.heap.size + 1, 1, none⟩ v)); have hS2 := (fun v u => ⟨(((P4.other 1 v (by omega)).other 3 u (by omega))).two, ((H4.set 1 v).set 3 u).four.1⟩ : ∀ v u, (fun w' : World => (w'.cell? ⟨w.heap.size, 0, none⟩ = some (.int .i64 k) ∧ w'.cell? ⟨w.heap.size, 1, none⟩ = some (.int .i64 d)) ∧ w'.cell? ⟨w.heap.size + 1, 0, none⟩ = some (.int .i64 (e + 1))) ((w4.setCell ⟨w.heap.size + 1, 1, none⟩ v).setCell ⟨w.heap.size + 1, 3, none⟩ u))) | skip); (try (go_wp2_with fail)); refine hK.out _ _ (by first | (first | with_reducible exact hS _ bd | with_reducible exact hS _ bb | with_reducible exact hS1 _ | with_reducible exact hS2 _ _) | ((try dsimp only); (first | with_reducible exact hS _ bd | with_reducible exact hS _ bb | with_reducible exact hS1 _ | with_reducible exact hS2 _ _))) (fun hHeld => ?_)
          clear hK K
          try simp only [Act.put, List.setIfInBounds_toArray, List.set_cons_zero, List.set_cons_succ]
          refine wpAnyH_ready (rs := [6]) (by kernel_rfl) (by simp) ?_
          refine AllReadyH.cons (o := { dst := some 31, op := Op.call { callee := Callee.builtin Builtin.max, args := #[Operand.tmp 26, Operand.tmp 30], argTypes := #[3, 3] }, type := 3, pos := "policy.go:72", after := #[{ on := 1, ground := Ground.data }, { on := 5, ground := Ground.data }], guard := none }) rfl (fun K hK => ?_) AllReadyH.nil
          go_simp; (first | (go_at_call 80; refine (hOl.out _).mono ?_; rintro e4 w4 ⟨rfl, b6⟩; have bb := bt bd b6; have P4 := P3.on bb; have H4 := H3.on bb; have R4 := R3.on bb; obtain ⟨h0', h1', h2', h3', hf'⟩ := H4.four; have hS1 := (fun v => ⟨(P4.other 1 v (by omega)).two, (H4.set 1 v).four.1⟩ : ∀ v, (fun w' : World => (w'.cell? ⟨w.heap.size, 0, none⟩ = some (.int .i64 k) ∧ w'.cell? ⟨w.heap.size, 1, none⟩ = some (.int .i64 d)) ∧ w'.cell? ⟨w.heap.size + 1, 0, none⟩ = some (.int .i64 (e + 1))) (w4.setCell ⟨w.heap.size + 1, 1, none⟩ v)); have hS2 := (fun v u => ⟨(((P4.other 1 v (by omega)).other 3 u (by omega))).two, ((H4.set 1 v).set 3 u).four.1⟩ : ∀ v u, (fun w' : World => (w'.cell? ⟨w.heap.size, 0, none⟩ = some (.int .i64 k) ∧ w'.cell? ⟨w.heap.size, 1, none⟩ = some (.int .i64 d)) ∧ w'.cell? ⟨w.heap.size + 1, 0, none⟩ = some (.int .i64 (e + 1))) ((w4.setCell ⟨w.heap.size + 1, 1, none⟩ v).setCell ⟨w.heap.size + 1, 3, none⟩ u))) | skip); (try (go_wp2_with fail)); refine hK.out _ _ (by first | (first | with_reducible exact hS _ bd | with_reducible exact hS _ bb | with_reducible exact hS1 _ | with_reducible exact hS2 _ _) | ((try dsimp only); (first | with_reducible exact hS _ bd | with_reducible exact hS _ bb | with_reducible exact hS1 _ | with_reducible exact hS2 _ _))) (fun hHeld => ?_)
          clear hK K
          try simp only [Act.put, List.setIfInBounds_toArray, List.set_cons_zero, List.set_cons_succ]
          refine wpAnyH_take (i := 7) (oi := { dst := some 32, op := Op.fieldAddr 42 (Operand.tmp 3) 1, type := 0, pos := "policy.go:72", after := #[{ on := 0, ground := Ground.phase }, { on := 1, ground := Ground.phase }, { on := 2, ground := Ground.phase }, { on := 3, ground := Ground.phase }, { on := 4, ground := Ground.phase }, { on := 5, ground := Ground.phase }, { on := 6, ground := Ground.phase }], guard := none }) (v := ?_) rfl (by kernel_rfl) (by kernel_rfl) (by kernel_rfl) (fun _ _ _ h => h) (Or.inl ⟨by rfl, ?_⟩) (by assumption) ?_; rotate_left; · ((intro w hSw; (try dsimp only at hSw); go_simp) <;> with_reducible rfl)
          try simp only [Act.put, List.setIfInBounds_toArray, List.set_cons_zero, List.set_cons_succ]
          refine wpAnyH_ready (rs := [8]) (by kernel_rfl) (by simp) ?_
          refine AllReadyH.cons (o := { dst := none, op := Op.store 3 (Operand.tmp 32) (Operand.tmp 31), type := 0, pos := "policy.go:72", after := #[{ on := 7, ground := Ground.data }, { on := 6, ground := Ground.data }, { on := 5, ground := Ground.chain }, { on := 0, ground := Ground.phase }, { on := 1, ground := Ground.phase }, { on := 2, ground := Ground.phase }, { on := 3, ground := Ground.phase }, { on := 4, ground := Ground.phase }, { on := 5, ground := Ground.phase }, { on := 6, ground := Ground.phase }], guard := none }) rfl (fun K hK => ?_) AllReadyH.nil
          go_simp; (first | (go_at_call 80; refine (hOl.out _).mono ?_; rintro e4 w4 ⟨rfl, b6⟩; have bb := bt bd b6; have P4 := P3.on bb; have H4 := H3.on bb; have R4 := R3.on bb; obtain ⟨h0', h1', h2', h3', hf'⟩ := H4.four; have hS1 := (fun v => ⟨(P4.other 1 v (by omega)).two, (H4.set 1 v).four.1⟩ : ∀ v, (fun w' : World => (w'.cell? ⟨w.heap.size, 0, none⟩ = some (.int .i64 k) ∧ w'.cell? ⟨w.heap.size, 1, none⟩ = some (.int .i64 d)) ∧ w'.cell? ⟨w.heap.size + 1, 0, none⟩ = some (.int .i64 (e + 1))) (w4.setCell ⟨w.heap.size + 1, 1, none⟩ v)); have hS2 := (fun v u => ⟨(((P4.other 1 v (by omega)).other 3 u (by omega))).two, ((H4.set 1 v).set 3 u).four.1⟩ : ∀ v u, (fun w' : World => (w'.cell? ⟨w.heap.size, 0, none⟩ = some (.int .i64 k) ∧ w'.cell? ⟨w.heap.size, 1, none⟩ = some (.int .i64 d)) ∧ w'.cell? ⟨w.heap.size + 1, 0, none⟩ = some (.int .i64 (e + 1))) ((w4.setCell ⟨w.heap.size + 1, 1, none⟩ v).setCell ⟨w.heap.size + 1, 3, none⟩ u))) | skip); (try (go_wp2_with fail)); refine hK.out _ _ (by first | (first | with_reducible exact hS _ bd | with_reducible exact hS _ bb | with_reducible exact hS1 _ | with_reducible exact hS2 _ _) | ((try dsimp only); (first | with_reducible exact hS _ bd | with_reducible exact hS _ bb | with_reducible exact hS1 _ | with_reducible exact hS2 _ _))) (fun hHeld => ?_)
          clear hK K
          try simp only [Act.put, List.setIfInBounds_toArray, List.set_cons_zero, List.set_cons_succ]
          refine wpAnyH_take (i := 9) (oi := { dst := some 33, op := Op.fieldAddr 42 (Operand.tmp 3) 3, type := 0, pos := "policy.go:72", after := #[{ on := 0, ground := Ground.phase }, { on := 1, ground := Ground.phase }, { on := 2, ground := Ground.phase }, { on := 3, ground := Ground.phase }, { on := 4, ground := Ground.phase }, { on := 5, ground := Ground.phase }, { on := 6, ground := Ground.phase }, { on := 7, ground := Ground.phase }, { on := 8, ground := Ground.phase }], guard := none }) (v := ?_) rfl (by kernel_rfl) (by kernel_rfl) (by kernel_rfl) (fun _ _ _ h => h) (Or.inl ⟨by rfl, ?_⟩) (by assumption) ?_; rotate_left; · ((intro w hSw; (try dsimp only at hSw); go_simp) <;> with_reducible rfl)
          try simp only [Act.put, List.setIfInBounds_toArray, List.set_cons_zero, List.set_cons_succ]
          refine wpAnyH_ready (rs := [10]) (by kernel_rfl) (by simp) ?_
          refine AllReadyH.cons (o := { dst := none, op := Op.store 9 (Operand.tmp 33) (Operand.const (Value.string { data := #[] })), type := 0, pos := "policy.go:72", after := #[{ on := 9, ground := Ground.data }, { on := 8, ground := Ground.chain }, { on := 0, ground := Ground.phase }, { on := 1, ground := Ground.phase }, { on := 2, ground := Ground.phase }, { on := 3, ground := Ground.phase }, { on := 4, ground := Ground.phase }, { on := 5, ground := Ground.phase }, { on := 6, ground := Ground.phase }, { on := 7, ground := Ground.phase }, { on := 8, ground := Ground.phase }], guard := none }) rfl (fun K hK => ?_) AllReadyH.nil
          go_simp; (first | (go_at_call 80; refine (hOl.out _).mono ?_; rintro e4 w4 ⟨rfl, b6⟩; have bb := bt bd b6; have P4 := P3.on bb; have H4 := H3.on bb; have R4 := R3.on bb; obtain ⟨h0', h1', h2', h3', hf'⟩ := H4.four; have hS1 := (fun v => ⟨(P4.other 1 v (by omega)).two, (H4.set 1 v).four.1⟩ : ∀ v, (fun w' : World => (w'.cell? ⟨w.heap.size, 0, none⟩ = some (.int .i64 k) ∧ w'.cell? ⟨w.heap.size, 1, none⟩ = some (.int .i64 d)) ∧ w'.cell? ⟨w.heap.size + 1, 0, none⟩ = some (.int .i64 (e + 1))) (w4.setCell ⟨w.heap.size + 1, 1, none⟩ v)); have hS2 := (fun v u => ⟨(((P4.other 1 v (by omega)).other 3 u (by omega))).two, ((H4.set 1 v).set 3 u).four.1⟩ : ∀ v u, (fun w' : World => (w'.cell? ⟨w.heap.size, 0, none⟩ = some (.int .i64 k) ∧ w'.cell? ⟨w.heap.size, 1, none⟩ = some (.int .i64 d)) ∧ w'.cell? ⟨w.heap.size + 1, 0, none⟩ = some (.int .i64 (e + 1))) ((w4.setCell ⟨w.heap.size + 1, 1, none⟩ v).setCell ⟨w.heap.size + 1, 3, none⟩ u))) | skip); (try (go_wp2_with fail)); refine hK.out _ _ (by first | (first | with_reducible exact hS _ bd | with_reducible exact hS _ bb | with_reducible exact hS1 _ | with_reducible exact hS2 _ _) | ((try dsimp only); (first | with_reducible exact hS _ bd | with_reducible exact hS _ bb | with_reducible exact hS1 _ | with_reducible exact hS2 _ _))) (fun hHeld => ?_)
          clear hK K
          try simp only [Act.put, List.setIfInBounds_toArray, List.set_cons_zero, List.set_cons_succ]
          refine wpAnyH_done (by kernel_rfl) ?_ _
        case' way1 =>
          go_simp; (first | (go_at_call 80; refine (hOl.out _).mono ?_; rintro e4 w4 ⟨rfl, b6⟩; have bb := bt bd b6; have P4 := P3.on bb; have H4 := H3.on bb; have R4 := R3.on bb; obtain ⟨h0', h1', h2', h3', hf'⟩ := H4.four; have hS1 := (fun v => ⟨(P4.other 1 v (by omega)).two, (H4.set 1 v).four.1⟩ : ∀ v, (fun w' : World => (w'.cell? ⟨w.heap.size, 0, none⟩ = some (.int .i64 k) ∧ w'.cell? ⟨w.heap.size, 1, none⟩ = some (.int .i64 d)) ∧ w'.cell? ⟨w.heap.size + 1, 0, none⟩ = some (.int .i64 (e + 1))) (w4.setCell ⟨w.heap.size + 1, 1, none⟩ v)); have hS2 := (fun v u => ⟨(((P4.other 1 v (by omega)).other 3 u (by omega))).two, ((H4.set 1 v).set 3 u).four.1⟩ : ∀ v u, (fun w' : World => (w'.cell? ⟨w.heap.size, 0, none⟩ = some (.int .i64 k) ∧ w'.cell? ⟨w.heap.size, 1, none⟩ = some (.int .i64 d)) ∧ w'.cell? ⟨w.heap.size + 1, 0, none⟩ = some (.int .i64 (e + 1))) ((w4.setCell ⟨w.heap.size + 1, 1, none⟩ v).setCell ⟨w.heap.size + 1, 3, none⟩ u))) | skip); (try (go_wp2_with fail)); refine hK.out _ _ (by first | (first | with_reducible exact hS _ bd | with_reducible exact hS _ bb | with_reducible exact hS1 _ | with_reducible exact hS2 _ _) | ((try dsimp only); (first | with_reducible exact hS _ bd | with_reducible exact hS _ bb | with_reducible exact hS1 _ | with_reducible exact hS2 _ _))) (fun hHeld => ?_)
          clear hK K
          try simp only [Act.put, List.setIfInBounds_toArray, List.set_cons_zero, List.set_cons_succ]
          refine wpAnyH_ready (rs := [1]) (by kernel_rfl) (by simp) ?_
          refine AllReadyH.cons (o := { dst := some 26, op := Op.load 3 (Operand.tmp 25), type := 3, pos := "policy.go:72", after := #[{ on := 0, ground := Ground.data }], guard := none }) rfl (fun K hK => ?_) AllReadyH.nil
          go_simp; (first | (go_at_call 80; refine (hOl.out _).mono ?_; rintro e4 w4 ⟨rfl, b6⟩; have bb := bt bd b6; have P4 := P3.on bb; have H4 := H3.on bb; have R4 := R3.on bb; obtain ⟨h0', h1', h2', h3', hf'⟩ := H4.four; have hS1 := (fun v => ⟨(P4.other 1 v (by omega)).two, (H4.set 1 v).four.1⟩ : ∀ v, (fun w' : World => (w'.cell? ⟨w.heap.size, 0, none⟩ = some (.int .i64 k) ∧ w'.cell? ⟨w.heap.size, 1, none⟩ = some (.int .i64 d)) ∧ w'.cell? ⟨w.heap.size + 1, 0, none⟩ = some (.int .i64 (e + 1))) (w4.setCell ⟨w.heap.size + 1, 1, none⟩ v)); have hS2 := (fun v u => ⟨(((P4.other 1 v (by omega)).other 3 u (by omega))).two, ((H4.set 1 v).set 3 u).four.1⟩ : ∀ v u, (fun w' : World => (w'.cell? ⟨w.heap.size, 0, none⟩ = some (.int .i64 k) ∧ w'.cell? ⟨w.heap.size, 1, none⟩ = some (.int .i64 d)) ∧ w'.cell? ⟨w.heap.size + 1, 0, none⟩ = some (.int .i64 (e + 1))) ((w4.setCell ⟨w.heap.size + 1, 1, none⟩ v).setCell ⟨w.heap.size + 1, 3, none⟩ u))) | skip); (try (go_wp2_with fail)); refine hK.out _ _ (by first | (first | with_reducible exact hS _ bd | with_reducible exact hS _ bb | with_reducible exact hS1 _ | with_reducible exact hS2 _ _) | ((try dsimp only); (first | with_reducible exact hS _ bd | with_reducible exact hS _ bb | with_reducible exact hS1 _ | with_reducible exact hS2 _ _))) (fun hHeld => ?_)
          clear hK K
          try simp only [Act.put, List.setIfInBounds_toArray, List.set_cons_zero, List.set_cons_succ]
          refine wpAnyH_ready (rs := [6]) (by kernel_rfl) (by simp) ?_
          refine AllReadyH.cons (o := { dst := some 31, op := Op.call { callee := Callee.builtin Builtin.max, args := #[Operand.tmp 26, Operand.tmp 30], argTypes := #[3, 3] }, type := 3, pos := "policy.go:72", after := #[{ on := 1, ground := Ground.data }, { on := 5, ground := Ground.data }], guard := none }) rfl (fun K hK => ?_) AllReadyH.nil
          go_simp; (first | (go_at_call 80; refine (hOl.out _).mono ?_; rintro e4 w4 ⟨rfl, b6⟩; have bb := bt bd b6; have P4 := P3.on bb; have H4 := H3.on bb; have R4 := R3.on bb; obtain ⟨h0', h1', h2', h3', hf'⟩ := H4.four; have hS1 := (fun v => ⟨(P4.other 1 v (by omega)).two, (H4.set 1 v).four.1⟩ : ∀ v, (fun w' : World => (w'.cell? ⟨w.heap.size, 0, none⟩ = some (.int .i64 k) ∧ w'.cell? ⟨w.heap.size, 1, none⟩ = some (.int .i64 d)) ∧ w'.cell? ⟨w.heap.size + 1, 0, none⟩ = some (.int .i64 (e + 1))) (w4.setCell ⟨w.heap.size + 1, 1, none⟩ v)); have hS2 := (fun v u => ⟨(((P4.other 1 v (by omega)).other 3 u (by omega))).two, ((H4.set 1 v).set 3 u).four.1⟩ : ∀ v u, (fun w' : World => (w'.cell? ⟨w.heap.size, 0, none⟩ = some (.int .i64 k) ∧ w'.cell? ⟨w.heap.size, 1, none⟩ = some (.int .i64 d)) ∧ w'.cell? ⟨w.heap.size + 1, 0, none⟩ = some (.int .i64 (e + 1))) ((w4.setCell ⟨w.heap.size + 1, 1, none⟩ v).setCell ⟨w.heap.size + 1, 3, none⟩ u))) | skip); (try (go_wp2_with fail)); refine hK.out _ _ (by first | (first | with_reducible exact hS _ bd | with_reducible exact hS _ bb | with_reducible exact hS1 _ | with_reducible exact hS2 _ _) | ((try dsimp only); (first | with_reducible exact hS _ bd | with_reducible exact hS _ bb | with_reducible exact hS1 _ | with_reducible exact hS2 _ _))) (fun hHeld => ?_)
          clear hK K
          try simp only [Act.put, List.setIfInBounds_toArray, List.set_cons_zero, List.set_cons_succ]
          refine wpAnyH_take (i := 7) (oi := { dst := some 32, op := Op.fieldAddr 42 (Operand.tmp 3) 1, type := 0, pos := "policy.go:72", after := #[{ on := 0, ground := Ground.phase }, { on := 1, ground := Ground.phase }, { on := 2, ground := Ground.phase }, { on := 3, ground := Ground.phase }, { on := 4, ground := Ground.phase }, { on := 5, ground := Ground.phase }, { on := 6, ground := Ground.phase }], guard := none }) (v := ?_) rfl (by kernel_rfl) (by kernel_rfl) (by kernel_rfl) (fun _ _ _ h => h) (Or.inl ⟨by rfl, ?_⟩) (by assumption) ?_; rotate_left; · ((intro w hSw; (try dsimp only at hSw); go_simp) <;> with_reducible rfl)
          try simp only [Act.put, List.setIfInBounds_toArray, List.set_cons_zero, List.set_cons_succ]
          refine wpAnyH_ready (rs := [8]) (by kernel_rfl) (by simp) ?_
          refine AllReadyH.cons (o := { dst := none, op := Op.store 3 (Operand.tmp 32) (Operand.tmp 31), type := 0, pos := "policy.go:72", after := #[{ on := 7, ground := Ground.data }, { on := 6, ground := Ground.data }, { on := 5, ground := Ground.chain }, { on := 0, ground := Ground.phase }, { on := 1, ground := Ground.phase }, { on := 2, ground := Ground.phase }, { on := 3, ground := Ground.phase }, { on := 4, ground := Ground.phase }, { on := 5, ground := Ground.phase }, { on := 6, ground := Ground.phase }], guard := none }) rfl (fun K hK => ?_) AllReadyH.nil
          go_simp; (first | (go_at_call 80; refine (hOl.out _).mono ?_; rintro e4 w4 ⟨rfl, b6⟩; have bb := bt bd b6; have P4 := P3.on bb; have H4 := H3.on bb; have R4 := R3.on bb; obtain ⟨h0', h1', h2', h3', hf'⟩ := H4.four; have hS1 := (fun v => ⟨(P4.other 1 v (by omega)).two, (H4.set 1 v).four.1⟩ : ∀ v, (fun w' : World => (w'.cell? ⟨w.heap.size, 0, none⟩ = some (.int .i64 k) ∧ w'.cell? ⟨w.heap.size, 1, none⟩ = some (.int .i64 d)) ∧ w'.cell? ⟨w.heap.size + 1, 0, none⟩ = some (.int .i64 (e + 1))) (w4.setCell ⟨w.heap.size + 1, 1, none⟩ v)); have hS2 := (fun v u => ⟨(((P4.other 1 v (by omega)).other 3 u (by omega))).two, ((H4.set 1 v).set 3 u).four.1⟩ : ∀ v u, (fun w' : World => (w'.cell? ⟨w.heap.size, 0, none⟩ = some (.int .i64 k) ∧ w'.cell? ⟨w.heap.size, 1, none⟩ = some (.int .i64 d)) ∧ w'.cell? ⟨w.heap.size + 1, 0, none⟩ = some (.int .i64 (e + 1))) ((w4.setCell ⟨w.heap.size + 1, 1, none⟩ v).setCell ⟨w.heap.size + 1, 3, none⟩ u))) | skip); (try (go_wp2_with fail)); refine hK.out _ _ (by first | (first | with_reducible exact hS _ bd | with_reducible exact hS _ bb | with_reducible exact hS1 _ | with_reducible exact hS2 _ _) | ((try dsimp only); (first | with_reducible exact hS _ bd | with_reducible exact hS _ bb | with_reducible exact hS1 _ | with_reducible exact hS2 _ _))) (fun hHeld => ?_)
          clear hK K
          try simp only [Act.put, List.setIfInBounds_toArray, List.set_cons_zero, List.set_cons_succ]
          refine wpAnyH_take (i := 9) (oi := { dst := some 33, op := Op.fieldAddr 42 (Operand.tmp 3) 3, type := 0, pos := "policy.go:72", after := #[{ on := 0, ground := Ground.phase }, { on := 1, ground := Ground.phase }, { on := 2, ground := Ground.phase }, { on := 3, ground := Ground.phase }, { on := 4, ground := Ground.phase }, { on := 5, ground := Ground.phase }, { on := 6, ground := Ground.phase }, { on := 7, ground := Ground.phase }, { on := 8, ground := Ground.phase }], guard := none }) (v := ?_) rfl (by kernel_rfl) (by kernel_rfl) (by kernel_rfl) (fun _ _ _ h => h) (Or.inl ⟨by rfl, ?_⟩) (by assumption) ?_; rotate_left; · ((intro w hSw; (try dsimp only at hSw); go_simp) <;> with_reducible rfl)
          try simp only [Act.put, List.setIfInBounds_toArray, List.set_cons_zero, List.set_cons_succ]
          refine wpAnyH_ready (rs := [10]) (by kernel_rfl) (by simp) ?_
          refine AllReadyH.cons (o := { dst := none, op := Op.store 9 (Operand.tmp 33) (Operand.const (Value.string { data := #[] })), type := 0, pos := "policy.go:72", after := #[{ on := 9, ground := Ground.data }, { on := 8, ground := Ground.chain }, { on := 0, ground := Ground.phase }, { on := 1, ground := Ground.phase }, { on := 2, ground := Ground.phase }, { on := 3, ground := Ground.phase }, { on := 4, ground := Ground.phase }, { on := 5, ground := Ground.phase }, { on := 6, ground := Ground.phase }, { on := 7, ground := Ground.phase }, { on := 8, ground := Ground.phase }], guard := none }) rfl (fun K hK => ?_) AllReadyH.nil
          go_simp; (first | (go_at_call 80; refine (hOl.out _).mono ?_; rintro e4 w4 ⟨rfl, b6⟩; have bb := bt bd b6; have P4 := P3.on bb; have H4 := H3.on bb; have R4 := R3.on bb; obtain ⟨h0', h1', h2', h3', hf'⟩ := H4.four; have hS1 := (fun v => ⟨(P4.other 1 v (by omega)).two, (H4.set 1 v).four.1⟩ : ∀ v, (fun w' : World => (w'.cell? ⟨w.heap.size, 0, none⟩ = some (.int .i64 k) ∧ w'.cell? ⟨w.heap.size, 1, none⟩ = some (.int .i64 d)) ∧ w'.cell? ⟨w.heap.size + 1, 0, none⟩ = some (.int .i64 (e + 1))) (w4.setCell ⟨w.heap.size + 1, 1, none⟩ v)); have hS2 := (fun v u => ⟨(((P4.other 1 v (by omega)).other 3 u (by omega))).two, ((H4.set 1 v).set 3 u).four.1⟩ : ∀ v u, (fun w' : World => (w'.cell? ⟨w.heap.size, 0, none⟩ = some (.int .i64 k) ∧ w'.cell? ⟨w.heap.size, 1, none⟩ = some (.int .i64 d)) ∧ w'.cell? ⟨w.heap.size + 1, 0, none⟩ = some (.int .i64 (e + 1))) ((w4.setCell ⟨w.heap.size + 1, 1, none⟩ v).setCell ⟨w.heap.size + 1, 3, none⟩ u))) | skip); (try (go_wp2_with fail)); refine hK.out _ _ (by first | (first | with_reducible exact hS _ bd | with_reducible exact hS _ bb | with_reducible exact hS1 _ | with_reducible exact hS2 _ _) | ((try dsimp only); (first | with_reducible exact hS _ bd | with_reducible exact hS _ bb | with_reducible exact hS1 _ | with_reducible exact hS2 _ _))) (fun hHeld => ?_)
          clear hK K
          try simp only [Act.put, List.setIfInBounds_toArray, List.set_cons_zero, List.set_cons_succ]
          refine wpAnyH_done (by kernel_rfl) ?_ _
        all_goals
          clear p0 p1 h0 h1 h2 h3 hf hS hS1 hS2 h0' h1' h2' h3' hf'
          generalize hw5 : w4.setCell ⟨w.heap.size + 1, 1, none⟩ (.int .i64 (max o M)) = w5
          have H5 : Bl w5 _ _ [.int .i64 (e + 1), .int .i64 (max o M), .int .i64 s, .string ⟨t.toArray⟩] := hw5 ▸ H4.set 1 (.int .i64 (max o M))
          have R5 : Bl w5 _ _ _ := hw5 ▸ R4.other 1 (.int .i64 (max o M)) (by omega)
          have bw5 : Below w.heap.size w w5 := hw5 ▸ bset (bt bw3 bb) (Nat.le_succ _) (.int .i64 (max o M))
          clear hw5 H4 R4 P4 P3 H3 R3 hHeld
          generalize hw6 : w5.setCell ⟨w.heap.size + 1, 3, none⟩ (.string ⟨#[]⟩) = w6
          have H6 : Bl w6 _ _ [.int .i64 (e + 1), .int .i64 (max o M), .int .i64 s, .string ⟨#[]⟩] := hw6 ▸ H5.set 3 (.string ⟨#[]⟩)
          have R6 : Bl w6 _ _ _ := hw6 ▸ R5.other 3 (.string ⟨#[]⟩) (by omega)
          have bw6 : Below w.heap.size w w6 := hw6 ▸ bset bw5 (Nat.le_succ _) (.string ⟨#[]⟩)
          clear hw6
          obtain ⟨h0, h1, h2, h3, hf⟩ := H6.four
          obtain ⟨z0, z1, z2, z3, zf⟩ := R6.four
          go_wp2_with fail
          generalize hwe : (((w6.setCell ⟨w.heap.size + 1 + 1, 0, none⟩ (.int .i64 (e + 1))).setCell ⟨w.heap.size + 1 + 1, 1, none⟩ (.int .i64 (max o M))).setCell ⟨w.heap.size + 1 + 1, 2, none⟩ (.int .i64 s)).setCell ⟨w.heap.size + 1 + 1, 3, none⟩ (.string ⟨#[]⟩) = we
          obtain ⟨E1, E2⟩ := four_set R6 _ _ _ _ hwe.symm
          (try clear z0 z1 z2 z3 zf)
          obtain ⟨z0, z1, z2, z3, zf⟩ := E1.four
          refine bodyPost_ret (v := .tuple #[hv (e + 1, max o M, s, []), .int .i64 0]) (by simp [results, Try.results22, go_sem, hv, hdr, z0, z1, z2, z3]) rfl ?_
          exact ⟨rfl, E2 _ _ bw6 (by omega)⟩
end Go.Proofs.Ytdkcdojcglmlbaa.Pol
