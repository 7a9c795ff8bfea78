/- The walk of the reference's First. -/
import Derived.Test.YtdkcdojcglmlbaaUtf2
namespace Go.Proofs.Ytdkcdojcglmlbaa.Utf
open Go.RowKit
set_option linter.unusedVariables false
set_option maxRecDepth 100000
theorem ba_size (l : List UInt8) : (⟨l.toArray⟩ : ByteArray).size = l.length := by simp [ByteArray.size]
theorem run_ix {P : Program} (t : TypeId) (l : List UInt8) (k : Nat) (h : k < l.length) (hu : P.underlying t = some .string) (w : World) : (Instr.index t (.string ⟨l.toArray⟩) (.int .i64 (k : Int))).run P w = .ok (.int .u8 (g l k : Int)) w := by
  have h1 : (Instr.index t (.string ⟨l.toArray⟩) (.int .i64 (k : Int))).run P w = .ok (e8 l[k]) w := by
    rw [run_index_string (P := P) w t ⟨l.toArray⟩ .i64 (k : Int) hu, dif_pos ⟨by omega, by rw [ba_size]; omega⟩]
    rfl
  rw [h1]
  unfold g
  rw [List.getD_eq_getElem?_getD, List.getElem?_eq_getElem h]
  rfl
theorem va_succ (l : List UInt8) (r0 k : Nat) : va l r0 (k + 1) = va l r0 k * 64 + (g l (k + 1) - 128) := rfl
theorem va_le (l : List UInt8) (r0 : Nat) : ∀ (k : Nat), conts l (k + 1) → va l r0 k + 1 ≤ (r0 + 1) * 64 ^ k
  | 0, _ => by show r0 + 1 ≤ _; omega
  | k + 1, h => by
    have h1 := va_le l r0 k (fun j h1 h2 => h j h1 (by omega))
    have h2 := h (k + 1) (by omega) (by omega)
    unfold cont at h2
    rw [va_succ, Nat.pow_succ, ← Nat.mul_assoc]
    omega
theorem conts_succ {l : List UInt8} {k : Nat} (h : conts l k) (h2 : cont l k) : conts l (k + 1) := fun j h1 h3 => by
  rcases Nat.lt_or_ge j k with h4 | h4
  · exact h j h1 h4
  · obtain rfl : j = k := (by omega)
    exact h2
theorem ex_take (l : List UInt8) (n : Nat) : (⟨l.toArray⟩ : ByteArray).extract 0 n = ⟨(l.take n).toArray⟩ := by
  apply ByteArray.ext
  simp
theorem ba_list (l : List UInt8) : (⟨l.toArray⟩ : ByteArray).toList = l := by rw [ByteArray.toList_eq]
theorem undrewB {B : Nat} {w w' : World} (h : Below B w.drew w') : Below B w w' := ⟨h.os, h.tape, h.output, h.size, h.block⟩
theorem w32 {x : Int} (h0 : 0 ≤ x) (h1 : x ≤ 2000000000) : wrap32 x = x := by unfold wrap32; omega
set_option maxHeartbeats 1000000 in
theorem rfirst_1 (l : List UInt8) (w : World) (hl : l.length ≤ 1000000) (h0 : 0 < l.length) (h1 : ¬ 240 ≤ g l 0) (h2 : ¬ 224 ≤ g l 0) (h3 : ¬ 192 ≤ g l 0) :
    Calls Try.prog 146 #[.string ⟨l.toArray⟩] w fun e w' => e = .returned (.tuple #[.int .i32 ((first l).1 : Int), .int .i64 ((first l).2 : Int)]) ∧ Below w.heap.size w w' := by
  have hc := g_lt l 0
  have hz : sizeOf1 (g l 0) = 1 := by unfold sizeOf1; rw [if_neg (by omega), if_neg (by omega), if_neg (by omega)]
  have hh : headOf (g l 0) = g l 0 := by unfold headOf; rw [if_neg (by omega), if_neg (by omega), if_neg (by omega)]
  have hf : first l = if l.length < 1 then (0, 0) else if ¬ conts l 1 then (0, 0) else if right (va l (g l 0) (1 - 1)) = true ∧ enc (va l (g l 0) (1 - 1)) = l.take 1 then (va l (g l 0) (1 - 1), 1) else (0, 0) := by
    unfold first
    rw [if_neg (show ¬ l.length = 0 by omega), hz, hh]
  obtain ⟨F, hF⟩ : ∃ F, F = first l := ⟨_, rfl⟩
  rw [← hF] at hf ⊢
  clear hF
  have hsz : (⟨l.toArray⟩ : ByteArray).size = l.length := ba_size l
  have hx : ∀ k, k < l.length → ∀ w, (Instr.index 9 (.string ⟨l.toArray⟩) (.int .i64 (k : Int))).run Try.prog w = .ok (.int .u8 (g l k : Int)) w := fun k hk w => run_ix 9 l k hk Try.underlying9 w
  obtain ⟨S, hS⟩ : ∃ S : ByteArray, S = ⟨l.toArray⟩ := ⟨_, rfl⟩
  rw [← hS] at hsz hx ⊢
  have hI : ¬ ((l.length : Int) = 0) := by omega
  have hI2 := beq_no hI
  have HS := Lib.hid hS
  have Hx := Lib.hid hx
  have hx0 := fun w => (hx 0 h0 w)
  simp only [Int.natCast_zero, Int.cast_ofNat_Int] at hx0
  have hw0 : wrap32 (g l 0 : Int) = (g l 0 : Int) := w32 (by omega) (by omega)
  have hg0 : (g l 0 : Int) ≤ 255 := by omega
  have hn1 : ¬ 240 ≤ (g l 0 : Int) := by omega
  have hn2 : ¬ 224 ≤ (g l 0 : Int) := by omega
  have hn3 : ¬ 192 ≤ (g l 0 : Int) := by omega
  have hgc := g_lt l
  have hs0 : ((g l 0 : Nat) : Int) = (g l 0 : Int) := by omega
  have Hs0 := Lib.hid hs0
  have hwm : ∀ (V k : Nat), V ≤ 100000 → cont l k → wrap32 (V * 64 : Int) = (V * 64 : Int) := fun V k h1 h2 => w32 (by omega) (by omega)
  clear hS hx hz hh hI hs0
  rw [if_neg (show ¬ l.length < 1 by omega)] at hf
  have hlI : ¬ (l.length : Int) < 1 := by omega
  have Hf := Lib.hid hf
  clear hf
  go_enter Try.func146, Try.ntmps146
  go_wp2_with fail
  go_loopw [6, 7] (fun v i wr => ∃ k : Nat, k + 1 ≤ 1 ∧ i = .int .i64 ((k + 1 : Nat) : Int) ∧ v = .int .i32 ((va l (g l 0) k : Nat) : Int) ∧ Hid (conts l (k + 1)) ∧ wr = w) (fun _ i _ => 1 - (intOf i).toNat)
  case atStart => exact ⟨0, by omega, rfl, by show Value.int .i32 _ = .int .i32 ((g l 0 : Nat) : Int); first | rw [Hs0.out] | rfl, Lib.hid (fun j h1 h2 => by omega), rfl⟩
  case round =>
    obtain ⟨k, hk, rfl, rfl, hcs, rfl⟩ := hrel
    have hvl := va_le l (g l 0) k hcs.out
    obtain ⟨V, hV⟩ : ∃ V, V = va l (g l 0) k := ⟨_, rfl⟩
    rw [← hV] at hvl ⊢
    have HV := Lib.hid hV
    clear hV
    by_cases hlt : k + 1 < 1
    · have hkI : ((k : Int) + 1) < 1 := by omega
      have hkl : k + 1 < l.length := by omega
      have hV1 : (V : Int) ≤ 100000 := by
        have : 64 ^ k ≤ 64 ^ 2 := Nat.pow_le_pow_right (by omega) (by omega)
        have h64 : (g l 0 + 1) * 64 ^ k ≤ 16 * 64 ^ 2 := by have hk0 : k = 0 := (by omega); subst hk0; omega
        omega
      have hxk := Hx.out (k + 1) hkl
      obtain ⟨G, hG⟩ : ∃ G, G = g l (k + 1) := ⟨_, rfl⟩
      have hGc := hgc (k + 1)
      rw [← hG] at hxk hGc
      have HG := Lib.hid hG
      have hGI : (G : Int) ≤ 255 := by omega
      simp only [Int.natCast_add, Int.cast_ofNat_Int] at hxk
      have hwG : wrap32 (G : Int) = (G : Int) := w32 (by omega) (by omega)
      have hwV : wrap32 ((V : Int) * 64) = (V : Int) * 64 := w32 (by omega) (by omega)
      have hwS : wrap32 ((V : Int) * 64 + (G : Int)) = (V : Int) * 64 + (G : Int) := w32 (by omega) (by omega)
      clear hG hvl
      rcases (show G < 128 ∨ (128 ≤ G ∧ 191 < G) ∨ (128 ≤ G ∧ G ≤ 191) by omega) with c1 | ⟨c1, c2⟩ | ⟨c1, c2⟩
      case' inl => have c1I : (G : Int) < 128 := (by omega)
      case' inr.inl =>
        have c1I : ¬ (G : Int) < 128 := (by omega)
        have c2I : (191 : Int) < (G : Int) := (by omega)
      case' inr.inr =>
        have c1I : ¬ (G : Int) < 128 := (by omega)
        have c2I : ¬ (191 : Int) < (G : Int) := (by omega)
      case inr.inr =>
        have hwD : wrap32 ((V : Int) * 64 + (G : Int) - 128) = (V : Int) * 64 + (G : Int) - 128 := w32 (by omega) (by omega)
        have hcn : cont l (k + 1) := by unfold cont; rw [← HG.out]; omega
        have Hcn := Lib.hid (conts_succ hcs.out hcn)
        clear hcn
        go_wp2_with fail
        go_roundw
        case rel => exact ⟨k + 1, by omega, by go_num, by rw [va_succ, ← HV.out, ← HG.out]; exact congrArg _ (by omega), Hcn, (by first | rfl | trivial)⟩
        case measure => simp [intOf]; omega
      all_goals
        have hno : ¬ conts l 1 := fun h => by
          have := h (k + 1) (by omega) (by omega)
          unfold cont at this
          rw [← HG.out] at this
          omega
        have hF0 : F = (0, 0) := by rw [Hf.out, if_pos hno]
        subst hF0
        go_wp2_with fail
        go_ret2
        exact ⟨rfl, Below.refl _ _⟩
    · obtain rfl : k = 0 := by omega
      simp only [show (((0 + 1 : Nat)) : Int) = 1 from rfl]
      have hcI : conts l 1 := hcs.out
      have hf2 := Hf.out
      rw [if_neg (fun h => h hcI)] at hf2
      rw [show (1 : Nat) - 1 = 0 from rfl, ← HV.out] at hf2
      have hri := Lib.hid (show ∀ w, Calls Try.prog 151 #[.int .i32 (V : Int)] w fun e w' => e = .returned (.bool (right V)) ∧ w = w' from fun w => by
        have := rright_any (V : Int) w
        rw [ri_right] at this
        exact this)
      by_cases hR : right V = true
      · have hV2 : V ≤ 1114111 := by
          have h := hR
          unfold right at h
          exact (of_decide_eq_true h).1
        have hby := Lib.hid (fun w => rbytes_any V (V : Int) rfl hV2 w)
        rw [hR] at hri
        obtain ⟨X, hX⟩ : ∃ X, X = enc V := ⟨_, rfl⟩
        rw [← hX] at hby hf2
        clear hX
        by_cases hE : X = l.take 1
        · rw [if_pos ⟨hR, hE⟩] at hf2
          subst hf2
          have hex : S.extract 0 1 = ⟨X.toArray⟩ := by rw [hE, HS.out]; exact ex_take l 1
          have hbq : (X == (S.extract 0 1).toList) = true := by rw [hex, ba_list]; simp
          have HR := Lib.hid hR
          clear Hf hE hex hR
          go_wp2_with fail
          refine wp_region_held_drew (S := (fun _ => True)) (by kernel_rfl) (by trivial) (fun hHeld => ?_)
          refine wpAnyH_take (i := 0) (oi := { dst := some 54, op := Op.move (Operand.tmp 6), type := 21, pos := "ref.go:50", after := #[], guard := none }) (v := ?_) rfl (by kernel_rfl) (by kernel_rfl) (by kernel_rfl) (fun _ _ _ h => h) (Or.inl ⟨by rfl, ?_⟩) (by assumption) ?_; rotate_left; · ((intro w hSw; (try dsimp only at hSw); go_simp) <;> with_reducible rfl)
          try simp only [Act.put, List.setIfInBounds_toArray, List.set_cons_zero, List.set_cons_succ]
          refine wpAnyH_ready (rs := [1]) (by kernel_rfl) (by simp) ?_
          refine AllReadyH.cons (o := { dst := some 55, op := Op.call { callee := Callee.value (Operand.func 151), args := #[Operand.tmp 54], argTypes := #[21] }, type := 4, pos := "ref.go:50", after := #[{ on := 0, ground := Ground.data }], guard := none }) rfl (fun K hK => ?_) AllReadyH.nil
          go_simp; (first | (go_at_call 151; refine (hri.out _).mono ?_; rintro e w7 ⟨rfl, rfl⟩) | (go_at_call 152; refine (hby.out _).mono ?_; rintro e w8 ⟨A8, c8, rfl, own8, b8⟩; have hcv := run_conv_rd (P := Try.prog) (w := w8) 26 9 5 X.length c8 rfl Try.underlying26 Try.underlying5 Try.underlying9 (Rd.own own8)) | skip); (try (go_wp2_with fail)); refine hK.out _ _ (by first | trivial | ((try dsimp only); trivial)) (fun hHeld => ?_)
          clear hK K
          try simp only [Act.put, List.setIfInBounds_toArray, List.set_cons_zero, List.set_cons_succ]
          refine wpAnyH_take (i := 2) (oi := { dst := some 56, op := Op.unOp UnOp.not 4 (Operand.tmp 55), type := 4, pos := "ref.go:50", after := #[{ on := 1, ground := Ground.data }], guard := none }) (v := ?_) rfl (by kernel_rfl) (by kernel_rfl) (by kernel_rfl) (fun _ _ _ h => h) (Or.inl ⟨by rfl, ?_⟩) (by assumption) ?_; rotate_left; · ((intro w hSw; (try dsimp only at hSw); go_simp) <;> with_reducible rfl)
          try simp only [Act.put, List.setIfInBounds_toArray, List.set_cons_zero, List.set_cons_succ]
          refine wpAnyH_take (i := 3) (oi := { dst := some 57, op := Op.move (Operand.tmp 56), type := 4, pos := "ref.go:50", after := #[{ on := 2, ground := Ground.data }, { on := 1, ground := Ground.chain }], guard := none }) (v := ?_) rfl (by kernel_rfl) (by kernel_rfl) (by kernel_rfl) (fun _ _ _ h => h) (Or.inl ⟨by rfl, ?_⟩) (by assumption) ?_; rotate_left; · ((intro w hSw; (try dsimp only at hSw); go_simp) <;> with_reducible rfl)
          try simp only [Act.put, List.setIfInBounds_toArray, List.set_cons_zero, List.set_cons_succ]
          refine wpAnyH_take (i := 4) (oi := { dst := some 58, op := Op.move (Operand.tmp 6), type := 21, pos := "ref.go:50", after := #[{ on := 3, ground := Ground.guard }], guard := some (3, false) }) (v := ?_) rfl (by kernel_rfl) (by kernel_rfl) (by kernel_rfl) (fun _ _ _ h => h) (Or.inl ⟨by rfl, ?_⟩) (by assumption) ?_; rotate_left; · ((intro w hSw; (try dsimp only at hSw); go_simp) <;> with_reducible rfl)
          try simp only [Act.put, List.setIfInBounds_toArray, List.set_cons_zero, List.set_cons_succ]
          refine wpAnyH_take (i := 7) (oi := { dst := some 61, op := Op.move (Operand.tmp 0), type := 9, pos := "ref.go:50", after := #[{ on := 3, ground := Ground.guard }], guard := some (3, false) }) (v := ?_) rfl (by kernel_rfl) (by kernel_rfl) (by kernel_rfl) (fun _ _ _ h => h) (Or.inl ⟨by rfl, ?_⟩) (by assumption) ?_; rotate_left; · ((intro w hSw; (try dsimp only at hSw); go_simp) <;> with_reducible rfl)
          try simp only [Act.put, List.setIfInBounds_toArray, List.set_cons_zero, List.set_cons_succ]
          refine wpAnyH_take (i := 8) (oi := { dst := some 62, op := Op.move (Operand.tmp 5), type := 3, pos := "ref.go:50", after := #[{ on := 3, ground := Ground.guard }], guard := some (3, false) }) (v := ?_) rfl (by kernel_rfl) (by kernel_rfl) (by kernel_rfl) (fun _ _ _ h => h) (Or.inl ⟨by rfl, ?_⟩) (by assumption) ?_; rotate_left; · ((intro w hSw; (try dsimp only at hSw); go_simp) <;> with_reducible rfl)
          try simp only [Act.put, List.setIfInBounds_toArray, List.set_cons_zero, List.set_cons_succ]
          refine wpAnyH_take (i := 9) (oi := { dst := some 63, op := Op.slice 9 (Operand.tmp 61) none (some (Operand.tmp 62)) none, type := 9, pos := "ref.go:50", after := #[{ on := 7, ground := Ground.data }, { on := 8, ground := Ground.data }, { on := 3, ground := Ground.guard }], guard := some (3, false) }) (v := ?_) rfl (by kernel_rfl) (by kernel_rfl) (by kernel_rfl) (fun _ _ _ h => h) (Or.inl ⟨by rfl, ?_⟩) (by assumption) ?_; rotate_left; · ((intro w hSw; (try dsimp only at hSw); go_simp) <;> with_reducible rfl)
          try simp only [Act.put, List.setIfInBounds_toArray, List.set_cons_zero, List.set_cons_succ]
          refine wpAnyH_ready (rs := [5]) (by kernel_rfl) (by simp) ?_
          refine AllReadyH.cons (o := { dst := some 59, op := Op.call { callee := Callee.value (Operand.func 152), args := #[Operand.tmp 58], argTypes := #[21] }, type := 26, pos := "ref.go:50", after := #[{ on := 4, ground := Ground.data }, { on := 3, ground := Ground.chain }, { on := 3, ground := Ground.guard }], guard := some (3, false) }) rfl (fun K hK => ?_) AllReadyH.nil
          go_simp; (first | (go_at_call 151; refine (hri.out _).mono ?_; rintro e w7 ⟨rfl, rfl⟩) | (go_at_call 152; refine (hby.out _).mono ?_; rintro e w8 ⟨A8, c8, rfl, own8, b8⟩; have hcv := run_conv_rd (P := Try.prog) (w := w8) 26 9 5 X.length c8 rfl Try.underlying26 Try.underlying5 Try.underlying9 (Rd.own own8)) | skip); (try (go_wp2_with fail)); refine hK.out _ _ (by first | trivial | ((try dsimp only); trivial)) (fun hHeld => ?_)
          clear hK K
          try simp only [Act.put, List.setIfInBounds_toArray, List.set_cons_zero, List.set_cons_succ]
          refine wpAnyH_ready (rs := [6]) (by kernel_rfl) (by simp) ?_
          refine AllReadyH.cons (o := { dst := some 60, op := Op.convert 26 9 (Operand.tmp 59), type := 9, pos := "ref.go:50", after := #[{ on := 5, ground := Ground.data }, { on := 3, ground := Ground.guard }], guard := some (3, false) }) rfl (fun K hK => ?_) AllReadyH.nil
          go_simp; (first | (go_at_call 151; refine (hri.out _).mono ?_; rintro e w7 ⟨rfl, rfl⟩) | (go_at_call 152; refine (hby.out _).mono ?_; rintro e w8 ⟨A8, c8, rfl, own8, b8⟩; have hcv := run_conv_rd (P := Try.prog) (w := w8) 26 9 5 X.length c8 rfl Try.underlying26 Try.underlying5 Try.underlying9 (Rd.own own8)) | skip); (try (go_wp2_with fail)); refine hK.out _ _ (by first | trivial | ((try dsimp only); trivial)) (fun hHeld => ?_)
          clear hK K
          try simp only [Act.put, List.setIfInBounds_toArray, List.set_cons_zero, List.set_cons_succ]
          refine wpAnyH_take (i := 10) (oi := { dst := some 64, op := Op.binOp BinOp.neq 9 (Operand.tmp 60) (Operand.tmp 63) 9, type := 4, pos := "ref.go:50", after := #[{ on := 6, ground := Ground.data }, { on := 9, ground := Ground.data }, { on := 3, ground := Ground.guard }], guard := some (3, false) }) (v := ?_) rfl (by kernel_rfl) (by kernel_rfl) (by kernel_rfl) (fun _ _ _ h => h) (Or.inl ⟨by rfl, ?_⟩) (by assumption) ?_; rotate_left; · ((intro w hSw; (try dsimp only at hSw); go_simp) <;> with_reducible rfl)
          try simp only [Act.put, List.setIfInBounds_toArray, List.set_cons_zero, List.set_cons_succ]
          refine wpAnyH_take (i := 11) (oi := { dst := some 65, op := Op.pick (Operand.tmp 57) (Operand.const (Value.bool true)) (Operand.tmp 64), type := 4, pos := "ref.go:50", after := #[{ on := 3, ground := Ground.data }, { on := 10, ground := Ground.data }], guard := none }) (v := ?_) rfl (by kernel_rfl) (by kernel_rfl) (by kernel_rfl) (fun _ _ _ h => h) (Or.inl ⟨by rfl, ?_⟩) (by assumption) ?_; rotate_left; · ((intro w hSw; (try dsimp only at hSw); go_simp) <;> with_reducible rfl)
          try simp only [Act.put, List.setIfInBounds_toArray, List.set_cons_zero, List.set_cons_succ]
          refine wpAnyH_done (by kernel_rfl) ?_ _
          go_wp2_with fail
          go_ret2
          exact ⟨rfl, undrewB b8⟩
        · rw [if_neg (fun h => hE h.2)] at hf2
          subst hf2
          have hex : S.extract 0 1 = ⟨(l.take 1).toArray⟩ := by rw [HS.out]; exact ex_take l 1
          have hbq : (X == (S.extract 0 1).toList) = false := by
            rw [hex, ba_list, beq_eq_false_iff_ne]
            exact hE
          clear Hf hex hE hR
          go_wp2_with fail
          refine wp_region_held_drew (S := (fun _ => True)) (by kernel_rfl) (by trivial) (fun hHeld => ?_)
          refine wpAnyH_take (i := 0) (oi := { dst := some 54, op := Op.move (Operand.tmp 6), type := 21, pos := "ref.go:50", after := #[], guard := none }) (v := ?_) rfl (by kernel_rfl) (by kernel_rfl) (by kernel_rfl) (fun _ _ _ h => h) (Or.inl ⟨by rfl, ?_⟩) (by assumption) ?_; rotate_left; · ((intro w hSw; (try dsimp only at hSw); go_simp) <;> with_reducible rfl)
          try simp only [Act.put, List.setIfInBounds_toArray, List.set_cons_zero, List.set_cons_succ]
          refine wpAnyH_ready (rs := [1]) (by kernel_rfl) (by simp) ?_
          refine AllReadyH.cons (o := { dst := some 55, op := Op.call { callee := Callee.value (Operand.func 151), args := #[Operand.tmp 54], argTypes := #[21] }, type := 4, pos := "ref.go:50", after := #[{ on := 0, ground := Ground.data }], guard := none }) rfl (fun K hK => ?_) AllReadyH.nil
          go_simp; (first | (go_at_call 151; refine (hri.out _).mono ?_; rintro e w7 ⟨rfl, rfl⟩) | (go_at_call 152; refine (hby.out _).mono ?_; rintro e w8 ⟨A8, c8, rfl, own8, b8⟩; have hcv := run_conv_rd (P := Try.prog) (w := w8) 26 9 5 X.length c8 rfl Try.underlying26 Try.underlying5 Try.underlying9 (Rd.own own8)) | skip); (try (go_wp2_with fail)); refine hK.out _ _ (by first | trivial | ((try dsimp only); trivial)) (fun hHeld => ?_)
          clear hK K
          try simp only [Act.put, List.setIfInBounds_toArray, List.set_cons_zero, List.set_cons_succ]
          refine wpAnyH_take (i := 2) (oi := { dst := some 56, op := Op.unOp UnOp.not 4 (Operand.tmp 55), type := 4, pos := "ref.go:50", after := #[{ on := 1, ground := Ground.data }], guard := none }) (v := ?_) rfl (by kernel_rfl) (by kernel_rfl) (by kernel_rfl) (fun _ _ _ h => h) (Or.inl ⟨by rfl, ?_⟩) (by assumption) ?_; rotate_left; · ((intro w hSw; (try dsimp only at hSw); go_simp) <;> with_reducible rfl)
          try simp only [Act.put, List.setIfInBounds_toArray, List.set_cons_zero, List.set_cons_succ]
          refine wpAnyH_take (i := 3) (oi := { dst := some 57, op := Op.move (Operand.tmp 56), type := 4, pos := "ref.go:50", after := #[{ on := 2, ground := Ground.data }, { on := 1, ground := Ground.chain }], guard := none }) (v := ?_) rfl (by kernel_rfl) (by kernel_rfl) (by kernel_rfl) (fun _ _ _ h => h) (Or.inl ⟨by rfl, ?_⟩) (by assumption) ?_; rotate_left; · ((intro w hSw; (try dsimp only at hSw); go_simp) <;> with_reducible rfl)
          try simp only [Act.put, List.setIfInBounds_toArray, List.set_cons_zero, List.set_cons_succ]
          refine wpAnyH_take (i := 4) (oi := { dst := some 58, op := Op.move (Operand.tmp 6), type := 21, pos := "ref.go:50", after := #[{ on := 3, ground := Ground.guard }], guard := some (3, false) }) (v := ?_) rfl (by kernel_rfl) (by kernel_rfl) (by kernel_rfl) (fun _ _ _ h => h) (Or.inl ⟨by rfl, ?_⟩) (by assumption) ?_; rotate_left; · ((intro w hSw; (try dsimp only at hSw); go_simp) <;> with_reducible rfl)
          try simp only [Act.put, List.setIfInBounds_toArray, List.set_cons_zero, List.set_cons_succ]
          refine wpAnyH_take (i := 7) (oi := { dst := some 61, op := Op.move (Operand.tmp 0), type := 9, pos := "ref.go:50", after := #[{ on := 3, ground := Ground.guard }], guard := some (3, false) }) (v := ?_) rfl (by kernel_rfl) (by kernel_rfl) (by kernel_rfl) (fun _ _ _ h => h) (Or.inl ⟨by rfl, ?_⟩) (by assumption) ?_; rotate_left; · ((intro w hSw; (try dsimp only at hSw); go_simp) <;> with_reducible rfl)
          try simp only [Act.put, List.setIfInBounds_toArray, List.set_cons_zero, List.set_cons_succ]
          refine wpAnyH_take (i := 8) (oi := { dst := some 62, op := Op.move (Operand.tmp 5), type := 3, pos := "ref.go:50", after := #[{ on := 3, ground := Ground.guard }], guard := some (3, false) }) (v := ?_) rfl (by kernel_rfl) (by kernel_rfl) (by kernel_rfl) (fun _ _ _ h => h) (Or.inl ⟨by rfl, ?_⟩) (by assumption) ?_; rotate_left; · ((intro w hSw; (try dsimp only at hSw); go_simp) <;> with_reducible rfl)
          try simp only [Act.put, List.setIfInBounds_toArray, List.set_cons_zero, List.set_cons_succ]
          refine wpAnyH_take (i := 9) (oi := { dst := some 63, op := Op.slice 9 (Operand.tmp 61) none (some (Operand.tmp 62)) none, type := 9, pos := "ref.go:50", after := #[{ on := 7, ground := Ground.data }, { on := 8, ground := Ground.data }, { on := 3, ground := Ground.guard }], guard := some (3, false) }) (v := ?_) rfl (by kernel_rfl) (by kernel_rfl) (by kernel_rfl) (fun _ _ _ h => h) (Or.inl ⟨by rfl, ?_⟩) (by assumption) ?_; rotate_left; · ((intro w hSw; (try dsimp only at hSw); go_simp) <;> with_reducible rfl)
          try simp only [Act.put, List.setIfInBounds_toArray, List.set_cons_zero, List.set_cons_succ]
          refine wpAnyH_ready (rs := [5]) (by kernel_rfl) (by simp) ?_
          refine AllReadyH.cons (o := { dst := some 59, op := Op.call { callee := Callee.value (Operand.func 152), args := #[Operand.tmp 58], argTypes := #[21] }, type := 26, pos := "ref.go:50", after := #[{ on := 4, ground := Ground.data }, { on := 3, ground := Ground.chain }, { on := 3, ground := Ground.guard }], guard := some (3, false) }) rfl (fun K hK => ?_) AllReadyH.nil
          go_simp; (first | (go_at_call 151; refine (hri.out _).mono ?_; rintro e w7 ⟨rfl, rfl⟩) | (go_at_call 152; refine (hby.out _).mono ?_; rintro e w8 ⟨A8, c8, rfl, own8, b8⟩; have hcv := run_conv_rd (P := Try.prog) (w := w8) 26 9 5 X.length c8 rfl Try.underlying26 Try.underlying5 Try.underlying9 (Rd.own own8)) | skip); (try (go_wp2_with fail)); refine hK.out _ _ (by first | trivial | ((try dsimp only); trivial)) (fun hHeld => ?_)
          clear hK K
          try simp only [Act.put, List.setIfInBounds_toArray, List.set_cons_zero, List.set_cons_succ]
          refine wpAnyH_ready (rs := [6]) (by kernel_rfl) (by simp) ?_
          refine AllReadyH.cons (o := { dst := some 60, op := Op.convert 26 9 (Operand.tmp 59), type := 9, pos := "ref.go:50", after := #[{ on := 5, ground := Ground.data }, { on := 3, ground := Ground.guard }], guard := some (3, false) }) rfl (fun K hK => ?_) AllReadyH.nil
          go_simp; (first | (go_at_call 151; refine (hri.out _).mono ?_; rintro e w7 ⟨rfl, rfl⟩) | (go_at_call 152; refine (hby.out _).mono ?_; rintro e w8 ⟨A8, c8, rfl, own8, b8⟩; have hcv := run_conv_rd (P := Try.prog) (w := w8) 26 9 5 X.length c8 rfl Try.underlying26 Try.underlying5 Try.underlying9 (Rd.own own8)) | skip); (try (go_wp2_with fail)); refine hK.out _ _ (by first | trivial | ((try dsimp only); trivial)) (fun hHeld => ?_)
          clear hK K
          try simp only [Act.put, List.setIfInBounds_toArray, List.set_cons_zero, List.set_cons_succ]
          refine wpAnyH_take (i := 10) (oi := { dst := some 64, op := Op.binOp BinOp.neq 9 (Operand.tmp 60) (Operand.tmp 63) 9, type := 4, pos := "ref.go:50", after := #[{ on := 6, ground := Ground.data }, { on := 9, ground := Ground.data }, { on := 3, ground := Ground.guard }], guard := some (3, false) }) (v := ?_) rfl (by kernel_rfl) (by kernel_rfl) (by kernel_rfl) (fun _ _ _ h => h) (Or.inl ⟨by rfl, ?_⟩) (by assumption) ?_; rotate_left; · ((intro w hSw; (try dsimp only at hSw); go_simp) <;> with_reducible rfl)
          try simp only [Act.put, List.setIfInBounds_toArray, List.set_cons_zero, List.set_cons_succ]
          refine wpAnyH_take (i := 11) (oi := { dst := some 65, op := Op.pick (Operand.tmp 57) (Operand.const (Value.bool true)) (Operand.tmp 64), type := 4, pos := "ref.go:50", after := #[{ on := 3, ground := Ground.data }, { on := 10, ground := Ground.data }], guard := none }) (v := ?_) rfl (by kernel_rfl) (by kernel_rfl) (by kernel_rfl) (fun _ _ _ h => h) (Or.inl ⟨by rfl, ?_⟩) (by assumption) ?_; rotate_left; · ((intro w hSw; (try dsimp only at hSw); go_simp) <;> with_reducible rfl)
          try simp only [Act.put, List.setIfInBounds_toArray, List.set_cons_zero, List.set_cons_succ]
          refine wpAnyH_done (by kernel_rfl) ?_ _
          go_wp2_with fail
          go_ret2
          exact ⟨rfl, undrewB b8⟩
      · rw [if_neg (fun h => hR h.1)] at hf2
        subst hf2
        have hR' : right V = false := by simpa using hR
        rw [hR'] at hri
        clear Hf
        go_wp2_with fail
        refine wp_region_held_drew (S := (fun _ => True)) (by kernel_rfl) (by trivial) (fun hHeld => ?_)
        refine wpAnyH_take (i := 0) (oi := { dst := some 54, op := Op.move (Operand.tmp 6), type := 21, pos := "ref.go:50", after := #[], guard := none }) (v := ?_) rfl (by kernel_rfl) (by kernel_rfl) (by kernel_rfl) (fun _ _ _ h => h) (Or.inl ⟨by rfl, ?_⟩) (by assumption) ?_; rotate_left; · ((intro w hSw; (try dsimp only at hSw); go_simp) <;> with_reducible rfl)
        try simp only [Act.put, List.setIfInBounds_toArray, List.set_cons_zero, List.set_cons_succ]
        refine wpAnyH_ready (rs := [1]) (by kernel_rfl) (by simp) ?_
        refine AllReadyH.cons (o := { dst := some 55, op := Op.call { callee := Callee.value (Operand.func 151), args := #[Operand.tmp 54], argTypes := #[21] }, type := 4, pos := "ref.go:50", after := #[{ on := 0, ground := Ground.data }], guard := none }) rfl (fun K hK => ?_) AllReadyH.nil
        go_simp; (first | (go_at_call 151; refine (hri.out _).mono ?_; rintro e w7 ⟨rfl, rfl⟩) | skip); (try (go_wp2_with fail)); refine hK.out _ _ (by first | trivial | ((try dsimp only); trivial)) (fun hHeld => ?_)
        clear hK K
        try simp only [Act.put, List.setIfInBounds_toArray, List.set_cons_zero, List.set_cons_succ]
        refine wpAnyH_take (i := 2) (oi := { dst := some 56, op := Op.unOp UnOp.not 4 (Operand.tmp 55), type := 4, pos := "ref.go:50", after := #[{ on := 1, ground := Ground.data }], guard := none }) (v := ?_) rfl (by kernel_rfl) (by kernel_rfl) (by kernel_rfl) (fun _ _ _ h => h) (Or.inl ⟨by rfl, ?_⟩) (by assumption) ?_; rotate_left; · ((intro w hSw; (try dsimp only at hSw); go_simp) <;> with_reducible rfl)
        try simp only [Act.put, List.setIfInBounds_toArray, List.set_cons_zero, List.set_cons_succ]
        refine wpAnyH_take (i := 3) (oi := { dst := some 57, op := Op.move (Operand.tmp 56), type := 4, pos := "ref.go:50", after := #[{ on := 2, ground := Ground.data }, { on := 1, ground := Ground.chain }], guard := none }) (v := ?_) rfl (by kernel_rfl) (by kernel_rfl) (by kernel_rfl) (fun _ _ _ h => h) (Or.inl ⟨by rfl, ?_⟩) (by assumption) ?_; rotate_left; · ((intro w hSw; (try dsimp only at hSw); go_simp) <;> with_reducible rfl)
        try simp only [Act.put, List.setIfInBounds_toArray, List.set_cons_zero, List.set_cons_succ]
        refine wpAnyH_take (i := 4) (oi := { dst := some 58, op := Op.move (Operand.tmp 6), type := 21, pos := "ref.go:50", after := #[{ on := 3, ground := Ground.guard }], guard := some (3, false) }) (v := undef) rfl (by kernel_rfl) (by kernel_rfl) (by kernel_rfl) (fun _ _ _ h => h) (Or.inr ⟨by rfl, rfl⟩) (by assumption) ?_
        try simp only [Act.put, List.setIfInBounds_toArray, List.set_cons_zero, List.set_cons_succ]
        refine wpAnyH_take (i := 7) (oi := { dst := some 61, op := Op.move (Operand.tmp 0), type := 9, pos := "ref.go:50", after := #[{ on := 3, ground := Ground.guard }], guard := some (3, false) }) (v := undef) rfl (by kernel_rfl) (by kernel_rfl) (by kernel_rfl) (fun _ _ _ h => h) (Or.inr ⟨by rfl, rfl⟩) (by assumption) ?_
        try simp only [Act.put, List.setIfInBounds_toArray, List.set_cons_zero, List.set_cons_succ]
        refine wpAnyH_take (i := 8) (oi := { dst := some 62, op := Op.move (Operand.tmp 5), type := 3, pos := "ref.go:50", after := #[{ on := 3, ground := Ground.guard }], guard := some (3, false) }) (v := undef) rfl (by kernel_rfl) (by kernel_rfl) (by kernel_rfl) (fun _ _ _ h => h) (Or.inr ⟨by rfl, rfl⟩) (by assumption) ?_
        try simp only [Act.put, List.setIfInBounds_toArray, List.set_cons_zero, List.set_cons_succ]
        refine wpAnyH_take (i := 9) (oi := { dst := some 63, op := Op.slice 9 (Operand.tmp 61) none (some (Operand.tmp 62)) none, type := 9, pos := "ref.go:50", after := #[{ on := 7, ground := Ground.data }, { on := 8, ground := Ground.data }, { on := 3, ground := Ground.guard }], guard := some (3, false) }) (v := undef) rfl (by kernel_rfl) (by kernel_rfl) (by kernel_rfl) (fun _ _ _ h => h) (Or.inr ⟨by rfl, rfl⟩) (by assumption) ?_
        try simp only [Act.put, List.setIfInBounds_toArray, List.set_cons_zero, List.set_cons_succ]
        refine wpAnyH_ready (rs := [5]) (by kernel_rfl) (by simp) ?_
        refine AllReadyH.cons (o := { dst := some 59, op := Op.call { callee := Callee.value (Operand.func 152), args := #[Operand.tmp 58], argTypes := #[21] }, type := 26, pos := "ref.go:50", after := #[{ on := 4, ground := Ground.data }, { on := 3, ground := Ground.chain }, { on := 3, ground := Ground.guard }], guard := some (3, false) }) rfl (fun K hK => ?_) AllReadyH.nil
        rw [if_neg]; rotate_left; · exact fun h => Bool.noConfusion (show false = true from h)
        refine hK.out _ _ hHeld (fun hHeld => ?_)
        clear hK K
        try simp only [Act.put, List.setIfInBounds_toArray, List.set_cons_zero, List.set_cons_succ]
        refine wpAnyH_ready (rs := [6]) (by kernel_rfl) (by simp) ?_
        refine AllReadyH.cons (o := { dst := some 60, op := Op.convert 26 9 (Operand.tmp 59), type := 9, pos := "ref.go:50", after := #[{ on := 5, ground := Ground.data }, { on := 3, ground := Ground.guard }], guard := some (3, false) }) rfl (fun K hK => ?_) AllReadyH.nil
        rw [if_neg]; rotate_left; · exact fun h => Bool.noConfusion (show false = true from h)
        refine hK.out _ _ hHeld (fun hHeld => ?_)
        clear hK K
        try simp only [Act.put, List.setIfInBounds_toArray, List.set_cons_zero, List.set_cons_succ]
        refine wpAnyH_take (i := 10) (oi := { dst := some 64, op := Op.binOp BinOp.neq 9 (Operand.tmp 60) (Operand.tmp 63) 9, type := 4, pos := "ref.go:50", after := #[{ on := 6, ground := Ground.data }, { on := 9, ground := Ground.data }, { on := 3, ground := Ground.guard }], guard := some (3, false) }) (v := undef) rfl (by kernel_rfl) (by kernel_rfl) (by kernel_rfl) (fun _ _ _ h => h) (Or.inr ⟨by rfl, rfl⟩) (by assumption) ?_
        try simp only [Act.put, List.setIfInBounds_toArray, List.set_cons_zero, List.set_cons_succ]
        refine wpAnyH_take (i := 11) (oi := { dst := some 65, op := Op.pick (Operand.tmp 57) (Operand.const (Value.bool true)) (Operand.tmp 64), type := 4, pos := "ref.go:50", after := #[{ on := 3, ground := Ground.data }, { on := 10, ground := Ground.data }], guard := none }) (v := ?_) rfl (by kernel_rfl) (by kernel_rfl) (by kernel_rfl) (fun _ _ _ h => h) (Or.inl ⟨by rfl, ?_⟩) (by assumption) ?_; rotate_left; · ((intro w hSw; (try dsimp only at hSw); go_simp) <;> with_reducible rfl)
        try simp only [Act.put, List.setIfInBounds_toArray, List.set_cons_zero, List.set_cons_succ]
        refine wpAnyH_done (by kernel_rfl) ?_ _
        go_wp2_with fail
        go_ret2
        exact ⟨rfl, (Below.refl _ _).drew⟩
set_option maxHeartbeats 1000000 in
theorem rfirst_2 (l : List UInt8) (w : World) (hl : l.length ≤ 1000000) (h0 : 0 < l.length) (h1 : ¬ 240 ≤ g l 0) (h2 : ¬ 224 ≤ g l 0) (h3 : 192 ≤ g l 0) :
    Calls Try.prog 146 #[.string ⟨l.toArray⟩] w fun e w' => e = .returned (.tuple #[.int .i32 ((first l).1 : Int), .int .i64 ((first l).2 : Int)]) ∧ Below w.heap.size w w' := by
  have hc := g_lt l 0
  have hz : sizeOf1 (g l 0) = 2 := by unfold sizeOf1; rw [if_neg (by omega), if_neg (by omega), if_pos (by omega)]
  have hh : headOf (g l 0) = g l 0 - 192 := by unfold headOf; rw [if_neg (by omega), if_neg (by omega), if_pos (by omega)]
  have hf : first l = if l.length < 2 then (0, 0) else if ¬ conts l 2 then (0, 0) else if right (va l (g l 0 - 192) (2 - 1)) = true ∧ enc (va l (g l 0 - 192) (2 - 1)) = l.take 2 then (va l (g l 0 - 192) (2 - 1), 2) else (0, 0) := by
    unfold first
    rw [if_neg (show ¬ l.length = 0 by omega), hz, hh]
  obtain ⟨F, hF⟩ : ∃ F, F = first l := ⟨_, rfl⟩
  rw [← hF] at hf ⊢
  clear hF
  have hsz : (⟨l.toArray⟩ : ByteArray).size = l.length := ba_size l
  have hx : ∀ k, k < l.length → ∀ w, (Instr.index 9 (.string ⟨l.toArray⟩) (.int .i64 (k : Int))).run Try.prog w = .ok (.int .u8 (g l k : Int)) w := fun k hk w => run_ix 9 l k hk Try.underlying9 w
  obtain ⟨S, hS⟩ : ∃ S : ByteArray, S = ⟨l.toArray⟩ := ⟨_, rfl⟩
  rw [← hS] at hsz hx ⊢
  have hI : ¬ ((l.length : Int) = 0) := by omega
  have hI2 := beq_no hI
  have HS := Lib.hid hS
  have Hx := Lib.hid hx
  have hx0 := fun w => (hx 0 h0 w)
  simp only [Int.natCast_zero, Int.cast_ofNat_Int] at hx0
  have hw0 : wrap32 (g l 0 : Int) = (g l 0 : Int) := w32 (by omega) (by omega)
  have hg0 : (g l 0 : Int) ≤ 255 := by omega
  have hn1 : ¬ 240 ≤ (g l 0 : Int) := by omega
  have hn2 : ¬ 224 ≤ (g l 0 : Int) := by omega
  have hn3 : 192 ≤ (g l 0 : Int) := by omega
  have hgc := g_lt l
  have hs0 : ((g l 0 - 192 : Nat) : Int) = (g l 0 : Int) - 192 := by omega
  have Hs0 := Lib.hid hs0
  have hwm : ∀ (V k : Nat), V ≤ 100000 → cont l k → wrap32 (V * 64 : Int) = (V * 64 : Int) := fun V k h1 h2 => w32 (by omega) (by omega)
  clear hS hx hz hh hI hs0
  by_cases hlen : l.length < 2
  · rw [if_pos hlen] at hf
    subst hf
    have hlI : (l.length : Int) < 2 := by omega
    go_enter Try.func146, Try.ntmps146
    go_wp2_with fail
    go_ret2
    exact ⟨rfl, Below.refl _ _⟩
  · rw [if_neg hlen] at hf
    have hlI : ¬ (l.length : Int) < 2 := by omega
    have Hf := Lib.hid hf
    clear hf
    go_enter Try.func146, Try.ntmps146
    go_wp2_with fail
    go_loopw [6, 7] (fun v i wr => ∃ k : Nat, k + 1 ≤ 2 ∧ i = .int .i64 ((k + 1 : Nat) : Int) ∧ v = .int .i32 ((va l (g l 0 - 192) k : Nat) : Int) ∧ Hid (conts l (k + 1)) ∧ wr = w) (fun _ i _ => 2 - (intOf i).toNat)
    case atStart => exact ⟨0, by omega, rfl, by show Value.int .i32 _ = .int .i32 ((g l 0 - 192 : Nat) : Int); first | rw [Hs0.out] | rfl, Lib.hid (fun j h1 h2 => by omega), rfl⟩
    case round =>
      obtain ⟨k, hk, rfl, rfl, hcs, rfl⟩ := hrel
      have hvl := va_le l (g l 0 - 192) k hcs.out
      obtain ⟨V, hV⟩ : ∃ V, V = va l (g l 0 - 192) k := ⟨_, rfl⟩
      rw [← hV] at hvl ⊢
      have HV := Lib.hid hV
      clear hV
      by_cases hlt : k + 1 < 2
      · have hkI : ((k : Int) + 1) < 2 := by omega
        have hkl : k + 1 < l.length := by omega
        have hV1 : (V : Int) ≤ 100000 := by
          have : 64 ^ k ≤ 64 ^ 2 := Nat.pow_le_pow_right (by omega) (by omega)
          have h64 : (g l 0 - 192 + 1) * 64 ^ k ≤ 16 * 64 ^ 2 := by have hk0 : k = 0 := (by omega); subst hk0; omega
          omega
        have hxk := Hx.out (k + 1) hkl
        obtain ⟨G, hG⟩ : ∃ G, G = g l (k + 1) := ⟨_, rfl⟩
        have hGc := hgc (k + 1)
        rw [← hG] at hxk hGc
        have HG := Lib.hid hG
        have hGI : (G : Int) ≤ 255 := by omega
        simp only [Int.natCast_add, Int.cast_ofNat_Int] at hxk
        have hwG : wrap32 (G : Int) = (G : Int) := w32 (by omega) (by omega)
        have hwV : wrap32 ((V : Int) * 64) = (V : Int) * 64 := w32 (by omega) (by omega)
        have hwS : wrap32 ((V : Int) * 64 + (G : Int)) = (V : Int) * 64 + (G : Int) := w32 (by omega) (by omega)
        clear hG hvl
        rcases (show G < 128 ∨ (128 ≤ G ∧ 191 < G) ∨ (128 ≤ G ∧ G ≤ 191) by omega) with c1 | ⟨c1, c2⟩ | ⟨c1, c2⟩
        case' inl => have c1I : (G : Int) < 128 := (by omega)
        case' inr.inl =>
          have c1I : ¬ (G : Int) < 128 := (by omega)
          have c2I : (191 : Int) < (G : Int) := (by omega)
        case' inr.inr =>
          have c1I : ¬ (G : Int) < 128 := (by omega)
          have c2I : ¬ (191 : Int) < (G : Int) := (by omega)
        case inr.inr =>
          have hwD : wrap32 ((V : Int) * 64 + (G : Int) - 128) = (V : Int) * 64 + (G : Int) - 128 := w32 (by omega) (by omega)
          have hcn : cont l (k + 1) := by unfold cont; rw [← HG.out]; omega
          have Hcn := Lib.hid (conts_succ hcs.out hcn)
          clear hcn
          go_wp2_with fail
          go_roundw
          case rel => exact ⟨k + 1, by omega, by go_num, by rw [va_succ, ← HV.out, ← HG.out]; exact congrArg _ (by omega), Hcn, (by first | rfl | trivial)⟩
          case measure => simp [intOf]; omega
        all_goals
          have hno : ¬ conts l 2 := fun h => by
            have := h (k + 1) (by omega) (by omega)
            unfold cont at this
            rw [← HG.out] at this
            omega
          have hF0 : F = (0, 0) := by rw [Hf.out, if_pos hno]
          subst hF0
          go_wp2_with fail
          go_ret2
          exact ⟨rfl, Below.refl _ _⟩
      · obtain rfl : k = 1 := by omega
        simp only [show (((1 + 1 : Nat)) : Int) = 2 from rfl]
        have hcI : conts l 2 := hcs.out
        have hf2 := Hf.out
        rw [if_neg (fun h => h hcI)] at hf2
        rw [show (2 : Nat) - 1 = 1 from rfl, ← HV.out] at hf2
        have hri := Lib.hid (show ∀ w, Calls Try.prog 151 #[.int .i32 (V : Int)] w fun e w' => e = .returned (.bool (right V)) ∧ w = w' from fun w => by
          have := rright_any (V : Int) w
          rw [ri_right] at this
          exact this)
        by_cases hR : right V = true
        · have hV2 : V ≤ 1114111 := by
            have h := hR
            unfold right at h
            exact (of_decide_eq_true h).1
          have hby := Lib.hid (fun w => rbytes_any V (V : Int) rfl hV2 w)
          rw [hR] at hri
          obtain ⟨X, hX⟩ : ∃ X, X = enc V := ⟨_, rfl⟩
          rw [← hX] at hby hf2
          clear hX
          by_cases hE : X = l.take 2
          · rw [if_pos ⟨hR, hE⟩] at hf2
            subst hf2
            have hex : S.extract 0 2 = ⟨X.toArray⟩ := by rw [hE, HS.out]; exact ex_take l 2
            have hbq : (X == (S.extract 0 2).toList) = true := by rw [hex, ba_list]; simp
            have HR := Lib.hid hR
            clear Hf hE hex hR
            go_wp2_with fail
            refine wp_region_held_drew (S := (fun _ => True)) (by kernel_rfl) (by trivial) (fun hHeld => ?_)
            refine wpAnyH_take (i := 0) (oi := { dst := some 54, op := Op.move (Operand.tmp 6), type := 21, pos := "ref.go:50", after := #[], guard := none }) (v := ?_) rfl (by kernel_rfl) (by kernel_rfl) (by kernel_rfl) (fun _ _ _ h => h) (Or.inl ⟨by rfl, ?_⟩) (by assumption) ?_; rotate_left; · ((intro w hSw; (try dsimp only at hSw); go_simp) <;> with_reducible rfl)
            try simp only [Act.put, List.setIfInBounds_toArray, List.set_cons_zero, List.set_cons_succ]
            refine wpAnyH_ready (rs := [1]) (by kernel_rfl) (by simp) ?_
            refine AllReadyH.cons (o := { dst := some 55, op := Op.call { callee := Callee.value (Operand.func 151), args := #[Operand.tmp 54], argTypes := #[21] }, type := 4, pos := "ref.go:50", after := #[{ on := 0, ground := Ground.data }], guard := none }) rfl (fun K hK => ?_) AllReadyH.nil
            go_simp; (first | (go_at_call 151; refine (hri.out _).mono ?_; rintro e w7 ⟨rfl, rfl⟩) | (go_at_call 152; refine (hby.out _).mono ?_; rintro e w8 ⟨A8, c8, rfl, own8, b8⟩; have hcv := run_conv_rd (P := Try.prog) (w := w8) 26 9 5 X.length c8 rfl Try.underlying26 Try.underlying5 Try.underlying9 (Rd.own own8)) | skip); (try (go_wp2_with fail)); refine hK.out _ _ (by first | trivial | ((try dsimp only); trivial)) (fun hHeld => ?_)
            clear hK K
            try simp only [Act.put, List.setIfInBounds_toArray, List.set_cons_zero, List.set_cons_succ]
            refine wpAnyH_take (i := 2) (oi := { dst := some 56, op := Op.unOp UnOp.not 4 (Operand.tmp 55), type := 4, pos := "ref.go:50", after := #[{ on := 1, ground := Ground.data }], guard := none }) (v := ?_) rfl (by kernel_rfl) (by kernel_rfl) (by kernel_rfl) (fun _ _ _ h => h) (Or.inl ⟨by rfl, ?_⟩) (by assumption) ?_; rotate_left; · ((intro w hSw; (try dsimp only at hSw); go_simp) <;> with_reducible rfl)
            try simp only [Act.put, List.setIfInBounds_toArray, List.set_cons_zero, List.set_cons_succ]
            refine wpAnyH_take (i := 3) (oi := { dst := some 57, op := Op.move (Operand.tmp 56), type := 4, pos := "ref.go:50", after := #[{ on := 2, ground := Ground.data }, { on := 1, ground := Ground.chain }], guard := none }) (v := ?_) rfl (by kernel_rfl) (by kernel_rfl) (by kernel_rfl) (fun _ _ _ h => h) (Or.inl ⟨by rfl, ?_⟩) (by assumption) ?_; rotate_left; · ((intro w hSw; (try dsimp only at hSw); go_simp) <;> with_reducible rfl)
            try simp only [Act.put, List.setIfInBounds_toArray, List.set_cons_zero, List.set_cons_succ]
            refine wpAnyH_take (i := 4) (oi := { dst := some 58, op := Op.move (Operand.tmp 6), type := 21, pos := "ref.go:50", after := #[{ on := 3, ground := Ground.guard }], guard := some (3, false) }) (v := ?_) rfl (by kernel_rfl) (by kernel_rfl) (by kernel_rfl) (fun _ _ _ h => h) (Or.inl ⟨by rfl, ?_⟩) (by assumption) ?_; rotate_left; · ((intro w hSw; (try dsimp only at hSw); go_simp) <;> with_reducible rfl)
            try simp only [Act.put, List.setIfInBounds_toArray, List.set_cons_zero, List.set_cons_succ]
            refine wpAnyH_take (i := 7) (oi := { dst := some 61, op := Op.move (Operand.tmp 0), type := 9, pos := "ref.go:50", after := #[{ on := 3, ground := Ground.guard }], guard := some (3, false) }) (v := ?_) rfl (by kernel_rfl) (by kernel_rfl) (by kernel_rfl) (fun _ _ _ h => h) (Or.inl ⟨by rfl, ?_⟩) (by assumption) ?_; rotate_left; · ((intro w hSw; (try dsimp only at hSw); go_simp) <;> with_reducible rfl)
            try simp only [Act.put, List.setIfInBounds_toArray, List.set_cons_zero, List.set_cons_succ]
            refine wpAnyH_take (i := 8) (oi := { dst := some 62, op := Op.move (Operand.tmp 5), type := 3, pos := "ref.go:50", after := #[{ on := 3, ground := Ground.guard }], guard := some (3, false) }) (v := ?_) rfl (by kernel_rfl) (by kernel_rfl) (by kernel_rfl) (fun _ _ _ h => h) (Or.inl ⟨by rfl, ?_⟩) (by assumption) ?_; rotate_left; · ((intro w hSw; (try dsimp only at hSw); go_simp) <;> with_reducible rfl)
            try simp only [Act.put, List.setIfInBounds_toArray, List.set_cons_zero, List.set_cons_succ]
            refine wpAnyH_take (i := 9) (oi := { dst := some 63, op := Op.slice 9 (Operand.tmp 61) none (some (Operand.tmp 62)) none, type := 9, pos := "ref.go:50", after := #[{ on := 7, ground := Ground.data }, { on := 8, ground := Ground.data }, { on := 3, ground := Ground.guard }], guard := some (3, false) }) (v := ?_) rfl (by kernel_rfl) (by kernel_rfl) (by kernel_rfl) (fun _ _ _ h => h) (Or.inl ⟨by rfl, ?_⟩) (by assumption) ?_; rotate_left; · ((intro w hSw; (try dsimp only at hSw); go_simp) <;> with_reducible rfl)
            try simp only [Act.put, List.setIfInBounds_toArray, List.set_cons_zero, List.set_cons_succ]
            refine wpAnyH_ready (rs := [5]) (by kernel_rfl) (by simp) ?_
            refine AllReadyH.cons (o := { dst := some 59, op := Op.call { callee := Callee.value (Operand.func 152), args := #[Operand.tmp 58], argTypes := #[21] }, type := 26, pos := "ref.go:50", after := #[{ on := 4, ground := Ground.data }, { on := 3, ground := Ground.chain }, { on := 3, ground := Ground.guard }], guard := some (3, false) }) rfl (fun K hK => ?_) AllReadyH.nil
            go_simp; (first | (go_at_call 151; refine (hri.out _).mono ?_; rintro e w7 ⟨rfl, rfl⟩) | (go_at_call 152; refine (hby.out _).mono ?_; rintro e w8 ⟨A8, c8, rfl, own8, b8⟩; have hcv := run_conv_rd (P := Try.prog) (w := w8) 26 9 5 X.length c8 rfl Try.underlying26 Try.underlying5 Try.underlying9 (Rd.own own8)) | skip); (try (go_wp2_with fail)); refine hK.out _ _ (by first | trivial | ((try dsimp only); trivial)) (fun hHeld => ?_)
            clear hK K
            try simp only [Act.put, List.setIfInBounds_toArray, List.set_cons_zero, List.set_cons_succ]
            refine wpAnyH_ready (rs := [6]) (by kernel_rfl) (by simp) ?_
            refine AllReadyH.cons (o := { dst := some 60, op := Op.convert 26 9 (Operand.tmp 59), type := 9, pos := "ref.go:50", after := #[{ on := 5, ground := Ground.data }, { on := 3, ground := Ground.guard }], guard := some (3, false) }) rfl (fun K hK => ?_) AllReadyH.nil
            go_simp; (first | (go_at_call 151; refine (hri.out _).mono ?_; rintro e w7 ⟨rfl, rfl⟩) | (go_at_call 152; refine (hby.out _).mono ?_; rintro e w8 ⟨A8, c8, rfl, own8, b8⟩; have hcv := run_conv_rd (P := Try.prog) (w := w8) 26 9 5 X.length c8 rfl Try.underlying26 Try.underlying5 Try.underlying9 (Rd.own own8)) | skip); (try (go_wp2_with fail)); refine hK.out _ _ (by first | trivial | ((try dsimp only); trivial)) (fun hHeld => ?_)
            clear hK K
            try simp only [Act.put, List.setIfInBounds_toArray, List.set_cons_zero, List.set_cons_succ]
            refine wpAnyH_take (i := 10) (oi := { dst := some 64, op := Op.binOp BinOp.neq 9 (Operand.tmp 60) (Operand.tmp 63) 9, type := 4, pos := "ref.go:50", after := #[{ on := 6, ground := Ground.data }, { on := 9, ground := Ground.data }, { on := 3, ground := Ground.guard }], guard := some (3, false) }) (v := ?_) rfl (by kernel_rfl) (by kernel_rfl) (by kernel_rfl) (fun _ _ _ h => h) (Or.inl ⟨by rfl, ?_⟩) (by assumption) ?_; rotate_left; · ((intro w hSw; (try dsimp only at hSw); go_simp) <;> with_reducible rfl)
            try simp only [Act.put, List.setIfInBounds_toArray, List.set_cons_zero, List.set_cons_succ]
            refine wpAnyH_take (i := 11) (oi := { dst := some 65, op := Op.pick (Operand.tmp 57) (Operand.const (Value.bool true)) (Operand.tmp 64), type := 4, pos := "ref.go:50", after := #[{ on := 3, ground := Ground.data }, { on := 10, ground := Ground.data }], guard := none }) (v := ?_) rfl (by kernel_rfl) (by kernel_rfl) (by kernel_rfl) (fun _ _ _ h => h) (Or.inl ⟨by rfl, ?_⟩) (by assumption) ?_; rotate_left; · ((intro w hSw; (try dsimp only at hSw); go_simp) <;> with_reducible rfl)
            try simp only [Act.put, List.setIfInBounds_toArray, List.set_cons_zero, List.set_cons_succ]
            refine wpAnyH_done (by kernel_rfl) ?_ _
            go_wp2_with fail
            go_ret2
            exact ⟨rfl, undrewB b8⟩
          · rw [if_neg (fun h => hE h.2)] at hf2
            subst hf2
            have hex : S.extract 0 2 = ⟨(l.take 2).toArray⟩ := by rw [HS.out]; exact ex_take l 2
            have hbq : (X == (S.extract 0 2).toList) = false := by
              rw [hex, ba_list, beq_eq_false_iff_ne]
              exact hE
            clear Hf hex hE hR
            go_wp2_with fail
            refine wp_region_held_drew (S := (fun _ => True)) (by kernel_rfl) (by trivial) (fun hHeld => ?_)
            refine wpAnyH_take (i := 0) (oi := { dst := some 54, op := Op.move (Operand.tmp 6), type := 21, pos := "ref.go:50", after := #[], guard := none }) (v := ?_) rfl (by kernel_rfl) (by kernel_rfl) (by kernel_rfl) (fun _ _ _ h => h) (Or.inl ⟨by rfl, ?_⟩) (by assumption) ?_; rotate_left; · ((intro w hSw; (try dsimp only at hSw); go_simp) <;> with_reducible rfl)
            try simp only [Act.put, List.setIfInBounds_toArray, List.set_cons_zero, List.set_cons_succ]
            refine wpAnyH_ready (rs := [1]) (by kernel_rfl) (by simp) ?_
            refine AllReadyH.cons (o := { dst := some 55, op := Op.call { callee := Callee.value (Operand.func 151), args := #[Operand.tmp 54], argTypes := #[21] }, type := 4, pos := "ref.go:50", after := #[{ on := 0, ground := Ground.data }], guard := none }) rfl (fun K hK => ?_) AllReadyH.nil
            go_simp; (first | (go_at_call 151; refine (hri.out _).mono ?_; rintro e w7 ⟨rfl, rfl⟩) | (go_at_call 152; refine (hby.out _).mono ?_; rintro e w8 ⟨A8, c8, rfl, own8, b8⟩; have hcv := run_conv_rd (P := Try.prog) (w := w8) 26 9 5 X.length c8 rfl Try.underlying26 Try.underlying5 Try.underlying9 (Rd.own own8)) | skip); (try (go_wp2_with fail)); refine hK.out _ _ (by first | trivial | ((try dsimp only); trivial)) (fun hHeld => ?_)
            clear hK K
            try simp only [Act.put, List.setIfInBounds_toArray, List.set_cons_zero, List.set_cons_succ]
            refine wpAnyH_take (i := 2) (oi := { dst := some 56, op := Op.unOp UnOp.not 4 (Operand.tmp 55), type := 4, pos := "ref.go:50", after := #[{ on := 1, ground := Ground.data }], guard := none }) (v := ?_) rfl (by kernel_rfl) (by kernel_rfl) (by kernel_rfl) (fun _ _ _ h => h) (Or.inl ⟨by rfl, ?_⟩) (by assumption) ?_; rotate_left; · ((intro w hSw; (try dsimp only at hSw); go_simp) <;> with_reducible rfl)
            try simp only [Act.put, List.setIfInBounds_toArray, List.set_cons_zero, List.set_cons_succ]
            refine wpAnyH_take (i := 3) (oi := { dst := some 57, op := Op.move (Operand.tmp 56), type := 4, pos := "ref.go:50", after := #[{ on := 2, ground := Ground.data }, { on := 1, ground := Ground.chain }], guard := none }) (v := ?_) rfl (by kernel_rfl) (by kernel_rfl) (by kernel_rfl) (fun _ _ _ h => h) (Or.inl ⟨by rfl, ?_⟩) (by assumption) ?_; rotate_left; · ((intro w hSw; (try dsimp only at hSw); go_simp) <;> with_reducible rfl)
            try simp only [Act.put, List.setIfInBounds_toArray, List.set_cons_zero, List.set_cons_succ]
            refine wpAnyH_take (i := 4) (oi := { dst := some 58, op := Op.move (Operand.tmp 6), type := 21, pos := "ref.go:50", after := #[{ on := 3, ground := Ground.guard }], guard := some (3, false) }) (v := ?_) rfl (by kernel_rfl) (by kernel_rfl) (by kernel_rfl) (fun _ _ _ h => h) (Or.inl ⟨by rfl, ?_⟩) (by assumption) ?_; rotate_left; · ((intro w hSw; (try dsimp only at hSw); go_simp) <;> with_reducible rfl)
            try simp only [Act.put, List.setIfInBounds_toArray, List.set_cons_zero, List.set_cons_succ]
            refine wpAnyH_take (i := 7) (oi := { dst := some 61, op := Op.move (Operand.tmp 0), type := 9, pos := "ref.go:50", after := #[{ on := 3, ground := Ground.guard }], guard := some (3, false) }) (v := ?_) rfl (by kernel_rfl) (by kernel_rfl) (by kernel_rfl) (fun _ _ _ h => h) (Or.inl ⟨by rfl, ?_⟩) (by assumption) ?_; rotate_left; · ((intro w hSw; (try dsimp only at hSw); go_simp) <;> with_reducible rfl)
            try simp only [Act.put, List.setIfInBounds_toArray, List.set_cons_zero, List.set_cons_succ]
            refine wpAnyH_take (i := 8) (oi := { dst := some 62, op := Op.move (Operand.tmp 5), type := 3, pos := "ref.go:50", after := #[{ on := 3, ground := Ground.guard }], guard := some (3, false) }) (v := ?_) rfl (by kernel_rfl) (by kernel_rfl) (by kernel_rfl) (fun _ _ _ h => h) (Or.inl ⟨by rfl, ?_⟩) (by assumption) ?_; rotate_left; · ((intro w hSw; (try dsimp only at hSw); go_simp) <;> with_reducible rfl)
            try simp only [Act.put, List.setIfInBounds_toArray, List.set_cons_zero, List.set_cons_succ]
            refine wpAnyH_take (i := 9) (oi := { dst := some 63, op := Op.slice 9 (Operand.tmp 61) none (some (Operand.tmp 62)) none, type := 9, pos := "ref.go:50", after := #[{ on := 7, ground := Ground.data }, { on := 8, ground := Ground.data }, { on := 3, ground := Ground.guard }], guard := some (3, false) }) (v := ?_) rfl (by kernel_rfl) (by kernel_rfl) (by kernel_rfl) (fun _ _ _ h => h) (Or.inl ⟨by rfl, ?_⟩) (by assumption) ?_; rotate_left; · ((intro w hSw; (try dsimp only at hSw); go_simp) <;> with_reducible rfl)
            try simp only [Act.put, List.setIfInBounds_toArray, List.set_cons_zero, List.set_cons_succ]
            refine wpAnyH_ready (rs := [5]) (by kernel_rfl) (by simp) ?_
            refine AllReadyH.cons (o := { dst := some 59, op := Op.call { callee := Callee.value (Operand.func 152), args := #[Operand.tmp 58], argTypes := #[21] }, type := 26, pos := "ref.go:50", after := #[{ on := 4, ground := Ground.data }, { on := 3, ground := Ground.chain }, { on := 3, ground := Ground.guard }], guard := some (3, false) }) rfl (fun K hK => ?_) AllReadyH.nil
            go_simp; (first | (go_at_call 151; refine (hri.out _).mono ?_; rintro e w7 ⟨rfl, rfl⟩) | (go_at_call 152; refine (hby.out _).mono ?_; rintro e w8 ⟨A8, c8, rfl, own8, b8⟩; have hcv := run_conv_rd (P := Try.prog) (w := w8) 26 9 5 X.length c8 rfl Try.underlying26 Try.underlying5 Try.underlying9 (Rd.own own8)) | skip); (try (go_wp2_with fail)); refine hK.out _ _ (by first | trivial | ((try dsimp only); trivial)) (fun hHeld => ?_)
            clear hK K
            try simp only [Act.put, List.setIfInBounds_toArray, List.set_cons_zero, List.set_cons_succ]
            refine wpAnyH_ready (rs := [6]) (by kernel_rfl) (by simp) ?_
            refine AllReadyH.cons (o := { dst := some 60, op := Op.convert 26 9 (Operand.tmp 59), type := 9, pos := "ref.go:50", after := #[{ on := 5, ground := Ground.data }, { on := 3, ground := Ground.guard }], guard := some (3, false) }) rfl (fun K hK => ?_) AllReadyH.nil
            go_simp; (first | (go_at_call 151; refine (hri.out _).mono ?_; rintro e w7 ⟨rfl, rfl⟩) | (go_at_call 152; refine (hby.out _).mono ?_; rintro e w8 ⟨A8, c8, rfl, own8, b8⟩; have hcv := run_conv_rd (P := Try.prog) (w := w8) 26 9 5 X.length c8 rfl Try.underlying26 Try.underlying5 Try.underlying9 (Rd.own own8)) | skip); (try (go_wp2_with fail)); refine hK.out _ _ (by first | trivial | ((try dsimp only); trivial)) (fun hHeld => ?_)
            clear hK K
            try simp only [Act.put, List.setIfInBounds_toArray, List.set_cons_zero, List.set_cons_succ]
            refine wpAnyH_take (i := 10) (oi := { dst := some 64, op := Op.binOp BinOp.neq 9 (Operand.tmp 60) (Operand.tmp 63) 9, type := 4, pos := "ref.go:50", after := #[{ on := 6, ground := Ground.data }, { on := 9, ground := Ground.data }, { on := 3, ground := Ground.guard }], guard := some (3, false) }) (v := ?_) rfl (by kernel_rfl) (by kernel_rfl) (by kernel_rfl) (fun _ _ _ h => h) (Or.inl ⟨by rfl, ?_⟩) (by assumption) ?_; rotate_left; · ((intro w hSw; (try dsimp only at hSw); go_simp) <;> with_reducible rfl)
            try simp only [Act.put, List.setIfInBounds_toArray, List.set_cons_zero, List.set_cons_succ]
            refine wpAnyH_take (i := 11) (oi := { dst := some 65, op := Op.pick (Operand.tmp 57) (Operand.const (Value.bool true)) (Operand.tmp 64), type := 4, pos := "ref.go:50", after := #[{ on := 3, ground := Ground.data }, { on := 10, ground := Ground.data }], guard := none }) (v := ?_) rfl (by kernel_rfl) (by kernel_rfl) (by kernel_rfl) (fun _ _ _ h => h) (Or.inl ⟨by rfl, ?_⟩) (by assumption) ?_; rotate_left; · ((intro w hSw; (try dsimp only at hSw); go_simp) <;> with_reducible rfl)
            try simp only [Act.put, List.setIfInBounds_toArray, List.set_cons_zero, List.set_cons_succ]
            refine wpAnyH_done (by kernel_rfl) ?_ _
            go_wp2_with fail
            go_ret2
            exact ⟨rfl, undrewB b8⟩
        · rw [if_neg (fun h => hR h.1)] at hf2
          subst hf2
          have hR' : right V = false := by simpa using hR
          rw [hR'] at hri
          clear Hf
          go_wp2_with fail
          refine wp_region_held_drew (S := (fun _ => True)) (by kernel_rfl) (by trivial) (fun hHeld => ?_)
          refine wpAnyH_take (i := 0) (oi := { dst := some 54, op := Op.move (Operand.tmp 6), type := 21, pos := "ref.go:50", after := #[], guard := none }) (v := ?_) rfl (by kernel_rfl) (by kernel_rfl) (by kernel_rfl) (fun _ _ _ h => h) (Or.inl ⟨by rfl, ?_⟩) (by assumption) ?_; rotate_left; · ((intro w hSw; (try dsimp only at hSw); go_simp) <;> with_reducible rfl)
          try simp only [Act.put, List.setIfInBounds_toArray, List.set_cons_zero, List.set_cons_succ]
          refine wpAnyH_ready (rs := [1]) (by kernel_rfl) (by simp) ?_
          refine AllReadyH.cons (o := { dst := some 55, op := Op.call { callee := Callee.value (Operand.func 151), args := #[Operand.tmp 54], argTypes := #[21] }, type := 4, pos := "ref.go:50", after := #[{ on := 0, ground := Ground.data }], guard := none }) rfl (fun K hK => ?_) AllReadyH.nil
          go_simp; (first | (go_at_call 151; refine (hri.out _).mono ?_; rintro e w7 ⟨rfl, rfl⟩) | skip); (try (go_wp2_with fail)); refine hK.out _ _ (by first | trivial | ((try dsimp only); trivial)) (fun hHeld => ?_)
          clear hK K
          try simp only [Act.put, List.setIfInBounds_toArray, List.set_cons_zero, List.set_cons_succ]
          refine wpAnyH_take (i := 2) (oi := { dst := some 56, op := Op.unOp UnOp.not 4 (Operand.tmp 55), type := 4, pos := "ref.go:50", after := #[{ on := 1, ground := Ground.data }], guard := none }) (v := ?_) rfl (by kernel_rfl) (by kernel_rfl) (by kernel_rfl) (fun _ _ _ h => h) (Or.inl ⟨by rfl, ?_⟩) (by assumption) ?_; rotate_left; · ((intro w hSw; (try dsimp only at hSw); go_simp) <;> with_reducible rfl)
          try simp only [Act.put, List.setIfInBounds_toArray, List.set_cons_zero, List.set_cons_succ]
          refine wpAnyH_take (i := 3) (oi := { dst := some 57, op := Op.move (Operand.tmp 56), type := 4, pos := "ref.go:50", after := #[{ on := 2, ground := Ground.data }, { on := 1, ground := Ground.chain }], guard := none }) (v := ?_) rfl (by kernel_rfl) (by kernel_rfl) (by kernel_rfl) (fun _ _ _ h => h) (Or.inl ⟨by rfl, ?_⟩) (by assumption) ?_; rotate_left; · ((intro w hSw; (try dsimp only at hSw); go_simp) <;> with_reducible rfl)
          try simp only [Act.put, List.setIfInBounds_toArray, List.set_cons_zero, List.set_cons_succ]
          refine wpAnyH_take (i := 4) (oi := { dst := some 58, op := Op.move (Operand.tmp 6), type := 21, pos := "ref.go:50", after := #[{ on := 3, ground := Ground.guard }], guard := some (3, false) }) (v := undef) rfl (by kernel_rfl) (by kernel_rfl) (by kernel_rfl) (fun _ _ _ h => h) (Or.inr ⟨by rfl, rfl⟩) (by assumption) ?_
          try simp only [Act.put, List.setIfInBounds_toArray, List.set_cons_zero, List.set_cons_succ]
          refine wpAnyH_take (i := 7) (oi := { dst := some 61, op := Op.move (Operand.tmp 0), type := 9, pos := "ref.go:50", after := #[{ on := 3, ground := Ground.guard }], guard := some (3, false) }) (v := undef) rfl (by kernel_rfl) (by kernel_rfl) (by kernel_rfl) (fun _ _ _ h => h) (Or.inr ⟨by rfl, rfl⟩) (by assumption) ?_
          try simp only [Act.put, List.setIfInBounds_toArray, List.set_cons_zero, List.set_cons_succ]
          refine wpAnyH_take (i := 8) (oi := { dst := some 62, op := Op.move (Operand.tmp 5), type := 3, pos := "ref.go:50", after := #[{ on := 3, ground := Ground.guard }], guard := some (3, false) }) (v := undef) rfl (by kernel_rfl) (by kernel_rfl) (by kernel_rfl) (fun _ _ _ h => h) (Or.inr ⟨by rfl, rfl⟩) (by assumption) ?_
          try simp only [Act.put, List.setIfInBounds_toArray, List.set_cons_zero, List.set_cons_succ]
          refine wpAnyH_take (i := 9) (oi := { dst := some 63, op := Op.slice 9 (Operand.tmp 61) none (some (Operand.tmp 62)) none, type := 9, pos := "ref.go:50", after := #[{ on := 7, ground := Ground.data }, { on := 8, ground := Ground.data }, { on := 3, ground := Ground.guard }], guard := some (3, false) }) (v := undef) rfl (by kernel_rfl) (by kernel_rfl) (by kernel_rfl) (fun _ _ _ h => h) (Or.inr ⟨by rfl, rfl⟩) (by assumption) ?_
          try simp only [Act.put, List.setIfInBounds_toArray, List.set_cons_zero, List.set_cons_succ]
          refine wpAnyH_ready (rs := [5]) (by kernel_rfl) (by simp) ?_
          refine AllReadyH.cons (o := { dst := some 59, op := Op.call { callee := Callee.value (Operand.func 152), args := #[Operand.tmp 58], argTypes := #[21] }, type := 26, pos := "ref.go:50", after := #[{ on := 4, ground := Ground.data }, { on := 3, ground := Ground.chain }, { on := 3, ground := Ground.guard }], guard := some (3, false) }) rfl (fun K hK => ?_) AllReadyH.nil
          rw [if_neg]; rotate_left; · exact fun h => Bool.noConfusion (show false = true from h)
          refine hK.out _ _ hHeld (fun hHeld => ?_)
          clear hK K
          try simp only [Act.put, List.setIfInBounds_toArray, List.set_cons_zero, List.set_cons_succ]
          refine wpAnyH_ready (rs := [6]) (by kernel_rfl) (by simp) ?_
          refine AllReadyH.cons (o := { dst := some 60, op := Op.convert 26 9 (Operand.tmp 59), type := 9, pos := "ref.go:50", after := #[{ on := 5, ground := Ground.data }, { on := 3, ground := Ground.guard }], guard := some (3, false) }) rfl (fun K hK => ?_) AllReadyH.nil
          rw [if_neg]; rotate_left; · exact fun h => Bool.noConfusion (show false = true from h)
          refine hK.out _ _ hHeld (fun hHeld => ?_)
          clear hK K
          try simp only [Act.put, List.setIfInBounds_toArray, List.set_cons_zero, List.set_cons_succ]
          refine wpAnyH_take (i := 10) (oi := { dst := some 64, op := Op.binOp BinOp.neq 9 (Operand.tmp 60) (Operand.tmp 63) 9, type := 4, pos := "ref.go:50", after := #[{ on := 6, ground := Ground.data }, { on := 9, ground := Ground.data }, { on := 3, ground := Ground.guard }], guard := some (3, false) }) (v := undef) rfl (by kernel_rfl) (by kernel_rfl) (by kernel_rfl) (fun _ _ _ h => h) (Or.inr ⟨by rfl, rfl⟩) (by assumption) ?_
          try simp only [Act.put, List.setIfInBounds_toArray, List.set_cons_zero, List.set_cons_succ]
          refine wpAnyH_take (i := 11) (oi := { dst := some 65, op := Op.pick (Operand.tmp 57) (Operand.const (Value.bool true)) (Operand.tmp 64), type := 4, pos := "ref.go:50", after := #[{ on := 3, ground := Ground.data }, { on := 10, ground := Ground.data }], guard := none }) (v := ?_) rfl (by kernel_rfl) (by kernel_rfl) (by kernel_rfl) (fun _ _ _ h => h) (Or.inl ⟨by rfl, ?_⟩) (by assumption) ?_; rotate_left; · ((intro w hSw; (try dsimp only at hSw); go_simp) <;> with_reducible rfl)
          try simp only [Act.put, List.setIfInBounds_toArray, List.set_cons_zero, List.set_cons_succ]
          refine wpAnyH_done (by kernel_rfl) ?_ _
          go_wp2_with fail
          go_ret2
          exact ⟨rfl, (Below.refl _ _).drew⟩
set_option maxHeartbeats 1000000 in
theorem rfirst_3 (l : List UInt8) (w : World) (hl : l.length ≤ 1000000) (h0 : 0 < l.length) (h1 : ¬ 240 ≤ g l 0) (h2 : 224 ≤ g l 0) :
    Calls Try.prog 146 #[.string ⟨l.toArray⟩] w fun e w' => e = .returned (.tuple #[.int .i32 ((first l).1 : Int), .int .i64 ((first l).2 : Int)]) ∧ Below w.heap.size w w' := by
  have hc := g_lt l 0
  have hz : sizeOf1 (g l 0) = 3 := by unfold sizeOf1; rw [if_neg (by omega), if_pos (by omega)]
  have hh : headOf (g l 0) = g l 0 - 224 := by unfold headOf; rw [if_neg (by omega), if_pos (by omega)]
  have hf : first l = if l.length < 3 then (0, 0) else if ¬ conts l 3 then (0, 0) else if right (va l (g l 0 - 224) (3 - 1)) = true ∧ enc (va l (g l 0 - 224) (3 - 1)) = l.take 3 then (va l (g l 0 - 224) (3 - 1), 3) else (0, 0) := by
    unfold first
    rw [if_neg (show ¬ l.length = 0 by omega), hz, hh]
  obtain ⟨F, hF⟩ : ∃ F, F = first l := ⟨_, rfl⟩
  rw [← hF] at hf ⊢
  clear hF
  have hsz : (⟨l.toArray⟩ : ByteArray).size = l.length := ba_size l
  have hx : ∀ k, k < l.length → ∀ w, (Instr.index 9 (.string ⟨l.toArray⟩) (.int .i64 (k : Int))).run Try.prog w = .ok (.int .u8 (g l k : Int)) w := fun k hk w => run_ix 9 l k hk Try.underlying9 w
  obtain ⟨S, hS⟩ : ∃ S : ByteArray, S = ⟨l.toArray⟩ := ⟨_, rfl⟩
  rw [← hS] at hsz hx ⊢
  have hI : ¬ ((l.length : Int) = 0) := by omega
  have hI2 := beq_no hI
  have HS := Lib.hid hS
  have Hx := Lib.hid hx
  have hx0 := fun w => (hx 0 h0 w)
  simp only [Int.natCast_zero, Int.cast_ofNat_Int] at hx0
  have hw0 : wrap32 (g l 0 : Int) = (g l 0 : Int) := w32 (by omega) (by omega)
  have hg0 : (g l 0 : Int) ≤ 255 := by omega
  have hn1 : ¬ 240 ≤ (g l 0 : Int) := by omega
  have hn2 : 224 ≤ (g l 0 : Int) := by omega
  have hgc := g_lt l
  have hs0 : ((g l 0 - 224 : Nat) : Int) = (g l 0 : Int) - 224 := by omega
  have Hs0 := Lib.hid hs0
  have hwm : ∀ (V k : Nat), V ≤ 100000 → cont l k → wrap32 (V * 64 : Int) = (V * 64 : Int) := fun V k h1 h2 => w32 (by omega) (by omega)
  clear hS hx hz hh hI hs0
  by_cases hlen : l.length < 3
  · rw [if_pos hlen] at hf
    subst hf
    have hlI : (l.length : Int) < 3 := by omega
    go_enter Try.func146, Try.ntmps146
    go_wp2_with fail
    go_ret2
    exact ⟨rfl, Below.refl _ _⟩
  · rw [if_neg hlen] at hf
    have hlI : ¬ (l.length : Int) < 3 := by omega
    have Hf := Lib.hid hf
    clear hf
    go_enter Try.func146, Try.ntmps146
    go_wp2_with fail
    go_loopw [6, 7] (fun v i wr => ∃ k : Nat, k + 1 ≤ 3 ∧ i = .int .i64 ((k + 1 : Nat) : Int) ∧ v = .int .i32 ((va l (g l 0 - 224) k : Nat) : Int) ∧ Hid (conts l (k + 1)) ∧ wr = w) (fun _ i _ => 3 - (intOf i).toNat)
    case atStart => exact ⟨0, by omega, rfl, by show Value.int .i32 _ = .int .i32 ((g l 0 - 224 : Nat) : Int); first | rw [Hs0.out] | rfl, Lib.hid (fun j h1 h2 => by omega), rfl⟩
    case round =>
      obtain ⟨k, hk, rfl, rfl, hcs, rfl⟩ := hrel
      have hvl := va_le l (g l 0 - 224) k hcs.out
      obtain ⟨V, hV⟩ : ∃ V, V = va l (g l 0 - 224) k := ⟨_, rfl⟩
      rw [← hV] at hvl ⊢
      have HV := Lib.hid hV
      clear hV
      by_cases hlt : k + 1 < 3
      · have hkI : ((k : Int) + 1) < 3 := by omega
        have hkl : k + 1 < l.length := by omega
        have hV1 : (V : Int) ≤ 100000 := by
          have : 64 ^ k ≤ 64 ^ 2 := Nat.pow_le_pow_right (by omega) (by omega)
          have h64 : (g l 0 - 224 + 1) * 64 ^ k ≤ 16 * 64 ^ 2 := by have hx1 : g l 0 - 224 + 1 ≤ 16 := (by omega); exact Nat.mul_le_mul hx1 this
          omega
        have hxk := Hx.out (k + 1) hkl
        obtain ⟨G, hG⟩ : ∃ G, G = g l (k + 1) := ⟨_, rfl⟩
        have hGc := hgc (k + 1)
        rw [← hG] at hxk hGc
        have HG := Lib.hid hG
        have hGI : (G : Int) ≤ 255 := by omega
        simp only [Int.natCast_add, Int.cast_ofNat_Int] at hxk
        have hwG : wrap32 (G : Int) = (G : Int) := w32 (by omega) (by omega)
        have hwV : wrap32 ((V : Int) * 64) = (V : Int) * 64 := w32 (by omega) (by omega)
        have hwS : wrap32 ((V : Int) * 64 + (G : Int)) = (V : Int) * 64 + (G : Int) := w32 (by omega) (by omega)
        clear hG hvl
        rcases (show G < 128 ∨ (128 ≤ G ∧ 191 < G) ∨ (128 ≤ G ∧ G ≤ 191) by omega) with c1 | ⟨c1, c2⟩ | ⟨c1, c2⟩
        case' inl => have c1I : (G : Int) < 128 := (by omega)
        case' inr.inl =>
          have c1I : ¬ (G : Int) < 128 := (by omega)
          have c2I : (191 : Int) < (G : Int) := (by omega)
        case' inr.inr =>
          have c1I : ¬ (G : Int) < 128 := (by omega)
          have c2I : ¬ (191 : Int) < (G : Int) := (by omega)
        case inr.inr =>
          have hwD : wrap32 ((V : Int) * 64 + (G : Int) - 128) = (V : Int) * 64 + (G : Int) - 128 := w32 (by omega) (by omega)
          have hcn : cont l (k + 1) := by unfold cont; rw [← HG.out]; omega
          have Hcn := Lib.hid (conts_succ hcs.out hcn)
          clear hcn
          go_wp2_with fail
          go_roundw
          case rel => exact ⟨k + 1, by omega, by go_num, by rw [va_succ, ← HV.out, ← HG.out]; exact congrArg _ (by omega), Hcn, (by first | rfl | trivial)⟩
          case measure => simp [intOf]; omega
        all_goals
          have hno : ¬ conts l 3 := fun h => by
            have := h (k + 1) (by omega) (by omega)
            unfold cont at this
            rw [← HG.out] at this
            omega
          have hF0 : F = (0, 0) := by rw [Hf.out, if_pos hno]
          subst hF0
          go_wp2_with fail
          go_ret2
          exact ⟨rfl, Below.refl _ _⟩
      · obtain rfl : k = 2 := by omega
        simp only [show (((2 + 1 : Nat)) : Int) = 3 from rfl]
        have hcI : conts l 3 := hcs.out
        have hf2 := Hf.out
        rw [if_neg (fun h => h hcI)] at hf2
        rw [show (3 : Nat) - 1 = 2 from rfl, ← HV.out] at hf2
        have hri := Lib.hid (show ∀ w, Calls Try.prog 151 #[.int .i32 (V : Int)] w fun e w' => e = .returned (.bool (right V)) ∧ w = w' from fun w => by
          have := rright_any (V : Int) w
          rw [ri_right] at this
          exact this)
        by_cases hR : right V = true
        · have hV2 : V ≤ 1114111 := by
            have h := hR
            unfold right at h
            exact (of_decide_eq_true h).1
          have hby := Lib.hid (fun w => rbytes_any V (V : Int) rfl hV2 w)
          rw [hR] at hri
          obtain ⟨X, hX⟩ : ∃ X, X = enc V := ⟨_, rfl⟩
          rw [← hX] at hby hf2
          clear hX
          by_cases hE : X = l.take 3
          · rw [if_pos ⟨hR, hE⟩] at hf2
            subst hf2
            have hex : S.extract 0 3 = ⟨X.toArray⟩ := by rw [hE, HS.out]; exact ex_take l 3
            have hbq : (X == (S.extract 0 3).toList) = true := by rw [hex, ba_list]; simp
            have HR := Lib.hid hR
            clear Hf hE hex hR
            go_wp2_with fail
            refine wp_region_held_drew (S := (fun _ => True)) (by kernel_rfl) (by trivial) (fun hHeld => ?_)
            refine wpAnyH_take (i := 0) (oi := { dst := some 54, op := Op.move (Operand.tmp 6), type := 21, pos := "ref.go:50", after := #[], guard := none }) (v := ?_) rfl (by kernel_rfl) (by kernel_rfl) (by kernel_rfl) (fun _ _ _ h => h) (Or.inl ⟨by rfl, ?_⟩) (by assumption) ?_; rotate_left; · ((intro w hSw; (try dsimp only at hSw); go_simp) <;> with_reducible rfl)
            try simp only [Act.put, List.setIfInBounds_toArray, List.set_cons_zero, List.set_cons_succ]
            refine wpAnyH_ready (rs := [1]) (by kernel_rfl) (by simp) ?_
            refine AllReadyH.cons (o := { dst := some 55, op := Op.call { callee := Callee.value (Operand.func 151), args := #[Operand.tmp 54], argTypes := #[21] }, type := 4, pos := "ref.go:50", after := #[{ on := 0, ground := Ground.data }], guard := none }) rfl (fun K hK => ?_) AllReadyH.nil
            go_simp; (first | (go_at_call 151; refine (hri.out _).mono ?_; rintro e w7 ⟨rfl, rfl⟩) | (go_at_call 152; refine (hby.out _).mono ?_; rintro e w8 ⟨A8, c8, rfl, own8, b8⟩; have hcv := run_conv_rd (P := Try.prog) (w := w8) 26 9 5 X.length c8 rfl Try.underlying26 Try.underlying5 Try.underlying9 (Rd.own own8)) | skip); (try (go_wp2_with fail)); refine hK.out _ _ (by first | trivial | ((try dsimp only); trivial)) (fun hHeld => ?_)
            clear hK K
            try simp only [Act.put, List.setIfInBounds_toArray, List.set_cons_zero, List.set_cons_succ]
            refine wpAnyH_take (i := 2) (oi := { dst := some 56, op := Op.unOp UnOp.not 4 (Operand.tmp 55), type := 4, pos := "ref.go:50", after := #[{ on := 1, ground := Ground.data }], guard := none }) (v := ?_) rfl (by kernel_rfl) (by kernel_rfl) (by kernel_rfl) (fun _ _ _ h => h) (Or.inl ⟨by rfl, ?_⟩) (by assumption) ?_; rotate_left; · ((intro w hSw; (try dsimp only at hSw); go_simp) <;> with_reducible rfl)
            try simp only [Act.put, List.setIfInBounds_toArray, List.set_cons_zero, List.set_cons_succ]
            refine wpAnyH_take (i := 3) (oi := { dst := some 57, op := Op.move (Operand.tmp 56), type := 4, pos := "ref.go:50", after := #[{ on := 2, ground := Ground.data }, { on := 1, ground := Ground.chain }], guard := none }) (v := ?_) rfl (by kernel_rfl) (by kernel_rfl) (by kernel_rfl) (fun _ _ _ h => h) (Or.inl ⟨by rfl, ?_⟩) (by assumption) ?_; rotate_left; · ((intro w hSw; (try dsimp only at hSw); go_simp) <;> with_reducible rfl)
            try simp only [Act.put, List.setIfInBounds_toArray, List.set_cons_zero, List.set_cons_succ]
            refine wpAnyH_take (i := 4) (oi := { dst := some 58, op := Op.move (Operand.tmp 6), type := 21, pos := "ref.go:50", after := #[{ on := 3, ground := Ground.guard }], guard := some (3, false) }) (v := ?_) rfl (by kernel_rfl) (by kernel_rfl) (by kernel_rfl) (fun _ _ _ h => h) (Or.inl ⟨by rfl, ?_⟩) (by assumption) ?_; rotate_left; · ((intro w hSw; (try dsimp only at hSw); go_simp) <;> with_reducible rfl)
            try simp only [Act.put, List.setIfInBounds_toArray, List.set_cons_zero, List.set_cons_succ]
            refine wpAnyH_take (i := 7) (oi := { dst := some 61, op := Op.move (Operand.tmp 0), type := 9, pos := "ref.go:50", after := #[{ on := 3, ground := Ground.guard }], guard := some (3, false) }) (v := ?_) rfl (by kernel_rfl) (by kernel_rfl) (by kernel_rfl) (fun _ _ _ h => h) (Or.inl ⟨by rfl, ?_⟩) (by assumption) ?_; rotate_left; · ((intro w hSw; (try dsimp only at hSw); go_simp) <;> with_reducible rfl)
            try simp only [Act.put, List.setIfInBounds_toArray, List.set_cons_zero, List.set_cons_succ]
            refine wpAnyH_take (i := 8) (oi := { dst := some 62, op := Op.move (Operand.tmp 5), type := 3, pos := "ref.go:50", after := #[{ on := 3, ground := Ground.guard }], guard := some (3, false) }) (v := ?_) rfl (by kernel_rfl) (by kernel_rfl) (by kernel_rfl) (fun _ _ _ h => h) (Or.inl ⟨by rfl, ?_⟩) (by assumption) ?_; rotate_left; · ((intro w hSw; (try dsimp only at hSw); go_simp) <;> with_reducible rfl)
            try simp only [Act.put, List.setIfInBounds_toArray, List.set_cons_zero, List.set_cons_succ]
            refine wpAnyH_take (i := 9) (oi := { dst := some 63, op := Op.slice 9 (Operand.tmp 61) none (some (Operand.tmp 62)) none, type := 9, pos := "ref.go:50", after := #[{ on := 7, ground := Ground.data }, { on := 8, ground := Ground.data }, { on := 3, ground := Ground.guard }], guard := some (3, false) }) (v := ?_) rfl (by kernel_rfl) (by kernel_rfl) (by kernel_rfl) (fun _ _ _ h => h) (Or.inl ⟨by rfl, ?_⟩) (by assumption) ?_; rotate_left; · ((intro w hSw; (try dsimp only at hSw); go_simp) <;> with_reducible rfl)
            try simp only [Act.put, List.setIfInBounds_toArray, List.set_cons_zero, List.set_cons_succ]
            refine wpAnyH_ready (rs := [5]) (by kernel_rfl) (by simp) ?_
            refine AllReadyH.cons (o := { dst := some 59, op := Op.call { callee := Callee.value (Operand.func 152), args := #[Operand.tmp 58], argTypes := #[21] }, type := 26, pos := "ref.go:50", after := #[{ on := 4, ground := Ground.data }, { on := 3, ground := Ground.chain }, { on := 3, ground := Ground.guard }], guard := some (3, false) }) rfl (fun K hK => ?_) AllReadyH.nil
            go_simp; (first | (go_at_call 151; refine (hri.out _).mono ?_; rintro e w7 ⟨rfl, rfl⟩) | (go_at_call 152; refine (hby.out _).mono ?_; rintro e w8 ⟨A8, c8, rfl, own8, b8⟩; have hcv := run_conv_rd (P := Try.prog) (w := w8) 26 9 5 X.length c8 rfl Try.underlying26 Try.underlying5 Try.underlying9 (Rd.own own8)) | skip); (try (go_wp2_with fail)); refine hK.out _ _ (by first | trivial | ((try dsimp only); trivial)) (fun hHeld => ?_)
            clear hK K
            try simp only [Act.put, List.setIfInBounds_toArray, List.set_cons_zero, List.set_cons_succ]
            refine wpAnyH_ready (rs := [6]) (by kernel_rfl) (by simp) ?_
            refine AllReadyH.cons (o := { dst := some 60, op := Op.convert 26 9 (Operand.tmp 59), type := 9, pos := "ref.go:50", after := #[{ on := 5, ground := Ground.data }, { on := 3, ground := Ground.guard }], guard := some (3, false) }) rfl (fun K hK => ?_) AllReadyH.nil
            go_simp; (first | (go_at_call 151; refine (hri.out _).mono ?_; rintro e w7 ⟨rfl, rfl⟩) | (go_at_call 152; refine (hby.out _).mono ?_; rintro e w8 ⟨A8, c8, rfl, own8, b8⟩; have hcv := run_conv_rd (P := Try.prog) (w := w8) 26 9 5 X.length c8 rfl Try.underlying26 Try.underlying5 Try.underlying9 (Rd.own own8)) | skip); (try (go_wp2_with fail)); refine hK.out _ _ (by first | trivial | ((try dsimp only); trivial)) (fun hHeld => ?_)
            clear hK K
            try simp only [Act.put, List.setIfInBounds_toArray, List.set_cons_zero, List.set_cons_succ]
            refine wpAnyH_take (i := 10) (oi := { dst := some 64, op := Op.binOp BinOp.neq 9 (Operand.tmp 60) (Operand.tmp 63) 9, type := 4, pos := "ref.go:50", after := #[{ on := 6, ground := Ground.data }, { on := 9, ground := Ground.data }, { on := 3, ground := Ground.guard }], guard := some (3, false) }) (v := ?_) rfl (by kernel_rfl) (by kernel_rfl) (by kernel_rfl) (fun _ _ _ h => h) (Or.inl ⟨by rfl, ?_⟩) (by assumption) ?_; rotate_left; · ((intro w hSw; (try dsimp only at hSw); go_simp) <;> with_reducible rfl)
            try simp only [Act.put, List.setIfInBounds_toArray, List.set_cons_zero, List.set_cons_succ]
            refine wpAnyH_take (i := 11) (oi := { dst := some 65, op := Op.pick (Operand.tmp 57) (Operand.const (Value.bool true)) (Operand.tmp 64), type := 4, pos := "ref.go:50", after := #[{ on := 3, ground := Ground.data }, { on := 10, ground := Ground.data }], guard := none }) (v := ?_) rfl (by kernel_rfl) (by kernel_rfl) (by kernel_rfl) (fun _ _ _ h => h) (Or.inl ⟨by rfl, ?_⟩) (by assumption) ?_; rotate_left; · ((intro w hSw; (try dsimp only at hSw); go_simp) <;> with_reducible rfl)
            try simp only [Act.put, List.setIfInBounds_toArray, List.set_cons_zero, List.set_cons_succ]
            refine wpAnyH_done (by kernel_rfl) ?_ _
            go_wp2_with fail
            go_ret2
            exact ⟨rfl, undrewB b8⟩
          · rw [if_neg (fun h => hE h.2)] at hf2
            subst hf2
            have hex : S.extract 0 3 = ⟨(l.take 3).toArray⟩ := by rw [HS.out]; exact ex_take l 3
            have hbq : (X == (S.extract 0 3).toList) = false := by
              rw [hex, ba_list, beq_eq_false_iff_ne]
              exact hE
            clear Hf hex hE hR
            go_wp2_with fail
            refine wp_region_held_drew (S := (fun _ => True)) (by kernel_rfl) (by trivial) (fun hHeld => ?_)
            refine wpAnyH_take (i := 0) (oi := { dst := some 54, op := Op.move (Operand.tmp 6), type := 21, pos := "ref.go:50", after := #[], guard := none }) (v := ?_) rfl (by kernel_rfl) (by kernel_rfl) (by kernel_rfl) (fun _ _ _ h => h) (Or.inl ⟨by rfl, ?_⟩) (by assumption) ?_; rotate_left; · ((intro w hSw; (try dsimp only at hSw); go_simp) <;> with_reducible rfl)
            try simp only [Act.put, List.setIfInBounds_toArray, List.set_cons_zero, List.set_cons_succ]
            refine wpAnyH_ready (rs := [1]) (by kernel_rfl) (by simp) ?_
            refine AllReadyH.cons (o := { dst := some 55, op := Op.call { callee := Callee.value (Operand.func 151), args := #[Operand.tmp 54], argTypes := #[21] }, type := 4, pos := "ref.go:50", after := #[{ on := 0, ground := Ground.data }], guard := none }) rfl (fun K hK => ?_) AllReadyH.nil
            go_simp; (first | (go_at_call 151; refine (hri.out _).mono ?_; rintro e w7 ⟨rfl, rfl⟩) | (go_at_call 152; refine (hby.out _).mono ?_; rintro e w8 ⟨A8, c8, rfl, own8, b8⟩; have hcv := run_conv_rd (P := Try.prog) (w := w8) 26 9 5 X.length c8 rfl Try.underlying26 Try.underlying5 Try.underlying9 (Rd.own own8)) | skip); (try (go_wp2_with fail)); refine hK.out _ _ (by first | trivial | ((try dsimp only); trivial)) (fun hHeld => ?_)
            clear hK K
            try simp only [Act.put, List.setIfInBounds_toArray, List.set_cons_zero, List.set_cons_succ]
            refine wpAnyH_take (i := 2) (oi := { dst := some 56, op := Op.unOp UnOp.not 4 (Operand.tmp 55), type := 4, pos := "ref.go:50", after := #[{ on := 1, ground := Ground.data }], guard := none }) (v := ?_) rfl (by kernel_rfl) (by kernel_rfl) (by kernel_rfl) (fun _ _ _ h => h) (Or.inl ⟨by rfl, ?_⟩) (by assumption) ?_; rotate_left; · ((intro w hSw; (try dsimp only at hSw); go_simp) <;> with_reducible rfl)
            try simp only [Act.put, List.setIfInBounds_toArray, List.set_cons_zero, List.set_cons_succ]
            refine wpAnyH_take (i := 3) (oi := { dst := some 57, op := Op.move (Operand.tmp 56), type := 4, pos := "ref.go:50", after := #[{ on := 2, ground := Ground.data }, { on := 1, ground := Ground.chain }], guard := none }) (v := ?_) rfl (by kernel_rfl) (by kernel_rfl) (by kernel_rfl) (fun _ _ _ h => h) (Or.inl ⟨by rfl, ?_⟩) (by assumption) ?_; rotate_left; · ((intro w hSw; (try dsimp only at hSw); go_simp) <;> with_reducible rfl)
            try simp only [Act.put, List.setIfInBounds_toArray, List.set_cons_zero, List.set_cons_succ]
            refine wpAnyH_take (i := 4) (oi := { dst := some 58, op := Op.move (Operand.tmp 6), type := 21, pos := "ref.go:50", after := #[{ on := 3, ground := Ground.guard }], guard := some (3, false) }) (v := ?_) rfl (by kernel_rfl) (by kernel_rfl) (by kernel_rfl) (fun _ _ _ h => h) (Or.inl ⟨by rfl, ?_⟩) (by assumption) ?_; rotate_left; · ((intro w hSw; (try dsimp only at hSw); go_simp) <;> with_reducible rfl)
            try simp only [Act.put, List.setIfInBounds_toArray, List.set_cons_zero, List.set_cons_succ]
            refine wpAnyH_take (i := 7) (oi := { dst := some 61, op := Op.move (Operand.tmp 0), type := 9, pos := "ref.go:50", after := #[{ on := 3, ground := Ground.guard }], guard := some (3, false) }) (v := ?_) rfl (by kernel_rfl) (by kernel_rfl) (by kernel_rfl) (fun _ _ _ h => h) (Or.inl ⟨by rfl, ?_⟩) (by assumption) ?_; rotate_left; · ((intro w hSw; (try dsimp only at hSw); go_simp) <;> with_reducible rfl)
            try simp only [Act.put, List.setIfInBounds_toArray, List.set_cons_zero, List.set_cons_succ]
            refine wpAnyH_take (i := 8) (oi := { dst := some 62, op := Op.move (Operand.tmp 5), type := 3, pos := "ref.go:50", after := #[{ on := 3, ground := Ground.guard }], guard := some (3, false) }) (v := ?_) rfl (by kernel_rfl) (by kernel_rfl) (by kernel_rfl) (fun _ _ _ h => h) (Or.inl ⟨by rfl, ?_⟩) (by assumption) ?_; rotate_left; · ((intro w hSw; (try dsimp only at hSw); go_simp) <;> with_reducible rfl)
            try simp only [Act.put, List.setIfInBounds_toArray, List.set_cons_zero, List.set_cons_succ]
            refine wpAnyH_take (i := 9) (oi := { dst := some 63, op := Op.slice 9 (Operand.tmp 61) none (some (Operand.tmp 62)) none, type := 9, pos := "ref.go:50", after := #[{ on := 7, ground := Ground.data }, { on := 8, ground := Ground.data }, { on := 3, ground := Ground.guard }], guard := some (3, false) }) (v := ?_) rfl (by kernel_rfl) (by kernel_rfl) (by kernel_rfl) (fun _ _ _ h => h) (Or.inl ⟨by rfl, ?_⟩) (by assumption) ?_; rotate_left; · ((intro w hSw; (try dsimp only at hSw); go_simp) <;> with_reducible rfl)
            try simp only [Act.put, List.setIfInBounds_toArray, List.set_cons_zero, List.set_cons_succ]
            refine wpAnyH_ready (rs := [5]) (by kernel_rfl) (by simp) ?_
            refine AllReadyH.cons (o := { dst := some 59, op := Op.call { callee := Callee.value (Operand.func 152), args := #[Operand.tmp 58], argTypes := #[21] }, type := 26, pos := "ref.go:50", after := #[{ on := 4, ground := Ground.data }, { on := 3, ground := Ground.chain }, { on := 3, ground := Ground.guard }], guard := some (3, false) }) rfl (fun K hK => ?_) AllReadyH.nil
            go_simp; (first | (go_at_call 151; refine (hri.out _).mono ?_; rintro e w7 ⟨rfl, rfl⟩) | (go_at_call 152; refine (hby.out _).mono ?_; rintro e w8 ⟨A8, c8, rfl, own8, b8⟩; have hcv := run_conv_rd (P := Try.prog) (w := w8) 26 9 5 X.length c8 rfl Try.underlying26 Try.underlying5 Try.underlying9 (Rd.own own8)) | skip); (try (go_wp2_with fail)); refine hK.out _ _ (by first | trivial | ((try dsimp only); trivial)) (fun hHeld => ?_)
            clear hK K
            try simp only [Act.put, List.setIfInBounds_toArray, List.set_cons_zero, List.set_cons_succ]
            refine wpAnyH_ready (rs := [6]) (by kernel_rfl) (by simp) ?_
            refine AllReadyH.cons (o := { dst := some 60, op := Op.convert 26 9 (Operand.tmp 59), type := 9, pos := "ref.go:50", after := #[{ on := 5, ground := Ground.data }, { on := 3, ground := Ground.guard }], guard := some (3, false) }) rfl (fun K hK => ?_) AllReadyH.nil
            go_simp; (first | (go_at_call 151; refine (hri.out _).mono ?_; rintro e w7 ⟨rfl, rfl⟩) | (go_at_call 152; refine (hby.out _).mono ?_; rintro e w8 ⟨A8, c8, rfl, own8, b8⟩; have hcv := run_conv_rd (P := Try.prog) (w := w8) 26 9 5 X.length c8 rfl Try.underlying26 Try.underlying5 Try.underlying9 (Rd.own own8)) | skip); (try (go_wp2_with fail)); refine hK.out _ _ (by first | trivial | ((try dsimp only); trivial)) (fun hHeld => ?_)
            clear hK K
            try simp only [Act.put, List.setIfInBounds_toArray, List.set_cons_zero, List.set_cons_succ]
            refine wpAnyH_take (i := 10) (oi := { dst := some 64, op := Op.binOp BinOp.neq 9 (Operand.tmp 60) (Operand.tmp 63) 9, type := 4, pos := "ref.go:50", after := #[{ on := 6, ground := Ground.data }, { on := 9, ground := Ground.data }, { on := 3, ground := Ground.guard }], guard := some (3, false) }) (v := ?_) rfl (by kernel_rfl) (by kernel_rfl) (by kernel_rfl) (fun _ _ _ h => h) (Or.inl ⟨by rfl, ?_⟩) (by assumption) ?_; rotate_left; · ((intro w hSw; (try dsimp only at hSw); go_simp) <;> with_reducible rfl)
            try simp only [Act.put, List.setIfInBounds_toArray, List.set_cons_zero, List.set_cons_succ]
            refine wpAnyH_take (i := 11) (oi := { dst := some 65, op := Op.pick (Operand.tmp 57) (Operand.const (Value.bool true)) (Operand.tmp 64), type := 4, pos := "ref.go:50", after := #[{ on := 3, ground := Ground.data }, { on := 10, ground := Ground.data }], guard := none }) (v := ?_) rfl (by kernel_rfl) (by kernel_rfl) (by kernel_rfl) (fun _ _ _ h => h) (Or.inl ⟨by rfl, ?_⟩) (by assumption) ?_; rotate_left; · ((intro w hSw; (try dsimp only at hSw); go_simp) <;> with_reducible rfl)
            try simp only [Act.put, List.setIfInBounds_toArray, List.set_cons_zero, List.set_cons_succ]
            refine wpAnyH_done (by kernel_rfl) ?_ _
            go_wp2_with fail
            go_ret2
            exact ⟨rfl, undrewB b8⟩
        · rw [if_neg (fun h => hR h.1)] at hf2
          subst hf2
          have hR' : right V = false := by simpa using hR
          rw [hR'] at hri
          clear Hf
          go_wp2_with fail
          refine wp_region_held_drew (S := (fun _ => True)) (by kernel_rfl) (by trivial) (fun hHeld => ?_)
          refine wpAnyH_take (i := 0) (oi := { dst := some 54, op := Op.move (Operand.tmp 6), type := 21, pos := "ref.go:50", after := #[], guard := none }) (v := ?_) rfl (by kernel_rfl) (by kernel_rfl) (by kernel_rfl) (fun _ _ _ h => h) (Or.inl ⟨by rfl, ?_⟩) (by assumption) ?_; rotate_left; · ((intro w hSw; (try dsimp only at hSw); go_simp) <;> with_reducible rfl)
          try simp only [Act.put, List.setIfInBounds_toArray, List.set_cons_zero, List.set_cons_succ]
          refine wpAnyH_ready (rs := [1]) (by kernel_rfl) (by simp) ?_
          refine AllReadyH.cons (o := { dst := some 55, op := Op.call { callee := Callee.value (Operand.func 151), args := #[Operand.tmp 54], argTypes := #[21] }, type := 4, pos := "ref.go:50", after := #[{ on := 0, ground := Ground.data }], guard := none }) rfl (fun K hK => ?_) AllReadyH.nil
          go_simp; (first | (go_at_call 151; refine (hri.out _).mono ?_; rintro e w7 ⟨rfl, rfl⟩) | skip); (try (go_wp2_with fail)); refine hK.out _ _ (by first | trivial | ((try dsimp only); trivial)) (fun hHeld => ?_)
          clear hK K
          try simp only [Act.put, List.setIfInBounds_toArray, List.set_cons_zero, List.set_cons_succ]
          refine wpAnyH_take (i := 2) (oi := { dst := some 56, op := Op.unOp UnOp.not 4 (Operand.tmp 55), type := 4, pos := "ref.go:50", after := #[{ on := 1, ground := Ground.data }], guard := none }) (v := ?_) rfl (by kernel_rfl) (by kernel_rfl) (by kernel_rfl) (fun _ _ _ h => h) (Or.inl ⟨by rfl, ?_⟩) (by assumption) ?_; rotate_left; · ((intro w hSw; (try dsimp only at hSw); go_simp) <;> with_reducible rfl)
          try simp only [Act.put, List.setIfInBounds_toArray, List.set_cons_zero, List.set_cons_succ]
          refine wpAnyH_take (i := 3) (oi := { dst := some 57, op := Op.move (Operand.tmp 56), type := 4, pos := "ref.go:50", after := #[{ on := 2, ground := Ground.data }, { on := 1, ground := Ground.chain }], guard := none }) (v := ?_) rfl (by kernel_rfl) (by kernel_rfl) (by kernel_rfl) (fun _ _ _ h => h) (Or.inl ⟨by rfl, ?_⟩) (by assumption) ?_; rotate_left; · ((intro w hSw; (try dsimp only at hSw); go_simp) <;> with_reducible rfl)
          try simp only [Act.put, List.setIfInBounds_toArray, List.set_cons_zero, List.set_cons_succ]
          refine wpAnyH_take (i := 4) (oi := { dst := some 58, op := Op.move (Operand.tmp 6), type := 21, pos := "ref.go:50", after := #[{ on := 3, ground := Ground.guard }], guard := some (3, false) }) (v := undef) rfl (by kernel_rfl) (by kernel_rfl) (by kernel_rfl) (fun _ _ _ h => h) (Or.inr ⟨by rfl, rfl⟩) (by assumption) ?_
          try simp only [Act.put, List.setIfInBounds_toArray, List.set_cons_zero, List.set_cons_succ]
          refine wpAnyH_take (i := 7) (oi := { dst := some 61, op := Op.move (Operand.tmp 0), type := 9, pos := "ref.go:50", after := #[{ on := 3, ground := Ground.guard }], guard := some (3, false) }) (v := undef) rfl (by kernel_rfl) (by kernel_rfl) (by kernel_rfl) (fun _ _ _ h => h) (Or.inr ⟨by rfl, rfl⟩) (by assumption) ?_
          try simp only [Act.put, List.setIfInBounds_toArray, List.set_cons_zero, List.set_cons_succ]
          refine wpAnyH_take (i := 8) (oi := { dst := some 62, op := Op.move (Operand.tmp 5), type := 3, pos := "ref.go:50", after := #[{ on := 3, ground := Ground.guard }], guard := some (3, false) }) (v := undef) rfl (by kernel_rfl) (by kernel_rfl) (by kernel_rfl) (fun _ _ _ h => h) (Or.inr ⟨by rfl, rfl⟩) (by assumption) ?_
          try simp only [Act.put, List.setIfInBounds_toArray, List.set_cons_zero, List.set_cons_succ]
          refine wpAnyH_take (i := 9) (oi := { dst := some 63, op := Op.slice 9 (Operand.tmp 61) none (some (Operand.tmp 62)) none, type := 9, pos := "ref.go:50", after := #[{ on := 7, ground := Ground.data }, { on := 8, ground := Ground.data }, { on := 3, ground := Ground.guard }], guard := some (3, false) }) (v := undef) rfl (by kernel_rfl) (by kernel_rfl) (by kernel_rfl) (fun _ _ _ h => h) (Or.inr ⟨by rfl, rfl⟩) (by assumption) ?_
          try simp only [Act.put, List.setIfInBounds_toArray, List.set_cons_zero, List.set_cons_succ]
          refine wpAnyH_ready (rs := [5]) (by kernel_rfl) (by simp) ?_
          refine AllReadyH.cons (o := { dst := some 59, op := Op.call { callee := Callee.value (Operand.func 152), args := #[Operand.tmp 58], argTypes := #[21] }, type := 26, pos := "ref.go:50", after := #[{ on := 4, ground := Ground.data }, { on := 3, ground := Ground.chain }, { on := 3, ground := Ground.guard }], guard := some (3, false) }) rfl (fun K hK => ?_) AllReadyH.nil
          rw [if_neg]; rotate_left; · exact fun h => Bool.noConfusion (show false = true from h)
          refine hK.out _ _ hHeld (fun hHeld => ?_)
          clear hK K
          try simp only [Act.put, List.setIfInBounds_toArray, List.set_cons_zero, List.set_cons_succ]
          refine wpAnyH_ready (rs := [6]) (by kernel_rfl) (by simp) ?_
          refine AllReadyH.cons (o := { dst := some 60, op := Op.convert 26 9 (Operand.tmp 59), type := 9, pos := "ref.go:50", after := #[{ on := 5, ground := Ground.data }, { on := 3, ground := Ground.guard }], guard := some (3, false) }) rfl (fun K hK => ?_) AllReadyH.nil
          rw [if_neg]; rotate_left; · exact fun h => Bool.noConfusion (show false = true from h)
          refine hK.out _ _ hHeld (fun hHeld => ?_)
          clear hK K
          try simp only [Act.put, List.setIfInBounds_toArray, List.set_cons_zero, List.set_cons_succ]
          refine wpAnyH_take (i := 10) (oi := { dst := some 64, op := Op.binOp BinOp.neq 9 (Operand.tmp 60) (Operand.tmp 63) 9, type := 4, pos := "ref.go:50", after := #[{ on := 6, ground := Ground.data }, { on := 9, ground := Ground.data }, { on := 3, ground := Ground.guard }], guard := some (3, false) }) (v := undef) rfl (by kernel_rfl) (by kernel_rfl) (by kernel_rfl) (fun _ _ _ h => h) (Or.inr ⟨by rfl, rfl⟩) (by assumption) ?_
          try simp only [Act.put, List.setIfInBounds_toArray, List.set_cons_zero, List.set_cons_succ]
          refine wpAnyH_take (i := 11) (oi := { dst := some 65, op := Op.pick (Operand.tmp 57) (Operand.const (Value.bool true)) (Operand.tmp 64), type := 4, pos := "ref.go:50", after := #[{ on := 3, ground := Ground.data }, { on := 10, ground := Ground.data }], guard := none }) (v := ?_) rfl (by kernel_rfl) (by kernel_rfl) (by kernel_rfl) (fun _ _ _ h => h) (Or.inl ⟨by rfl, ?_⟩) (by assumption) ?_; rotate_left; · ((intro w hSw; (try dsimp only at hSw); go_simp) <;> with_reducible rfl)
          try simp only [Act.put, List.setIfInBounds_toArray, List.set_cons_zero, List.set_cons_succ]
          refine wpAnyH_done (by kernel_rfl) ?_ _
          go_wp2_with fail
          go_ret2
          exact ⟨rfl, (Below.refl _ _).drew⟩
set_option maxHeartbeats 1000000 in
theorem rfirst_4 (l : List UInt8) (w : World) (hl : l.length ≤ 1000000) (h0 : 0 < l.length) (h1 : 240 ≤ g l 0) :
    Calls Try.prog 146 #[.string ⟨l.toArray⟩] w fun e w' => e = .returned (.tuple #[.int .i32 ((first l).1 : Int), .int .i64 ((first l).2 : Int)]) ∧ Below w.heap.size w w' := by
  have hc := g_lt l 0
  have hz : sizeOf1 (g l 0) = 4 := by unfold sizeOf1; rw [if_pos (by omega)]
  have hh : headOf (g l 0) = g l 0 - 240 := by unfold headOf; rw [if_pos (by omega)]
  have hf : first l = if l.length < 4 then (0, 0) else if ¬ conts l 4 then (0, 0) else if right (va l (g l 0 - 240) (4 - 1)) = true ∧ enc (va l (g l 0 - 240) (4 - 1)) = l.take 4 then (va l (g l 0 - 240) (4 - 1), 4) else (0, 0) := by
    unfold first
    rw [if_neg (show ¬ l.length = 0 by omega), hz, hh]
  obtain ⟨F, hF⟩ : ∃ F, F = first l := ⟨_, rfl⟩
  rw [← hF] at hf ⊢
  clear hF
  have hsz : (⟨l.toArray⟩ : ByteArray).size = l.length := ba_size l
  have hx : ∀ k, k < l.length → ∀ w, (Instr.index 9 (.string ⟨l.toArray⟩) (.int .i64 (k : Int))).run Try.prog w = .ok (.int .u8 (g l k : Int)) w := fun k hk w => run_ix 9 l k hk Try.underlying9 w
  obtain ⟨S, hS⟩ : ∃ S : ByteArray, S = ⟨l.toArray⟩ := ⟨_, rfl⟩
  rw [← hS] at hsz hx ⊢
  have hI : ¬ ((l.length : Int) = 0) := by omega
  have hI2 := beq_no hI
  have HS := Lib.hid hS
  have Hx := Lib.hid hx
  have hx0 := fun w => (hx 0 h0 w)
  simp only [Int.natCast_zero, Int.cast_ofNat_Int] at hx0
  have hw0 : wrap32 (g l 0 : Int) = (g l 0 : Int) := w32 (by omega) (by omega)
  have hg0 : (g l 0 : Int) ≤ 255 := by omega
  have hn1 : 240 ≤ (g l 0 : Int) := by omega
  have hgc := g_lt l
  have hs0 : ((g l 0 - 240 : Nat) : Int) = (g l 0 : Int) - 240 := by omega
  have Hs0 := Lib.hid hs0
  have hwm : ∀ (V k : Nat), V ≤ 100000 → cont l k → wrap32 (V * 64 : Int) = (V * 64 : Int) := fun V k h1 h2 => w32 (by omega) (by omega)
  clear hS hx hz hh hI hs0
  by_cases hlen : l.length < 4
  · rw [if_pos hlen] at hf
    subst hf
    have hlI : (l.length : Int) < 4 := by omega
    go_enter Try.func146, Try.ntmps146
    go_wp2_with fail
    go_ret2
    exact ⟨rfl, Below.refl _ _⟩
  · rw [if_neg hlen] at hf
    have hlI : ¬ (l.length : Int) < 4 := by omega
    have Hf := Lib.hid hf
    clear hf
    go_enter Try.func146, Try.ntmps146
    go_wp2_with fail
    go_loopw [6, 7] (fun v i wr => ∃ k : Nat, k + 1 ≤ 4 ∧ i = .int .i64 ((k + 1 : Nat) : Int) ∧ v = .int .i32 ((va l (g l 0 - 240) k : Nat) : Int) ∧ Hid (conts l (k + 1)) ∧ wr = w) (fun _ i _ => 4 - (intOf i).toNat)
    case atStart => exact ⟨0, by omega, rfl, by show Value.int .i32 _ = .int .i32 ((g l 0 - 240 : Nat) : Int); first | rw [Hs0.out] | rfl, Lib.hid (fun j h1 h2 => by omega), rfl⟩
    case round =>
      obtain ⟨k, hk, rfl, rfl, hcs, rfl⟩ := hrel
      have hvl := va_le l (g l 0 - 240) k hcs.out
      obtain ⟨V, hV⟩ : ∃ V, V = va l (g l 0 - 240) k := ⟨_, rfl⟩
      rw [← hV] at hvl ⊢
      have HV := Lib.hid hV
      clear hV
      by_cases hlt : k + 1 < 4
      · have hkI : ((k : Int) + 1) < 4 := by omega
        have hkl : k + 1 < l.length := by omega
        have hV1 : (V : Int) ≤ 100000 := by
          have : 64 ^ k ≤ 64 ^ 2 := Nat.pow_le_pow_right (by omega) (by omega)
          have h64 : (g l 0 - 240 + 1) * 64 ^ k ≤ 16 * 64 ^ 2 := by have hx1 : g l 0 - 240 + 1 ≤ 16 := (by omega); exact Nat.mul_le_mul hx1 this
          omega
        have hxk := Hx.out (k + 1) hkl
        obtain ⟨G, hG⟩ : ∃ G, G = g l (k + 1) := ⟨_, rfl⟩
        have hGc := hgc (k + 1)
        rw [← hG] at hxk hGc
        have HG := Lib.hid hG
        have hGI : (G : Int) ≤ 255 := by omega
        simp only [Int.natCast_add, Int.cast_ofNat_Int] at hxk
        have hwG : wrap32 (G : Int) = (G : Int) := w32 (by omega) (by omega)
        have hwV : wrap32 ((V : Int) * 64) = (V : Int) * 64 := w32 (by omega) (by omega)
        have hwS : wrap32 ((V : Int) * 64 + (G : Int)) = (V : Int) * 64 + (G : Int) := w32 (by omega) (by omega)
        clear hG hvl
        rcases (show G < 128 ∨ (128 ≤ G ∧ 191 < G) ∨ (128 ≤ G ∧ G ≤ 191) by omega) with c1 | ⟨c1, c2⟩ | ⟨c1, c2⟩
        case' inl => have c1I : (G : Int) < 128 := (by omega)
        case' inr.inl =>
          have c1I : ¬ (G : Int) < 128 := (by omega)
          have c2I : (191 : Int) < (G : Int) := (by omega)
        case' inr.inr =>
          have c1I : ¬ (G : Int) < 128 := (by omega)
          have c2I : ¬ (191 : Int) < (G : Int) := (by omega)
        case inr.inr =>
          have hwD : wrap32 ((V : Int) * 64 + (G : Int) - 128) = (V : Int) * 64 + (G : Int) - 128 := w32 (by omega) (by omega)
          have hcn : cont l (k + 1) := by unfold cont; rw [← HG.out]; omega
          have Hcn := Lib.hid (conts_succ hcs.out hcn)
          clear hcn
          go_wp2_with fail
          go_roundw
          case rel => exact ⟨k + 1, by omega, by go_num, by rw [va_succ, ← HV.out, ← HG.out]; exact congrArg _ (by omega), Hcn, (by first | rfl | trivial)⟩
          case measure => simp [intOf]; omega
        all_goals
          have hno : ¬ conts l 4 := fun h => by
            have := h (k + 1) (by omega) (by omega)
            unfold cont at this
            rw [← HG.out] at this
            omega
          have hF0 : F = (0, 0) := by rw [Hf.out, if_pos hno]
          subst hF0
          go_wp2_with fail
          go_ret2
          exact ⟨rfl, Below.refl _ _⟩
      · obtain rfl : k = 3 := by omega
        simp only [show (((3 + 1 : Nat)) : Int) = 4 from rfl]
        have hcI : conts l 4 := hcs.out
        have hf2 := Hf.out
        rw [if_neg (fun h => h hcI)] at hf2
        rw [show (4 : Nat) - 1 = 3 from rfl, ← HV.out] at hf2
        have hri := Lib.hid (show ∀ w, Calls Try.prog 151 #[.int .i32 (V : Int)] w fun e w' => e = .returned (.bool (right V)) ∧ w = w' from fun w => by
          have := rright_any (V : Int) w
          rw [ri_right] at this
          exact this)
        by_cases hR : right V = true
        · have hV2 : V ≤ 1114111 := by
            have h := hR
            unfold right at h
            exact (of_decide_eq_true h).1
          have hby := Lib.hid (fun w => rbytes_any V (V : Int) rfl hV2 w)
          rw [hR] at hri
          obtain ⟨X, hX⟩ : ∃ X, X = enc V := ⟨_, rfl⟩
          rw [← hX] at hby hf2
          clear hX
          by_cases hE : X = l.take 4
          · rw [if_pos ⟨hR, hE⟩] at hf2
            subst hf2
            have hex : S.extract 0 4 = ⟨X.toArray⟩ := by rw [hE, HS.out]; exact ex_take l 4
            have hbq : (X == (S.extract 0 4).toList) = true := by rw [hex, ba_list]; simp
            have HR := Lib.hid hR
            clear Hf hE hex hR
            go_wp2_with fail
            refine wp_region_held_drew (S := (fun _ => True)) (by kernel_rfl) (by trivial) (fun hHeld => ?_)
            refine wpAnyH_take (i := 0) (oi := { dst := some 54, op := Op.move (Operand.tmp 6), type := 21, pos := "ref.go:50", after := #[], guard := none }) (v := ?_) rfl (by kernel_rfl) (by kernel_rfl) (by kernel_rfl) (fun _ _ _ h => h) (Or.inl ⟨by rfl, ?_⟩) (by assumption) ?_; rotate_left; · ((intro w hSw; (try dsimp only at hSw); go_simp) <;> with_reducible rfl)
            try simp only [Act.put, List.setIfInBounds_toArray, List.set_cons_zero, List.set_cons_succ]
            refine wpAnyH_ready (rs := [1]) (by kernel_rfl) (by simp) ?_
            refine AllReadyH.cons (o := { dst := some 55, op := Op.call { callee := Callee.value (Operand.func 151), args := #[Operand.tmp 54], argTypes := #[21] }, type := 4, pos := "ref.go:50", after := #[{ on := 0, ground := Ground.data }], guard := none }) rfl (fun K hK => ?_) AllReadyH.nil
            go_simp; (first | (go_at_call 151; refine (hri.out _).mono ?_; rintro e w7 ⟨rfl, rfl⟩) | (go_at_call 152; refine (hby.out _).mono ?_; rintro e w8 ⟨A8, c8, rfl, own8, b8⟩; have hcv := run_conv_rd (P := Try.prog) (w := w8) 26 9 5 X.length c8 rfl Try.underlying26 Try.underlying5 Try.underlying9 (Rd.own own8)) | skip); (try (go_wp2_with fail)); refine hK.out _ _ (by first | trivial | ((try dsimp only); trivial)) (fun hHeld => ?_)
            clear hK K
            try simp only [Act.put, List.setIfInBounds_toArray, List.set_cons_zero, List.set_cons_succ]
            refine wpAnyH_take (i := 2) (oi := { dst := some 56, op := Op.unOp UnOp.not 4 (Operand.tmp 55), type := 4, pos := "ref.go:50", after := #[{ on := 1, ground := Ground.data }], guard := none }) (v := ?_) rfl (by kernel_rfl) (by kernel_rfl) (by kernel_rfl) (fun _ _ _ h => h) (Or.inl ⟨by rfl, ?_⟩) (by assumption) ?_; rotate_left; · ((intro w hSw; (try dsimp only at hSw); go_simp) <;> with_reducible rfl)
            try simp only [Act.put, List.setIfInBounds_toArray, List.set_cons_zero, List.set_cons_succ]
            refine wpAnyH_take (i := 3) (oi := { dst := some 57, op := Op.move (Operand.tmp 56), type := 4, pos := "ref.go:50", after := #[{ on := 2, ground := Ground.data }, { on := 1, ground := Ground.chain }], guard := none }) (v := ?_) rfl (by kernel_rfl) (by kernel_rfl) (by kernel_rfl) (fun _ _ _ h => h) (Or.inl ⟨by rfl, ?_⟩) (by assumption) ?_; rotate_left; · ((intro w hSw; (try dsimp only at hSw); go_simp) <;> with_reducible rfl)
            try simp only [Act.put, List.setIfInBounds_toArray, List.set_cons_zero, List.set_cons_succ]
            refine wpAnyH_take (i := 4) (oi := { dst := some 58, op := Op.move (Operand.tmp 6), type := 21, pos := "ref.go:50", after := #[{ on := 3, ground := Ground.guard }], guard := some (3, false) }) (v := ?_) rfl (by kernel_rfl) (by kernel_rfl) (by kernel_rfl) (fun _ _ _ h => h) (Or.inl ⟨by rfl, ?_⟩) (by assumption) ?_; rotate_left; · ((intro w hSw; (try dsimp only at hSw); go_simp) <;> with_reducible rfl)
            try simp only [Act.put, List.setIfInBounds_toArray, List.set_cons_zero, List.set_cons_succ]
            refine wpAnyH_take (i := 7) (oi := { dst := some 61, op := Op.move (Operand.tmp 0), type := 9, pos := "ref.go:50", after := #[{ on := 3, ground := Ground.guard }], guard := some (3, false) }) (v := ?_) rfl (by kernel_rfl) (by kernel_rfl) (by kernel_rfl) (fun _ _ _ h => h) (Or.inl ⟨by rfl, ?_⟩) (by assumption) ?_; rotate_left; · ((intro w hSw; (try dsimp only at hSw); go_simp) <;> with_reducible rfl)
            try simp only [Act.put, List.setIfInBounds_toArray, List.set_cons_zero, List.set_cons_succ]
            refine wpAnyH_take (i := 8) (oi := { dst := some 62, op := Op.move (Operand.tmp 5), type := 3, pos := "ref.go:50", after := #[{ on := 3, ground := Ground.guard }], guard := some (3, false) }) (v := ?_) rfl (by kernel_rfl) (by kernel_rfl) (by kernel_rfl) (fun _ _ _ h => h) (Or.inl ⟨by rfl, ?_⟩) (by assumption) ?_; rotate_left; · ((intro w hSw; (try dsimp only at hSw); go_simp) <;> with_reducible rfl)
            try simp only [Act.put, List.setIfInBounds_toArray, List.set_cons_zero, List.set_cons_succ]
            refine wpAnyH_take (i := 9) (oi := { dst := some 63, op := Op.slice 9 (Operand.tmp 61) none (some (Operand.tmp 62)) none, type := 9, pos := "ref.go:50", after := #[{ on := 7, ground := Ground.data }, { on := 8, ground := Ground.data }, { on := 3, ground := Ground.guard }], guard := some (3, false) }) (v := ?_) rfl (by kernel_rfl) (by kernel_rfl) (by kernel_rfl) (fun _ _ _ h => h) (Or.inl ⟨by rfl, ?_⟩) (by assumption) ?_; rotate_left; · ((intro w hSw; (try dsimp only at hSw); go_simp) <;> with_reducible rfl)
            try simp only [Act.put, List.setIfInBounds_toArray, List.set_cons_zero, List.set_cons_succ]
            refine wpAnyH_ready (rs := [5]) (by kernel_rfl) (by simp) ?_
            refine AllReadyH.cons (o := { dst := some 59, op := Op.call { callee := Callee.value (Operand.func 152), args := #[Operand.tmp 58], argTypes := #[21] }, type := 26, pos := "ref.go:50", after := #[{ on := 4, ground := Ground.data }, { on := 3, ground := Ground.chain }, { on := 3, ground := Ground.guard }], guard := some (3, false) }) rfl (fun K hK => ?_) AllReadyH.nil
            go_simp; (first | (go_at_call 151; refine (hri.out _).mono ?_; rintro e w7 ⟨rfl, rfl⟩) | (go_at_call 152; refine (hby.out _).mono ?_; rintro e w8 ⟨A8, c8, rfl, own8, b8⟩; have hcv := run_conv_rd (P := Try.prog) (w := w8) 26 9 5 X.length c8 rfl Try.underlying26 Try.underlying5 Try.underlying9 (Rd.own own8)) | skip); (try (go_wp2_with fail)); refine hK.out _ _ (by first | trivial | ((try dsimp only); trivial)) (fun hHeld => ?_)
            clear hK K
            try simp only [Act.put, List.setIfInBounds_toArray, List.set_cons_zero, List.set_cons_succ]
            refine wpAnyH_ready (rs := [6]) (by kernel_rfl) (by simp) ?_
            refine AllReadyH.cons (o := { dst := some 60, op := Op.convert 26 9 (Operand.tmp 59), type := 9, pos := "ref.go:50", after := #[{ on := 5, ground := Ground.data }, { on := 3, ground := Ground.guard }], guard := some (3, false) }) rfl (fun K hK => ?_) AllReadyH.nil
            go_simp; (first | (go_at_call 151; refine (hri.out _).mono ?_; rintro e w7 ⟨rfl, rfl⟩) | (go_at_call 152; refine (hby.out _).mono ?_; rintro e w8 ⟨A8, c8, rfl, own8, b8⟩; have hcv := run_conv_rd (P := Try.prog) (w := w8) 26 9 5 X.length c8 rfl Try.underlying26 Try.underlying5 Try.underlying9 (Rd.own own8)) | skip); (try (go_wp2_with fail)); refine hK.out _ _ (by first | trivial | ((try dsimp only); trivial)) (fun hHeld => ?_)
            clear hK K
            try simp only [Act.put, List.setIfInBounds_toArray, List.set_cons_zero, List.set_cons_succ]
            refine wpAnyH_take (i := 10) (oi := { dst := some 64, op := Op.binOp BinOp.neq 9 (Operand.tmp 60) (Operand.tmp 63) 9, type := 4, pos := "ref.go:50", after := #[{ on := 6, ground := Ground.data }, { on := 9, ground := Ground.data }, { on := 3, ground := Ground.guard }], guard := some (3, false) }) (v := ?_) rfl (by kernel_rfl) (by kernel_rfl) (by kernel_rfl) (fun _ _ _ h => h) (Or.inl ⟨by rfl, ?_⟩) (by assumption) ?_; rotate_left; · ((intro w hSw; (try dsimp only at hSw); go_simp) <;> with_reducible rfl)
            try simp only [Act.put, List.setIfInBounds_toArray, List.set_cons_zero, List.set_cons_succ]
            refine wpAnyH_take (i := 11) (oi := { dst := some 65, op := Op.pick (Operand.tmp 57) (Operand.const (Value.bool true)) (Operand.tmp 64), type := 4, pos := "ref.go:50", after := #[{ on := 3, ground := Ground.data }, { on := 10, ground := Ground.data }], guard := none }) (v := ?_) rfl (by kernel_rfl) (by kernel_rfl) (by kernel_rfl) (fun _ _ _ h => h) (Or.inl ⟨by rfl, ?_⟩) (by assumption) ?_; rotate_left; · ((intro w hSw; (try dsimp only at hSw); go_simp) <;> with_reducible rfl)
            try simp only [Act.put, List.setIfInBounds_toArray, List.set_cons_zero, List.set_cons_succ]
            refine wpAnyH_done (by kernel_rfl) ?_ _
            go_wp2_with fail
            go_ret2
            exact ⟨rfl, undrewB b8⟩
          · rw [if_neg (fun h => hE h.2)] at hf2
            subst hf2
            have hex : S.extract 0 4 = ⟨(l.take 4).toArray⟩ := by rw [HS.out]; exact ex_take l 4
            have hbq : (X == (S.extract 0 4).toList) = false := by
              rw [hex, ba_list, beq_eq_false_iff_ne]
              exact hE
            clear Hf hex hE hR
            go_wp2_with fail
            refine wp_region_held_drew (S := (fun _ => True)) (by kernel_rfl) (by trivial) (fun hHeld => ?_)
            refine wpAnyH_take (i := 0) (oi := { dst := some 54, op := Op.move (Operand.tmp 6), type := 21, pos := "ref.go:50", after := #[], guard := none }) (v := ?_) rfl (by kernel_rfl) (by kernel_rfl) (by kernel_rfl) (fun _ _ _ h => h) (Or.inl ⟨by rfl, ?_⟩) (by assumption) ?_; rotate_left; · ((intro w hSw; (try dsimp only at hSw); go_simp) <;> with_reducible rfl)
            try simp only [Act.put, List.setIfInBounds_toArray, List.set_cons_zero, List.set_cons_succ]
            refine wpAnyH_ready (rs := [1]) (by kernel_rfl) (by simp) ?_
            refine AllReadyH.cons (o := { dst := some 55, op := Op.call { callee := Callee.value (Operand.func 151), args := #[Operand.tmp 54], argTypes := #[21] }, type := 4, pos := "ref.go:50", after := #[{ on := 0, ground := Ground.data }], guard := none }) rfl (fun K hK => ?_) AllReadyH.nil
            go_simp; (first | (go_at_call 151; refine (hri.out _).mono ?_; rintro e w7 ⟨rfl, rfl⟩) | (go_at_call 152; refine (hby.out _).mono ?_; rintro e w8 ⟨A8, c8, rfl, own8, b8⟩; have hcv := run_conv_rd (P := Try.prog) (w := w8) 26 9 5 X.length c8 rfl Try.underlying26 Try.underlying5 Try.underlying9 (Rd.own own8)) | skip); (try (go_wp2_with fail)); refine hK.out _ _ (by first | trivial | ((try dsimp only); trivial)) (fun hHeld => ?_)
            clear hK K
            try simp only [Act.put, List.setIfInBounds_toArray, List.set_cons_zero, List.set_cons_succ]
            refine wpAnyH_take (i := 2) (oi := { dst := some 56, op := Op.unOp UnOp.not 4 (Operand.tmp 55), type := 4, pos := "ref.go:50", after := #[{ on := 1, ground := Ground.data }], guard := none }) (v := ?_) rfl (by kernel_rfl) (by kernel_rfl) (by kernel_rfl) (fun _ _ _ h => h) (Or.inl ⟨by rfl, ?_⟩) (by assumption) ?_; rotate_left; · ((intro w hSw; (try dsimp only at hSw); go_simp) <;> with_reducible rfl)
            try simp only [Act.put, List.setIfInBounds_toArray, List.set_cons_zero, List.set_cons_succ]
            refine wpAnyH_take (i := 3) (oi := { dst := some 57, op := Op.move (Operand.tmp 56), type := 4, pos := "ref.go:50", after := #[{ on := 2, ground := Ground.data }, { on := 1, ground := Ground.chain }], guard := none }) (v := ?_) rfl (by kernel_rfl) (by kernel_rfl) (by kernel_rfl) (fun _ _ _ h => h) (Or.inl ⟨by rfl, ?_⟩) (by assumption) ?_; rotate_left; · ((intro w hSw; (try dsimp only at hSw); go_simp) <;> with_reducible rfl)
            try simp only [Act.put, List.setIfInBounds_toArray, List.set_cons_zero, List.set_cons_succ]
            refine wpAnyH_take (i := 4) (oi := { dst := some 58, op := Op.move (Operand.tmp 6), type := 21, pos := "ref.go:50", after := #[{ on := 3, ground := Ground.guard }], guard := some (3, false) }) (v := ?_) rfl (by kernel_rfl) (by kernel_rfl) (by kernel_rfl) (fun _ _ _ h => h) (Or.inl ⟨by rfl, ?_⟩) (by assumption) ?_; rotate_left; · ((intro w hSw; (try dsimp only at hSw); go_simp) <;> with_reducible rfl)
            try simp only [Act.put, List.setIfInBounds_toArray, List.set_cons_zero, List.set_cons_succ]
            refine wpAnyH_take (i := 7) (oi := { dst := some 61, op := Op.move (Operand.tmp 0), type := 9, pos := "ref.go:50", after := #[{ on := 3, ground := Ground.guard }], guard := some (3, false) }) (v := ?_) rfl (by kernel_rfl) (by kernel_rfl) (by kernel_rfl) (fun _ _ _ h => h) (Or.inl ⟨by rfl, ?_⟩) (by assumption) ?_; rotate_left; · ((intro w hSw; (try dsimp only at hSw); go_simp) <;> with_reducible rfl)
            try simp only [Act.put, List.setIfInBounds_toArray, List.set_cons_zero, List.set_cons_succ]
            refine wpAnyH_take (i := 8) (oi := { dst := some 62, op := Op.move (Operand.tmp 5), type := 3, pos := "ref.go:50", after := #[{ on := 3, ground := Ground.guard }], guard := some (3, false) }) (v := ?_) rfl (by kernel_rfl) (by kernel_rfl) (by kernel_rfl) (fun _ _ _ h => h) (Or.inl ⟨by rfl, ?_⟩) (by assumption) ?_; rotate_left; · ((intro w hSw; (try dsimp only at hSw); go_simp) <;> with_reducible rfl)
            try simp only [Act.put, List.setIfInBounds_toArray, List.set_cons_zero, List.set_cons_succ]
            refine wpAnyH_take (i := 9) (oi := { dst := some 63, op := Op.slice 9 (Operand.tmp 61) none (some (Operand.tmp 62)) none, type := 9, pos := "ref.go:50", after := #[{ on := 7, ground := Ground.data }, { on := 8, ground := Ground.data }, { on := 3, ground := Ground.guard }], guard := some (3, false) }) (v := ?_) rfl (by kernel_rfl) (by kernel_rfl) (by kernel_rfl) (fun _ _ _ h => h) (Or.inl ⟨by rfl, ?_⟩) (by assumption) ?_; rotate_left; · ((intro w hSw; (try dsimp only at hSw); go_simp) <;> with_reducible rfl)
            try simp only [Act.put, List.setIfInBounds_toArray, List.set_cons_zero, List.set_cons_succ]
            refine wpAnyH_ready (rs := [5]) (by kernel_rfl) (by simp) ?_
            refine AllReadyH.cons (o := { dst := some 59, op := Op.call { callee := Callee.value (Operand.func 152), args := #[Operand.tmp 58], argTypes := #[21] }, type := 26, pos := "ref.go:50", after := #[{ on := 4, ground := Ground.data }, { on := 3, ground := Ground.chain }, { on := 3, ground := Ground.guard }], guard := some (3, false) }) rfl (fun K hK => ?_) AllReadyH.nil
            go_simp; (first | (go_at_call 151; refine (hri.out _).mono ?_; rintro e w7 ⟨rfl, rfl⟩) | (go_at_call 152; refine (hby.out _).mono ?_; rintro e w8 ⟨A8, c8, rfl, own8, b8⟩; have hcv := run_conv_rd (P := Try.prog) (w := w8) 26 9 5 X.length c8 rfl Try.underlying26 Try.underlying5 Try.underlying9 (Rd.own own8)) | skip); (try (go_wp2_with fail)); refine hK.out _ _ (by first | trivial | ((try dsimp only); trivial)) (fun hHeld => ?_)
            clear hK K
            try simp only [Act.put, List.setIfInBounds_toArray, List.set_cons_zero, List.set_cons_succ]
            refine wpAnyH_ready (rs := [6]) (by kernel_rfl) (by simp) ?_
            refine AllReadyH.cons (o := { dst := some 60, op := Op.convert 26 9 (Operand.tmp 59), type := 9, pos := "ref.go:50", after := #[{ on := 5, ground := Ground.data }, { on := 3, ground := Ground.guard }], guard := some (3, false) }) rfl (fun K hK => ?_) AllReadyH.nil
            go_simp; (first | (go_at_call 151; refine (hri.out _).mono ?_; rintro e w7 ⟨rfl, rfl⟩) | (go_at_call 152; refine (hby.out _).mono ?_; rintro e w8 ⟨A8, c8, rfl, own8, b8⟩; have hcv := run_conv_rd (P := Try.prog) (w := w8) 26 9 5 X.length c8 rfl Try.underlying26 Try.underlying5 Try.underlying9 (Rd.own own8)) | skip); (try (go_wp2_with fail)); refine hK.out _ _ (by first | trivial | ((try dsimp only); trivial)) (fun hHeld => ?_)
            clear hK K
            try simp only [Act.put, List.setIfInBounds_toArray, List.set_cons_zero, List.set_cons_succ]
            refine wpAnyH_take (i := 10) (oi := { dst := some 64, op := Op.binOp BinOp.neq 9 (Operand.tmp 60) (Operand.tmp 63) 9, type := 4, pos := "ref.go:50", after := #[{ on := 6, ground := Ground.data }, { on := 9, ground := Ground.data }, { on := 3, ground := Ground.guard }], guard := some (3, false) }) (v := ?_) rfl (by kernel_rfl) (by kernel_rfl) (by kernel_rfl) (fun _ _ _ h => h) (Or.inl ⟨by rfl, ?_⟩) (by assumption) ?_; rotate_left; · ((intro w hSw; (try dsimp only at hSw); go_simp) <;> with_reducible rfl)
            try simp only [Act.put, List.setIfInBounds_toArray, List.set_cons_zero, List.set_cons_succ]
            refine wpAnyH_take (i := 11) (oi := { dst := some 65, op := Op.pick (Operand.tmp 57) (Operand.const (Value.bool true)) (Operand.tmp 64), type := 4, pos := "ref.go:50", after := #[{ on := 3, ground := Ground.data }, { on := 10, ground := Ground.data }], guard := none }) (v := ?_) rfl (by kernel_rfl) (by kernel_rfl) (by kernel_rfl) (fun _ _ _ h => h) (Or.inl ⟨by rfl, ?_⟩) (by assumption) ?_; rotate_left; · ((intro w hSw; (try dsimp only at hSw); go_simp) <;> with_reducible rfl)
            try simp only [Act.put, List.setIfInBounds_toArray, List.set_cons_zero, List.set_cons_succ]
            refine wpAnyH_done (by kernel_rfl) ?_ _
            go_wp2_with fail
            go_ret2
            exact ⟨rfl, undrewB b8⟩
        · rw [if_neg (fun h => hR h.1)] at hf2
          subst hf2
          have hR' : right V = false := by simpa using hR
          rw [hR'] at hri
          clear Hf
          go_wp2_with fail
          refine wp_region_held_drew (S := (fun _ => True)) (by kernel_rfl) (by trivial) (fun hHeld => ?_)
          refine wpAnyH_take (i := 0) (oi := { dst := some 54, op := Op.move (Operand.tmp 6), type := 21, pos := "ref.go:50", after := #[], guard := none }) (v := ?_) rfl (by kernel_rfl) (by kernel_rfl) (by kernel_rfl) (fun _ _ _ h => h) (Or.inl ⟨by rfl, ?_⟩) (by assumption) ?_; rotate_left; · ((intro w hSw; (try dsimp only at hSw); go_simp) <;> with_reducible rfl)
          try simp only [Act.put, List.setIfInBounds_toArray, List.set_cons_zero, List.set_cons_succ]
          refine wpAnyH_ready (rs := [1]) (by kernel_rfl) (by simp) ?_
          refine AllReadyH.cons (o := { dst := some 55, op := Op.call { callee := Callee.value (Operand.func 151), args := #[Operand.tmp 54], argTypes := #[21] }, type := 4, pos := "ref.go:50", after := #[{ on := 0, ground := Ground.data }], guard := none }) rfl (fun K hK => ?_) AllReadyH.nil
          go_simp; (first | (go_at_call 151; refine (hri.out _).mono ?_; rintro e w7 ⟨rfl, rfl⟩) | skip); (try (go_wp2_with fail)); refine hK.out _ _ (by first | trivial | ((try dsimp only); trivial)) (fun hHeld => ?_)
          clear hK K
          try simp only [Act.put, List.setIfInBounds_toArray, List.set_cons_zero, List.set_cons_succ]
          refine wpAnyH_take (i := 2) (oi := { dst := some 56, op := Op.unOp UnOp.not 4 (Operand.tmp 55), type := 4, pos := "ref.go:50", after := #[{ on := 1, ground := Ground.data }], guard := none }) (v := ?_) rfl (by kernel_rfl) (by kernel_rfl) (by kernel_rfl) (fun _ _ _ h => h) (Or.inl ⟨by rfl, ?_⟩) (by assumption) ?_; rotate_left; · ((intro w hSw; (try dsimp only at hSw); go_simp) <;> with_reducible rfl)
          try simp only [Act.put, List.setIfInBounds_toArray, List.set_cons_zero, List.set_cons_succ]
          refine wpAnyH_take (i := 3) (oi := { dst := some 57, op := Op.move (Operand.tmp 56), type := 4, pos := "ref.go:50", after := #[{ on := 2, ground := Ground.data }, { on := 1, ground := Ground.chain }], guard := none }) (v := ?_) rfl (by kernel_rfl) (by kernel_rfl) (by kernel_rfl) (fun _ _ _ h => h) (Or.inl ⟨by rfl, ?_⟩) (by assumption) ?_; rotate_left; · ((intro w hSw; (try dsimp only at hSw); go_simp) <;> with_reducible rfl)
          try simp only [Act.put, List.setIfInBounds_toArray, List.set_cons_zero, List.set_cons_succ]
          refine wpAnyH_take (i := 4) (oi := { dst := some 58, op := Op.move (Operand.tmp 6), type := 21, pos := "ref.go:50", after := #[{ on := 3, ground := Ground.guard }], guard := some (3, false) }) (v := undef) rfl (by kernel_rfl) (by kernel_rfl) (by kernel_rfl) (fun _ _ _ h => h) (Or.inr ⟨by rfl, rfl⟩) (by assumption) ?_
          try simp only [Act.put, List.setIfInBounds_toArray, List.set_cons_zero, List.set_cons_succ]
          refine wpAnyH_take (i := 7) (oi := { dst := some 61, op := Op.move (Operand.tmp 0), type := 9, pos := "ref.go:50", after := #[{ on := 3, ground := Ground.guard }], guard := some (3, false) }) (v := undef) rfl (by kernel_rfl) (by kernel_rfl) (by kernel_rfl) (fun _ _ _ h => h) (Or.inr ⟨by rfl, rfl⟩) (by assumption) ?_
          try simp only [Act.put, List.setIfInBounds_toArray, List.set_cons_zero, List.set_cons_succ]
          refine wpAnyH_take (i := 8) (oi := { dst := some 62, op := Op.move (Operand.tmp 5), type := 3, pos := "ref.go:50", after := #[{ on := 3, ground := Ground.guard }], guard := some (3, false) }) (v := undef) rfl (by kernel_rfl) (by kernel_rfl) (by kernel_rfl) (fun _ _ _ h => h) (Or.inr ⟨by rfl, rfl⟩) (by assumption) ?_
          try simp only [Act.put, List.setIfInBounds_toArray, List.set_cons_zero, List.set_cons_succ]
          refine wpAnyH_take (i := 9) (oi := { dst := some 63, op := Op.slice 9 (Operand.tmp 61) none (some (Operand.tmp 62)) none, type := 9, pos := "ref.go:50", after := #[{ on := 7, ground := Ground.data }, { on := 8, ground := Ground.data }, { on := 3, ground := Ground.guard }], guard := some (3, false) }) (v := undef) rfl (by kernel_rfl) (by kernel_rfl) (by kernel_rfl) (fun _ _ _ h => h) (Or.inr ⟨by rfl, rfl⟩) (by assumption) ?_
          try simp only [Act.put, List.setIfInBounds_toArray, List.set_cons_zero, List.set_cons_succ]
          refine wpAnyH_ready (rs := [5]) (by kernel_rfl) (by simp) ?_
          refine AllReadyH.cons (o := { dst := some 59, op := Op.call { callee := Callee.value (Operand.func 152), args := #[Operand.tmp 58], argTypes := #[21] }, type := 26, pos := "ref.go:50", after := #[{ on := 4, ground := Ground.data }, { on := 3, ground := Ground.chain }, { on := 3, ground := Ground.guard }], guard := some (3, false) }) rfl (fun K hK => ?_) AllReadyH.nil
          rw [if_neg]; rotate_left; · exact fun h => Bool.noConfusion (show false = true from h)
          refine hK.out _ _ hHeld (fun hHeld => ?_)
          clear hK K
          try simp only [Act.put, List.setIfInBounds_toArray, List.set_cons_zero, List.set_cons_succ]
          refine wpAnyH_ready (rs := [6]) (by kernel_rfl) (by simp) ?_
          refine AllReadyH.cons (o := { dst := some 60, op := Op.convert 26 9 (Operand.tmp 59), type := 9, pos := "ref.go:50", after := #[{ on := 5, ground := Ground.data }, { on := 3, ground := Ground.guard }], guard := some (3, false) }) rfl (fun K hK => ?_) AllReadyH.nil
          rw [if_neg]; rotate_left; · exact fun h => Bool.noConfusion (show false = true from h)
          refine hK.out _ _ hHeld (fun hHeld => ?_)
          clear hK K
          try simp only [Act.put, List.setIfInBounds_toArray, List.set_cons_zero, List.set_cons_succ]
          refine wpAnyH_take (i := 10) (oi := { dst := some 64, op := Op.binOp BinOp.neq 9 (Operand.tmp 60) (Operand.tmp 63) 9, type := 4, pos := "ref.go:50", after := #[{ on := 6, ground := Ground.data }, { on := 9, ground := Ground.data }, { on := 3, ground := Ground.guard }], guard := some (3, false) }) (v := undef) rfl (by kernel_rfl) (by kernel_rfl) (by kernel_rfl) (fun _ _ _ h => h) (Or.inr ⟨by rfl, rfl⟩) (by assumption) ?_
          try simp only [Act.put, List.setIfInBounds_toArray, List.set_cons_zero, List.set_cons_succ]
          refine wpAnyH_take (i := 11) (oi := { dst := some 65, op := Op.pick (Operand.tmp 57) (Operand.const (Value.bool true)) (Operand.tmp 64), type := 4, pos := "ref.go:50", after := #[{ on := 3, ground := Ground.data }, { on := 10, ground := Ground.data }], guard := none }) (v := ?_) rfl (by kernel_rfl) (by kernel_rfl) (by kernel_rfl) (fun _ _ _ h => h) (Or.inl ⟨by rfl, ?_⟩) (by assumption) ?_; rotate_left; · ((intro w hSw; (try dsimp only at hSw); go_simp) <;> with_reducible rfl)
          try simp only [Act.put, List.setIfInBounds_toArray, List.set_cons_zero, List.set_cons_succ]
          refine wpAnyH_done (by kernel_rfl) ?_ _
          go_wp2_with fail
          go_ret2
          exact ⟨rfl, (Below.refl _ _).drew⟩
end Go.Proofs.Ytdkcdojcglmlbaa.Utf
