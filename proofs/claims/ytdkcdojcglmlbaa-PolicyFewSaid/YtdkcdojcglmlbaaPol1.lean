/- Headers and policies: may they be, the oldest epoch that is kept; both sides. -/
import Derived.Test.YtdkcdojcglmlbaaPart
import Derived.Test.YtdkcdojcglmlbaaWire
namespace Go.Proofs.Ytdkcdojcglmlbaa.Pol
open Go.RowKit
open Go.Proofs.Ytdkcdojcglmlbaa.Utf
set_option linter.unusedVariables false
set_option maxRecDepth 100000
abbrev hdr (e o s : Int) (t : List UInt8) : Value := .agg #[.int .i64 e, .int .i64 o, .int .i64 s, .string ⟨t.toArray⟩]
def rightH (e o s : Int) (t : List UInt8) : Bool := decide (0 ≤ o ∧ o ≤ e ∧ e ≤ 1073741824 ∧ 1 ≤ s ∧ s ≤ 4 ∧ (t = [] ∨ Utf.part t = true))
def rightP (k d : Int) : Bool := decide (1 ≤ k ∧ k ≤ 3 ∧ 1 ≤ d ∧ d ≤ 8)
def oldest (k d e : Int) : Int := if rightP k d = true ∧ k ≤ e then e - k + 1 else 0
theorem cells2 {w w1 : World} {v0 v1 : Value} {t : TypeId} (b : Below (w.alloc (.cells #[v0, v1] t)).heap.size (w.alloc (.cells #[v0, v1] t)) w1) : w1.cell? ⟨w.heap.size, 0, none⟩ = some v0 ∧ w1.cell? ⟨w.heap.size, 1, none⟩ = some v1 := by
  have h : w1.heap[w.heap.size]? = some (.cells #[v0, v1] t) := (b.block _ (by simp)).trans (heap_alloc_new w _)
  exact ⟨by simp [World.cell?, h], by simp [World.cell?, h]⟩
theorem b1 (w : World) (o : Obj) : Below w.heap.size w (w.alloc o) := b1alloc w o
theorem within_any (n a b : Int) (w : World) : Calls Try.prog 144 #[.int .i64 n, .int .i64 a, .int .i64 b] w fun e w' => e = .returned (.bool (decide (a ≤ n ∧ n ≤ b))) ∧ w = w' := by
  rcases (show n < a ∨ (a ≤ n ∧ b < n) ∨ (a ≤ n ∧ n ≤ b) by omega) with h1 | ⟨h1, h2⟩ | ⟨h1, h2⟩
  all_goals
    first | (have he := Lib.hid (show decide (a ≤ n ∧ n ≤ b) = true from decide_eq_true (by omega))) | (have he := Lib.hid (show decide (a ≤ n ∧ n ≤ b) = false from decide_eq_false (by omega)))
    obtain ⟨R, hR⟩ : ∃ R, R = decide (a ≤ n ∧ n ≤ b) := ⟨_, rfl⟩
    rw [← hR] at he ⊢
    clear hR
    go_enter Try.func144, Try.ntmps144
    go_wp2
    go_ret
    exact ⟨bool_ret (he.out.trans (by first | rfl | (simp <;> omega))), rfl⟩
set_option maxHeartbeats 1000000 in
theorem hright_any (e o s : Int) (t : List UInt8) (w : World) (ht : t.length ≤ 1000000) : Calls Try.prog 138 #[hdr e o s t] w fun E w' => E = .returned (.bool (rightH e o s t)) ∧ Below w.heap.size w w' := by
  obtain ⟨R, hR⟩ : ∃ R, R = rightH e o s t := ⟨_, rfl⟩
  rw [← hR]
  have hno : ¬ (0 ≤ o ∧ o ≤ e ∧ e ≤ 1073741824 ∧ 1 ≤ s ∧ s ≤ 4) → R = false := fun h => by rw [hR]; exact decide_eq_false (fun g => h ⟨g.1, g.2.1, g.2.2.1, g.2.2.2.1, g.2.2.2.2.1⟩)
  have hyes : 0 ≤ o ∧ o ≤ e ∧ e ≤ 1073741824 ∧ 1 ≤ s ∧ s ≤ 4 → t = [] → R = true := fun h g => by rw [hR]; exact decide_eq_true ⟨h.1, h.2.1, h.2.2.1, h.2.2.2.1, h.2.2.2.2, .inl g⟩
  have hpart : 0 ≤ o ∧ o ≤ e ∧ e ≤ 1073741824 ∧ 1 ≤ s ∧ s ≤ 4 → t ≠ [] → R = Utf.part t := fun h g => by
    rw [hR]; unfold rightH
    cases hp : Utf.part t with
    | true => exact decide_eq_true ⟨h.1, h.2.1, h.2.2.1, h.2.2.2.1, h.2.2.2.2, .inr rfl⟩
    | false => exact decide_eq_false (fun k => k.2.2.2.2.2.elim g (fun x => Bool.noConfusion x))
  clear hR
  have HNo := Lib.hid hno
  have HYes := Lib.hid hyes
  have HPart := Lib.hid hpart
  clear hno hyes hpart
  have hW1 := fun w => within_any o 0 e w
  have hW2 := fun w => within_any s 1 4 w
  have hP := Lib.hid (fun w => part_any t w ht)
  unfold hdr
  by_cases c1 : 0 ≤ o ∧ o ≤ e
  case neg =>
    rw [decide_eq_false c1] at hW1
    have he := Lib.hid (HNo.out (by omega))
    have HW1 := Lib.hid hW1
    have HW2 := Lib.hid hW2
    clear hW1 hW2 HNo HYes HPart
    go_enter Try.func138, Try.ntmps138
    go_wp2_with (first | (go_at_call 144; first | (with_reducible refine (HW1.out _).mono ?_; rintro e1 w1 ⟨rfl, rfl⟩) | (with_reducible refine (HW2.out _).mono ?_; rintro e2 w2 ⟨rfl, rfl⟩)) | (go_at_call 145; refine (hP.out _).mono ?_; rintro e3 w3 ⟨rfl, b3⟩))
    go_ret
    exact ⟨bool_ret he.out, b1 _ _⟩
  rw [decide_eq_true c1] at hW1
  by_cases c2 : e ≤ 1073741824
  case neg =>
    have he := Lib.hid (HNo.out (by omega))
    have HW1 := Lib.hid hW1
    have HW2 := Lib.hid hW2
    clear hW1 hW2 HNo HYes HPart
    go_enter Try.func138, Try.ntmps138
    go_wp2_with (first | (go_at_call 144; first | (with_reducible refine (HW1.out _).mono ?_; rintro e1 w1 ⟨rfl, rfl⟩) | (with_reducible refine (HW2.out _).mono ?_; rintro e2 w2 ⟨rfl, rfl⟩)) | (go_at_call 145; refine (hP.out _).mono ?_; rintro e3 w3 ⟨rfl, b3⟩))
    go_ret
    exact ⟨bool_ret he.out, b1 _ _⟩
  by_cases c3 : 1 ≤ s ∧ s ≤ 4
  case neg =>
    rw [decide_eq_false c3] at hW2
    have he := Lib.hid (HNo.out (by omega))
    have HW1 := Lib.hid hW1
    have HW2 := Lib.hid hW2
    clear hW1 hW2 HNo HYes HPart
    go_enter Try.func138, Try.ntmps138
    go_wp2_with (first | (go_at_call 144; first | (with_reducible refine (HW1.out _).mono ?_; rintro e1 w1 ⟨rfl, rfl⟩) | (with_reducible refine (HW2.out _).mono ?_; rintro e2 w2 ⟨rfl, rfl⟩)) | (go_at_call 145; refine (hP.out _).mono ?_; rintro e3 w3 ⟨rfl, b3⟩))
    go_ret
    exact ⟨bool_ret he.out, b1 _ _⟩
  rw [decide_eq_true c3] at hW2
  by_cases c4 : t = []
  case pos =>
    have he0 := HYes.out (by omega) c4
    subst c4
    have he := Lib.hid (he0)
    have HW1 := Lib.hid hW1
    have HW2 := Lib.hid hW2
    clear hW1 hW2 HNo HYes HPart
    go_enter Try.func138, Try.ntmps138
    go_wp2_with (first | (go_at_call 144; first | (with_reducible refine (HW1.out _).mono ?_; rintro e1 w1 ⟨rfl, rfl⟩) | (with_reducible refine (HW2.out _).mono ?_; rintro e2 w2 ⟨rfl, rfl⟩)) | (go_at_call 145; refine (hP.out _).mono ?_; rintro e3 w3 ⟨rfl, b3⟩))
    go_ret
    exact ⟨bool_ret he.out, b1 _ _⟩
  have c5 : (t == ([] : List UInt8)) = false := beq_eq_false_iff_ne.2 c4
  have he0 := HPart.out (by omega) c4
  clear c4
  have he := Lib.hid (he0)
  have HW1 := Lib.hid hW1
  have HW2 := Lib.hid hW2
  clear hW1 hW2 HNo HYes HPart
  go_enter Try.func138, Try.ntmps138
  go_wp2_with (first | (go_at_call 144; first | (with_reducible refine (HW1.out _).mono ?_; rintro e1 w1 ⟨rfl, rfl⟩) | (with_reducible refine (HW2.out _).mono ?_; rintro e2 w2 ⟨rfl, rfl⟩)) | (go_at_call 145; refine (hP.out _).mono ?_; rintro e3 w3 ⟨rfl, b3⟩))
  go_ret
  exact ⟨bool_ret he.out, bt (b1 _ _) b3⟩
set_option maxHeartbeats 1000000 in
theorem rhright_any (e o s : Int) (t : List UInt8) (w : World) (ht : t.length ≤ 1000000) : Calls Try.prog 83 #[hdr e o s t] w fun E w' => E = .returned (.bool (rightH e o s t)) ∧ Below w.heap.size w w' := by
  obtain ⟨R, hR⟩ : ∃ R, R = rightH e o s t := ⟨_, rfl⟩
  rw [← hR]
  have hno : ¬ (0 ≤ o ∧ o ≤ e ∧ e ≤ 1073741824 ∧ 1 ≤ s ∧ s ≤ 4) → R = false := fun h => by rw [hR]; exact decide_eq_false (fun g => h ⟨g.1, g.2.1, g.2.2.1, g.2.2.2.1, g.2.2.2.2.1⟩)
  have hyes : 0 ≤ o ∧ o ≤ e ∧ e ≤ 1073741824 ∧ 1 ≤ s ∧ s ≤ 4 → t = [] → R = true := fun h g => by rw [hR]; exact decide_eq_true ⟨h.1, h.2.1, h.2.2.1, h.2.2.2.1, h.2.2.2.2, .inl g⟩
  have hpart : 0 ≤ o ∧ o ≤ e ∧ e ≤ 1073741824 ∧ 1 ≤ s ∧ s ≤ 4 → t ≠ [] → R = Utf.part t := fun h g => by
    rw [hR]; unfold rightH
    cases hp : Utf.part t with
    | true => exact decide_eq_true ⟨h.1, h.2.1, h.2.2.1, h.2.2.2.1, h.2.2.2.2, .inr rfl⟩
    | false => exact decide_eq_false (fun k => k.2.2.2.2.2.elim g (fun x => Bool.noConfusion x))
  clear hR
  have HNo := Lib.hid hno
  have HYes := Lib.hid hyes
  have HPart := Lib.hid hpart
  clear hno hyes hpart
  have hP := Lib.hid (fun w => rpart_any t w ht)
  unfold hdr
  rcases (show o < 0 ∨ (0 ≤ o ∧ e < o) ∨ (0 ≤ o ∧ o ≤ e ∧ 1073741824 < e) ∨ (0 ≤ o ∧ o ≤ e ∧ e ≤ 1073741824 ∧ s < 1) ∨ (0 ≤ o ∧ o ≤ e ∧ e ≤ 1073741824 ∧ 1 ≤ s ∧ 4 < s) ∨ (0 ≤ o ∧ o ≤ e ∧ e ≤ 1073741824 ∧ 1 ≤ s ∧ s ≤ 4) by omega) with c1 | ⟨c1, c2⟩ | ⟨c1, c2, c3⟩ | ⟨c1, c2, c3, c4⟩ | ⟨c1, c2, c3, c4, c5⟩ | ⟨c1, c2, c3, c4, c5⟩
  case inr.inr.inr.inr.inr =>
    by_cases c6 : t = []
    · have he := Lib.hid (HYes.out (by omega) c6)
      subst c6
      clear HNo HYes HPart
      go_enter Try.func83, Try.ntmps83
      go_wp2
      go_ret
      exact ⟨bool_ret he.out, b1 _ _⟩
    · have he := Lib.hid (HPart.out (by omega) c6)
      have c7 : (t == ([] : List UInt8)) = false := beq_eq_false_iff_ne.2 c6
      clear HNo HYes HPart c6
      go_enter Try.func83, Try.ntmps83
      go_wp2_with (go_at_call 124; refine (hP.out _).mono ?_; rintro e3 w3 ⟨rfl, b3⟩)
      go_ret
      exact ⟨bool_ret he.out, bt (b1 _ _) b3⟩
  all_goals
    have he := Lib.hid (HNo.out (by omega))
    clear HNo HYes HPart
    go_enter Try.func83, Try.ntmps83
    go_wp2
    go_ret
    exact ⟨bool_ret (he.out.trans (by first | rfl | (simp <;> omega))), b1 _ _⟩
theorem pin_any (n m : Int) (w : World) : Calls Try.prog 122 #[.int .i64 n, .int .i64 m] w fun E w' => E = .returned (.bool (decide (1 ≤ n ∧ n ≤ m))) ∧ w = w' := by
  obtain ⟨R, hR⟩ : ∃ R, R = decide (1 ≤ n ∧ n ≤ m) := ⟨_, rfl⟩
  rw [← hR]
  rcases (show n < 1 ∨ (1 ≤ n ∧ m < n) ∨ (1 ≤ n ∧ n ≤ m) by omega) with h1 | ⟨h1, h2⟩ | ⟨h1, h2⟩
  all_goals
    first | (have he := Lib.hid (hR.trans (decide_eq_true (by omega)))) | (have he := Lib.hid (hR.trans (decide_eq_false (by omega))))
    clear hR
    go_enter Try.func122, Try.ntmps122
    go_wp2
    go_ret
    exact ⟨bool_ret (he.out.trans (by first | rfl | (simp <;> omega))), rfl⟩
theorem rpright_any (k d : Int) (w : World) : Calls Try.prog 54 #[.agg #[.int .i64 k, .int .i64 d]] w fun E w' => E = .returned (.bool (rightP k d)) ∧ Below w.heap.size w w' := by
  obtain ⟨R, hR⟩ : ∃ R, R = rightP k d := ⟨_, rfl⟩
  rw [← hR]
  rcases (show k < 1 ∨ (1 ≤ k ∧ 3 < k) ∨ (1 ≤ k ∧ k ≤ 3 ∧ d < 1) ∨ (1 ≤ k ∧ k ≤ 3 ∧ 1 ≤ d ∧ 8 < d) ∨ (1 ≤ k ∧ k ≤ 3 ∧ 1 ≤ d ∧ d ≤ 8) by omega) with c1 | ⟨c1, c2⟩ | ⟨c1, c2, c3⟩ | ⟨c1, c2, c3, c4⟩ | ⟨c1, c2, c3, c4⟩
  all_goals
    first | (have he := Lib.hid (hR.trans (decide_eq_true (by omega)))) | (have he := Lib.hid (hR.trans (decide_eq_false (by omega))))
    clear hR
    go_enter Try.func54, Try.ntmps54
    go_wp2
    go_ret
    exact ⟨bool_ret (he.out.trans (by first | rfl | (simp <;> omega))), b1 _ _⟩
theorem pright_any (k d : Int) (w : World) : Calls Try.prog 81 #[.agg #[.int .i64 k, .int .i64 d]] w fun E w' => E = .returned (.bool (rightP k d)) ∧ Below w.heap.size w w' := by
  obtain ⟨R, hR⟩ : ∃ R, R = rightP k d := ⟨_, rfl⟩
  rw [← hR]
  have hval : ∀ w, Sem.run Try.prog (callFunc 122 #[]) w = .ok (.enter 122 #[]) w := by intro w; simp [go_sem]
  have h1 := fun w => pin_any k 3 w
  have h2 := fun w => pin_any d 8 w
  by_cases c1 : 1 ≤ k ∧ k ≤ 3
  · rw [decide_eq_true c1] at h1
    have he := Lib.hid (show R = decide (1 ≤ d ∧ d ≤ 8) from hR.trans (decide_eq_decide.2 (by omega)))
    have H1 := Lib.hid h1
    have H2 := Lib.hid h2
    clear h1 h2 hR
    go_enter Try.func81, Try.ntmps81
    go_wp2_with (go_at_call 122; first | ((with_reducible refine (H1.out _).mono ?_); rintro e1 w1 ⟨rfl, rfl⟩) | ((with_reducible refine (H2.out _).mono ?_); rintro e2 w2 ⟨rfl, rfl⟩))
    go_ret
    exact ⟨bool_ret (he.out.trans (by first | rfl | simp)), b1 _ _⟩
  · rw [decide_eq_false c1] at h1
    have he := Lib.hid (show R = false from hR.trans (decide_eq_false (by omega)))
    have H1 := Lib.hid h1
    have H2 := Lib.hid h2
    clear h1 h2 hR
    go_enter Try.func81, Try.ntmps81
    go_wp2_with (go_at_call 122; first | ((with_reducible refine (H1.out _).mono ?_); rintro e1 w1 ⟨rfl, rfl⟩) | ((with_reducible refine (H2.out _).mono ?_); rintro e2 w2 ⟨rfl, rfl⟩))
    go_ret
    exact ⟨bool_ret he.out, b1 _ _⟩
theorem poldest_any (k d e : Int) (w : World) (he0 : -9223372036854775808 ≤ e) (he1 : e ≤ 9223372036854775807) : Calls Try.prog 80 #[.agg #[.int .i64 k, .int .i64 d], .int .i64 e] w fun E w' => E = .returned (.int .i64 (oldest k d e)) ∧ Below w.heap.size w w' := by
  have hr := fun w => pright_any k d w
  obtain ⟨R, hR⟩ : ∃ R, R = oldest k d e := ⟨_, rfl⟩
  rw [← hR]
  cases hp : rightP k d with
  | false =>
    rw [hp] at hr
    have HR := Lib.hid hr
    have hE := Lib.hid (show R = 0 from hR.trans (if_neg (fun h => by rw [hp] at h; exact Bool.noConfusion h.1)))
    clear hr hR hp
    go_enter Try.func80, Try.ntmps80
    go_wp2_with (go_at_call 81; refine (HR.out _).mono ?_; rintro e1 w1 ⟨rfl, b2⟩)
    go_ret
    exact ⟨ret_int hE.out.symm, bt (b1 _ _) b2⟩
  | true =>
    rw [hp] at hr
    have HR := Lib.hid hr
    have hk := of_decide_eq_true hp
    by_cases c : k ≤ e
    · have hE := Lib.hid (show R = e - k + 1 from hR.trans (if_pos ⟨hp, c⟩))
      have c' : ¬ e < k := by omega
      have hw1 : wrap64 (e - k) = e - k := by unfold wrap64; omega
      have hw2 : wrap64 (e - k + 1) = e - k + 1 := by unfold wrap64; omega
      clear hr hR hp
      go_enter Try.func80, Try.ntmps80
      go_wp2_with (go_at_call 81; refine (HR.out _).mono ?_; rintro e1 w1 ⟨rfl, b2⟩; obtain ⟨q0, q1⟩ := cells2 b2)
      go_ret
      exact ⟨ret_int hE.out.symm, bt (b1 _ _) b2⟩
    · have hE := Lib.hid (show R = 0 from hR.trans (if_neg (fun h => c h.2)))
      have c' : e < k := by omega
      clear hr hR hp
      go_enter Try.func80, Try.ntmps80
      go_wp2_with (go_at_call 81; refine (HR.out _).mono ?_; rintro e1 w1 ⟨rfl, b2⟩; obtain ⟨q0, q1⟩ := cells2 b2)
      go_ret
      exact ⟨ret_int hE.out.symm, bt (b1 _ _) b2⟩
theorem roldest_any (k d e : Int) (w : World) (he0 : -9223372036854775808 ≤ e) (he1 : e ≤ 9223372036854775807) : Calls Try.prog 84 #[.agg #[.int .i64 k, .int .i64 d], .int .i64 e] w fun E w' => E = .returned (.int .i64 (oldest k d e)) ∧ Below w.heap.size w w' := by
  have hr := fun w => rpright_any k d w
  obtain ⟨R, hR⟩ : ∃ R, R = oldest k d e := ⟨_, rfl⟩
  rw [← hR]
  cases hp : rightP k d with
  | false =>
    rw [hp] at hr
    have HR := Lib.hid hr
    have hE := Lib.hid (show R = 0 from hR.trans (if_neg (fun h => by rw [hp] at h; exact Bool.noConfusion h.1)))
    clear hr hR hp
    go_enter Try.func84, Try.ntmps84
    go_wp2_with (go_at_call 54; refine (HR.out _).mono ?_; rintro e1 w1 ⟨rfl, b2⟩)
    go_ret
    exact ⟨ret_int hE.out.symm, bt (b1 _ _) b2⟩
  | true =>
    rw [hp] at hr
    have HR := Lib.hid hr
    have hk := of_decide_eq_true hp
    by_cases c : k ≤ e
    · have hE := Lib.hid (show R = e - k + 1 from hR.trans (if_pos ⟨hp, c⟩))
      have c' : ¬ e < k := by omega
      have hw1 : wrap64 (e - k) = e - k := by unfold wrap64; omega
      have hw2 : wrap64 (e - k + 1) = e - k + 1 := by unfold wrap64; omega
      clear hr hR hp
      go_enter Try.func84, Try.ntmps84
      go_wp2_with (go_at_call 54; refine (HR.out _).mono ?_; rintro e1 w1 ⟨rfl, b2⟩; obtain ⟨q0, q1⟩ := cells2 b2)
      go_ret
      exact ⟨ret_int hE.out.symm, bt (b1 _ _) b2⟩
    · have hE := Lib.hid (show R = 0 from hR.trans (if_neg (fun h => c h.2)))
      have c' : e < k := by omega
      clear hr hR hp
      go_enter Try.func84, Try.ntmps84
      go_wp2_with (go_at_call 54; refine (HR.out _).mono ?_; rintro e1 w1 ⟨rfl, b2⟩; obtain ⟨q0, q1⟩ := cells2 b2)
      go_ret
      exact ⟨ret_int hE.out.symm, bt (b1 _ _) b2⟩
end Go.Proofs.Ytdkcdojcglmlbaa.Pol
