/- A disk: what is kept, what is pending, when its power goes: plain functions; nothing of the program. -/
namespace Go.Proofs.Ytkapamolligmkaa.Disk

/-- a write: where, and what -/
abbrev Wr := Nat × List UInt8
/-- a disk: how many sectors, what is pending, all that came to be kept, the fuse, the calls, whether the power is gone -/
structure St where
  size : Nat
  pend : List Wr
  all : List Wr
  fuse : Int
  calls : Nat
  down : Bool
def zero512 : List UInt8 := List.replicate 512 0
theorem zero512_len : zero512.length = 512 := List.length_replicate ..
/-- what is kept at a place, behind all that came to be kept -/
def kept (l : List Wr) (p : Nat) : List UInt8 := l.foldl (fun o w => if w.1 = p then w.2 else o) zero512
theorem kept_nil (p : Nat) : kept [] p = zero512 := rfl
theorem kept_snoc (l : List Wr) (w : Wr) (p : Nat) : kept (l ++ [w]) p = if w.1 = p then w.2 else kept l p := by simp [kept]
theorem fold_none (p : Nat) : ∀ (m : List Wr) (z : List UInt8), (∀ w ∈ m, w.1 ≠ p) → m.foldl (fun o w => if w.1 = p then w.2 else o) z = z
  | [], z, _ => rfl
  | w :: m, z, h => by rw [List.foldl_cons, if_neg (h w (by simp)), fold_none p m z (fun x hx => h x (by simp [hx]))]
theorem kept_append (l m : List Wr) (p : Nat) (h : ∀ w ∈ m, w.1 ≠ p) : kept (l ++ m) p = kept l p := by
  unfold kept; rw [List.foldl_append, fold_none p m _ h]
def new (n : Nat) : St := ⟨n, [], [], -1, 0, false⟩
/-- a turning call: is the power still there? -/
def burn (s : St) : St × Int :=
  if s.fuse = 0 then ({ s with calls := s.calls + 1, down := true }, 12)
  else if 0 < s.fuse then ({ s with calls := s.calls + 1, fuse := s.fuse - 1 }, 0)
  else ({ s with calls := s.calls + 1 }, 0)
def write (s : St) (p : Int) (b : List UInt8) : St × Int :=
  if s.down = true then (s, 12) else if p < 0 ∨ (s.size : Int) ≤ p then (s, 2) else if b.length ≠ 512 then (s, 4)
  else burn { s with pend := s.pend ++ [(p.toNat, b)] }
def flush (s : St) : St × Int :=
  if s.down = true then (s, 12) else if (burn s).2 = 0 then ({ (burn s).1 with all := s.all ++ s.pend, pend := [] }, 0) else burn s
def read (s : St) (p : Int) : List UInt8 × Int :=
  if s.down = true then ([], 12) else if p < 0 ∨ (s.size : Int) ≤ p then ([], 2) else (kept (s.all ++ s.pend) p.toNat, 0)
def keptAt (s : St) (p : Int) : List UInt8 := if p < 0 ∨ (s.size : Int) ≤ p then [] else kept s.all p.toNat
def arm (s : St) (f : Int) : St := { s with fuse := max f (-1) }
/-- where a torn write is torn -/
def cutAt (a : Int) : Nat := (a % 513).toNat
/-- is the i-th pending write kept whole? -/
def whole (keep : List Int) (i : Nat) : Bool := decide (0 < keep.length) && decide (keep.getD (i % keep.length) 0 % 2 = 1)
/-- what comes of the i-th pending write -/
def fate (keep : List Int) (torn a : Int) (i : Nat) (w : Wr) (all : List Wr) : List Wr :=
  if (i : Int) = torn then all ++ [(w.1, w.2.take (cutAt a) ++ (kept all w.1).drop (cutAt a))] else if whole keep i = true then all ++ [w] else all
def fates (keep : List Int) (torn a : Int) : Nat → List Wr → List Wr → List Wr
  | _, [], all => all
  | i, w :: r, all => fates keep torn a (i + 1) r (fate keep torn a i w all)
theorem fates_snoc (keep : List Int) (torn a : Int) : ∀ (m : List Wr) (i : Nat) (w : Wr) (all : List Wr), fates keep torn a i (m ++ [w]) all = fate keep torn a (i + m.length) w (fates keep torn a i m all)
  | [], i, w, all => rfl
  | x :: m, i, w, all => by
    show fates keep torn a (i + 1) (m ++ [w]) _ = _
    rw [fates_snoc keep torn a m (i + 1) w, List.length_cons, show i + 1 + m.length = i + (m.length + 1) by omega]
    rfl
def restart (s : St) (keep : List Int) (torn a : Int) : St := { s with all := fates keep torn a 0 s.pend s.all, pend := [], down := false, fuse := -1 }
def put (s : St) (p : Int) (b : List UInt8) : St × Int :=
  if p < 0 ∨ (s.size : Int) ≤ p then (s, 2) else if b.length ≠ 512 then (s, 4) else ({ s with all := s.all ++ [(p.toNat, b)] }, 0)

/-! what a disk always is -/
def okW (n : Nat) (w : Wr) : Prop := w.1 < n ∧ w.2.length = 512
structure ok (s : St) : Prop where
  size : 1 ≤ s.size ∧ s.size ≤ 1024
  pend : ∀ w ∈ s.pend, okW s.size w
  all : ∀ w ∈ s.all, okW s.size w
  fuse : -1 ≤ s.fuse ∧ s.fuse ≤ 9223372036854775807
theorem fold_len (p : Nat) : ∀ (l : List Wr) (z : List UInt8), z.length = 512 → (∀ w ∈ l, w.2.length = 512) → (l.foldl (fun o w => if w.1 = p then w.2 else o) z).length = 512
  | [], z, hz, _ => hz
  | w :: l, z, hz, h => by
    rw [List.foldl_cons]
    refine fold_len p l _ ?_ (fun x hx => h x (by simp [hx]))
    split
    · exact h w (by simp)
    · exact hz
theorem kept_len {l : List Wr} {n : Nat} (h : ∀ w ∈ l, okW n w) (p : Nat) : (kept l p).length = 512 := fold_len p l _ zero512_len (fun w hw => (h w hw).2)
theorem cutAt_le (a : Int) : cutAt a ≤ 512 := by unfold cutAt; omega
theorem ok_new {n : Nat} (h1 : 1 ≤ n) (h2 : n ≤ 1024) : ok (new n) := ⟨⟨h1, h2⟩, (by intro w hw; cases hw), (by intro w hw; cases hw), by unfold new; constructor <;> simp only [] <;> omega⟩
theorem ok_burn {s : St} (h : ok s) : ok (burn s).1 := by
  have hf := h.fuse
  unfold burn
  split
  · exact ⟨h.size, h.pend, h.all, hf⟩
  · split
    · exact ⟨h.size, h.pend, h.all, by constructor <;> (simp only []; omega)⟩
    · exact ⟨h.size, h.pend, h.all, hf⟩
theorem ok_add {s : St} {p : Int} {b : List UInt8} (hp : ¬ (p < 0 ∨ (s.size : Int) ≤ p)) (hb : b.length = 512) : ∀ (l : List Wr), (∀ w ∈ l, okW s.size w) → ∀ w ∈ l ++ [(p.toNat, b)], okW s.size w := by
  intro l hl w hw
  rcases List.mem_append.1 hw with hw | hw
  · exact hl w hw
  · rw [List.mem_singleton] at hw; subst hw; exact ⟨by simp only []; omega, hb⟩
theorem burn_lists (s : St) : (burn s).1.pend = s.pend ∧ (burn s).1.all = s.all ∧ (burn s).1.size = s.size := by
  unfold burn
  split
  · exact ⟨rfl, rfl, rfl⟩
  · split <;> exact ⟨rfl, rfl, rfl⟩
theorem burn_calls (s : St) : (burn s).1.calls = s.calls + 1 := by
  unfold burn
  split
  · rfl
  · split <;> rfl
theorem ok_write {s : St} (h : ok s) (p : Int) (b : List UInt8) : ok (write s p b).1 := by
  unfold write
  split
  · exact h
  · split
    · exact h
    · rename_i hp
      split
      · exact h
      · rename_i hb
        exact ok_burn ⟨h.size, ok_add hp (by omega) _ h.pend, h.all, h.fuse⟩
theorem ok_flush {s : St} (h : ok s) : ok (flush s).1 := by
  unfold flush
  split
  · exact h
  · have hb := ok_burn h
    have hs : (burn s).1.size = s.size := (burn_lists s).2.2
    split
    · refine ⟨hb.size, (by intro w hw; cases hw), ?_, hb.fuse⟩
      intro w hw
      simp only [hs]
      rcases List.mem_append.1 hw with hw | hw
      · exact h.all w hw
      · exact h.pend w hw
    · exact hb
theorem ok_arm {s : St} (h : ok s) {f : Int} (hf : f ≤ 9223372036854775807) : ok (arm s f) := ⟨h.size, h.pend, h.all, by unfold arm; constructor <;> (simp only []; omega)⟩
theorem ok_fate {n : Nat} {keep : List Int} {torn a : Int} {i : Nat} {w : Wr} {all : List Wr} (hw : okW n w) (h : ∀ x ∈ all, okW n x) : ∀ x ∈ fate keep torn a i w all, okW n x := by
  unfold fate
  intro x hx
  split at hx
  · rcases List.mem_append.1 hx with hx | hx
    · exact h x hx
    · rw [List.mem_singleton] at hx; subst hx
      refine ⟨hw.1, ?_⟩
      have h1 := kept_len h w.1
      have h2 := hw.2
      have h3 := cutAt_le a
      simp only [List.length_append, List.length_take, List.length_drop]; omega
  · split at hx
    · rcases List.mem_append.1 hx with hx | hx
      · exact h x hx
      · rw [List.mem_singleton] at hx; subst hx; exact hw
    · exact h x hx
theorem ok_fates {n : Nat} {keep : List Int} {torn a : Int} : ∀ (m : List Wr) (i : Nat) (all : List Wr), (∀ x ∈ m, okW n x) → (∀ x ∈ all, okW n x) → ∀ x ∈ fates keep torn a i m all, okW n x
  | [], _, all, _, h => h
  | w :: m, i, all, hm, h => ok_fates m (i + 1) _ (fun x hx => hm x (by simp [hx])) (ok_fate (hm w (by simp)) h)
theorem ok_restart {s : St} (h : ok s) (keep : List Int) (torn a : Int) : ok (restart s keep torn a) :=
  ⟨h.size, (by intro w hw; cases hw), ok_fates _ _ _ h.pend h.all, by unfold restart; constructor <;> simp only [] <;> omega⟩
theorem ok_put {s : St} (h : ok s) (p : Int) (b : List UInt8) : ok (put s p b).1 := by
  unfold put
  split
  · exact h
  · rename_i hp
    split
    · exact h
    · rename_i hb
      exact ⟨h.size, h.pend, ok_add hp (by omega) _ h.all, h.fuse⟩
/-! how much there is -/
def St.sz (s : St) : Nat := s.pend.length + s.all.length + s.calls
theorem sz_burn (s : St) : (burn s).1.sz = s.sz + 1 := by
  unfold St.sz
  rw [burn_calls, (burn_lists s).1, (burn_lists s).2.1]; omega
theorem sz_write (s : St) (p : Int) (b : List UInt8) : (write s p b).1.sz ≤ s.sz + 2 := by
  unfold write
  split
  · exact Nat.le_add_right _ _
  · split
    · exact Nat.le_add_right _ _
    · split
      · exact Nat.le_add_right _ _
      · rw [sz_burn]; unfold St.sz; simp only [List.length_append, List.length_singleton]; omega
theorem sz_flush (s : St) : (flush s).1.sz ≤ s.sz + 1 := by
  unfold flush
  split
  · exact Nat.le_add_right _ _
  · split
    · have := burn_calls s
      unfold St.sz; simp only [List.length_append, List.length_nil]; omega
    · rw [sz_burn]; exact Nat.le_refl _
theorem fate_len (keep : List Int) (torn a : Int) (i : Nat) (w : Wr) (all : List Wr) : (fate keep torn a i w all).length ≤ all.length + 1 := by
  unfold fate
  split
  · simp
  · split <;> simp
theorem fates_len (keep : List Int) (torn a : Int) : ∀ (m : List Wr) (i : Nat) (all : List Wr), (fates keep torn a i m all).length ≤ all.length + m.length
  | [], _, all => by simp [fates]
  | w :: m, i, all => by
    have h1 := fates_len keep torn a m (i + 1) (fate keep torn a i w all)
    have h2 := fate_len keep torn a i w all
    show (fates keep torn a (i + 1) m _).length ≤ _
    rw [List.length_cons]; omega
theorem sz_restart (s : St) (keep : List Int) (torn a : Int) : (restart s keep torn a).sz ≤ s.sz := by
  have := fates_len keep torn a s.pend 0 s.all
  unfold St.sz restart; simp only [List.length_nil]; omega
theorem sz_put (s : St) (p : Int) (b : List UInt8) : (put s p b).1.sz ≤ s.sz + 1 := by
  unfold put
  split
  · exact Nat.le_add_right _ _
  · split
    · exact Nat.le_add_right _ _
    · unfold St.sz; simp only [List.length_append, List.length_singleton]; omega
end Go.Proofs.Ytkapamolligmkaa.Disk
