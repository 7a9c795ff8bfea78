/- The acts of the layer disk's laws: plain, in memory, how they come in; the walk of Light. -/
import Derived.Test.YtdkcdojcglmlbaaRDisk7
import Derived.Test.YtdkcdojcglmlbaaOpen
namespace Go.Proofs.Ytdkcdojcglmlbaa.Disk
open Go.RowKit
set_option linter.unusedVariables false
set_option maxRecDepth 100000
structure Act' where
  kind : Int
  place : Int
  size : Int
  n : Int
  at' : Int
  fill : UInt8
  keep : List Int
def inI (n : Int) : Prop := -9223372036854775808 ≤ n ∧ n ≤ 9223372036854775807
def Act'.ok (a : Act') : Prop := inI a.kind ∧ inI a.place ∧ inI a.size ∧ inI a.n ∧ inI a.at' ∧ ∀ n ∈ a.keep, inI n
/-- what an act does -/
def act (s : St) (a : Act') : St :=
  if a.kind = 0 then (write s a.place (List.replicate a.size.toNat a.fill)).1
  else if a.kind = 1 then (flush s).1
  else if a.kind = 2 then s
  else if a.kind = 3 then arm s a.n
  else if a.kind = 4 then restart s a.keep a.n a.at'
  else (put s a.place (List.replicate a.size.toNat a.fill)).1
/-- acts lie in memory below B -/
def Acts (w : World) (B : Nat) (A : Option Addr) (l : List Act') : Prop :=
  l ≠ [] → ∃ b off, A = some ⟨b, off, none⟩ ∧ b < B ∧ ∀ i (h : i < l.length), ∃ a c,
    w.cell? ⟨b, off + i * 7, none⟩ = some (.int .i64 l[i].kind) ∧ w.cell? ⟨b, off + i * 7 + 1, none⟩ = some (.int .i64 l[i].place) ∧ w.cell? ⟨b, off + i * 7 + 2, none⟩ = some (.int .i64 l[i].size) ∧
    w.cell? ⟨b, off + i * 7 + 3, none⟩ = some (.int .i64 l[i].n) ∧ w.cell? ⟨b, off + i * 7 + 4, none⟩ = some (.int .i64 l[i].at') ∧ w.cell? ⟨b, off + i * 7 + 5, none⟩ = some (.int .u8 (l[i].fill.toNat : Int)) ∧
    w.cell? ⟨b, off + i * 7 + 6, none⟩ = some (.slice a l[i].keep.length c) ∧ Rd w B a (l[i].keep.map (Value.int .i64)) ∧ l[i].keep.length ≤ c ∧ c ≤ maxLen ∧ l[i].ok
theorem Acts.get {w : World} {B : Nat} {A : Option Addr} {l : List Act'} (h : Acts w B A l) {i : Nat} (hi : i < l.length) :
    ∃ b off a c, A = some ⟨b, off, none⟩ ∧ b < B ∧
    w.cell? ⟨b, off + i * 7, none⟩ = some (.int .i64 l[i].kind) ∧ w.cell? ⟨b, off + i * 7 + 1, none⟩ = some (.int .i64 l[i].place) ∧ w.cell? ⟨b, off + i * 7 + 2, none⟩ = some (.int .i64 l[i].size) ∧
    w.cell? ⟨b, off + i * 7 + 3, none⟩ = some (.int .i64 l[i].n) ∧ w.cell? ⟨b, off + i * 7 + 4, none⟩ = some (.int .i64 l[i].at') ∧ w.cell? ⟨b, off + i * 7 + 5, none⟩ = some (.int .u8 (l[i].fill.toNat : Int)) ∧
    w.cell? ⟨b, off + i * 7 + 6, none⟩ = some (.slice a l[i].keep.length c) ∧ Rd w B a (l[i].keep.map (Value.int .i64)) ∧ l[i].keep.length ≤ c ∧ c ≤ maxLen ∧ l[i].ok := by
  obtain ⟨b, off, rfl, hb, h1⟩ := h (by rintro rfl; exact absurd hi (by simp))
  obtain ⟨a, c, h2⟩ := h1 i hi
  exact ⟨b, off, a, c, rfl, hb, h2⟩
theorem Acts.below {w w' : World} {B : Nat} {A : Option Addr} {l : List Act'} (h : Acts w B A l) (hb : Below B w w') : Acts w' B A l := by
  intro hne
  obtain ⟨b, off, rfl, hbb, h1⟩ := h hne
  refine ⟨b, off, rfl, hbb, fun i hi => ?_⟩
  obtain ⟨a, c, h0, h1, h2, h3, h4, h5, h6, h7, h8⟩ := h1 i hi
  have k := fun o => hb.cell (p := ⟨b, o, none⟩) hbb
  exact ⟨a, c, (k _).trans h0, (k _).trans h1, (k _).trans h2, (k _).trans h3, (k _).trans h4, (k _).trans h5, (k _).trans h6, h7.below hb, h8⟩
def okA (a : Act') : Bool := decide (a.keep.length ≤ 20) && decide (0 ≤ a.size) && decide (a.size ≤ 600)
def lightA (l : List Act') : Bool := decide (l.length ≤ 40) && l.all okA
theorem lightA_no {l : List Act'} (h : ¬ l.length ≤ 40) : lightA l = false := by simp [lightA, h]
theorem lightA_at {l : List Act'} {k : Nat} (hk : k < l.length) (h : ¬ okA l[k] = true) : lightA l = false := by
  unfold lightA
  have : l.all okA = false := by
    rw [List.all_eq_false]
    exact ⟨_, List.getElem_mem hk, by simpa using h⟩
  rw [this, Bool.and_false]
theorem lightA_yes {l : List Act'} (h : l.length ≤ 40) (h2 : ∀ j (hj : j < l.length), okA l[j] = true) : lightA l = true := by
  unfold lightA
  rw [decide_eq_true h, Bool.true_and, List.all_eq_true]
  intro x hx
  obtain ⟨j, hj, rfl⟩ := List.getElem_of_mem hx
  exact h2 j hj
theorem lightA_of {l : List Act'} (h : lightA l = true) : l.length ≤ 40 ∧ ∀ a ∈ l, a.keep.length ≤ 20 ∧ 0 ≤ a.size ∧ a.size ≤ 600 := by
  simp only [lightA, Bool.and_eq_true, decide_eq_true_eq, List.all_eq_true, okA] at h
  exact ⟨h.1, fun a ha => ⟨(h.2 a ha).1.1, (h.2 a ha).1.2, (h.2 a ha).2⟩⟩
set_option maxHeartbeats 1000000 in
theorem light_any (A : Option Addr) (l : List Act') (n c : Nat) (w : World) (hn : n = l.length) (hr : Acts w w.heap.size A l) (hl : l.length ≤ 9223372036854775807) :
    Calls Try.prog 64 #[.slice A n c] w fun e w' => e = .returned (.bool (lightA l)) ∧ w = w' := by
  subst hn
  by_cases h40 : l.length ≤ 40
  rotate_left
  · have hn := Lib.hid (lightA_no h40)
    have h41 : 40 < l.length := by omega
    go_enter Try.func64, Try.ntmps64
    go_wp2
    go_ret
    exact ⟨ret_bool hn.out.symm, rfl⟩
  go_enter Try.func64, Try.ntmps64
  go_wp2
  go_loop [3] (fun i => ∃ k : Nat, k ≤ l.length ∧ i = .int .i64 k ∧ Hid (∀ j (hj : j < l.length), j < k → okA l[j] = true)) (fun i => l.length - (intOf i).toNat)
  case atStart => exact ⟨0, by omega, rfl, fun j _ h => absurd h (by omega)⟩
  case round =>
    obtain ⟨k, hk, rfl, hall⟩ := hrel
    by_cases hlt : k < l.length
    · obtain ⟨b, off, a, c', rfl, hbb, c0, c1, c2, c3, c4, c5, c6, hra, hkc, hcm, hok⟩ := hr.get hlt
      have hnext := Lib.hid (fun (h : okA l[k] = true) => show ∀ j (hj : j < l.length), j < k + 1 → okA l[j] = true from fun j hj h2 => by
        rcases Nat.lt_or_ge j k with e | e
        · exact hall.out j hj e
        · obtain rfl : j = k := by omega
          exact h)
      have hno := Lib.hid (fun (h : ¬ okA l[k] = true) => lightA_at hlt h)
      obtain ⟨y, hy⟩ : ∃ y, y = l[k] := ⟨_, rfl⟩
      rw [← hy] at c2 c6 hnext hno
      clear hy c0 c1 c3 c4 c5 hra hok hkc
      unfold maxLen at hcm
      by_cases h1 : 20 < y.keep.length
      · have hn := Lib.hid (hno.out (by simp [okA]; omega))
        clear hno hnext
        go_wp2
        go_ret
        exact ⟨ret_bool hn.out.symm, rfl⟩
      by_cases h2 : y.size < 0
      · have hn := Lib.hid (hno.out (by simp [okA]; omega))
        clear hno hnext
        go_wp2
        go_ret
        exact ⟨ret_bool hn.out.symm, rfl⟩
      by_cases h3 : 600 < y.size
      · have hn := Lib.hid (hno.out (by simp [okA]; omega))
        clear hno hnext
        go_wp2
        go_ret
        exact ⟨ret_bool hn.out.symm, rfl⟩
      have hn := Lib.hid (hnext.out (by simp [okA]; omega))
      clear hno hnext
      go_wp2
      go_round
      case rel => exact ⟨k + 1, by omega, by go_num, hn⟩
      case measure => simp [intOf]; omega
    · obtain rfl : k = l.length := by omega
      have hy := Lib.hid (lightA_yes h40 (fun j hj => hall.out j hj hj))
      go_wp2
      go_ret
      exact ⟨ret_bool hy.out.symm, rfl⟩
end Go.Proofs.Ytdkcdojcglmlbaa.Disk
