/- The walk of the reference's times. -/
import Derived.Test.YtggldbadefbdaaaDoorRoot1
import Derived.Test.YtggldbadefbdaaaDoorShaW
namespace Go.Proofs.YtggldbadefbdaaaDoor.Sha
open Go.RowKit
set_option linter.unusedVariables false
set_option maxRecDepth 100000
def vn (l : List Nat) : List Value := l.map fun (n : Nat) => Value.int .u64 (n : Int)
theorem vn_len (l : List Nat) : (vn l).length = l.length := by simp [vn]
theorem vn_one (l : List Nat) : ∀ v ∈ vn l, v.oneCell' = true := by
  intro v hv
  simp only [vn, List.mem_map] at hv
  obtain ⟨x, _, rfl⟩ := hv
  rfl
theorem vn_set (l : List Nat) (k x : Nat) : (vn l).set k (.int .u64 (x : Int)) = vn (l.set k x) := by simp [vn, List.map_set]
theorem _root_.Go.Proofs.YtggldbadefbdaaaDoor.Blk.num {w : World} {g : Nat} {l : List Nat} (h : Blk w g (vn l)) {k : Nat} (hk : k < l.length) : w.cell? ⟨g, k, none⟩ = some (.int .u64 (fn l k : Int)) := by
  rw [h.cell (by rw [vn_len]; exact hk)]
  simp [vn, fn, List.getD, List.getElem?_eq_getElem hk]
def pt (f g : Nat → Nat) (k : Nat) : List Nat := (List.range 5).map fun j => if j < k then f j else g j
theorem pt_len (f g : Nat → Nat) (k : Nat) : (pt f g k).length = 5 := by simp [pt]
theorem pt_set (f g : Nat → Nat) (k : Nat) (h : k < 5) : (pt f g k).set k (f k) = pt f g (k + 1) := by
  match k, h with
  | 0, _ => rfl
  | 1, _ => rfl
  | 2, _ => rfl
  | 3, _ => rfl
  | 4, _ => rfl
theorem pt_get (f g : Nat → Nat) (k : Nat) (h : k < 5) : fn (pt f g k) k = g k := by
  match k, h with
  | 0, _ => rfl
  | 1, _ => rfl
  | 2, _ => rfl
  | 3, _ => rfl
  | 4, _ => rfl
theorem pt_zero (f g : Nat → Nat) : pt f g 0 = (List.range 5).map g := rfl
theorem pt_all (f g : Nat → Nat) : pt f g 5 = (List.range 5).map f := rfl
theorem cAt_le {a : Nat → Nat} (ha : ∀ i, a i < 4294967296) (m : Nat) : ∀ i, cAt a m i ≤ m
  | 0 => Nat.zero_le _
  | i + 1 => by
    have ih := cAt_le ha m i
    have h1 : a i * m ≤ 4294967295 * m := Nat.mul_le_mul_right _ (by have := ha i; omega)
    rw [cAt]
    omega
theorem sAt_le (a : Nat → Nat) (n : Nat) : ∀ i, sAt a n i ≤ 65536
  | 0 => Nat.zero_le _
  | i + 1 => by
    have ih := sAt_le a n i
    rw [sAt]
    unfold lo
    omega
theorem mulU (a m p : Nat) (hp : p = a * m) (h : p < 18446744073709551616) : IntKind.u64.wrap ((a : Int) * (m : Int)) = (p : Int) := by
  rw [← Int.natCast_mul, ← hp, wrapU (by omega) (by omega)]
theorem size5 : (Tryd.prog.info? 71).map (·.size) = some 5 := by kernel_rfl
theorem zeroV5 (w : World) : (zeroValue 71).run Tryd.prog w = .ok (arrV (vn [0, 0, 0, 0, 0])) w := by kernel_rfl
theorem size5L {l : List Nat} (h : l.length = 5) : (Tryd.prog.info? 71).map (·.size) = some (vn l).length := by rw [vn_len, h]; exact size5
set_option maxHeartbeats 800000 in
theorem times_any (l : List Nat) (hl : l.length = 5) (hb : ∀ i, fn l i < 4294967296) (n : Nat) (hn : n < 137438953472) (w : World) : Calls Tryd.prog 70 #[arrV (vn l), .int .u64 (n : Int)] w fun e w' => e = .returned (arrV (vn (timesL l n))) ∧ Below w.heap.size w w' := by
  obtain ⟨m, hm⟩ : ∃ m, m = n % 65536 := ⟨_, rfl⟩
  obtain ⟨h, hh⟩ : ∃ h, h = n / 65536 := ⟨_, rfl⟩
  have tm : ((n : Int)).tmod 65536 = (m : Int) := by rw [Int.tmod_eq_emod_of_nonneg (by omega)]; omega
  have tm' : (n : Int) % 65536 = (m : Int) := by omega
  have td : ((n : Int)).tdiv 65536 = (h : Int) := by rw [Int.tdiv_eq_ediv_of_nonneg (by omega)]; omega
  have td' : (n : Int) / 65536 = (h : Int) := by omega
  have Hm := Lib.hid hm
  have Hh := Lib.hid hh
  have hmb : m < 65536 := by omega
  have hhb : h < 2097152 := by omega
  have HB := Lib.hid hb
  have HL := Lib.hid hl
  have hszO := size5L (show (timesL l n).length = 5 by simp [timesL])
  clear hm hh hb hl
  go_enter Tryd.func70, Tryd.ntmps70
  go_wp2_with (first
    | ((with_reducible show wpList _ _ _ (⟨some 2, _, _, _, _, _⟩ :: _) _ _); refine wpList_boxN rfl _ _ rfl (vn l) rfl ?_; intro w1 hb1 bw1 hs1)
    | ((with_reducible show wpList _ _ _ (⟨some 4, _, _, _, _, _⟩ :: _) _ _); refine wpList_allocN rfl _ rfl (vn [0, 0, 0, 0, 0]) zeroV5 ?_; intro w2 hb2 bw2 hs2; have hb12 := hb1.on bw2; have bt2 := bt bw1 bw2)
    | ((with_reducible show wpList _ _ _ (⟨some 5, _, _, _, _, _⟩ :: _) _ _); refine wpList_allocN rfl _ rfl (vn [0, 0, 0, 0, 0]) zeroV5 ?_; intro w3 hb3 bw3 hs3; have hb13 := hb12.on bw3; have hb23 := hb2.on bw3; have bt3 := bt bt2 bw3)
    | fail)
  have l01 : w.heap.size < w1.heap.size := hs1
  have l12 : w1.heap.size < w2.heap.size := hs2
  obtain ⟨B1, hB1⟩ : ∃ B, B = w1.heap.size := ⟨_, rfl⟩
  obtain ⟨B2, hB2⟩ : ∃ B, B = w2.heap.size := ⟨_, rfl⟩
  rw [← hB1] at hb23 l01 l12 ⊢
  rw [← hB2] at hb3 l12 ⊢
  clear hB1 hB2 hb1 hb2 hb12 bw1 bw2 bw3 hs1 hs2 hs3 bt2
  go_loopw [8, 9] (fun c i wr => ∃ k : Nat, k ≤ 5 ∧ i = .int .i64 k ∧ c = .int .u64 (cAt (fn l) m k : Int) ∧ Blk wr w.heap.size (vn l) ∧ Blk wr B1 (vn [0, 0, 0, 0, 0]) ∧ Blk wr B2 (vn (pt (lo (fn l) n) (fun _ => 0) k)) ∧ Below w.heap.size w wr) (fun _ i _ => 5 - (intOf i).toNat)
  case atStart => exact ⟨0, by omega, rfl, rfl, hb13, hb23, hb3, bt3⟩
  case round =>
    obtain ⟨k, hk, rfl, rfl, d0, d1, d2, bt0⟩ := hrel
    clear hb13 hb23 hb3 bt3
    by_cases hlt : k < 5
    · have hca := Blk.num d0 (k := k) (by rw [HL.out]; exact hlt)
      have hcd := Blk.num d2 (k := k) (by rw [pt_len]; exact hlt)
      have hset := Lib.hid (pt_set (lo (fn l) n) (fun _ => 0) k hlt)
      have hf := d2.free k
      have hB := d2.lt
      have hab := HB.out k
      have hcb := cAt_le HB.out m k
      have hlo := Lib.hid (show lo (fn l) n k = (fn l k * m + cAt (fn l) m k) % 4294967296 by rw [lo, xAt, ← Hm.out])
      have hcs := Lib.hid (show cAt (fn l) m (k + 1) = (fn l k * m + cAt (fn l) m k) / 4294967296 by rw [cAt])
      obtain ⟨a, ha⟩ : ∃ a, a = fn l k := ⟨_, rfl⟩
      obtain ⟨c, hc⟩ : ∃ c, c = cAt (fn l) m k := ⟨_, rfl⟩
      rw [← ha] at hca hab hlo hcs
      rw [← hc] at hcb hlo hcs ⊢
      obtain ⟨p, hp⟩ : ∃ p, p = a * m := ⟨_, rfl⟩
      have hpb : p ≤ 4294967295 * 65535 := by rw [hp]; exact Nat.mul_le_mul (by omega) (by omega)
      have hpI := mulU a m p hp (by omega)
      rw [← hp] at hlo hcs
      obtain ⟨x, hx⟩ : ∃ x, x = p + c := ⟨_, rfl⟩
      have hxI : IntKind.u64.wrap ((p : Int) + (c : Int)) = (x : Int) := by rw [hx, wrapU (by omega) (by omega)]; omega
      rw [← hx] at hlo hcs
      obtain ⟨r, hr⟩ : ∃ r, r = x % 4294967296 := ⟨_, rfl⟩
      obtain ⟨q, hq⟩ : ∃ q, q = x / 4294967296 := ⟨_, rfl⟩
      have tr : ((x : Int)).tmod 4294967296 = (r : Int) := by rw [Int.tmod_eq_emod_of_nonneg (by omega)]; omega
      have tr' : (x : Int) % 4294967296 = (r : Int) := by omega
      have tq : (x : Int) / 4294967296 = (q : Int) := by omega
      have wr1 : IntKind.u64.wrap (r : Int) = (r : Int) := wrapU (by omega) (by omega)
      have wq1 : IntKind.u64.wrap (q : Int) = (q : Int) := wrapU (by omega) (by omega)
      rw [← hr] at hlo
      rw [← hq] at hcs
      clear ha hc hp hx hr hq hab hcb hpb
      go_wp2
      go_roundw
      case rel =>
        have hbs := d2.set (k := k) (.int .u64 (r : Int))
        rw [← hlo.out, vn_set, hset.out] at hbs
        rw [← hlo.out]
        exact ⟨k + 1, by omega, by go_num, by rw [hcs.out], d0.other _ (by omega), d1.other _ (by omega), hbs, bset bt0 (by omega) _⟩
      case measure => simp [intOf]; omega
    · obtain rfl : k = 5 := by omega
      rw [pt_all] at d2
      go_wp2
      go_loopw [8, 11, 12] (fun c sh i wr => ∃ k : Nat, k ≤ 5 ∧ i = .int .i64 k ∧ c = .int .u64 (cAt (fn l) h k : Int) ∧ sh = .int .u64 (sAt (fn l) n k : Int) ∧ Blk wr w.heap.size (vn l) ∧ Blk wr B1 (vn [0, 0, 0, 0, 0]) ∧ Blk wr B2 (vn (pt (timesN (fn l) n) (lo (fn l) n) k)) ∧ Below w.heap.size w wr) (fun _ _ i _ => 5 - (intOf i).toNat)
      case atStart => exact ⟨0, by omega, rfl, rfl, rfl, d0, d1, d2, bt0⟩
      case round =>
        obtain ⟨k, hk, rfl, rfl, rfl, e0, e1, e2, bx⟩ := hrel
        clear d0 d1 d2 bt0
        by_cases hlt : k < 5
        · have hca := Blk.num e0 (k := k) (by rw [HL.out]; exact hlt)
          have hcd := Blk.num e2 (k := k) (by rw [pt_len]; exact hlt)
          rw [pt_get _ _ _ hlt] at hcd
          have hset := Lib.hid (pt_set (timesN (fn l) n) (lo (fn l) n) k hlt)
          have hf := e2.free k
          have hB := e2.lt
          have hB0 := e0.lt
          have hab := HB.out k
          have hcb := cAt_le HB.out h k
          have hsb := sAt_le (fn l) n k
          have hlb : lo (fn l) n k < 4294967296 := by unfold lo; omega
          have hti := Lib.hid (show timesN (fn l) n k = ((fn l k * h + cAt (fn l) h k) % 4294967296 * 65536 + sAt (fn l) n k + lo (fn l) n k) % 4294967296 by rw [timesN, yAt, xAt, ← Hh.out])
          have hss := Lib.hid (show sAt (fn l) n (k + 1) = ((fn l k * h + cAt (fn l) h k) % 4294967296 * 65536 + sAt (fn l) n k + lo (fn l) n k) / 4294967296 by rw [sAt, xAt, ← Hh.out])
          have hcs := Lib.hid (show cAt (fn l) h (k + 1) = (fn l k * h + cAt (fn l) h k) / 4294967296 by rw [cAt])
          obtain ⟨a, ha⟩ : ∃ a, a = fn l k := ⟨_, rfl⟩
          obtain ⟨c, hc⟩ : ∃ c, c = cAt (fn l) h k := ⟨_, rfl⟩
          obtain ⟨s, hs⟩ : ∃ c, c = sAt (fn l) n k := ⟨_, rfl⟩
          obtain ⟨o, ho⟩ : ∃ c, c = lo (fn l) n k := ⟨_, rfl⟩
          rw [← ha] at hca hab hti hss hcs
          rw [← hc] at hcb hti hss hcs ⊢
          rw [← hs] at hsb hti hss ⊢
          rw [← ho] at hcd hlb hti hss
          obtain ⟨p, hp⟩ : ∃ p, p = a * h := ⟨_, rfl⟩
          have hpb : p ≤ 4294967295 * 2097151 := by rw [hp]; exact Nat.mul_le_mul (by omega) (by omega)
          have hpI := mulU a h p hp (by omega)
          rw [← hp] at hti hss hcs
          obtain ⟨x, hx⟩ : ∃ x, x = p + c := ⟨_, rfl⟩
          have hxI : IntKind.u64.wrap ((p : Int) + (c : Int)) = (x : Int) := by rw [hx, wrapU (by omega) (by omega)]; omega
          rw [← hx] at hti hss hcs
          obtain ⟨u, hu⟩ : ∃ r, r = x % 4294967296 := ⟨_, rfl⟩
          obtain ⟨q, hq⟩ : ∃ q, q = x / 4294967296 := ⟨_, rfl⟩
          have tu : ((x : Int)).tmod 4294967296 = (u : Int) := by rw [Int.tmod_eq_emod_of_nonneg (by omega)]; omega
          have tu' : (x : Int) % 4294967296 = (u : Int) := by omega
          have tq : (x : Int) / 4294967296 = (q : Int) := by omega
          have wu1 : IntKind.u64.wrap (u : Int) = (u : Int) := wrapU (by omega) (by omega)
          have wq1 : IntKind.u64.wrap (q : Int) = (q : Int) := wrapU (by omega) (by omega)
          rw [← hu] at hti hss
          rw [← hq] at hcs
          obtain ⟨z, hz⟩ : ∃ z, z = u * 65536 := ⟨_, rfl⟩
          have hzI : IntKind.u64.wrap ((u : Int) * 65536) = (z : Int) := by rw [hz, wrapU (by omega) (by omega)]; omega
          rw [← hz] at hti hss
          obtain ⟨v, hv⟩ : ∃ v, v = z + s := ⟨_, rfl⟩
          have hvI : IntKind.u64.wrap ((z : Int) + (s : Int)) = (v : Int) := by rw [hv, wrapU (by omega) (by omega)]; omega
          rw [← hv] at hti hss
          obtain ⟨y, hy⟩ : ∃ y, y = v + o := ⟨_, rfl⟩
          have hyI : IntKind.u64.wrap ((v : Int) + (o : Int)) = (y : Int) := by rw [hy, wrapU (by omega) (by omega)]; omega
          rw [← hy] at hti hss
          obtain ⟨r, hr⟩ : ∃ r, r = y % 4294967296 := ⟨_, rfl⟩
          obtain ⟨t, ht⟩ : ∃ q, q = y / 4294967296 := ⟨_, rfl⟩
          have tr : ((y : Int)).tmod 4294967296 = (r : Int) := by rw [Int.tmod_eq_emod_of_nonneg (by omega)]; omega
          have tr' : (y : Int) % 4294967296 = (r : Int) := by omega
          have tt : (y : Int) / 4294967296 = (t : Int) := by omega
          have wr1 : IntKind.u64.wrap (r : Int) = (r : Int) := wrapU (by omega) (by omega)
          have wt1 : IntKind.u64.wrap (t : Int) = (t : Int) := wrapU (by omega) (by omega)
          rw [← hr] at hti
          rw [← ht] at hss
          have hne : B2 ≠ w.heap.size := by omega
          clear ha hc hs ho hp hx hu hq hz hv hy hr ht hab hcb hsb hlb hpb
          go_wp2
          go_roundw
          case rel =>
            have hbs := e2.set (k := k) (.int .u64 (r : Int))
            rw [← hti.out, vn_set, hset.out] at hbs
            rw [← hti.out]
            exact ⟨k + 1, by omega, by go_num, by rw [hcs.out], by rw [hss.out], e0.other _ (by omega), e1.other _ (by omega), hbs, bset bx (by omega) _⟩
          case measure => simp [intOf]; omega
        · obtain rfl : k = 5 := by omega
          rw [pt_all, show (List.range 5).map (timesN (fn l) n) = timesL l n from rfl] at e2
          go_wp2_with (first
            | ((with_reducible show wpList _ _ _ (⟨some 64, _, _, _, _, _⟩ :: _) _ _); refine wpList_loadA rfl _ _ rfl rfl e2 Tryd.underlying71 hszO ?_)
            | ((with_reducible show wpList _ _ _ (⟨none, .store 71 _ _, _, _, _, _⟩ :: _) _ _); refine wpList_storeN rfl _ _ _ rfl rfl (ys := vn (timesL l n)) rfl e1 (by rw [vn_len, vn_len, timesL]; simp) (vn_one _) hszO ?_; intro w9 hb9 hg9)
            | fail)
          exact bodyPost_ret (v := arrV (vn (timesL l n))) (results_arr Tryd.results70 _ hb9 Tryd.underlying71 hszO rfl) rfl ⟨rfl, below_row bx hg9 (by omega) bx.size⟩
end Go.Proofs.YtggldbadefbdaaaDoor.Sha
