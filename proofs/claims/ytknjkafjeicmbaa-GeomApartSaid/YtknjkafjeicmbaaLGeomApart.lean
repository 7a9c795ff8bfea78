/- GeomApart: for every input the law returns true: each place of a disk is a root, a super, one of the log or of an area, and no two of these are one place. No condition. -/
import Derived.Test.YtknjkafjeicmbaaGeom4
import Derived.Test.YtknjkafjeicmbaaRef01
import Derived.Test.YtknjkafjeicmbaaOpen
namespace Go.Proofs.Ytknjkafjeicmbaa.GeomApart
open Go.ChangeShapes Go.WideShapes Go.ChangeAt Go.RowKit Go.Joins
open Go.ChangeMaps (open_string shut_string)
open Go.Proofs.Ytknjkafjeicmbaa.Geom (lo hi)
set_option linter.unusedVariables false

theorem infoi : (Try.prog.info? 3).map (fun i => (i.zero, i.size, i.bytes)) = some (some (.int .i64 0), 1, 8) := by kernel_rfl

/-! the list of all places -/
def logs (k : Nat) : List Int := (List.range k).map fun (i : Nat) => 4 + (i : Int)
def areas (b p : Int) (k : Nat) : List Int := (List.range k).flatMap fun (i : Nat) => [b + (i : Int), b + p + (i : Int)]
def all (g p : Int) (m k : Nat) : List Int := [0, 1, 2, 3] ++ logs m ++ areas (4 + g) p k
theorem logs_succ (k : Nat) : logs (k + 1) = logs k ++ [4 + (k : Int)] := by simp [logs, List.range_succ]
theorem areas_succ (b p : Int) (k : Nat) : areas b p (k + 1) = areas b p k ++ [b + (k : Int), b + p + (k : Int)] := by simp [areas, List.range_succ]
theorem logs_len (k : Nat) : (logs k).length = k := by simp [logs]
theorem areas_len (b p : Int) (k : Nat) : (areas b p k).length = 2 * k := by
  induction k with
  | zero => simp [areas]
  | succ k ih => rw [areas_succ, List.length_append, ih]; simp; omega
theorem all_len (g p : Int) (m k : Nat) : (all g p m k).length = 4 + m + 2 * k := by
  unfold all; rw [List.length_append, List.length_append, logs_len, areas_len]; rfl
theorem mem_logs (k : Nat) (i : Nat) (h : i < k) : 4 + (i : Int) ∈ logs k := List.mem_map.2 ⟨i, List.mem_range.2 h, rfl⟩
theorem mem_area (b p : Int) (k i : Nat) (h : i < k) : b + (i : Int) ∈ areas b p k ∧ b + p + (i : Int) ∈ areas b p k := by
  constructor
  · exact List.mem_flatMap.2 ⟨i, List.mem_range.2 h, by simp⟩
  · exact List.mem_flatMap.2 ⟨i, List.mem_range.2 h, by simp⟩
theorem all_mem (m k q : Nat) (h : q < 4 + m + 2 * k) : (q : Int) ∈ all (m : Int) (k : Int) m k := by
  unfold all
  rw [List.mem_append, List.mem_append]
  by_cases h1 : q < 4
  · left; left
    obtain rfl | rfl | rfl | rfl : q = 0 ∨ q = 1 ∨ q = 2 ∨ q = 3 := by omega
    all_goals decide
  · by_cases h2 : q < 4 + m
    · left; right
      have := mem_logs m (q - 4) (by omega)
      rwa [show (4 + ((q - 4 : Nat) : Int)) = (q : Int) by omega] at this
    · right
      by_cases h3 : q < 4 + m + k
      · have := (mem_area (4 + (m : Int)) k k (q - 4 - m) (by omega)).1
        rwa [show (4 + (m : Int) + ((q - 4 - m : Nat) : Int)) = (q : Int) by omega] at this
      · have := (mem_area (4 + (m : Int)) k k (q - 4 - m - k) (by omega)).2
        rwa [show (4 + (m : Int) + (k : Int) + ((q - 4 - m - k : Nat) : Int)) = (q : Int) by omega] at this

set_option maxHeartbeats 400000 in
theorem has_any (A : Option Addr) (l : List Int) (n cap : Nat) (x : Int) (w : World) (hn : n = l.length) (hr : Rd w w.heap.size A (l.map ei)) (hl : l.length ≤ 1000000000000) (hx : x ∈ l) :
    Calls Try.prog 54 #[.slice A n cap, .int .i64 x] w fun e w' => e = .returned (.bool true) ∧ w = w' := by
  subst hn
  have Hx := Lib.hid hx
  clear hx
  go_enter Try.func54, Try.ntmps54
  go_wp2
  go_loop [5] (fun i => ∃ k : Nat, k ≤ l.length ∧ i = .int .i64 k ∧ Hid (x ∈ l.drop k)) (fun i => l.length - (intOf i).toNat)
  case atStart => exact ⟨0, by omega, rfl, by rw [List.drop_zero]; exact Hx⟩
  case round =>
    obtain ⟨k, hk, rfl, hm⟩ := hrel
    by_cases hlt : k < l.length
    · obtain ⟨b, off, rfl, hbb, hc⟩ := hr.get (k := k) (by simpa using hlt)
      rw [List.getElem_map] at hc
      by_cases e : l[k] = x
      · have he := beq_yes e
        clear e
        go_wp2
        go_ret
        exact ⟨rfl, rfl⟩
      · have he := beq_no e
        have hm' := hm.out
        rw [← List.getElem_cons_drop hlt] at hm'
        have hnx := Lib.hid (show x ∈ l.drop (k + 1) from (List.mem_cons.1 hm').resolve_left fun h => e h.symm)
        clear e hm'
        go_wp2
        go_round
        case rel => exact ⟨k + 1, by omega, by go_num, hnx⟩
        case measure => simp [intOf]; omega
    · have h0 := hm.out
      rw [List.drop_of_length_le (by omega)] at h0
      exact absurd h0 (by simp)

/-- the geometry's own block, as the call laid it -/
def G3 (B : Nat) (a d g : Int) (w : World) : Prop := w.cell? ⟨B, 0, none⟩ = some (.int .i64 a) ∧ w.cell? ⟨B, 1, none⟩ = some (.int .i64 d) ∧ w.cell? ⟨B, 2, none⟩ = some (.int .i64 g) ∧ B < w.heap.size
theorem G3.on {B : Nat} {a d g : Int} {w w' : World} (h : G3 B a d g w) (b : Below w.heap.size w w') : G3 B a d g w' :=
  ⟨(b.cell (p := ⟨B, 0, none⟩) h.2.2.2).trans h.1, (b.cell (p := ⟨B, 1, none⟩) h.2.2.2).trans h.2.1, (b.cell (p := ⟨B, 2, none⟩) h.2.2.2).trans h.2.2.1, Nat.lt_of_lt_of_le h.2.2.2 b.size⟩
theorem G3.grown {B : Nat} {a d g : Int} {w w' : World} {r : Option Nat} (h : G3 B a d g w) (b : w.grownBy w' r) (hr : ∀ k, r = some k → B + 1 ≤ k) : G3 B a d g w' := by
  have hb : w'.heap[B]? = w.heap[B]? := b.block B h.2.2.2 (fun e => by have := hr B e.symm; omega)
  exact ⟨(World.cell?_of_block (a := ⟨B, 0, none⟩) hb).trans h.1, (World.cell?_of_block (a := ⟨B, 1, none⟩) hb).trans h.2.1, (World.cell?_of_block (a := ⟨B, 2, none⟩) hb).trans h.2.2.1, Nat.lt_of_lt_of_le h.2.2.2 b.size⟩
theorem area0 {a d g i : Int} (h0 : 0 ≤ i) (h : i < Geom.pagesOf a d g) : Geom.areaAt a d g (((0 : UInt64).toNat : Nat) : Int) i = 4 + g + i := by
  unfold Geom.areaAt; rw [if_pos ⟨h0, h⟩]; simp
theorem area1 {a d g i : Int} (h0 : 0 ≤ i) (h : i < Geom.pagesOf a d g) : Geom.areaAt a d g (((1 : UInt64).toNat : Nat) : Int) i = 4 + g + Geom.pagesOf a d g + i := by
  unfold Geom.areaAt; rw [if_pos ⟨h0, h⟩]; simp
theorem log_at {a d : Int} {m k : Nat} (hr : Geom.right a d m = true) (h : k < m) : Geom.logAt a d m k = 4 + (k : Int) := by
  unfold Geom.logAt; rw [if_pos ⟨hr, by omega⟩, Int.emod_eq_of_lt (by omega) (by omega)]

set_option maxHeartbeats 4000000 in
theorem walk (a d g : Int) (w : World) (ha0 : lo ≤ a) (ha1 : a ≤ hi) (hd0 : lo ≤ d) (hd1 : d ≤ hi) (hg0 : lo ≤ g) (hg1 : g ≤ hi) :
    Calls Try.prog 9 #[.agg #[.int .i64 a, .int .i64 d, .int .i64 g]] w fun e w' => e = .returned (.bool true) ∧ Below w.heap.size w w' := by
  obtain ⟨i0, hi0, hz0, hz1, hz2⟩ := info_parts infoi
  have bb := b1alloc w (.cells #[.int .i64 a, .int .i64 d, .int .i64 g] 35)
  have g3 : G3 w.heap.size a d g (w.alloc (.cells #[.int .i64 a, .int .i64 d, .int .i64 g] 35)) := ⟨by simp, by simp, by simp, by simp⟩
  by_cases hr : Geom.right a d g = true
  · obtain ⟨r1, r2, r3, r4, r5, r6⟩ := Geom.right_yes hr
    obtain ⟨m, rfl⟩ : ∃ m : Nat, g = (m : Int) := ⟨g.toNat, by omega⟩
    have hpg := Geom.pagesOf_bd a d m
    obtain ⟨pk, hpk⟩ : ∃ pk : Nat, Geom.pagesOf a d m = (pk : Int) := ⟨(Geom.pagesOf a d m).toNat, by omega⟩
    have hsz := Lib.hid (show Geom.sizeOf a d m = 4 + (m : Int) + 2 * (pk : Int) by rw [← hpk]; simp [Geom.sizeOf, hr])
    have Hr := Lib.hid hr
    have Hp := Lib.hid hpk
    have hpk85 : pk ≤ 85 := by omega
    clear hr hpk hpg
    go_enter Try.func9, Try.ntmps9
    go_wp2_with fail
    refine (Geom.right_any _ _ _ _ ha0 ha1 hd0 hd1 hg0 hg1).mono ?_
    rintro e w1 ⟨rfl, b1⟩
    rw [Hr.out]
    have bb := bt bb b1
    have g3 := g3.on b1
    go_wp2_with fail
    refine (Geom.root_any 0 _ (by rfl) _).mono ?_
    rintro e w1' ⟨rfl, rfl⟩
    go_wp2_with fail
    refine (Geom.root_any 1 _ (by rfl) _).mono ?_
    rintro e w1' ⟨rfl, rfl⟩
    go_wp2_with fail
    refine (Geom.super_any 0 _ (by rfl) _).mono ?_
    rintro e w1' ⟨rfl, rfl⟩
    go_wp2_with fail
    refine (Geom.super_any 1 _ (by rfl) _).mono ?_
    rintro e w1' ⟨rfl, rfl⟩
    go_wp2_with fail
    go_loopw [3, 4] (fun v i wr => ∃ k : Nat, k ≤ m ∧ i = .int .i64 k ∧ wr.ownsRow (w.heap.size + 1) 3 1 v (4 + k) ((all m pk k 0).map ei) ∧ Below w.heap.size w wr ∧ G3 w.heap.size a d m wr) (fun _ i _ => m - (intOf i).toNat)
    case atStart => exact ⟨0, by omega, rfl, World.ownsRow_lit _ _ 4 (by have := g3.2.2.2; omega) (by unfold maxLen; omega) rfl, bb.alloc bb.size _, g3.on (b1alloc _ _)⟩
    case round =>
      obtain ⟨k, hk, rfl, hown, hbel, h3⟩ := hrel
      have hk3 := h3
      obtain ⟨k0, k1, k2, ks⟩ := hk3
      by_cases hlt : k < m
      · have hlog := Lib.hid (log_at Hr.out hlt)
        go_wp2_with fail
        refine (Geom.log_any _ _ _ _ _ ha0 ha1 hd0 hd1 hg0 hg1 (by unfold lo; omega) (by unfold hi; omega)).mono ?_
        rintro e w2 ⟨rfl, b2⟩
        rw [hlog.out]
        have hown2 := own_on hown b2
        have hbel2 := bt hbel b2
        have h32 := h3.on b2
        have hb2 := Nat.succ_le_of_lt h32.2.2.2
        clear hown hbel h3 k0 k1 k2 ks
        go_wp2_with (at_builtin; refine wpList_append_rd _ rfl _ _ _ rfl (w.heap.size + 1) 3 i0 _ 1 8 Try.underlying48 hi0 hz0 hz1 hz2 rfl (by omega) _ (4 + k) _ rfl (hown2.alloc _) _ _ 1 1 [.int .i64 (4 + (k : Int))] rfl rfl (Rd.lit w2 _ _ _ (w2.heap.size + 1) rfl (by omega)) (one_int _ _) (by simp only [maxLen]; omega) (by omega) (le_alloc hb2 _) ?_; intro v1 w3 hown3 hg3 hat3)
        go_roundw
        case rel =>
          have hx : (all m pk k 0).map ei ++ [.int .i64 (4 + (k : Int))] = (all m pk (k + 1) 0).map ei := by unfold all; rw [logs_succ]; simp [areas]
          rw [hx] at hown3
          exact ⟨k + 1, by omega, by go_num, hown3, (hbel2.alloc hbel2.size _).grown hg3 (le_alloc hbel2.size _) (fun q hq => by have := own_block hown2 hq; omega), (h32.on (b1alloc _ _)).grown hg3 (fun q hq => own_block hown2 hq)⟩
        case measure => simp [intOf]; omega
      · obtain rfl : k = m := by omega
        go_wp2_with fail
        go_loopw [3, 5] (fun v i wr => ∃ j : Nat, j ≤ pk ∧ i = .int .i64 j ∧ wr.ownsRow (w.heap.size + 1) 3 1 v (4 + k + 2 * j) ((all k pk k j).map ei) ∧ Below w.heap.size w wr ∧ G3 w.heap.size a d k wr) (fun _ i _ => pk - (intOf i).toNat)
        case atStart => exact ⟨0, by omega, rfl, hown, hbel, h3⟩
        case round =>
          clear k0 k1 k2 ks hown hbel h3
          obtain ⟨j, hj, rfl, hown, hbel, h3⟩ := hrel
          have hk3 := h3
          obtain ⟨k0, k1, k2, ks⟩ := hk3
          by_cases hlt : j < pk
          · have e0 := Lib.hid (area0 (a := a) (d := d) (g := k) (i := j) (by omega) (by rw [Hp.out]; omega))
            have e1 := area1 (a := a) (d := d) (g := k) (i := j) (by omega) (by rw [Hp.out]; omega)
            rw [Hp.out] at e1
            have e1 := Lib.hid e1
            go_wp2_with fail
            refine (Geom.pages_any _ _ _ _ ha0 ha1 hd0 hd1 hg0 hg1).mono ?_
            rintro e w2 ⟨rfl, b2⟩
            rw [Hp.out]
            have hown2 := own_on hown b2
            have hbel2 := bt hbel b2
            have h32 := h3.on b2
            have hk3 := h32
            clear hown hbel h3 k0 k1 k2 ks
            obtain ⟨k0, k1, k2, ks⟩ := hk3
            go_wp2_with fail
            refine region_three [0] [1, 2, 3, 4, 5, 6] 7 (by kernel_rfl) (by kernel_rfl) (fun c d v a w h => by cases d <;> exact h) ?_
            simp only [preAct, preOne, opsAt, List.foldl_cons, List.foldl_nil, List.getElem?_cons_zero, List.getElem?_cons_succ, List.getD_cons_zero, List.getD_cons_succ, List.drop_succ_cons, List.drop_zero]
            have inbNe := InB.some
            repeat (refine wpQuiet_step (fun K hK => ?_); go_simp; first | (refine hK _ ?_; clear hK K) | (apply Exists.intro; refine ⟨?_, hK _ ?_⟩; (· (intro w' hw'; first | (go_at_call 53; refine (Geom.area_any _ _ _ 0 _ (by rfl) _ _ ha0 ha1 hd0 hd1 hg0 hg1 (by unfold lo; omega) (by unfold hi; omega)).mono ?_; rintro e w1 ⟨rfl, b1⟩; rw [e0.out]; exact ⟨rfl, hw'.on b1⟩) | (go_at_call 53; refine (Geom.area_any _ _ _ 1 _ (by rfl) _ _ ha0 ha1 hd0 hd1 hg0 hg1 (by unfold lo; omega) (by unfold hi; omega)).mono ?_; rintro e w1 ⟨rfl, b1⟩; rw [e1.out]; exact ⟨rfl, hw'.on b1⟩) | (have hcw := hw'.cell; go_simp; exact rfl))); clear hK K))
            refine wpQuiet_nil ?_
            intro wq hq
            clear inbNe
            have bq := hq.below
            have hown3 := own_on hown2 bq
            have hbel3 := bt hbel2 bq
            have h33 := h32.on bq
            have hb3 := Nat.succ_le_of_lt h33.2.2.2
            clear hown2 hbel2 h32 k0 k1 k2 ks hq bq
            go_wp2_with (at_builtin; refine wpList_append_rd _ rfl _ _ _ rfl (w.heap.size + 1) 3 i0 _ 1 8 Try.underlying48 hi0 hz0 hz1 hz2 rfl (by omega) _ (4 + k + 2 * j) _ rfl (hown3.alloc _) _ _ 2 2 [.int .i64 (4 + (k : Int) + (j : Int)), .int .i64 (4 + (k : Int) + (pk : Int) + (j : Int))] rfl rfl (Rd.lit wq _ _ _ (wq.heap.size + 1) rfl (by omega)) (by intro u hu; simp at hu; rcases hu with rfl | rfl <;> rfl) (by simp only [maxLen]; omega) (by omega) (le_alloc hb3 _) ?_; intro v1 w3 hown4 hg4 hat4)
            go_roundw
            case rel =>
              have hx : (all k pk k j).map ei ++ [.int .i64 (4 + (k : Int) + (j : Int)), .int .i64 (4 + (k : Int) + (pk : Int) + (j : Int))] = (all k pk k (j + 1)).map ei := by unfold all; rw [areas_succ]; simp
              rw [hx] at hown4
              exact ⟨j + 1, by omega, by go_num, by rw [show 4 + k + 2 * (j + 1) = 4 + k + 2 * j + 2 by omega]; exact hown4, (hbel3.alloc hbel3.size _).grown hg4 (le_alloc hbel3.size _) (fun q hq => by have := own_block hown3 hq; omega), (h33.on (b1alloc _ _)).grown hg4 (fun q hq => own_block hown3 hq)⟩
            case measure => simp [intOf]; omega
          · obtain rfl : j = pk := by omega
            go_wp2_with fail
            refine (Geom.pages_any _ _ _ _ ha0 ha1 hd0 hd1 hg0 hg1).mono ?_
            rintro e w2 ⟨rfl, b2⟩
            rw [Hp.out]
            have hown2 := own_on hown b2
            have hbel2 := bt hbel b2
            have h32 := h3.on b2
            have hk3 := h32
            clear hown hbel h3 k0 k1 k2 ks
            obtain ⟨k0, k1, k2, ks⟩ := hk3
            obtain ⟨A, c, rfl⟩ := own_form hown2
            go_wp2_with fail
            refine (Geom.size_any _ _ _ _ ha0 ha1 hd0 hd1 hg0 hg1).mono ?_
            rintro e w3 ⟨rfl, b3⟩
            rw [hsz.out]
            have hown3 := own_on hown2 b3
            have hbel3 := bt hbel2 b3
            have h33 := h32.on b3
            have hk3 := h33
            clear hown2 hbel2 h32 k0 k1 k2 ks
            obtain ⟨k0, k1, k2, ks⟩ := hk3
            have hne : (((4 + k + 2 * j : Nat) : Int) != 4 + (k : Int) + 2 * (j : Int)) = false := bne_no (by omega)
            go_wp2_with fail
            refine (Geom.size_any _ _ _ _ ha0 ha1 hd0 hd1 hg0 hg1).mono ?_
            rintro e w4 ⟨rfl, b4⟩
            rw [hsz.out]
            have hown4 := own_on hown3 b4
            have hbel4 := bt hbel3 b4
            have hR := Rd.own hown4
            have hal := all_len k j k j
            clear hown3 hbel3 h33 k0 k1 k2 ks hown4
            go_wp2_with fail
            go_loopw [6] (fun i wr => ∃ q : Nat, q ≤ 4 + k + 2 * j ∧ i = .int .i64 q ∧ Below w.heap.size w wr ∧ Rd wr wr.heap.size A ((all k j k j).map ei)) (fun i _ => 4 + k + 2 * j - (intOf i).toNat)
            case atStart => exact ⟨0, by omega, rfl, hbel4, hR⟩
            case round =>
              obtain ⟨q, hq, rfl, hbq, hRq⟩ := hrel
              by_cases hlt : q < 4 + k + 2 * j
              · go_wp2_with fail
                refine (has_any _ (all k j k j) _ _ _ _ hal.symm hRq (by omega) (all_mem k j q hlt)).mono ?_
                rintro e w5 ⟨rfl, rfl⟩
                go_wp2_with fail
                go_roundw
                case rel => exact ⟨q + 1, by omega, by go_num, hbq, hRq⟩
                case measure => simp [intOf]; omega
              · go_wp2_with fail
                refine (Geom.alive_any _).mono ?_
                rintro e w6 ⟨rfl, b6⟩
                go_wp2
                go_ret
                exact ⟨rfl, bt hbq b6⟩
  · have hr' : Geom.right a d g = false := by simpa using hr
    have hsz := Lib.hid (show Geom.sizeOf a d g = 0 by simp [Geom.sizeOf, hr'])
    have Hr := Lib.hid hr'
    clear hr hr'
    go_enter Try.func9, Try.ntmps9
    go_wp2_with fail
    refine (Geom.right_any _ _ _ _ ha0 ha1 hd0 hd1 hg0 hg1).mono ?_
    rintro e w1 ⟨rfl, b1⟩
    rw [Hr.out]
    have bb := bt bb b1
    obtain ⟨k0, k1, k2, ks⟩ := g3.on b1
    go_wp2_with fail
    refine (Geom.size_any _ _ _ _ ha0 ha1 hd0 hd1 hg0 hg1).mono ?_
    rintro e w2 ⟨rfl, b2⟩
    rw [hsz.out]
    have bb := bt bb b2
    go_wp2_with fail
    refine (Geom.alive_any _).mono ?_
    rintro e w3 ⟨rfl, b3⟩
    go_wp2
    go_ret
    exact ⟨rfl, bt bb b3⟩

set_option maxRecDepth 100000 in
theorem lifted (os : Os) (started : os.Started) (H : Type) (enc : TypeId × Value → H) :
    ReturnsInHanded {} Try.checked os 9 .any (Rows.geomApartSpec.pre6 enc Try.prog Try.f9 Rows.geomApartRow.domain false) (Rows.geomApartSpec.post enc Try.prog Try.f9 false true false false) := by
  refine returnsInHanded_of_change (C := Try.checked) own started (by kernel_rfl) Try.func9
    (ChangeSpec.witness6 (enc := enc) (C := Try.checked) false ⟨#[], #[.agg #[.int .i64 0, .int .i64 0, .int .i64 0]], []⟩ 8 (by kernel_rfl) (by kernel_rfl) (by kernel_rfl) (by kernel_rfl)) ?_
  intro W base args ds gs before hval0 hW hcnd _
  have hval : ∀ (j : Nat) t v, Try.f9.params[j]? = some t → args[j]? = some v → Value.okWide Try.prog W .any base t v := hval0
  have hW' := hW
  obtain ⟨p, q, hA0, hV, rfl, hfz, hnd⟩ := hW
  have hA : DataW.TrodAll enc Try.prog W 0 (fun _ => true) true Try.f9.params.toList args.toList ds p := hA0
  rw [Try.params9] at hA hval
  obtain ⟨v0, vs0, d0, ds0, p0, q0, hargs, rfl, rfl, h0, r0⟩ := trodAll_cons hA
  obtain ⟨rfl, rfl, rfl⟩ := trodAll_nil r0
  obtain rfl : args = #[v0] := by cases args; simp_all
  obtain ⟨rfl, rfl⟩ := trodVars_none hV
  have k0 := h0
  have lt0 := places_lt k0
  obtain ⟨c0a, c0b, c0c, y0a, y0b, y0c, m0, rfl, _, _, hy0a, hy0b, hy0c⟩ := open_agg3 Try.underlying35 (by kernel_rfl) (by kernel_rfl) (hval 0 35 v0 rfl rfl) h0
  obtain ⟨n0a, e0a, _, w0a⟩ := DataW.trod_int Try.underlying3 hy0a
  simp only [List.cons.injEq, and_true] at e0a
  subst e0a
  obtain ⟨n0b, e0b, _, w0b⟩ := DataW.trod_int Try.underlying3 hy0b
  simp only [List.cons.injEq, and_true] at e0b
  subst e0b
  obtain ⟨n0c, e0c, _, w0c⟩ := DataW.trod_int Try.underlying3 hy0c
  simp only [List.cons.injEq, and_true] at e0c
  subst e0c
  clear hA0 hval0
  refine (walk n0a n0b n0c W (wfi w0a).1 (wfi w0a).2 (wfi w0b).1 (wfi w0b).2 (wfi w0c).1 (wfi w0c).2).mono fun e W' ⟨he, bel⟩ => ?_
  subst he
  exact ⟨_, rfl, _, _, _, [], _, [], hW', trodAll_mk1 (shut_bool Try.underlying4 _), (trodAll_cons_mk (Below.trod laidOut (by kernel_rfl) (of_decide_eq_true (by kernel_rfl)) k0 bel lt0) trodAll_mk0), rfl, bel.frame _, fun h => by cases h⟩

theorem proved : Rows.GeomApartSaid :=
  OpenClaim.holds_of_wide 9 Try.f9 rfl rfl rfl rfl rfl rfl rfl ⟨rfl, rfl, rfl, rfl, rfl⟩ rfl rfl rfl rfl rfl (by kernel_rfl) Try.func9 (by kernel_rfl)
    (of_decide_eq_true (by kernel_rfl)) (by unfold Func.isWrapper; first | (rw [if_pos (by decide +kernel)]; kernel_rfl) | (rw [if_neg (by decide +kernel)]; exact ⟨rfl, rfl⟩))
    (fun os started H enc _ => lifted os started H enc)
#print axioms proved
end Go.Proofs.Ytknjkafjeicmbaa.GeomApart
