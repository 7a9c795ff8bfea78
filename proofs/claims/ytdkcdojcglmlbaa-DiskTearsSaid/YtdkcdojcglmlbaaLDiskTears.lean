/- DiskTears: for every input the law returns true: a write that is torn leaves its first bytes, and behind them what was there. No condition. -/
import Derived.Test.YtdkcdojcglmlbaaDiskL1
import Derived.Test.YtdkcdojcglmlbaaOpen
import Derived.Deep.RegionHeld3
namespace Go.Proofs.Ytdkcdojcglmlbaa.DiskTears
open Go.ChangeShapes Go.WideShapes Go.ChangeAt Go.RowKit Go.Joins
open Go.ChangeMaps (open_string shut_string)
open Go.Proofs.Ytdkcdojcglmlbaa.Disk
set_option linter.unusedVariables false

theorem _root_.Go.Proofs.Ytdkcdojcglmlbaa.Disk.New8.form {w w' : World} {l : List UInt8} {v : Value} (h : New8 w w' l v) : ∃ A c, v = .slice A l.length c ∧ Rd w' w'.heap.size A (l.map e8) := by
  obtain ⟨A, c, rfl, _, _, hr⟩ := h.rdN (fp := []) (by simp)
  exact ⟨A, c, rfl, hr.rd⟩
theorem fullP (n : Nat) (x : UInt8) (w : World) (hn : n ≤ 1000000) : Calls Try.prog 33 #[.int .i64 (n : Int), .int .u8 (x.toNat : Int)] w fun e w' => ∃ A c, e = .returned (.slice A n c) ∧ Rd w' w'.heap.size A ((List.replicate n x).map e8) ∧ Below w.heap.size w w' :=
  (full_any n _ rfl x _ rfl w hn).mono fun e w' ⟨A, c, he, ho, hb⟩ => ⟨A, c, by rw [he, List.length_replicate], Rd.own ho, hb⟩
theorem states (a b : UInt8) (z : Int) (l : List Int) : (put (new 1) 0 (List.replicate 512 a)).2 = 0 ∧ (write (put (new 1) 0 (List.replicate 512 a)).1 0 (List.replicate 512 b)).2 = 0 ∧
    (restart (write (put (new 1) 0 (List.replicate 512 a)).1 0 (List.replicate 512 b)).1 l 0 z).all = [(0, List.replicate 512 a), (0, List.replicate (cutAt z) b ++ List.replicate (512 - cutAt z) a)] ∧
    keptAt (restart (write (put (new 1) 0 (List.replicate 512 a)).1 0 (List.replicate 512 b)).1 l 0 z) 0 = List.replicate (cutAt z) b ++ List.replicate (512 - cutAt z) a := by
  have hc := cutAt_le z
  have hA : (List.replicate 512 a).length = 512 := List.length_replicate ..
  have hB : (List.replicate 512 b).length = 512 := List.length_replicate ..
  have hX : List.replicate (cutAt z) b ++ List.replicate (512 - cutAt z) a = (List.replicate 512 b).take (cutAt z) ++ (List.replicate 512 a).drop (cutAt z) := by
    rw [List.take_replicate, List.drop_replicate, Nat.min_eq_left hc]
  rw [hX]
  generalize List.replicate 512 a = A at *
  generalize List.replicate 512 b = B at *
  have hp : put (new 1) 0 A = ({ size := 1, pend := [], all := [(0, A)], fuse := -1, calls := 0, down := false }, 0) := by
    unfold put; simp [new, hA]
  have hw : write { size := 1, pend := [], all := [(0, A)], fuse := -1, calls := 0, down := false } 0 B = ({ size := 1, pend := [(0, B)], all := [(0, A)], fuse := -1, calls := 1, down := false }, 0) := by
    unfold write; simp [burn, hB]
  simp only [hp, hw]
  exact ⟨trivial, trivial, rfl, rfl⟩

set_option maxRecDepth 100000 in
set_option maxHeartbeats 2000000 in
theorem walk (a b : UInt8) (z : Int) (A : Option Addr) (l : List Int) (c : Nat) (w : World) (hz0 : -9223372036854775808 ≤ z) (hz1 : z ≤ 9223372036854775807) (hr : Rd w w.heap.size A (l.map (Value.int .i64))) (hc : l.length ≤ c) (hcm : c ≤ maxLen) (hwf : ∀ n ∈ l, -9223372036854775808 ≤ n ∧ n ≤ 9223372036854775807) :
    Calls Try.prog 6 #[.int .u8 (a.toNat : Int), .int .u8 (b.toNat : Int), .int .i64 z, .slice A l.length c] w fun e w' => e = .returned (.bool true) ∧ Below w.heap.size w w' := by
  by_cases h1 : 20 < l.length
  · go_enter Try.func6, Try.ntmps6
    go_wp2_with (go_at_call 30; refine (alive_any _).mono ?_; rintro e w' ⟨rfl, hw⟩)
    go_ret
    exact ⟨rfl, hw⟩
  · obtain ⟨g1, g2, g3, g4⟩ := states a b z l
    have z1 := sz_put (new 1) 0 (List.replicate 512 a)
    have z2 := sz_write (put (new 1) 0 (List.replicate 512 a)).1 0 (List.replicate 512 b)
    have z0 : (new 1).sz = 0 := rfl
    obtain ⟨r1, e1⟩ : ∃ r1, r1 = put (new 1) 0 (List.replicate 512 a) := ⟨_, rfl⟩
    rw [← e1] at g1 g2 g3 g4 z1 z2
    obtain ⟨r2, e2⟩ : ∃ r2, r2 = write r1.1 0 (List.replicate 512 b) := ⟨_, rfl⟩
    rw [← e2] at g2 g3 g4 z2
    have z3 := sz_restart r2.1 l 0 z
    obtain ⟨s3, e3⟩ : ∃ s3, s3 = restart r2.1 l 0 z := ⟨_, rfl⟩
    rw [← e3] at g3 g4 z3
    have hm := cutAt_le z
    have hmod : R1.modI z 513 = (cutAt z : Int) := by unfold R1.modI cutAt; rw [if_neg (by omega)]; omega
    obtain ⟨m, em⟩ : ∃ m, m = cutAt z := ⟨_, rfl⟩
    rw [← em] at g3 g4 hm hmod
    have hmd := R1.mod_any z 513 
    rw [hmod] at hmd
    obtain ⟨X, eX⟩ : ∃ X, X = List.replicate m b ++ List.replicate (512 - m) a := ⟨_, rfl⟩
    rw [← eX] at g3 g4
    have hXl : X.length = 512 := by rw [eX]; simp; omega
    have E1 := Lib.hid e1
    have E2 := Lib.hid e2
    have E3 := Lib.hid e3
    have EX := Lib.hid eX
    have G1 := Lib.hid g1
    have G2 := Lib.hid g2
    have G3 := Lib.hid g3
    have G4 := Lib.hid g4
    have HX := Lib.hid hXl
    have Hmd := Lib.hid hmd
    clear e1 e2 e3 eX g1 g2 g3 g4 hmod em hXl hmd
    go_enter Try.func6, Try.ntmps6
    go_wp2_with fail
    refine (new_any 1 w (by omega) (by omega)).mono ?_
    rintro e w1 ⟨hn, b1⟩
    rw [if_neg (by omega)] at hn
    obtain ⟨g, fp, rfl, hD, hfp⟩ := hn
    go_wp2_with fail
    refine (full_any 512 _ (by rfl) a _ (by rfl) _ (by omega)).mono ?_
    rintro e w2 ⟨A2, c2, rfl, own2, b2⟩
    go_wp2_with fail
    refine (put_any g fp (new 1) 0 A2 _ c2 (List.replicate 512 a) w2 (hD.on b2) (by omega) (by simp) (Rd.own own2)).mono ?_
    rintro e w3 ⟨rfl, fp3, hD3, k3, f3⟩
    rw [← E1.out] at hD3 ⊢
    rw [G1.out]
    have bw2 := bt b1 b2
    have q3 := f3.ge hfp bw2.size
    have bw3 : Below w.heap.size w w3 := bw2.trans (k3.below hfp bw2.size)
    clear k3 f3 own2
    go_wp2_with fail
    refine (full_any 512 _ (by rfl) b _ (by rfl) _ (by omega)).mono ?_
    rintro e w4 ⟨A4, c4, rfl, own4, b4⟩
    go_wp2_with fail
    refine (write_any g fp3 r1.1 0 A4 _ c4 (List.replicate 512 b) w4 (hD3.on b4) (by omega) (by simp) (RdN.own own4 hD3.lt)).mono ?_
    rintro e w5 ⟨rfl, fp5, hD5, k5, f5⟩
    rw [← E2.out] at hD5 ⊢
    rw [G2.out]
    have bw4 := bt bw3 b4
    have q5 := f5.ge q3 bw4.size
    have k5' := k5.below q3 bw4.size
    have bw5 : Below w.heap.size w w5 := bw4.trans k5'
    clear k5 f5 own4
    go_wp2_with fail
    refine (restart_any g fp5 r2.1 l A l.length c 0 z w5 hD5 (by omega) rfl (RdN.of (hr.below bw5) q5 bw5.size) (by omega) (by omega) (by omega) hz0 hz1).mono ?_
    rintro e w6 ⟨rfl, fp6, hD6, k6, f6⟩
    rw [← E3.out] at hD6
    have q6 := f6.ge q5 bw5.size
    have bw6 : Below w.heap.size w w6 := bw5.trans (k6.below q5 bw5.size)
    clear k6 f6
    go_wp2_with fail
    refine (Hmd.out w6 hz0 hz1 (by omega) (by omega)).mono ?_
    rintro e w7 ⟨rfl, rfl⟩
    go_wp2_with fail
    refine (history_any g fp6 s3 _ hD6 (by omega)).mono ?_
    rintro e w8 ⟨v8, rfl, hN8, b8⟩
    rw [G3.out] at hN8
    have hK := fun W' (hW : Below w8.heap.size w8 W') => kept_any g fp6 s3 0 W' ((hD6.on b8).on hW)
    rw [G4.out] at hK
    have HK := Lib.hid hK
    have HF1 := Lib.hid (fun W' => fullP m b W' (by omega))
    have HF2 := Lib.hid (fun W' => fullP (512 - m) a W' (by omega))
    have hJ := fun A' B' c' d' W' h1 h2 => R1.join_any A' B' (List.replicate m b) (List.replicate (512 - m) a) m (512 - m) c' d' W' (by simp) (by simp) h1 h2 (by simp; omega)
    rw [← EX.out] at hJ
    have HJ := Lib.hid hJ
    have hS := fun A' B' c' d' W' h1 h2 => R1.same_any A' B' X X X.length X.length c' d' W' rfl rfl h1 h2 (by rw [HX.out]; omega) (by rw [HX.out]; omega)
    rw [R1.sameB_self] at hS
    have HS := Lib.hid hS
    obtain ⟨acs, own8, ents8⟩ := hN8
    obtain ⟨gh, ch, rfl, _⟩ := own_some own8 (by simp)
    obtain ⟨u0, u1, _, hu1, hE⟩ := ents8 1 (by simp)
    obtain ⟨_, bb, off, cx, cs8, t8, rfl, _, _, _, hb8, _, hrg8⟩ := hE
    have hcell : w8.cell? ⟨gh, 3, none⟩ = some (.slice (some ⟨bb, off, none⟩) X.length cx) := (World.ownsRow.cellAt own8 3 (by simp)).trans hu1
    have hrd8 : Rd w8 w8.heap.size (some ⟨bb, off, none⟩) (X.map e8) := fun _ => ⟨bb, off, rfl, lt_of_block hb8, fun i hi => hrg8 i _ (List.getElem?_eq_getElem hi)⟩
    have hgh : gh < w8.heap.size := (own8.lt _ rfl).2
    have c0 : Below w8.heap.size w8 w8.drew := (Below.refl _ _).drew
    have i0 : ∀ W', Below w8.heap.size w8 W' → W'.cell? ⟨gh, 3, none⟩ = some (.slice (some ⟨bb, off, none⟩) X.length cx) := fun W' h => (h.cell (p := ⟨gh, 3, none⟩) hgh).trans hcell
    have I0 := Lib.hid i0
    have hsub : IntKind.i64.wrap ((512 : Int) - (m : Int)) = ((512 - m : Nat) : Int) := by rw [wrap_small (by omega) (by omega)]; omega
    have Hsub := Lib.hid hsub
    clear hsub
    have tK1 : True := trivial
    have tF1 : True := trivial
    have tS1 : True := trivial
    simp only [List.length_cons, List.length_nil, Nat.zero_add, Nat.reduceAdd] at *
    clear hK hJ hS own8 ents8 hu1 hb8 hrg8 hcell i0 hD hD3 hD5
    go_wp2_with fail
    go_region_held3 (fun w' => w'.cell? ⟨gh, 3, none⟩ = some (.slice (some ⟨bb, off, none⟩) X.length cx)) (first | exact I0.out _ c0 | exact I0.out _ c1 | exact I0.out _ c2' | exact I0.out _ c3 | exact I0.out _ c4' | exact I0.out _ c5 | exact I0.out _ c6 | exact I0.out _ c7 | exact I0.out _ c8) (first
      | (go_at_call 38; have _t := tK1; refine (HK.out _ c0).mono ?_; rintro e x1 ⟨v1, rfl, n1, y1⟩; obtain ⟨A1, d1, rfl, rd1⟩ := n1.form; have c1 := bt c0 y1; clear tK1)
      | (go_at_call 33; have _t := tF1; refine (HF1.out _).mono ?_; rintro e x2 ⟨A2', d2, rfl, rd2, y2⟩; have c2' := bt c1 y2; have rd12 := rd1.on y2; clear tF1)
      | (go_at_call 33; rw [Hsub.out]; refine (HF2.out _).mono ?_; rintro e x3 ⟨A3', d3, rfl, rd3, y3⟩; have c3 := bt c2' y3; have rd13 := rd12.on y3; have rd23 := rd2.on y3)
      | (go_at_call 17; refine (HJ.out _ _ _ _ _ rd23 rd3).mono ?_; rintro e x4 ⟨A4', d4, rfl, own4', y4⟩; have c4' := bt c3 y4; have rd14 := rd13.on y4; have rd44 := Rd.own own4')
      | (go_at_call 19; have _t := tS1; refine (HS.out _ _ _ _ _ rd14 rd44).mono ?_; rintro e x5 ⟨rfl, y5⟩; have c5 := bt c4' y5; clear tS1)
      | (go_at_call 38; refine (HK.out _ c5).mono ?_; rintro e x6 ⟨v6, rfl, n6, y6⟩; obtain ⟨A6, d6, rfl, rd6⟩ := n6.form; have c6 := bt c5 y6; have rd86 := hrd8.on c6)
      | (go_at_call 19; refine (HS.out _ _ _ _ _ rd86 rd6).mono ?_; rintro e x7 ⟨rfl, y7⟩; have c7 := bt c6 y7)
      | (go_at_call 30; refine (alive_any _).mono ?_; rintro e x8 ⟨rfl, y8⟩; have c8 := bt c7 y8))
    go_wp2
    go_ret
    exact ⟨rfl, bt (bt bw6 b8) c8⟩
set_option maxRecDepth 100000 in
theorem lifted (os : Os) (started : os.Started) (H : Type) (enc : TypeId × Value → H) :
    ReturnsInHanded {} Try.checked os 6 .any (Rows.diskTearsSpec.pre6 enc Try.prog Try.f6 Rows.diskTearsRow.domain false) (Rows.diskTearsSpec.post enc Try.prog Try.f6 false true false false) := by
  refine returnsInHanded_of_change (C := Try.checked) own started (by kernel_rfl) Try.func6
    (ChangeSpec.witness6 (enc := enc) (C := Try.checked) false ⟨#[], #[.int .u8 0, .int .u8 0, .int .i64 0, .slice none 0 0], []⟩ 8 (by kernel_rfl) (by kernel_rfl) (by kernel_rfl) (by kernel_rfl)) ?_
  intro W base args ds gs before hval0 hW hcnd _
  have hval : ∀ (j : Nat) t v, Try.f6.params[j]? = some t → args[j]? = some v → Value.okWide Try.prog W .any base t v := hval0
  have hW' := hW
  obtain ⟨p, q, hA0, hV, rfl, hfz, hnd⟩ := hW
  have hA : DataW.TrodAll enc Try.prog W 0 (fun _ => true) true Try.f6.params.toList args.toList ds p := hA0
  rw [Try.params6] at hA hval
  obtain ⟨v0, vs0, d0, ds0, p0, q0, hargs, rfl, rfl, h0, r0⟩ := trodAll_cons hA
  obtain ⟨v1, vs1, d1, ds1, p1, q1, rfl, rfl, rfl, h1, r1⟩ := trodAll_cons r0
  obtain ⟨v2, vs2, d2, ds2, p2, q2, rfl, rfl, rfl, h2, r2⟩ := trodAll_cons r1
  obtain ⟨v3, vs3, d3, ds3, p3, q3, rfl, rfl, rfl, h3, r3⟩ := trodAll_cons r2
  obtain ⟨rfl, rfl, rfl⟩ := trodAll_nil r3
  obtain rfl : args = #[v0, v1, v2, v3] := by cases args; simp_all
  obtain ⟨rfl, rfl⟩ := trodVars_none hV
  have k0 := h0
  have lt0 := places_lt k0
  obtain ⟨n0, rfl, _, _, w0⟩ := open_int Try.underlying5 (hval 0 5 v0 rfl rfl) h0
  obtain ⟨x0, rfl⟩ := wf8 w0
  have k1 := h1
  have lt1 := places_lt k1
  obtain ⟨n1, rfl, _, _, w1⟩ := open_int Try.underlying5 (hval 1 5 v1 rfl rfl) h1
  obtain ⟨x1, rfl⟩ := wf8 w1
  have k2 := h2
  have lt2 := places_lt k2
  obtain ⟨n2, rfl, _, _, w2⟩ := open_int Try.underlying3 (hval 2 3 v2 rfl rfl) h2
  have k3 := h3
  have lt3 := places_lt k3
  obtain ⟨a3, len3, cap3, rfl⟩ := okWide_slice Try.underlying58 (hval 3 58 v3 rfl rfl)
  obtain ⟨fuel3, hf3⟩ := h3
  obtain ⟨l3, rfl, rr3, rc3, rm3, rw3⟩ := ints_of rfl Try.underlying58 Try.underlying3 (by kernel_rfl) hf3
  clear hA0 hval0
  refine (walk x0 x1 n2 a3 l3 cap3 W (wfi w2).1 (wfi w2).2 rr3 rc3 rm3 rw3).mono fun e W' ⟨he, bel⟩ => ?_
  subst he
  exact ⟨_, rfl, _, _, _, [], _, [], hW', trodAll_mk1 (shut_bool Try.underlying4 _), (trodAll_cons_mk (Below.trod laidOut (by kernel_rfl) (of_decide_eq_true (by kernel_rfl)) k0 bel lt0) (trodAll_cons_mk (Below.trod laidOut (by kernel_rfl) (of_decide_eq_true (by kernel_rfl)) k1 bel lt1) (trodAll_cons_mk (Below.trod laidOut (by kernel_rfl) (of_decide_eq_true (by kernel_rfl)) k2 bel lt2) (trodAll_cons_mk (Below.trod laidOut (by kernel_rfl) (of_decide_eq_true (by kernel_rfl)) k3 bel lt3) trodAll_mk0)))), rfl, bel.frame _, fun h => by cases h⟩

theorem proved : Rows.DiskTearsSaid :=
  OpenClaim.holds_of_wide 6 Try.f6 rfl rfl rfl rfl rfl rfl rfl ⟨rfl, rfl, rfl, rfl, rfl⟩ rfl rfl rfl rfl rfl (by kernel_rfl) Try.func6 (by kernel_rfl)
    (of_decide_eq_true (by kernel_rfl)) (by unfold Func.isWrapper; first | (rw [if_pos (by decide +kernel)]; kernel_rfl) | (rw [if_neg (by decide +kernel)]; exact ⟨rfl, rfl⟩))
    (fun os started H enc _ => lifted os started H enc)
#print axioms proved
end Go.Proofs.Ytdkcdojcglmlbaa.DiskTears
