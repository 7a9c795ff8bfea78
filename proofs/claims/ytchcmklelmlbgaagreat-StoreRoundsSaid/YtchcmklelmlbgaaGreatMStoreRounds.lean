/- StoreRounds: for every input the law returns true: of many commits, round and round through a small log, the last ones are what is opened, and lives rise. No condition. -/
import Derived.Test.YtchcmklelmlbgaaGreatStoreRndsI
namespace Go.Proofs.YtchcmklelmlbgaaGreat.StoreRounds
open Go.ChangeShapes Go.WideShapes Go.ChangeAt Go.RowKit Go.Joins
open Go.ChangeMaps (open_string shut_string)
open Go.Proofs.YtchcmklelmlbgaaGreat.Sto
open Sup (Gb gv gcell gthree srightF UpN up_new srightF_new newN_any)
open Sec (symbolic_any)
open Geom (lo hi pagesOf right)
open Disk (St DAt new)
open Wal (Pr Tr PrOk TrOk infoPg badB fitsB whyF badB_no wrongB)
set_option linter.unusedVariables false
set_option maxRecDepth 100000
theorem _root_.Go.Proofs.YtchcmklelmlbgaaGreat.Sto.SH.lens {w0 w : World} {X R L g : Nat} {fp : List Nat} {gS bS : Nat} {ga gd gl : Int} {n : Nat} {y : RS} {t : Nat} (h : SH w0 w X R L g fp gS bS ga gd gl n y t) : y.pages.length ≤ 85 ∧ ∀ b ∈ y.pages, b.length ≤ 479 := by
  obtain ⟨z, s, l, h1, h2, _⟩ := h
  obtain ⟨zo, e1, _⟩ := h2.zok
  have hpb := Geom.pagesOf_bd ga gd gl
  have hzl := zo.len
  rw [e1]
  exact ⟨by omega, h2.pageLen⟩
def lR (P i m : Nat) : List Pg := (List.range m).map fun k => ⟨(((i + k) % P : Nat) : Int), [UInt8.ofNat i, UInt8.ofNat k]⟩
theorem lR_len (P i m : Nat) : (lR P i m).length = m := by simp [lR]
theorem lR_succ (P i m : Nat) : lR P i (m + 1) = lR P i m ++ [⟨(((i + m) % P : Nat) : Int), [UInt8.ofNat i, UInt8.ofNat m]⟩] := by simp [lR, List.range_succ]
def yR (ga gd gl : Int) (P m : Nat) : Nat → RS
  | 0 => RS.new P
  | i + 1 => ((yR ga gd gl P m i).commit ga gd gl (lR P i m) (UInt64.ofNat i)).1
theorem lR_ok {ga gd gl : Int} {P m : Nat} (hP : (P : Int) = pagesOf ga gd gl) (h0 : 0 < P) (i : Nat) : badB ga gd gl (lR P i m) = false := by
  apply badB_no
  intro j hj
  have hj' : j < m := by rw [lR_len] at hj; exact hj
  have e : (lR P i m)[j] = ⟨(((i + j) % P : Nat) : Int), [UInt8.ofNat i, UInt8.ofNat j]⟩ := by simp [lR]
  rw [e]
  have := Nat.mod_lt (i + j) h0
  unfold wrongB
  simp only [List.length_cons, List.length_nil]
  rw [decide_eq_false (by omega), decide_eq_false (by omega), decide_eq_false (by omega)]; rfl
theorem commit_fine {ga gd gl : Int} {y : RS} {l : List Pg} {gen : UInt64} (hd : y.due = false) (hb : badB ga gd gl l = false) (hf : fitsB ga gd gl l.length = true) :
    (y.commit ga gd gl l gen).2 = 0 ∧ (y.commit ga gd gl l gen).1.due = false ∧ (y.commit ga gd gl l gen).1.gen = gen ∧ ((y.commit ga gd gl l gen).1.life = y.life ∨ (y.commit ga gd gl l gen).1.life = y.life + 1) := by
  have hnd : ¬ y.due = true := by rw [hd]; decide
  have hw : whyF ga gd gl y.seq l = 0 ∨ whyF ga gd gl y.seq l = 5 := by
    unfold whyF
    rw [if_neg (by rw [hb]; decide), if_neg (by rw [hf]; decide)]
    split
    · exact .inr rfl
    · exact .inl rfl
  unfold RS.commit
  rw [if_neg hnd]
  by_cases h0 : whyF ga gd gl y.seq l = 0
  · rw [if_pos h0]; exact ⟨rfl, hd, rfl, .inl rfl⟩
  · rw [if_neg h0, if_pos (hw.resolve_left h0)]; exact ⟨rfl, rfl, rfl, .inr rfl⟩
theorem yR_fine {ga gd gl : Int} {P m : Nat} (hr : right ga gd gl = true) (hP : (P : Int) = pagesOf ga gd gl) (h0 : 0 < P) (hm : (m : Int) < gl) : ∀ i : Nat, (yR ga gd gl P m i).due = false ∧ (yR ga gd gl P m i).life.toNat ≤ i + 1 := by
  have hf : ∀ i, fitsB ga gd gl ((lR P i m).length) = true := fun i => by
    unfold fitsB
    rw [hr, lR_len, decide_eq_true (by omega), decide_eq_true hm]; rfl
  intro i
  induction i with
  | zero => exact ⟨rfl, by show (1 : UInt64).toNat ≤ _; simp⟩
  | succ i ih =>
    obtain ⟨_, a2, _, a4⟩ := commit_fine (gen := UInt64.ofNat i) ih.1 (lR_ok hP h0 i) (hf i)
    exact ⟨a2, life_le a4 ih.2⟩
theorem round_fine {ga gd gl : Int} {P m : Nat} (hr : right ga gd gl = true) (hP : (P : Int) = pagesOf ga gd gl) (h0 : 0 < P) (hm : (m : Int) < gl) (i : Nat) (hi : i ≤ 100) :
    ((yR ga gd gl P m i).commit ga gd gl (lR P i m) (UInt64.ofNat i)).2 = 0 ∧ (yR ga gd gl P m (i + 1)).gen = UInt64.ofNat i ∧ ¬ ((yR ga gd gl P m (i + 1)).life.toNat : Int) < ((yR ga gd gl P m i).life.toNat : Int) := by
  have hf : fitsB ga gd gl ((lR P i m).length) = true := by
    unfold fitsB
    rw [hr, lR_len, decide_eq_true (by omega), decide_eq_true hm]; rfl
  obtain ⟨a1, a2, a3, a4⟩ := commit_fine (gen := UInt64.ofNat i) (yR_fine hr hP h0 hm i).1 (lR_ok hP h0 i) hf
  have hl := (yR_fine hr hP h0 hm i).2
  refine ⟨a1, a3, ?_⟩
  show ¬ (((yR ga gd gl P m i).commit ga gd gl (lR P i m) (UInt64.ofNat i)).1.life.toNat : Int) < _
  rcases a4 with e | e
  · rw [e]; omega
  · rw [e]
    have : ((yR ga gd gl P m i).life + 1).toNat = ((yR ga gd gl P m i).life.toNat + 1) % 18446744073709551616 := by simp [UInt64.toNat_add]
    omega
theorem lit2 (wp : World) (r : Nat) (x y : UInt8) (hr : r ≤ 1000) : Rd ((wp.alloc (.cells #[.int .u8 (x.toNat : Int), .int .u8 (y.toNat : Int)] 5)).alloc (.cells #[.int .i64 (r : Int), .slice (some ⟨wp.heap.size, 0, none⟩) 2 2] 53)) (wp.heap.size + 2) (some ⟨wp.heap.size + 1, 0, none⟩) [.int .i64 (r : Int), .slice (some ⟨wp.heap.size, 0, none⟩) 2 2] ∧
    PrOk ((wp.alloc (.cells #[.int .u8 (x.toNat : Int), .int .u8 (y.toNat : Int)] 5)).alloc (.cells #[.int .i64 (r : Int), .slice (some ⟨wp.heap.size, 0, none⟩) 2 2] 53)) wp.heap.size ⟨(r : Int), some ⟨wp.heap.size, 0, none⟩, 2, [x, y]⟩ := by
  have e : (wp.alloc (.cells #[.int .u8 (x.toNat : Int), .int .u8 (y.toNat : Int)] 5)).heap.size = wp.heap.size + 1 := by simp
  have h1 := Rd.lit (wp.alloc (.cells #[.int .u8 (x.toNat : Int), .int .u8 (y.toNat : Int)] 5)) #[.int .i64 (r : Int), .slice (some ⟨wp.heap.size, 0, none⟩) 2 2] 53 [.int .i64 (r : Int), .slice (some ⟨wp.heap.size, 0, none⟩) 2 2] (wp.heap.size + 2) rfl (by rw [e]; omega)
  rw [e] at h1
  refine ⟨h1, fun _ => ⟨wp.heap.size, 0, #[.int .u8 (x.toNat : Int), .int .u8 (y.toNat : Int)], rfl, Nat.le_refl _, ?_, fun i hi => ?_⟩, by simp, by unfold maxLen; simp, by simp, by show (r : Int) ≤ 1000; omega, by simp⟩
  · rw [heap_alloc_old _ _ (by rw [e]; omega)]
    exact heap_alloc_new wp _
  · match i, hi with
    | 0, _ => rfl
    | 1, _ => rfl
theorem tr_app {w w2 : World} {B : Nat} {t : Tr} {p : Pr} {v : Value} (h : TrOk w B none t) (hp : PrOk w B p) (o : w2.ownsRow B 53 2 v (t.ps.length + 1) (t.ps.flatMap Pr.cells ++ Pr.cells p)) (g : w.grownBy w2 (Value.slice t.A t.ps.length t.c).ownBlock) : ∃ t' : Tr, v = .slice t'.A t'.ps.length t'.c ∧ TrOk w2 B none t' ∧ t'.ps = t.ps ++ [p] := by
  obtain ⟨A, c, rfl⟩ := own_form o
  have hk : ∀ (j : Nat) (cs : Array Value), B ≤ j → w.heap[j]? = some (Obj.cells cs 5 (0, 0)) → w2.heap[j]? = w.heap[j]? := fun j cs _ hj => by
    refine g.block j (lt_of_block hj) (fun e => ?_)
    have hr := h.row
    unfold Tr.sl at hr
    rcases hr.2 with ⟨hv, _⟩ | ⟨g', cap, cur, hv, hg, hh, _⟩
    · rw [hv] at e; cases e
    · rw [hv] at e
      simp [Value.ownBlock] at e
      rw [e, hh] at hj
      injection hj with h1
      injection h1 with _ h2 _
      cases h2
  refine ⟨⟨A, c, t.ps ++ [p], 0⟩, by simp, ⟨?_, fun g h => (by simp), fun q hq => ?_⟩, rfl⟩
  · show w2.ownsRow B 53 2 (.slice A (t.ps ++ [p]).length c) (t.ps ++ [p]).length ((t.ps ++ [p]).flatMap Pr.cells)
    rw [List.flatMap_append, List.length_append]
    simpa using o
  · rcases List.mem_append.1 hq with hq | hq
    · exact (h.pages q hq).keepU hk
    · rw [List.mem_singleton] at hq
      rw [hq]
      exact hp.keepU hk
theorem tr_on {w w2 : World} {B : Nat} {t : Tr} (h : TrOk w B none t) (b : Below w.heap.size w w2) : TrOk w2 B none t := h.keep (fun j cs _ hj => b.block j (lt_of_block hj)) (fun j cs _ _ hj => b.block j (lt_of_block hj)) (fun g _ => by simp)
set_option maxHeartbeats 4000000 in
theorem walk (ga gd gl : Int) (nn sz : Int) (w : World) (ha0 : -9223372036854775808 ≤ ga) (ha1 : ga ≤ 9223372036854775807) (hd0 : -9223372036854775808 ≤ gd) (hd1 : gd ≤ 9223372036854775807) (hg0 : -9223372036854775808 ≤ gl) (hg1 : gl ≤ 9223372036854775807) (hk0 : -9223372036854775808 ≤ nn) (hk1 : nn ≤ 9223372036854775807) (hs0 : -9223372036854775808 ≤ sz) (hs1 : sz ≤ 9223372036854775807) :
    Calls Tryz.prog 4 #[gv ga gd gl, .int .i64 nn, .int .i64 sz] w fun e w' => e = .returned (.bool true) ∧ Below w.heap.size w w' := by
  have hG : Gb ga gd gl := ⟨ha0, ha1, hd0, hd1, hg0, hg1⟩
  obtain ⟨wA, hwA⟩ : ∃ q, q = w.alloc (.cells #[.int .i64 ga, .int .i64 gd, .int .i64 gl] 23) := ⟨_, rfl⟩
  have F := Lib.hid (show Blk wA w.heap.size (gcell ga gd gl) from by rw [hwA]; exact Blk.new w (gcell ga gd gl) 23)
  have hltF := F.out.lt
  have b0 : Below w.heap.size w wA := by rw [hwA]; exact b1alloc w _
  have HWA := Lib.hid hwA
  obtain ⟨m0, m1, m2⟩ := gthree F.out
  have HR := Lib.hid (fun W => Geom.rright_any ga gd gl W hG.a0 hG.a1 hG.d0 hG.d1 hG.g0 hG.g1)
  have HS := Lib.hid (fun W => Geom.rsize_any ga gd gl W hG.a0 hG.a1 hG.d0 hG.d1 hG.g0 hG.g1)
  have HP := Lib.hid (fun W => Geom.rpages_any ga gd gl W hG.a0 hG.a1 hG.d0 hG.d1 hG.g0 hG.g1)
  have hal := Lib.hid (fun W => alive_any W)
  clear hwA ha0 ha1 hd0 hd1 hg0 hg1 hk0 hk1 hs0 hs1
  cases hr : right ga gd gl with
  | false =>
    rw [hr] at HR
    clear hr hG HS
    go_enter Tryz.func4, Tryz.ntmps4
    go_upto_region 1 with (fail)
    rw [← HWA.out]
    go_wp2_with (first
          | (go_at_call 9; refine (HR.out _).mono ?_; rintro e w1 ⟨rfl, b1⟩; have c1 := bt b0 b1; clear m0 m1 m2; obtain ⟨m0, m1, m2⟩ := gthree (F.out.on b1))
          | (go_at_call 22; refine (HP.out _).mono ?_; rintro e w2 ⟨rfl, b2⟩; have c2 := bt c1 b2; clear m0 m1 m2; obtain ⟨m0, m1, m2⟩ := gthree (F.out.on (bt b1 b2)))
          | (go_at_call 10; refine (hal.out _).mono ?_; rintro e w9 ⟨rfl, b9⟩))
    go_ret
    exact ⟨rfl, bt (bt b0 b1) b9⟩
    
  | true =>
  rw [hr] at HR
  obtain ⟨P, hP⟩ : ∃ P : Nat, (P : Int) = pagesOf ga gd gl := ⟨(pagesOf ga gd gl).toNat, by have := Geom.pagesOf_bd ga gd gl; omega⟩
  rw [← hP] at HP
  by_cases h2 : 30 < P
  · have t2 : (30 : Int) < (P : Int) := by omega
    clear hr hG HS hP h2
    go_enter Tryz.func4, Tryz.ntmps4
    go_upto_region 1 with (fail)
    rw [← HWA.out]
    go_wp2_with (first
          | (go_at_call 9; refine (HR.out _).mono ?_; rintro e w1 ⟨rfl, b1⟩; have c1 := bt b0 b1; clear m0 m1 m2; obtain ⟨m0, m1, m2⟩ := gthree (F.out.on b1))
          | (go_at_call 22; refine (HP.out _).mono ?_; rintro e w2 ⟨rfl, b2⟩; have c2 := bt c1 b2; clear m0 m1 m2; obtain ⟨m0, m1, m2⟩ := gthree (F.out.on (bt b1 b2)))
          | (go_at_call 10; refine (hal.out _).mono ?_; rintro e w9 ⟨rfl, b9⟩))
    go_ret
    exact ⟨rfl, bt (bt c1 b2) b9⟩
    
  have t2 : ¬ (30 : Int) < (P : Int) := by omega
  by_cases h3 : nn < 1
  · clear hr hG HS hP h2
    go_enter Tryz.func4, Tryz.ntmps4
    go_upto_region 1 with (fail)
    rw [← HWA.out]
    go_wp2_with (first
          | (go_at_call 9; refine (HR.out _).mono ?_; rintro e w1 ⟨rfl, b1⟩; have c1 := bt b0 b1; clear m0 m1 m2; obtain ⟨m0, m1, m2⟩ := gthree (F.out.on b1))
          | (go_at_call 22; refine (HP.out _).mono ?_; rintro e w2 ⟨rfl, b2⟩; have c2 := bt c1 b2; clear m0 m1 m2; obtain ⟨m0, m1, m2⟩ := gthree (F.out.on (bt b1 b2)))
          | (go_at_call 10; refine (hal.out _).mono ?_; rintro e w9 ⟨rfl, b9⟩))
    go_ret
    exact ⟨rfl, bt (bt c1 b2) b9⟩
    
  by_cases h4 : 40 < nn
  · clear hr hG HS hP h2
    go_enter Tryz.func4, Tryz.ntmps4
    go_upto_region 1 with (fail)
    rw [← HWA.out]
    go_wp2_with (first
          | (go_at_call 9; refine (HR.out _).mono ?_; rintro e w1 ⟨rfl, b1⟩; have c1 := bt b0 b1; clear m0 m1 m2; obtain ⟨m0, m1, m2⟩ := gthree (F.out.on b1))
          | (go_at_call 22; refine (HP.out _).mono ?_; rintro e w2 ⟨rfl, b2⟩; have c2 := bt c1 b2; clear m0 m1 m2; obtain ⟨m0, m1, m2⟩ := gthree (F.out.on (bt b1 b2)))
          | (go_at_call 10; refine (hal.out _).mono ?_; rintro e w9 ⟨rfl, b9⟩))
    go_ret
    exact ⟨rfl, bt (bt c1 b2) b9⟩
    
  by_cases h5 : sz < 0
  · clear hr hG HS hP h2
    go_enter Tryz.func4, Tryz.ntmps4
    go_upto_region 1 with (fail)
    rw [← HWA.out]
    go_wp2_with (first
          | (go_at_call 9; refine (HR.out _).mono ?_; rintro e w1 ⟨rfl, b1⟩; have c1 := bt b0 b1; clear m0 m1 m2; obtain ⟨m0, m1, m2⟩ := gthree (F.out.on b1))
          | (go_at_call 22; refine (HP.out _).mono ?_; rintro e w2 ⟨rfl, b2⟩; have c2 := bt c1 b2; clear m0 m1 m2; obtain ⟨m0, m1, m2⟩ := gthree (F.out.on (bt b1 b2)))
          | (go_at_call 10; refine (hal.out _).mono ?_; rintro e w9 ⟨rfl, b9⟩))
    go_ret
    exact ⟨rfl, bt (bt c1 b2) b9⟩
    
  by_cases h6 : gl ≤ sz
  · clear hr hG HS hP h2
    go_enter Tryz.func4, Tryz.ntmps4
    go_upto_region 1 with (fail)
    rw [← HWA.out]
    go_wp2_with (first
          | (go_at_call 9; refine (HR.out _).mono ?_; rintro e w1 ⟨rfl, b1⟩; have c1 := bt b0 b1; clear m0 m1 m2; obtain ⟨m0, m1, m2⟩ := gthree (F.out.on b1))
          | (go_at_call 22; refine (HP.out _).mono ?_; rintro e w2 ⟨rfl, b2⟩; have c2 := bt c1 b2; clear m0 m1 m2; obtain ⟨m0, m1, m2⟩ := gthree (F.out.on (bt b1 b2)))
          | (go_at_call 10; refine (hal.out _).mono ?_; rintro e w9 ⟨rfl, b9⟩))
    go_ret
    exact ⟨rfl, bt (bt c1 b2) b9⟩
    
  by_cases h7 : 6 < sz
  · clear hr hG HS hP h2
    go_enter Tryz.func4, Tryz.ntmps4
    go_upto_region 1 with (fail)
    rw [← HWA.out]
    go_wp2_with (first
          | (go_at_call 9; refine (HR.out _).mono ?_; rintro e w1 ⟨rfl, b1⟩; have c1 := bt b0 b1; clear m0 m1 m2; obtain ⟨m0, m1, m2⟩ := gthree (F.out.on b1))
          | (go_at_call 22; refine (HP.out _).mono ?_; rintro e w2 ⟨rfl, b2⟩; have c2 := bt c1 b2; clear m0 m1 m2; obtain ⟨m0, m1, m2⟩ := gthree (F.out.on (bt b1 b2)))
          | (go_at_call 10; refine (hal.out _).mono ?_; rintro e w9 ⟨rfl, b9⟩))
    go_ret
    exact ⟨rfl, bt (bt c1 b2) b9⟩
    
  have hy := Geom.right_yes hr
  obtain ⟨N, rfl⟩ : ∃ N : Nat, nn = (N : Int) := ⟨nn.toNat, by omega⟩
  obtain ⟨M, rfl⟩ : ∃ M : Nat, sz = (M : Int) := ⟨sz.toNat, by omega⟩
  have hsz := Sup.size_ge hr
  have hszb := Geom.size_bd ga gd gl
  obtain ⟨n, hn⟩ : ∃ n : Nat, (n : Int) = Geom.sizeOf ga gd gl := ⟨(Geom.sizeOf ga gd gl).toNat, by omega⟩
  rw [← hn] at HS hsz hszb
  have hP0 : 0 < P := by have := pages_pos hr; omega
  have HFm := Lib.hid (fun W g fp gS bS (h : Both W g fp (new n) gS bS []) hb ho => format_law (w0 := wA) (t := 0) (m := P) hG h (up_new n) hr hn hP (by simp) (by simp [new, Disk.St.sz]) (by omega) hb ho)
  have HCm := Lib.hid (fun i (hi : i < N) W X R L g fp gS bS (h : SH wA W X R L g fp gS bS ga gd gl n (yR ga gd gl P M i) (i + 1)) Q A c hp hQ => h.commit hG hr hn (by omega) Q A (lR P i M) c (UInt64.ofNat i) hp hQ (by rw [lR_len]; omega))
  have Hfine := Lib.hid (fun i (hi : i ≤ 100) => round_fine (m := M) hr hP hP0 (by omega) i hi)
  have HOp := Lib.hid (fun W X R L g fp gS bS (h : SH wA W X R L g fp gS bS ga gd gl n (yR ga gd gl P M N) (N + 1)) => h.opens hG hr hn (by omega))
  have Hr := Lib.hid hr
  have Hn := Lib.hid (show 1 ≤ n ∧ n ≤ 1024 by omega)
  have HN := Lib.hid (show 1 ≤ N ∧ N ≤ 40 ∧ M ≤ 6 ∧ 0 < P ∧ P ≤ 30 by omega)
  obtain ⟨Y, hY⟩ : ∃ Y, Y = yR ga gd gl P M := ⟨_, rfl⟩
  rw [← hY] at HCm Hfine HOp
  have HY0 := Lib.hid (show Y 0 = RS.new P by rw [hY]; rfl)
  have HYs := Lib.hid (show ∀ i, Y (i + 1) = ((Y i).commit ga gd gl (lR P i M) (UInt64.ofNat i)).1 by rw [hY]; exact fun i => rfl)
  clear hr hP h2 hY hn hsz hszb hy hG hP0
  go_enter Tryz.func4, Tryz.ntmps4
  go_upto_region 1 with (fail)
  rw [← HWA.out]
  go_upto_region 10 with (first
      | (go_at_call 9; refine (HR.out _).mono ?_; rintro e w1 ⟨rfl, b1⟩; clear m0 m1 m2; obtain ⟨m0, m1, m2⟩ := gthree (F.out.on b1))
      | (go_at_call 22; refine (HP.out _).mono ?_; rintro e w2 ⟨rfl, b2⟩; have c2 := bt b1 b2; clear m0 m1 m2; obtain ⟨m0, m1, m2⟩ := gthree (F.out.on (bt b1 b2)))
      | (go_at_call 12; refine (HS.out _).mono ?_; rintro e w3 ⟨rfl, b3⟩; have c3 := bt c2 b3)
      | (go_at_call 11; refine (newN_any n _ rfl Hn.out.1 Hn.out.2 _).mono ?_; rintro e w4 ⟨g, fp, rfl, hD, hfp, b4⟩; have c4 := bt c3 b4)
      | (go_at_call 13; refine (symbolic_any _).mono ?_; rintro e w5 ⟨gS, bS, rfl, hS, hgS, hbS, b5⟩; have c5 := bt c4 b5; have H5 := Here.start hD hfp b4 hS hgS hbS b5; have Hown := Lib.hid (show ∀ j ∈ bS :: gS :: fp, wA.heap.size ≤ j from fun j hj => by (have hs1 := c4.size; have hs3 := c3.size; simp only [List.mem_cons] at hj; rcases hj with e | e | e; (omega); (omega); (exact Nat.le_trans hs3 (hfp j e)))); clear m0 m1 m2; obtain ⟨m0, m1, m2⟩ := gthree (F.out.on c5))
      | (go_at_call 14; refine (HFm.out _ g fp gS bS H5.both c5 Hown.out).mono ?_; rintro e w6 ⟨X, R, L, fp6, rfl, H6, _, _, _, _, _⟩; clear m0 m1 m2; obtain ⟨m0, m1, m2⟩ := gthree (F.out.below H6.bel hltF))
      | (go_at_call 21; refine (H6.life).mono ?_; rintro e w7 ⟨rfl, rfl⟩))
  have hHid := HN.out
  obtain ⟨hN1, hN40, hM6, hP0, hP30⟩ := hHid
  go_loopw [12, 13] (fun lf i wr => ∃ (k L : Nat) (fp : List Nat), k ≤ N ∧ i = .int .i64 (k : Int) ∧ lf = .int .u64 ((Y k).life.toNat : Int) ∧ SH wA wr X R L g fp gS bS ga gd gl n (Y k) (k + 1)) (fun _ i _ => N - (intOf i).toNat)
  case atStart => exact ⟨0, L, fp6, by omega, rfl, by rw [HY0.out], by rw [HY0.out]; exact H6⟩
  case round =>
    obtain ⟨k, L, fp, hk, rfl, rfl, hSH⟩ := hrel
    obtain ⟨wo, hwo⟩ : ∃ wo, wo = wr := ⟨_, rfl⟩
    subst hwo
    have HSH := Lib.hid hSH
    clear m0 m1 m2
    by_cases hlt : k < N
    · have hkn : (k : Int) < (N : Int) := by omega
      have Hlt := Lib.hid hlt
      obtain ⟨f1, f2, f3⟩ := Hfine.out k (by omega)
      have Hf := Lib.hid (show _ ∧ _ from ⟨f1, f2⟩)
      obtain ⟨a0, ha0⟩ : ∃ z : Int, z = ((Y k).life.toNat : Int) := ⟨_, rfl⟩
      obtain ⟨a1, ha1⟩ : ∃ z : Int, z = ((Y (k + 1)).life.toNat : Int) := ⟨_, rfl⟩
      have t3 : decide (a1 < a0) = false := decide_eq_false (by rw [ha0, ha1]; omega)
      have HLf := Lib.hid (fun W L8 fp8 (h : SH wA W X R L8 g fp8 gS bS ga gd gl n (Y (k + 1)) (k + 1 + 1)) => show Calls Tryz.prog 21 #[.pointer (some ⟨X, 0, none⟩)] W fun e w' => e = .returned (.int .u64 a1) ∧ W = w' from by rw [ha1]; exact h.life)
      have Ha1 := Lib.hid ha1
      rw [← ha0]
      clear ha0 ha1
      clear f1 f2 f3 hSH
      go_upto_region 13 with (fail)
      go_wp2_with fail
      go_loopw [14, 15] (fun v j wr2 => ∃ (q : Nat) (t : Tr), q ≤ M ∧ j = .int .i64 (q : Int) ∧ v = .slice t.A t.ps.length t.c ∧ TrOk wr2 wo.heap.size none t ∧ Hid (t.ps.map Pr.pg = lR P k q ∧ t.ps.length = q) ∧ Below wo.heap.size wo wr2) (fun _ j _ => M - (intOf j).toNat)
      case atStart => exact ⟨0, ⟨none, 0, [], 0⟩, by omega, rfl, rfl, ⟨own_nil _ _ _ _, fun g h => (by cases h), fun p hp => (by cases hp)⟩, Lib.hid ⟨rfl, rfl⟩, Below.refl _ _⟩
      case round =>
        obtain ⟨q, t, hq, rfl, rfl, hT, hids, bw⟩ := hrel
        by_cases hlt2 : q < M
        · have hqn : (q : Int) < (M : Int) := by omega
          obtain ⟨i0, hi0, hz0, hz1, hz2⟩ := info_parts infoPg
          obtain ⟨m0, m1, m2⟩ := gthree (F.out.below (bt HSH.out.bel bw) hltF)
          have hsum : IntKind.i64.wrap ((k : Int) + (q : Int)) = (k : Int) + (q : Int) := wrap_small (by omega) (by omega)
          have hmod : ((k : Int) + (q : Int)).tmod (P : Int) = (((k + q) % P : Nat) : Int) := by rw [Int.tmod_eq_emod_of_nonneg (by omega)]; simp
          have hml := Nat.mod_lt (k + q) hP0
          obtain ⟨r, hr0⟩ : ∃ r : Nat, r = (k + q) % P := ⟨_, rfl⟩
          rw [← hr0] at hmod hml
          have hwr : IntKind.i64.wrap (r : Int) = (r : Int) := wrap_small (by omega) (by omega)
          have hPne : ¬ (P : Int) = 0 := by omega
          have hk8 : IntKind.u8.wrap (k : Int) = ((UInt8.ofNat k).toNat : Int) := by
            rw [UInt8.toNat_ofNat']; simp [IntKind.wrap, IntKind.signed, IntKind.bits]
          have hq8 : IntKind.u8.wrap (q : Int) = ((UInt8.ofNat q).toNat : Int) := by
            rw [UInt8.toNat_ofNat']; simp [IntKind.wrap, IntKind.signed, IntKind.bits]
          obtain ⟨x, hx⟩ : ∃ x, x = UInt8.ofNat k := ⟨_, rfl⟩
          obtain ⟨y, hy⟩ : ∃ x, x = UInt8.ofNat q := ⟨_, rfl⟩
          rw [← hx] at hk8
          rw [← hy] at hq8
          have Hl := Lib.hid (show lR P k (q + 1) = lR P k q ++ [⟨(r : Int), [x, y]⟩] by rw [lR_succ, hr0, hx, hy])
          have HT := Lib.hid hT
          have Hbw := Lib.hid bw
          have hbs := bw.size
          clear hx hy hr0 hT bw
          go_upto_region 16 with (fail)
          have hrK : r ≤ 1000 := by omega
          have Hql := Lib.hid (show t.ps.length ≤ 1000 by have := hids.out.2; omega)
          go_wp2_with (first
            | (go_at_call 22; refine (HP.out _).mono ?_; rintro e wp ⟨rfl, bp⟩; have HL2 := Lib.hid (lit2 wp r x y hrK); have HTp := Lib.hid (tr_on (tr_on HT.out bp) (b2alloc wp (.cells #[.int .u8 (x.toNat : Int), .int .u8 (y.toNat : Int)] 5) (.cells #[.int .i64 (r : Int), .slice (some ⟨wp.heap.size, 0, none⟩) 2 2] 53))); have Hbp := Lib.hid (bt Hbw.out (bt bp (b2alloc wp (.cells #[.int .u8 (x.toNat : Int), .int .u8 (y.toNat : Int)] 5) (.cells #[.int .i64 (r : Int), .slice (some ⟨wp.heap.size, 0, none⟩) 2 2] 53)))); have hwos := (bt Hbw.out bp).size)
            | (at_builtin; refine wpList_append_rd _ rfl _ _ _ rfl wo.heap.size 53 i0 _ 2 32 Tryz.underlying38 hi0 hz0 hz1 hz2 rfl (by omega) (.slice t.A t.ps.length t.c) t.ps.length (t.ps.flatMap Pr.cells) rfl HTp.out.row (wp.heap.size + 2) (some ⟨wp.heap.size + 1, 0, none⟩) 1 1 (Pr.cells ⟨(r : Int), some ⟨wp.heap.size, 0, none⟩, 2, [x, y]⟩) rfl rfl HL2.out.1 (by simp [Pr.cells, Value.oneCell']) (by have := Hql.out; simp only [maxLen]; omega) (by have := Hql.out; omega) Hbp.out.size ?_; intro v20 w20 own20 hg20 hat20))
          case roundEnd =>
            obtain ⟨t', hv, hT', hps⟩ := tr_app HTp.out (HL2.out.2.base hwos) own20 hg20
            have h1 := Hl.out
            have h2 := hids.out
            have hq1 : q + 1 ≤ M := hlt2
            refine ⟨⟨q + 1, t', hq1, by rfl, hv, hT', Lib.hid ⟨by rw [hps, List.map_append, h2.1, h1]; rfl, by rw [hps, List.length_append, h2.2]; rfl⟩, Hbp.out.grown hg20 Hbp.out.size (fun g hg => own_block HTp.out.row hg)⟩, ?_⟩
            simp only [intOf]; omega
        · obtain rfl : q = M := by omega
          have hqn : ¬ (q : Int) < (q : Int) := by omega
          have hk64 : IntKind.u64.wrap (k : Int) = ((UInt64.ofNat k).toNat : Int) := by
            rw [UInt64.toNat_ofNat']; simp [IntKind.wrap, IntKind.signed, IntKind.bits]
          have HCk := Lib.hid (show Calls Tryz.prog 15 #[.pointer (some ⟨X, 0, none⟩), .slice t.A t.ps.length t.c, .int .u64 ((UInt64.ofNat k).toNat : Int)] wr fun e w' => e = .returned (.int .i64 0) ∧ SHT wA wr X R L g fp gS bS ga gd gl n (Y (k + 1)) (k + 1 + 1) w' from by
            have h := HCm.out k Hlt.out wr X R L g fp gS bS (HSH.out.on bw) (fun j => wo.heap.size ≤ j) t.A t.c (by rw [← hids.out.1]; exact hT.pgs) (fun j hj _ => HSH.out.offNew hj)
            rw [lR_len, Hf.out.1, ← HYs.out k] at h
            rw [hids.out.2]
            exact h)
          obtain ⟨g64, hg64⟩ : ∃ z : Int, z = ((UInt64.ofNat k).toNat : Int) := ⟨_, rfl⟩
          rw [← hg64] at HCk hk64
          have Hbw := Lib.hid bw
          clear hT hids bw hg64
          go_wp2_with (first
            | (go_at_call 15; refine HCk.out.mono ?_; rintro e w8 ⟨rfl, L8, fp8, H8, _, _⟩)
            | (go_at_call 21; refine (HLf.out _ L8 fp8 H8).mono ?_; rintro e w9 ⟨rfl, rfl⟩))
          case roundEnd =>
            have h1 := Hlt.out
            exact ⟨⟨k + 1, L8, fp8, h1, rfl, by rw [Ha1.out], H8⟩, by simp only [intOf]; omega⟩
    · obtain rfl : k = N := by omega
      have hkn : ¬ (k : Int) < (k : Int) := by omega
      obtain ⟨m0, m1, m2⟩ := gthree (F.out.below hSH.bel hltF)
      obtain ⟨N', hN'⟩ : ∃ N', k = N' + 1 := ⟨k - 1, by omega⟩
      have hgen : (Y k).gen = UInt64.ofNat N' := by rw [hN']; exact (Hfine.out N' (by omega)).2.1
      have hw1 : IntKind.i64.wrap ((k : Int) - 1) = (N' : Int) := by rw [show ((k : Int) - 1) = (N' : Int) by omega]; exact wrap_small (by omega) (by omega)
      have hk64 : IntKind.u64.wrap (N' : Int) = ((UInt64.ofNat N').toNat : Int) := by
        rw [UInt64.toNat_ofNat']; simp [IntKind.wrap, IntKind.signed, IntKind.bits]
      have HO1 := Lib.hid (HOp.out wo X R L g fp gS bS hSH)
      have hlens := hSH.lens
      have HRw := Lib.hid (fun W A B ca cb (hA : Rws W W.heap.size A (Y k).pages) (hB : Rws W W.heap.size B (Y k).pages) => R20.rows_any A B (Y k).pages (Y k).pages (Y k).pages.length (Y k).pages.length ca cb W hA hB rfl rfl (by have := hlens.1; omega) (fun b hb => by have := hlens.2 b hb; omega) (fun b hb => by have := hlens.2 b hb; omega))
      rw [decide_eq_true (rfl : (Y k).pages = (Y k).pages)] at HRw
      have HPy := Lib.hid (fun W X' R' fp' (h : SH wA W X' R' X' g fp' gS bS ga gd gl n (Y k).isDue (k + 1)) => show Calls Tryz.prog 19 #[.pointer (some ⟨X', 0, none⟩)] W fun e w' => ∃ A c, e = .returned (.slice A (Y k).pages.length c) ∧ Rws w' w'.heap.size A (Y k).pages ∧ Below W.heap.size W w' from h.pages Hr.out)
      have HGy := Lib.hid (fun W X' R' fp' (h : SH wA W X' R' X' g fp' gS bS ga gd gl n (Y k).isDue (k + 1)) => show Calls Tryz.prog 20 #[.pointer (some ⟨X', 0, none⟩)] W fun e w' => e = .returned (.int .u64 ((UInt64.ofNat N').toNat : Int)) ∧ W = w' from by have := h.gen; rw [show (Y k).isDue.gen = (Y k).gen from rfl, hgen] at this; exact this)
      have HLy := Lib.hid (fun W X' R' fp' (h : SH wA W X' R' X' g fp' gS bS ga gd gl n (Y k).isDue (k + 1)) => show Calls Tryz.prog 21 #[.pointer (some ⟨X', 0, none⟩)] W fun e w' => e = .returned (.int .u64 ((Y k).life.toNat : Int)) ∧ W = w' from h.life)
      have HSH' := Lib.hid hSH
      obtain ⟨g64, hg64⟩ : ∃ z : Int, z = ((UInt64.ofNat N').toNat : Int) := ⟨_, rfl⟩
      rw [← hg64] at HGy hk64
      obtain ⟨a0, ha0⟩ : ∃ z : Int, z = ((Y k).life.toNat : Int) := ⟨_, rfl⟩
      rw [← ha0] at HLy ⊢
      have tP1 : True := trivial
      clear ha0 hSH hlens hgen hg64 hN' hN1 hN40 hM6 hP0 hP30
      go_wp2_with (first
        | (go_at_call 17; refine HO1.out.mono ?_; rintro e w8 ⟨X8, R8, rfl, H8, b8, _, _⟩)
        | (go_at_call 19; first | (have _t := tP1; refine (HPy.out _ X8 R8 fp H8).mono ?_; clear _t tP1; rintro e w9 ⟨A9, c9, rfl, r9, b9⟩) | (refine (((HSH'.out.on b8).on b9).pages Hr.out).mono ?_; rintro e w10 ⟨A10, c10, rfl, r10, b10⟩))
        | (go_at_call 18; refine (HRw.out _ A9 A10 c9 c10 (r9.on b10) r10).mono ?_; rintro e w11 ⟨rfl, b11⟩; have H11 := ((H8.on b9).on b10).on b11)
        | (go_at_call 20; refine (HGy.out _ X8 R8 fp H11).mono ?_; rintro e w12 ⟨rfl, rfl⟩)
        | (go_at_call 21; refine (HLy.out _ X8 R8 fp H11).mono ?_; rintro e w13 ⟨rfl, rfl⟩)
        | (go_at_call 10; refine (hal.out _).mono ?_; rintro e w14 ⟨rfl, b14⟩))
      go_ret
      exact ⟨rfl, bt b0 (bt H11.bel b14)⟩
set_option maxRecDepth 100000 in
theorem lifted (os : Os) (started : os.Started) (H : Type) (enc : TypeId × Value → H) :
    ReturnsInHanded {} Tryz.checked os 4 .any (Rows.storeRoundsSpec.pre6 enc Tryz.prog Tryz.f4 Rows.storeRoundsRow.domain false) (Rows.storeRoundsSpec.post enc Tryz.prog Tryz.f4 false true false false) := by
  refine returnsInHanded_of_change (C := Tryz.checked) own started (by kernel_rfl) Tryz.func4
    (ChangeSpec.witness6 (enc := enc) (C := Tryz.checked) false ⟨#[], #[.agg #[.int .i64 0, .int .i64 0, .int .i64 0], .int .i64 0, .int .i64 0], []⟩ 8 (by kernel_rfl) (by kernel_rfl) (by kernel_rfl) (by kernel_rfl)) ?_
  intro W base args ds gs before hval0 hW hcnd _
  have hval : ∀ (j : Nat) t v, Tryz.f4.params[j]? = some t → args[j]? = some v → Value.okWide Tryz.prog W .any base t v := hval0
  have hW' := hW
  obtain ⟨p, q, hA0, hV, rfl, hfz, hnd⟩ := hW
  have hA : DataW.TrodAll enc Tryz.prog W 0 (fun _ => true) true Tryz.f4.params.toList args.toList ds p := hA0
  rw [Tryz.params4] at hA hval
  obtain ⟨v0, vs0, d0, ds0, p0, q0, hargs, rfl, rfl, h0, r0⟩ := trodAll_cons hA
  obtain ⟨v1, vs1, d1, ds1, p1, q1, rfl, rfl, rfl, h1, r1⟩ := trodAll_cons r0
  obtain ⟨v2, vs2, d2, ds2, p2, q2, rfl, rfl, rfl, h2, r2⟩ := trodAll_cons r1
  obtain ⟨rfl, rfl, rfl⟩ := trodAll_nil r2
  obtain rfl : args = #[v0, v1, v2] := by cases args; simp_all
  obtain ⟨rfl, rfl⟩ := trodVars_none hV
  have k0 := h0
  have lt0 := places_lt k0
  obtain ⟨c0a, c0b, c0c, y0a, y0b, y0c, m0, rfl, _, _, hy0a, hy0b, hy0c⟩ := open_agg3 Tryz.underlying23 (by kernel_rfl) (by kernel_rfl) (hval 0 23 v0 rfl rfl) h0
  obtain ⟨n0a, e0a, _, w0a⟩ := DataW.trod_int Tryz.underlying3 hy0a
  simp only [List.cons.injEq, and_true] at e0a
  subst e0a
  obtain ⟨n0b, e0b, _, w0b⟩ := DataW.trod_int Tryz.underlying3 hy0b
  simp only [List.cons.injEq, and_true] at e0b
  subst e0b
  obtain ⟨n0c, e0c, _, w0c⟩ := DataW.trod_int Tryz.underlying3 hy0c
  simp only [List.cons.injEq, and_true] at e0c
  subst e0c
  have k1 := h1
  have lt1 := places_lt k1
  obtain ⟨n1, rfl, _, _, w1⟩ := open_int Tryz.underlying3 (hval 1 3 v1 rfl rfl) h1
  have k2 := h2
  have lt2 := places_lt k2
  obtain ⟨n2, rfl, _, _, w2⟩ := open_int Tryz.underlying3 (hval 2 3 v2 rfl rfl) h2
  clear hA0 hval0
  refine (walk n0a n0b n0c n1 n2 W (wfi w0a).1 (wfi w0a).2 (wfi w0b).1 (wfi w0b).2 (wfi w0c).1 (wfi w0c).2 (wfi w1).1 (wfi w1).2 (wfi w2).1 (wfi w2).2).mono fun e W' ⟨he, bel⟩ => ?_
  subst he
  exact ⟨_, rfl, _, _, _, [], _, [], hW', trodAll_mk1 (shut_bool Tryz.underlying4 _), (trodAll_cons_mk (Below.trod laidOut (by kernel_rfl) (of_decide_eq_true (by kernel_rfl)) k0 bel lt0) (trodAll_cons_mk (Below.trod laidOut (by kernel_rfl) (of_decide_eq_true (by kernel_rfl)) k1 bel lt1) (trodAll_cons_mk (Below.trod laidOut (by kernel_rfl) (of_decide_eq_true (by kernel_rfl)) k2 bel lt2) trodAll_mk0))), rfl, bel.frame _, fun h => by cases h⟩

theorem proved : Rows.StoreRoundsSaid :=
  OpenClaim.holds_of_wide 4 Tryz.f4 rfl rfl rfl rfl rfl rfl rfl ⟨rfl, rfl, rfl, rfl, rfl⟩ rfl rfl rfl rfl rfl (by kernel_rfl) Tryz.func4 (by kernel_rfl)
    (of_decide_eq_true (by kernel_rfl)) (by unfold Func.isWrapper; first | (rw [if_pos (by decide +kernel)]; kernel_rfl) | (rw [if_neg (by decide +kernel)]; exact ⟨rfl, rfl⟩))
    (fun os started H enc _ => lifted os started H enc)
#print axioms proved
end Go.Proofs.YtchcmklelmlbgaaGreat.StoreRounds
