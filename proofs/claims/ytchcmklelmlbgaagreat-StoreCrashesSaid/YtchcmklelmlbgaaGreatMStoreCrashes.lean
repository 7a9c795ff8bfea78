/- StoreCrashes: for every input the law returns true: wherever the power goes, what is opened has the pages of all that was told, or also all of those that were being committed. No condition. -/
import Derived.Test.YtchcmklelmlbgaaGreatStoreCrashesF
import Derived.Test.YtchcmklelmlbgaaGreatStoreCrashesD
import Derived.Deep.CutBlock
namespace Go.Proofs.YtchcmklelmlbgaaGreat.StoreCrashes
open Go.ChangeShapes Go.WideShapes Go.ChangeAt Go.RowKit Go.Joins
open Go.ChangeMaps (open_string shut_string)
open Go.Proofs.YtchcmklelmlbgaaGreat.Sto
open Go.Proofs.YtchcmklelmlbgaaGreat.Sup (Gb gv gcell gthree srightF UpN up_new srightF_new newN_any)
open Go.Proofs.YtchcmklelmlbgaaGreat.Sec (symbolic_any)
open Go.Proofs.YtchcmklelmlbgaaGreat.Geom (lo hi pagesOf right)
open Go.Proofs.YtchcmklelmlbgaaGreat.Disk (St DAt new)
set_option linter.unusedVariables false
set_option maxRecDepth 100000
set_option maxHeartbeats 40000000 in
theorem walk (ga gd gl : Int) (A : Option Addr) (l : List Ac) (c : Nat) (AF : Option Addr) (fs : List Int) (cF : Nat) (AK : Option Addr) (keep : List Int) (cK : Nat) (torn at_ : Int) (w : World) (ha0 : -9223372036854775808 <= ga) (ha1 : ga <= 9223372036854775807) (hd0 : -9223372036854775808 <= gd) (hd1 : gd <= 9223372036854775807) (hg0 : -9223372036854775808 <= gl) (hg1 : gl <= 9223372036854775807)
   (hr : Acs w (fun j => j < w.heap.size) A l) (hlc : l.length <= c) (hcm : c <= maxLen) (hfr : Rd w w.heap.size AF (fs.map ei)) (hfc : fs.length <= cF) (hfm : cF <= maxLen) (hfw : ∀ n ∈ fs, -9223372036854775808 <= n /\ n <= 9223372036854775807)
   (hkr : Rd w w.heap.size AK (keep.map ei)) (hkc : keep.length <= cK) (hkm : cK <= maxLen) (hkw : ∀ n ∈ keep, -9223372036854775808 <= n /\ n <= 9223372036854775807) (ht0 : -9223372036854775808 <= torn) (ht1 : torn <= 9223372036854775807) (hu0 : -9223372036854775808 <= at_) (hu1 : at_ <= 9223372036854775807) :
   Calls Tryz.prog 7 #[gv ga gd gl, .slice A l.length c, .slice AF fs.length cF, .slice AK keep.length cK, .int .i64 torn, .int .i64 at_] w fun e w' => e = .returned (.bool true) /\ Below w.heap.size w w' := by
 have hG : Gb ga gd gl := ⟨ha0, ha1, hd0, hd1, hg0, hg1⟩
 obtain ⟨wA, hwA⟩ : ∃ q, q = w.alloc (.cells #[.int .i64 ga, .int .i64 gd, .int .i64 gl] 23) := ⟨_, rfl⟩
 have F := Lib.hid (show Blk wA w.heap.size (gcell ga gd gl) from by rw [hwA]; exact Blk.new w (gcell ga gd gl) 23)
 have hltF := F.out.lt
 have b0 : Below w.heap.size w wA := by rw [hwA]; exact b1alloc w _
 have HWA := Lib.hid hwA
 obtain ⟨m0, m1, m2⟩ := gthree F.out
 have HL := Lib.hid (slight_any _ A l c ga gd gl wA hG (hr.on b0))
 have hal := Lib.hid (fun W => alive_any W)
 have HRi := Lib.hid (fun W => Geom.rright_any ga gd gl W hG.a0 hG.a1 hG.d0 hG.d1 hG.g0 hG.g1)
 have HS := Lib.hid (fun W => Geom.rsize_any ga gd gl W hG.a0 hG.a1 hG.d0 hG.d1 hG.g0 hG.g1)
 have HR := Lib.hid hr
 have HFr := Lib.hid (And.intro hfr hfw)
 have HKr := Lib.hid hkr
 have HTb := Lib.hid (And.intro (And.intro ht0 ht1) (And.intro hu0 hu1))
 have HG := Lib.hid hG
 clear hwA hG hr hlc hcm hfr hfc hfm hfw hkr hkc hkm hkw ht0 ht1 hu0 hu1 ha0 ha1 hd0 hd1 hg0 hg1
 cases hri : right ga gd gl with
 | false =>
   rw [hri] at HRi
   clear hri
   go_enter Tryz.func7, Tryz.ntmps7
   go_upto_region 1 with (fail)
   rw [<- HWA.out]
   go_upto_if 46 with (first
     | (go_at_call 8; refine HL.out.mono ?_; rintro e w1 ⟨⟨B, rfl, hB⟩, b1⟩; have HB1 := Lib.hid b1; clear m0 m1 m2; obtain ⟨m0, m1, m2⟩ := gthree (F.out.on b1); clear hB b1)
     | (go_at_call 9; refine (HRi.out _).mono ?_; rintro e w3 ⟨rfl, b3⟩; have HB3 := Lib.hid (bt HB1.out b3)))
   all_goals
     go_wp2_with (go_at_call 10; refine (hal.out _).mono ?_; rintro e w9 ⟨rfl, b9⟩)
     go_ret
     first | exact ⟨rfl, bt b0 (bt HB3.out b9)⟩ | exact ⟨rfl, bt b0 (bt HB1.out b9)⟩
 | true =>
 rw [hri] at HRi
 by_cases hf8 : (8 : Int) < (fs.length : Int)
 · clear hri
   go_enter Tryz.func7, Tryz.ntmps7
   go_upto_region 1 with (fail)
   rw [<- HWA.out]
   go_upto_if 46 with (first
     | (go_at_call 8; refine HL.out.mono ?_; rintro e w1 ⟨⟨B, rfl, hB⟩, b1⟩; have HB1 := Lib.hid b1; clear m0 m1 m2; obtain ⟨m0, m1, m2⟩ := gthree (F.out.on b1); clear hB b1)
     | (go_at_call 9; refine (HRi.out _).mono ?_; rintro e w3 ⟨rfl, b3⟩; have HB3 := Lib.hid (bt HB1.out b3)))
   all_goals
     go_wp2_with (go_at_call 10; refine (hal.out _).mono ?_; rintro e w9 ⟨rfl, b9⟩)
     go_ret
     first | exact ⟨rfl, bt b0 (bt HB3.out b9)⟩ | exact ⟨rfl, bt b0 (bt HB1.out b9)⟩
 by_cases hk20 : (20 : Int) < (keep.length : Int)
 · clear hri
   go_enter Tryz.func7, Tryz.ntmps7
   go_upto_region 1 with (fail)
   rw [<- HWA.out]
   go_upto_if 46 with (first
     | (go_at_call 8; refine HL.out.mono ?_; rintro e w1 ⟨⟨B, rfl, hB⟩, b1⟩; have HB1 := Lib.hid b1; clear m0 m1 m2; obtain ⟨m0, m1, m2⟩ := gthree (F.out.on b1); clear hB b1)
     | (go_at_call 9; refine (HRi.out _).mono ?_; rintro e w3 ⟨rfl, b3⟩; have HB3 := Lib.hid (bt HB1.out b3)))
   all_goals
     go_wp2_with (go_at_call 10; refine (hal.out _).mono ?_; rintro e w9 ⟨rfl, b9⟩)
     go_ret
     first | exact ⟨rfl, bt b0 (bt HB3.out b9)⟩ | exact ⟨rfl, bt b0 (bt HB1.out b9)⟩
 have hy := Geom.right_yes hri
 have hsz := Sup.size_ge hri
 have hszb := Geom.size_bd ga gd gl
 obtain ⟨n, hn⟩ : ∃ n : Nat, (n : Int) = Geom.sizeOf ga gd gl := ⟨(Geom.sizeOf ga gd gl).toNat, by omega⟩
 rw [<- hn] at HS
 obtain ⟨P, hP⟩ : ∃ P : Nat, (P : Int) = pagesOf ga gd gl := ⟨(pagesOf ga gd gl).toNat, by have := Geom.pagesOf_bd ga gd gl; omega⟩
 have hP0 : 0 < P := by have := pages_pos hri; omega
 have hPb := Geom.pagesOf_bd ga gd gl
 obtain ⟨y1, hy1⟩ : ∃ y, y = y0 P := ⟨_, rfl⟩
 have HFm := Lib.hid (fun W g fp gS bS (h : Both W g fp (new n) gS bS []) hb ho => format_cx (w0 := wA) (m := P) HG.out h hri hn hP hb ho)
 have HNr := Lib.hid (fun W => show Calls Tryz.prog 23 #[gv ga gd gl] W fun e w' => ∃ (A : Option Addr) (c : Nat), e = .returned (RV ga gd gl (y0 P) A c) /\ Rw w' (fun j => W.heap.size <= j) A (y0 P).pages /\ Below W.heap.size W w' from (rnew_any ga gd gl W P HG.out hP.symm (by omega) hP0).mono (by rintro e w' ⟨R, c, h, _, h2, h3⟩; exact ⟨_, c, h, h2, h3⟩))
 rw [<- hy1] at HNr
 have HY1 := Lib.hid (show y1.pages = List.replicate P [] /\ y1.gen = 0 /\ y1.seq = 0 /\ YOk ga gd gl y1 1 from by rw [hy1]; exact ⟨rfl, rfl, rfl, ⟨by show ((List.replicate P ([] : List UInt8)).length : Int) = _; rw [List.length_replicate]; exact hP, by show (((0 : Nat)) : Int) <= gl; omega, ⟨by show (0 : Int) <= 0; omega, by show (0 : Int) <= _; omega⟩, by show (1 : UInt64).toNat <= 1; simp, rfl, fun b hb => by have e : b = [] := List.eq_of_mem_replicate (show b ∈ List.replicate P [] from hb); rw [e]; simp⟩⟩)
 have HNw := Lib.hid (fun W => newN_any n (n : Int) rfl (by omega) (by omega) W)
 have HGr := Lib.hid (And.intro hri hn)
 have HN := Lib.hid (show fs.length <= 8 /\ keep.length <= 20 /\ gl <= 64 /\ 3 <= gl by omega)
 clear hy1 hri hy hsz hszb hn hP hPb hP0
 go_enter Tryz.func7, Tryz.ntmps7
 go_upto_region 1 with (fail)
 rw [<- HWA.out]
 go_upto_if 46 with (first
   | (go_at_call 8; refine HL.out.mono ?_; rintro e w1 ⟨⟨B, rfl, hB⟩, b1⟩; have HB := Lib.hid hB; have HB1 := Lib.hid b1; clear m0 m1 m2; obtain ⟨m0, m1, m2⟩ := gthree (F.out.on b1); clear hB b1)
   | (go_at_call 9; refine (HRi.out _).mono ?_; rintro e w3 ⟨rfl, b3⟩; have HB3 := Lib.hid (bt HB1.out b3); clear m0 m1 m2; obtain ⟨m0, m1, m2⟩ := gthree (F.out.on HB3.out); clear b3))
 rotate_left
 · go_wp2_with (go_at_call 10; refine (hal.out _).mono ?_; rintro e w9 ⟨rfl, b9⟩)
   go_ret
   exact ⟨rfl, bt b0 (bt HB1.out b9)⟩
 rename_i eB
 have HSL := Lib.hid (HB.out eB)
 clear HB eB HL HB1
 go_upto_region 8 with (first
     | (go_at_call 12; refine (HS.out _).mono ?_; rintro e w4 ⟨rfl, b4⟩; have HB4 := Lib.hid (bt HB3.out b4); clear b4)
     | (go_at_call 11; refine (HNw.out _).mono ?_; rintro e w5 ⟨g, fA, rfl, hD, hfA, b5⟩; have HD := Lib.hid hD; have HfA := Lib.hid hfA; have Hb5 := Lib.hid b5; have HB5 := Lib.hid (bt HB4.out b5); clear b5 hD hfA)
     | (go_at_call 13; refine (symbolic_any _).mono ?_; rintro e w8 ⟨gS, bS, rfl, hS, hgS, hbS, b8⟩; have H8 := Lib.hid (Here.start HD.out HfA.out Hb5.out hS hgS hbS b8); have c8 := bt HB5.out b8; have Hc8 := Lib.hid c8; have Hown := Lib.hid (show ∀ j ∈ bS :: gS :: fA, wA.heap.size <= j from fun j hj => by (have hs1 := HB5.out.size; have hs3 := HB4.out.size; simp only [List.mem_cons] at hj; rcases hj with e | e | e; (omega); (omega); (exact Nat.le_trans hs3 (HfA.out j e)))); clear m0 m1 m2; obtain ⟨m0, m1, m2⟩ := gthree (F.out.on c8); clear c8 hS hgS hbS b8)
     | (go_at_call 14; refine (HFm.out _ g fA gS bS H8.out.both Hc8.out Hown.out).mono ?_; rintro e w9 ⟨X, R, L, fp9, rfl, h9⟩; have H9 := Lib.hid (show CX (Al ga gd gl n y1.pages y1.gen (some y1.seq) true 1) wA w9 X R L g fp9 gS bS ga gd gl 1 from by rw [HY1.out.1, HY1.out.2.1, HY1.out.2.2.1]; exact h9); clear m0 m1 m2; obtain ⟨m0, m1, m2⟩ := gthree (F.out.below h9.bel hltF); clear h9))
 clear HD HfA H8 Hown HFm HNw HS HB4 HB5 Hb5 Hc8
 go_cut [18] (fun v wx => At8 (Al ga gd gl n y1.pages y1.gen (some y1.seq) true 1) wA X R L g fp9 gS bS ga gd gl 1 y1 v wx)
 case first =>
   have cz : Below w9.heap.size w9 w9.drew := (Below.refl _ _).drew
   have HKS := Lib.hid (fun W (bW : Below w9.heap.size w9 W) => show (fun W : World => W.cell? ⟨w.heap.size, 0, none⟩ = some (.int .i64 ga) /\ W.cell? ⟨w.heap.size, 1, none⟩ = some (.int .i64 gd) /\ W.cell? ⟨w.heap.size, 2, none⟩ = some (.int .i64 gl)) W from gthree (F.out.below (bt H9.out.bel bW) hltF))
   have HKT := Lib.hid (fun W (bW : Below w9.heap.size w9 W) T (hT : w9.heap.size <= T) vs => show (fun W : World => W.cell? ⟨w.heap.size, 0, none⟩ = some (.int .i64 ga) /\ W.cell? ⟨w.heap.size, 1, none⟩ = some (.int .i64 gd) /\ W.cell? ⟨w.heap.size, 2, none⟩ = some (.int .i64 gl)) (W.setCells T 0 vs) from by
     have k2 : Keep [T] W (W.setCells T 0 vs) := Keep.of_grown (setCells_grown T vs 0 W) (fun g e => by cases e; simp)
     have hbs := H9.out.bel.size
     have hlt : w.heap.size < w9.heap.size := by omega
     exact gthree ((F.out.below (bt H9.out.bel bW) hltF).keepK k2 (by simp; omega)))
   have hS0 := HKS.out _ cz
   have hS1 := HKS.out ((w9.alloc (.cells #[.int .i64 0, .int .i64 0, .int .i64 0, .slice none 0 0, .int .u64 0, .int .u64 0, .int .i64 0, .int .u64 0, .int .i64 0, .bool false, .int .i64 0, .int .i64 0, .int .i64 0, .slice none 0 0, .int .u64 0, .int .u64 0, .int .i64 0, .int .u64 0, .int .i64 0, .bool false] 68)).drew) (b1alloc w9 _).drew
   have tN1 : True := trivial
   refine wp_region_held_drew (S := (fun W : World => W.cell? ⟨w.heap.size, 0, none⟩ = some (.int .i64 ga) /\ W.cell? ⟨w.heap.size, 1, none⟩ = some (.int .i64 gd) /\ W.cell? ⟨w.heap.size, 2, none⟩ = some (.int .i64 gl))) (by kernel_rfl) (by exact hS0) (fun hHeld => ?_)
   refine wpAnyH_take (i := 0) (oi := { dst := some 68, op := Op.load 23 (Operand.tmp 6), type := 23, pos := "law.go:128", after := #[], guard := none }) (v := ?_) rfl (by kernel_rfl) (by kernel_rfl) (by kernel_rfl) (fun _ _ _ h => h) (Or.inl ⟨by rfl, ?_⟩) (by assumption) ?_; rotate_left; · ((intro w hSw; (try dsimp only at hSw); go_simp) <;> with_reducible rfl)
   try simp only [Act.put, List.setIfInBounds_toArray, List.set_cons_zero, List.set_cons_succ]
   refine wpAnyH_take (i := 2) (oi := { dst := some 70, op := Op.load 23 (Operand.tmp 6), type := 23, pos := "law.go:128", after := #[], guard := none }) (v := ?_) rfl (by kernel_rfl) (by kernel_rfl) (by kernel_rfl) (fun _ _ _ h => h) (Or.inl ⟨by rfl, ?_⟩) (by assumption) ?_; rotate_left; · ((intro w hSw; (try dsimp only at hSw); go_simp) <;> with_reducible rfl)
   try simp only [Act.put, List.setIfInBounds_toArray, List.set_cons_zero, List.set_cons_succ]
   refine wpAnyH_ready (rs := [1, 5]) (by kernel_rfl) (by simp) ?_
   refine (AllReadyH.cons (o := { dst := some 69, op := Op.call { callee := Callee.value (Operand.func 23), args := #[Operand.tmp 68], argTypes := #[23] }, type := 56, pos := "law.go:128", after := #[{ on := 0, ground := Ground.data }], guard := none }) rfl (fun K hK => ?way2) (AllReadyH.cons (o := { dst := some 18, op := Op.alloc 68, type := 0, pos := "law.go:128", after := #[], guard := none }) rfl (fun K hK => ?way1) AllReadyH.nil))
   case' way2 =>
     go_simp; (go_at_call 23; (have _t := tN1); refine (HNr.out _).mono ?_; clear _t tN1; rintro e w10 ⟨A1, c1, rfl, h1, b3⟩; have b6 : Below w9.heap.size w9 w10 := (by first | exact bt cz b3 | exact bt (b1alloc w9 _).drew b3); (first | (have hZ1 := (show Blk w10 w9.heap.size [.int .i64 0, .int .i64 0, .int .i64 0, .slice none 0 0, .int .u64 0, .int .u64 0, .int .i64 0, .int .u64 0, .int .i64 0, .bool false, .int .i64 0, .int .i64 0, .int .i64 0, .slice none 0 0, .int .u64 0, .int .u64 0, .int .i64 0, .int .u64 0, .int .i64 0, .bool false] from (show Blk ((w9.alloc (.cells #[.int .i64 0, .int .i64 0, .int .i64 0, .slice none 0 0, .int .u64 0, .int .u64 0, .int .i64 0, .int .u64 0, .int .i64 0, .bool false, .int .i64 0, .int .i64 0, .int .i64 0, .slice none 0 0, .int .u64 0, .int .u64 0, .int .i64 0, .int .u64 0, .int .i64 0, .bool false] 68)).drew) w9.heap.size _ from Blk.new w9 [.int .i64 0, .int .i64 0, .int .i64 0, .slice none 0 0, .int .u64 0, .int .u64 0, .int .i64 0, .int .u64 0, .int .i64 0, .bool false, .int .i64 0, .int .i64 0, .int .i64 0, .slice none 0 0, .int .u64 0, .int .u64 0, .int .i64 0, .int .u64 0, .int .i64 0, .bool false] 68).on b3); have H1 := Lib.hid (h1.imp (Q' := fun j => w9.heap.size + 1 <= j) (fun j _ hj => by simpa using hj)); have HZ1 := Lib.hid hZ1; clear hZ1 h1) | (have H1 := Lib.hid (h1.imp (Q' := fun j => w9.heap.size <= j /\ j < w10.heap.size) (fun j hj hj2 => ⟨hj2, hj⟩)); clear h1)); have hS3 := HKS.out _ b6; have hS4 := HKS.out _ (bt b6 (b1alloc w10 (.cells #[.int .i64 0, .int .i64 0, .int .i64 0, .slice none 0 0, .int .u64 0, .int .u64 0, .int .i64 0, .int .u64 0, .int .i64 0, .bool false, .int .i64 0, .int .i64 0, .int .i64 0, .slice none 0 0, .int .u64 0, .int .u64 0, .int .i64 0, .int .u64 0, .int .i64 0, .bool false] 68)))); (try (go_wp2_with fail)); refine hK.out _ _ (by first | (first | with_reducible exact hS0 | with_reducible exact hS1 | with_reducible exact hS3 | with_reducible exact hS4 | with_reducible exact hS5 | with_reducible exact hS6 | with_reducible exact hS7 | with_reducible exact hS8 | exact hS7) | ((try dsimp only); (first | with_reducible exact hS0 | with_reducible exact hS1 | with_reducible exact hS3 | with_reducible exact hS4 | with_reducible exact hS5 | with_reducible exact hS6 | with_reducible exact hS7 | with_reducible exact hS8 | exact hS7))) (fun hHeld => ?_)
     clear hK K
     try simp only [Act.put, List.setIfInBounds_toArray, List.set_cons_zero, List.set_cons_succ]
     refine wpAnyH_ready (rs := [3, 5]) (by kernel_rfl) (by simp) ?_
     refine (AllReadyH.cons (o := { dst := some 71, op := Op.call { callee := Callee.value (Operand.func 23), args := #[Operand.tmp 70], argTypes := #[23] }, type := 56, pos := "law.go:128", after := #[{ on := 2, ground := Ground.data }, { on := 1, ground := Ground.chain }], guard := none }) rfl (fun K hK => ?way4) (AllReadyH.cons (o := { dst := some 18, op := Op.alloc 68, type := 0, pos := "law.go:128", after := #[], guard := none }) rfl (fun K hK => ?way3) AllReadyH.nil))
     case' way4 =>
       go_simp; (go_at_call 23; refine (HNr.out _).mono ?_; rintro e w11 ⟨A2, c2, rfl, h2, b4⟩; have b7 : Below w9.heap.size w9 w11 := (by first | exact bt b6 b4 | exact bt (bt b6 (b1alloc w10 _)) b4); have B7 := Lib.hid b7; (first | (have hZ := HZ1.out.on b4; have HZ := Lib.hid hZ; have thZ := there_sub (o := 0) (n := 20) hZ (by simp); have HR1 := Lib.hid (H1.out.on b4); have HR2 := Lib.hid (h2.imp (Q' := fun j => w9.heap.size + 1 <= j) (fun j _ hj => by (have := b6.size; have := HZ1.out.lt; omega))); have hS5 := (show (fun W : World => W.cell? ⟨w.heap.size, 0, none⟩ = some (.int .i64 ga) /\ W.cell? ⟨w.heap.size, 1, none⟩ = some (.int .i64 gd) /\ W.cell? ⟨w.heap.size, 2, none⟩ = some (.int .i64 gl)) (w11.setCells w9.heap.size 0 (#[.int .i64 ga, .int .i64 gd, .int .i64 gl, .slice A1 y1.pages.length c1, .int .u64 (y1.gen.toNat : Int), .int .u64 (y1.life.toNat : Int), .int .i64 y1.base, .int .u64 (y1.began.toNat : Int), .int .i64 (y1.seq : Int), .bool y1.due, .int .i64 ga, .int .i64 gd, .int .i64 gl, .slice A2 y1.pages.length c2, .int .u64 (y1.gen.toNat : Int), .int .u64 (y1.life.toNat : Int), .int .i64 y1.base, .int .u64 (y1.began.toNat : Int), .int .i64 (y1.seq : Int), .bool y1.due] : Array Value).toList) from HKT.out w11 b7 w9.heap.size (Nat.le_refl _) (#[.int .i64 ga, .int .i64 gd, .int .i64 gl, .slice A1 y1.pages.length c1, .int .u64 (y1.gen.toNat : Int), .int .u64 (y1.life.toNat : Int), .int .i64 y1.base, .int .u64 (y1.began.toNat : Int), .int .i64 (y1.seq : Int), .bool y1.due, .int .i64 ga, .int .i64 gd, .int .i64 gl, .slice A2 y1.pages.length c2, .int .u64 (y1.gen.toNat : Int), .int .u64 (y1.life.toNat : Int), .int .i64 y1.base, .int .u64 (y1.began.toNat : Int), .int .i64 (y1.seq : Int), .bool y1.due] : Array Value).toList); clear hZ h2) | (have hZ := (show Blk w11 w10.heap.size [.int .i64 0, .int .i64 0, .int .i64 0, .slice none 0 0, .int .u64 0, .int .u64 0, .int .i64 0, .int .u64 0, .int .i64 0, .bool false, .int .i64 0, .int .i64 0, .int .i64 0, .slice none 0 0, .int .u64 0, .int .u64 0, .int .i64 0, .int .u64 0, .int .i64 0, .bool false] from (Blk.new w10 [.int .i64 0, .int .i64 0, .int .i64 0, .slice none 0 0, .int .u64 0, .int .u64 0, .int .i64 0, .int .u64 0, .int .i64 0, .bool false, .int .i64 0, .int .i64 0, .int .i64 0, .slice none 0 0, .int .u64 0, .int .u64 0, .int .i64 0, .int .u64 0, .int .i64 0, .bool false] 68).on b4); have HZb := Lib.hid hZ; have thZ := there_sub (o := 0) (n := 20) hZ (by simp); have HR1 := Lib.hid (H1.out.on (bt (b1alloc w10 _) b4)); have HR2 := Lib.hid (h2.imp (Q' := fun j => w10.heap.size + 1 <= j) (fun j _ hj => by simpa using hj)); have hS5 := (show (fun W : World => W.cell? ⟨w.heap.size, 0, none⟩ = some (.int .i64 ga) /\ W.cell? ⟨w.heap.size, 1, none⟩ = some (.int .i64 gd) /\ W.cell? ⟨w.heap.size, 2, none⟩ = some (.int .i64 gl)) (w11.setCells w10.heap.size 0 (#[.int .i64 ga, .int .i64 gd, .int .i64 gl, .slice A1 y1.pages.length c1, .int .u64 (y1.gen.toNat : Int), .int .u64 (y1.life.toNat : Int), .int .i64 y1.base, .int .u64 (y1.began.toNat : Int), .int .i64 (y1.seq : Int), .bool y1.due, .int .i64 ga, .int .i64 gd, .int .i64 gl, .slice A2 y1.pages.length c2, .int .u64 (y1.gen.toNat : Int), .int .u64 (y1.life.toNat : Int), .int .i64 y1.base, .int .u64 (y1.began.toNat : Int), .int .i64 (y1.seq : Int), .bool y1.due] : Array Value).toList) from HKT.out w11 b7 w10.heap.size b6.size (#[.int .i64 ga, .int .i64 gd, .int .i64 gl, .slice A1 y1.pages.length c1, .int .u64 (y1.gen.toNat : Int), .int .u64 (y1.life.toNat : Int), .int .i64 y1.base, .int .u64 (y1.began.toNat : Int), .int .i64 (y1.seq : Int), .bool y1.due, .int .i64 ga, .int .i64 gd, .int .i64 gl, .slice A2 y1.pages.length c2, .int .u64 (y1.gen.toNat : Int), .int .u64 (y1.life.toNat : Int), .int .i64 y1.base, .int .u64 (y1.began.toNat : Int), .int .i64 (y1.seq : Int), .bool y1.due] : Array Value).toList); clear hZ h2) | (have HR1 := Lib.hid (H1.out.on b4); have HR2 := Lib.hid (h2.imp (Q' := fun j => w10.heap.size <= j) (fun j _ hj => hj)); clear h2)); have hS6 := HKS.out _ b7; have hS7 := HKS.out _ (bt b7 (b1alloc w11 (.cells #[.int .i64 0, .int .i64 0, .int .i64 0, .slice none 0 0, .int .u64 0, .int .u64 0, .int .i64 0, .int .u64 0, .int .i64 0, .bool false, .int .i64 0, .int .i64 0, .int .i64 0, .slice none 0 0, .int .u64 0, .int .u64 0, .int .i64 0, .int .u64 0, .int .i64 0, .bool false] 68))); have hS8 := HKT.out (w11.alloc (.cells #[.int .i64 0, .int .i64 0, .int .i64 0, .slice none 0 0, .int .u64 0, .int .u64 0, .int .i64 0, .int .u64 0, .int .i64 0, .bool false, .int .i64 0, .int .i64 0, .int .i64 0, .slice none 0 0, .int .u64 0, .int .u64 0, .int .i64 0, .int .u64 0, .int .i64 0, .bool false] 68)) (bt b7 (b1alloc w11 _)) w11.heap.size b7.size (#[.int .i64 ga, .int .i64 gd, .int .i64 gl, .slice A1 y1.pages.length c1, .int .u64 (y1.gen.toNat : Int), .int .u64 (y1.life.toNat : Int), .int .i64 y1.base, .int .u64 (y1.began.toNat : Int), .int .i64 (y1.seq : Int), .bool y1.due, .int .i64 ga, .int .i64 gd, .int .i64 gl, .slice A2 y1.pages.length c2, .int .u64 (y1.gen.toNat : Int), .int .u64 (y1.life.toNat : Int), .int .i64 y1.base, .int .u64 (y1.began.toNat : Int), .int .i64 (y1.seq : Int), .bool y1.due] : Array Value).toList; have thC := there_sub (o := 0) (n := 20) (Blk.new w11 [.int .i64 0, .int .i64 0, .int .i64 0, .slice none 0 0, .int .u64 0, .int .u64 0, .int .i64 0, .int .u64 0, .int .i64 0, .bool false, .int .i64 0, .int .i64 0, .int .i64 0, .slice none 0 0, .int .u64 0, .int .u64 0, .int .i64 0, .int .u64 0, .int .i64 0, .bool false] 68) (by simp)); (try (go_wp2_with fail)); refine hK.out _ _ (by first | (first | with_reducible exact hS0 | with_reducible exact hS1 | with_reducible exact hS3 | with_reducible exact hS4 | with_reducible exact hS5 | with_reducible exact hS6 | with_reducible exact hS7 | with_reducible exact hS8 | exact hS7) | ((try dsimp only); (first | with_reducible exact hS0 | with_reducible exact hS1 | with_reducible exact hS3 | with_reducible exact hS4 | with_reducible exact hS5 | with_reducible exact hS6 | with_reducible exact hS7 | with_reducible exact hS8 | exact hS7))) (fun hHeld => ?_)
       clear hK K
       try simp only [Act.put, List.setIfInBounds_toArray, List.set_cons_zero, List.set_cons_succ]
       refine wpAnyH_take (i := 4) (oi := { dst := some 72, op := Op.build 68 #[(0, Operand.tmp 69), (1, Operand.tmp 71)], type := 68, pos := "law.go:128", after := #[{ on := 1, ground := Ground.data }, { on := 3, ground := Ground.data }], guard := none }) (v := ?_) rfl (by kernel_rfl) (by kernel_rfl) (by kernel_rfl) (fun _ _ _ h => h) (Or.inl ⟨by rfl, ?_⟩) (by assumption) ?_; rotate_left; · ((intro w hSw; (try dsimp only at hSw); go_simp) <;> with_reducible rfl)
       try simp only [Act.put, List.setIfInBounds_toArray, List.set_cons_zero, List.set_cons_succ]
       refine wpAnyH_ready (rs := [5]) (by kernel_rfl) (by simp) ?_
       refine AllReadyH.cons (o := { dst := some 18, op := Op.alloc 68, type := 0, pos := "law.go:128", after := #[], guard := none }) rfl (fun K hK => ?_) AllReadyH.nil
       go_simp; skip; (try (go_wp2_with fail)); refine hK.out _ _ (by first | (first | with_reducible exact hS0 | with_reducible exact hS1 | with_reducible exact hS3 | with_reducible exact hS4 | with_reducible exact hS5 | with_reducible exact hS6 | with_reducible exact hS7 | with_reducible exact hS8 | exact hS7) | ((try dsimp only); (first | with_reducible exact hS0 | with_reducible exact hS1 | with_reducible exact hS3 | with_reducible exact hS4 | with_reducible exact hS5 | with_reducible exact hS6 | with_reducible exact hS7 | with_reducible exact hS8 | exact hS7))) (fun hHeld => ?_)
       clear hK K
       try simp only [Act.put, List.setIfInBounds_toArray, List.set_cons_zero, List.set_cons_succ]
       refine wpAnyH_ready (rs := [6]) (by kernel_rfl) (by simp) ?_
       refine AllReadyH.cons (o := { dst := none, op := Op.store 68 (Operand.tmp 18) (Operand.tmp 72), type := 0, pos := "law.go:128", after := #[{ on := 5, ground := Ground.data }, { on := 4, ground := Ground.data }, { on := 3, ground := Ground.chain }, { on := 0, ground := Ground.phase }, { on := 1, ground := Ground.phase }, { on := 2, ground := Ground.phase }, { on := 3, ground := Ground.phase }, { on := 4, ground := Ground.phase }, { on := 5, ground := Ground.phase }], guard := none }) rfl (fun K hK => ?_) AllReadyH.nil
       rw [if_pos (by rfl)]; refine wp_store_mid _ _ _ rfl _ _ _ rfl rfl (by first | exact thZ | exact thC) (by kernel_rfl) (by simp [Value.oneCell']) ?_; refine hK.out _ _ (by (first | with_reducible exact hS0 | with_reducible exact hS1 | with_reducible exact hS3 | with_reducible exact hS4 | with_reducible exact hS5 | with_reducible exact hS6 | with_reducible exact hS7 | with_reducible exact hS8 | exact hS7)) (fun hHeld => ?_)
       clear hK K
       try simp only [Act.put]
       refine wpAnyH_done (by kernel_rfl) ?_ _
     case' way3 =>
       go_simp; skip; (try (go_wp2_with fail)); refine hK.out _ _ (by first | (first | with_reducible exact hS0 | with_reducible exact hS1 | with_reducible exact hS3 | with_reducible exact hS4 | with_reducible exact hS5 | with_reducible exact hS6 | with_reducible exact hS7 | with_reducible exact hS8 | exact hS7) | ((try dsimp only); (first | with_reducible exact hS0 | with_reducible exact hS1 | with_reducible exact hS3 | with_reducible exact hS4 | with_reducible exact hS5 | with_reducible exact hS6 | with_reducible exact hS7 | with_reducible exact hS8 | exact hS7))) (fun hHeld => ?_)
       clear hK K
       try simp only [Act.put, List.setIfInBounds_toArray, List.set_cons_zero, List.set_cons_succ]
       refine wpAnyH_ready (rs := [3]) (by kernel_rfl) (by simp) ?_
       refine AllReadyH.cons (o := { dst := some 71, op := Op.call { callee := Callee.value (Operand.func 23), args := #[Operand.tmp 70], argTypes := #[23] }, type := 56, pos := "law.go:128", after := #[{ on := 2, ground := Ground.data }, { on := 1, ground := Ground.chain }], guard := none }) rfl (fun K hK => ?_) AllReadyH.nil
       go_simp; (go_at_call 23; refine (HNr.out _).mono ?_; rintro e w11 ⟨A2, c2, rfl, h2, b4⟩; have b7 : Below w9.heap.size w9 w11 := (by first | exact bt b6 b4 | exact bt (bt b6 (b1alloc w10 _)) b4); have B7 := Lib.hid b7; (first | (have hZ := HZ1.out.on b4; have HZ := Lib.hid hZ; have thZ := there_sub (o := 0) (n := 20) hZ (by simp); have HR1 := Lib.hid (H1.out.on b4); have HR2 := Lib.hid (h2.imp (Q' := fun j => w9.heap.size + 1 <= j) (fun j _ hj => by (have := b6.size; have := HZ1.out.lt; omega))); have hS5 := (show (fun W : World => W.cell? ⟨w.heap.size, 0, none⟩ = some (.int .i64 ga) /\ W.cell? ⟨w.heap.size, 1, none⟩ = some (.int .i64 gd) /\ W.cell? ⟨w.heap.size, 2, none⟩ = some (.int .i64 gl)) (w11.setCells w9.heap.size 0 (#[.int .i64 ga, .int .i64 gd, .int .i64 gl, .slice A1 y1.pages.length c1, .int .u64 (y1.gen.toNat : Int), .int .u64 (y1.life.toNat : Int), .int .i64 y1.base, .int .u64 (y1.began.toNat : Int), .int .i64 (y1.seq : Int), .bool y1.due, .int .i64 ga, .int .i64 gd, .int .i64 gl, .slice A2 y1.pages.length c2, .int .u64 (y1.gen.toNat : Int), .int .u64 (y1.life.toNat : Int), .int .i64 y1.base, .int .u64 (y1.began.toNat : Int), .int .i64 (y1.seq : Int), .bool y1.due] : Array Value).toList) from HKT.out w11 b7 w9.heap.size (Nat.le_refl _) (#[.int .i64 ga, .int .i64 gd, .int .i64 gl, .slice A1 y1.pages.length c1, .int .u64 (y1.gen.toNat : Int), .int .u64 (y1.life.toNat : Int), .int .i64 y1.base, .int .u64 (y1.began.toNat : Int), .int .i64 (y1.seq : Int), .bool y1.due, .int .i64 ga, .int .i64 gd, .int .i64 gl, .slice A2 y1.pages.length c2, .int .u64 (y1.gen.toNat : Int), .int .u64 (y1.life.toNat : Int), .int .i64 y1.base, .int .u64 (y1.began.toNat : Int), .int .i64 (y1.seq : Int), .bool y1.due] : Array Value).toList); clear hZ h2) | (have hZ := (show Blk w11 w10.heap.size [.int .i64 0, .int .i64 0, .int .i64 0, .slice none 0 0, .int .u64 0, .int .u64 0, .int .i64 0, .int .u64 0, .int .i64 0, .bool false, .int .i64 0, .int .i64 0, .int .i64 0, .slice none 0 0, .int .u64 0, .int .u64 0, .int .i64 0, .int .u64 0, .int .i64 0, .bool false] from (Blk.new w10 [.int .i64 0, .int .i64 0, .int .i64 0, .slice none 0 0, .int .u64 0, .int .u64 0, .int .i64 0, .int .u64 0, .int .i64 0, .bool false, .int .i64 0, .int .i64 0, .int .i64 0, .slice none 0 0, .int .u64 0, .int .u64 0, .int .i64 0, .int .u64 0, .int .i64 0, .bool false] 68).on b4); have HZb := Lib.hid hZ; have thZ := there_sub (o := 0) (n := 20) hZ (by simp); have HR1 := Lib.hid (H1.out.on (bt (b1alloc w10 _) b4)); have HR2 := Lib.hid (h2.imp (Q' := fun j => w10.heap.size + 1 <= j) (fun j _ hj => by simpa using hj)); have hS5 := (show (fun W : World => W.cell? ⟨w.heap.size, 0, none⟩ = some (.int .i64 ga) /\ W.cell? ⟨w.heap.size, 1, none⟩ = some (.int .i64 gd) /\ W.cell? ⟨w.heap.size, 2, none⟩ = some (.int .i64 gl)) (w11.setCells w10.heap.size 0 (#[.int .i64 ga, .int .i64 gd, .int .i64 gl, .slice A1 y1.pages.length c1, .int .u64 (y1.gen.toNat : Int), .int .u64 (y1.life.toNat : Int), .int .i64 y1.base, .int .u64 (y1.began.toNat : Int), .int .i64 (y1.seq : Int), .bool y1.due, .int .i64 ga, .int .i64 gd, .int .i64 gl, .slice A2 y1.pages.length c2, .int .u64 (y1.gen.toNat : Int), .int .u64 (y1.life.toNat : Int), .int .i64 y1.base, .int .u64 (y1.began.toNat : Int), .int .i64 (y1.seq : Int), .bool y1.due] : Array Value).toList) from HKT.out w11 b7 w10.heap.size b6.size (#[.int .i64 ga, .int .i64 gd, .int .i64 gl, .slice A1 y1.pages.length c1, .int .u64 (y1.gen.toNat : Int), .int .u64 (y1.life.toNat : Int), .int .i64 y1.base, .int .u64 (y1.began.toNat : Int), .int .i64 (y1.seq : Int), .bool y1.due, .int .i64 ga, .int .i64 gd, .int .i64 gl, .slice A2 y1.pages.length c2, .int .u64 (y1.gen.toNat : Int), .int .u64 (y1.life.toNat : Int), .int .i64 y1.base, .int .u64 (y1.began.toNat : Int), .int .i64 (y1.seq : Int), .bool y1.due] : Array Value).toList); clear hZ h2) | (have HR1 := Lib.hid (H1.out.on b4); have HR2 := Lib.hid (h2.imp (Q' := fun j => w10.heap.size <= j) (fun j _ hj => hj)); clear h2)); have hS6 := HKS.out _ b7; have hS7 := HKS.out _ (bt b7 (b1alloc w11 (.cells #[.int .i64 0, .int .i64 0, .int .i64 0, .slice none 0 0, .int .u64 0, .int .u64 0, .int .i64 0, .int .u64 0, .int .i64 0, .bool false, .int .i64 0, .int .i64 0, .int .i64 0, .slice none 0 0, .int .u64 0, .int .u64 0, .int .i64 0, .int .u64 0, .int .i64 0, .bool false] 68))); have hS8 := HKT.out (w11.alloc (.cells #[.int .i64 0, .int .i64 0, .int .i64 0, .slice none 0 0, .int .u64 0, .int .u64 0, .int .i64 0, .int .u64 0, .int .i64 0, .bool false, .int .i64 0, .int .i64 0, .int .i64 0, .slice none 0 0, .int .u64 0, .int .u64 0, .int .i64 0, .int .u64 0, .int .i64 0, .bool false] 68)) (bt b7 (b1alloc w11 _)) w11.heap.size b7.size (#[.int .i64 ga, .int .i64 gd, .int .i64 gl, .slice A1 y1.pages.length c1, .int .u64 (y1.gen.toNat : Int), .int .u64 (y1.life.toNat : Int), .int .i64 y1.base, .int .u64 (y1.began.toNat : Int), .int .i64 (y1.seq : Int), .bool y1.due, .int .i64 ga, .int .i64 gd, .int .i64 gl, .slice A2 y1.pages.length c2, .int .u64 (y1.gen.toNat : Int), .int .u64 (y1.life.toNat : Int), .int .i64 y1.base, .int .u64 (y1.began.toNat : Int), .int .i64 (y1.seq : Int), .bool y1.due] : Array Value).toList; have thC := there_sub (o := 0) (n := 20) (Blk.new w11 [.int .i64 0, .int .i64 0, .int .i64 0, .slice none 0 0, .int .u64 0, .int .u64 0, .int .i64 0, .int .u64 0, .int .i64 0, .bool false, .int .i64 0, .int .i64 0, .int .i64 0, .slice none 0 0, .int .u64 0, .int .u64 0, .int .i64 0, .int .u64 0, .int .i64 0, .bool false] 68) (by simp)); (try (go_wp2_with fail)); refine hK.out _ _ (by first | (first | with_reducible exact hS0 | with_reducible exact hS1 | with_reducible exact hS3 | with_reducible exact hS4 | with_reducible exact hS5 | with_reducible exact hS6 | with_reducible exact hS7 | with_reducible exact hS8 | exact hS7) | ((try dsimp only); (first | with_reducible exact hS0 | with_reducible exact hS1 | with_reducible exact hS3 | with_reducible exact hS4 | with_reducible exact hS5 | with_reducible exact hS6 | with_reducible exact hS7 | with_reducible exact hS8 | exact hS7))) (fun hHeld => ?_)
       clear hK K
       try simp only [Act.put, List.setIfInBounds_toArray, List.set_cons_zero, List.set_cons_succ]
       refine wpAnyH_take (i := 4) (oi := { dst := some 72, op := Op.build 68 #[(0, Operand.tmp 69), (1, Operand.tmp 71)], type := 68, pos := "law.go:128", after := #[{ on := 1, ground := Ground.data }, { on := 3, ground := Ground.data }], guard := none }) (v := ?_) rfl (by kernel_rfl) (by kernel_rfl) (by kernel_rfl) (fun _ _ _ h => h) (Or.inl ⟨by rfl, ?_⟩) (by assumption) ?_; rotate_left; · ((intro w hSw; (try dsimp only at hSw); go_simp) <;> with_reducible rfl)
       try simp only [Act.put, List.setIfInBounds_toArray, List.set_cons_zero, List.set_cons_succ]
       refine wpAnyH_ready (rs := [6]) (by kernel_rfl) (by simp) ?_
       refine AllReadyH.cons (o := { dst := none, op := Op.store 68 (Operand.tmp 18) (Operand.tmp 72), type := 0, pos := "law.go:128", after := #[{ on := 5, ground := Ground.data }, { on := 4, ground := Ground.data }, { on := 3, ground := Ground.chain }, { on := 0, ground := Ground.phase }, { on := 1, ground := Ground.phase }, { on := 2, ground := Ground.phase }, { on := 3, ground := Ground.phase }, { on := 4, ground := Ground.phase }, { on := 5, ground := Ground.phase }], guard := none }) rfl (fun K hK => ?_) AllReadyH.nil
       rw [if_pos (by rfl)]; refine wp_store_mid _ _ _ rfl _ _ _ rfl rfl (by first | exact thZ | exact thC) (by kernel_rfl) (by simp [Value.oneCell']) ?_; refine hK.out _ _ (by (first | with_reducible exact hS0 | with_reducible exact hS1 | with_reducible exact hS3 | with_reducible exact hS4 | with_reducible exact hS5 | with_reducible exact hS6 | with_reducible exact hS7 | with_reducible exact hS8 | exact hS7)) (fun hHeld => ?_)
       clear hK K
       try simp only [Act.put]
       refine wpAnyH_done (by kernel_rfl) ?_ _
   case' way1 =>
     go_simp; skip; (try (go_wp2_with fail)); refine hK.out _ _ (by first | (first | with_reducible exact hS0 | with_reducible exact hS1 | with_reducible exact hS3 | with_reducible exact hS4 | with_reducible exact hS5 | with_reducible exact hS6 | with_reducible exact hS7 | with_reducible exact hS8 | exact hS7) | ((try dsimp only); (first | with_reducible exact hS0 | with_reducible exact hS1 | with_reducible exact hS3 | with_reducible exact hS4 | with_reducible exact hS5 | with_reducible exact hS6 | with_reducible exact hS7 | with_reducible exact hS8 | exact hS7))) (fun hHeld => ?_)
     clear hK K
     try simp only [Act.put, List.setIfInBounds_toArray, List.set_cons_zero, List.set_cons_succ]
     refine wpAnyH_ready (rs := [1]) (by kernel_rfl) (by simp) ?_
     refine AllReadyH.cons (o := { dst := some 69, op := Op.call { callee := Callee.value (Operand.func 23), args := #[Operand.tmp 68], argTypes := #[23] }, type := 56, pos := "law.go:128", after := #[{ on := 0, ground := Ground.data }], guard := none }) rfl (fun K hK => ?_) AllReadyH.nil
     go_simp; (go_at_call 23; (have _t := tN1); refine (HNr.out _).mono ?_; clear _t tN1; rintro e w10 ⟨A1, c1, rfl, h1, b3⟩; have b6 : Below w9.heap.size w9 w10 := (by first | exact bt cz b3 | exact bt (b1alloc w9 _).drew b3); (first | (have hZ1 := (show Blk w10 w9.heap.size [.int .i64 0, .int .i64 0, .int .i64 0, .slice none 0 0, .int .u64 0, .int .u64 0, .int .i64 0, .int .u64 0, .int .i64 0, .bool false, .int .i64 0, .int .i64 0, .int .i64 0, .slice none 0 0, .int .u64 0, .int .u64 0, .int .i64 0, .int .u64 0, .int .i64 0, .bool false] from (show Blk ((w9.alloc (.cells #[.int .i64 0, .int .i64 0, .int .i64 0, .slice none 0 0, .int .u64 0, .int .u64 0, .int .i64 0, .int .u64 0, .int .i64 0, .bool false, .int .i64 0, .int .i64 0, .int .i64 0, .slice none 0 0, .int .u64 0, .int .u64 0, .int .i64 0, .int .u64 0, .int .i64 0, .bool false] 68)).drew) w9.heap.size _ from Blk.new w9 [.int .i64 0, .int .i64 0, .int .i64 0, .slice none 0 0, .int .u64 0, .int .u64 0, .int .i64 0, .int .u64 0, .int .i64 0, .bool false, .int .i64 0, .int .i64 0, .int .i64 0, .slice none 0 0, .int .u64 0, .int .u64 0, .int .i64 0, .int .u64 0, .int .i64 0, .bool false] 68).on b3); have H1 := Lib.hid (h1.imp (Q' := fun j => w9.heap.size + 1 <= j) (fun j _ hj => by simpa using hj)); have HZ1 := Lib.hid hZ1; clear hZ1 h1) | (have H1 := Lib.hid (h1.imp (Q' := fun j => w9.heap.size <= j /\ j < w10.heap.size) (fun j hj hj2 => ⟨hj2, hj⟩)); clear h1)); have hS3 := HKS.out _ b6; have hS4 := HKS.out _ (bt b6 (b1alloc w10 (.cells #[.int .i64 0, .int .i64 0, .int .i64 0, .slice none 0 0, .int .u64 0, .int .u64 0, .int .i64 0, .int .u64 0, .int .i64 0, .bool false, .int .i64 0, .int .i64 0, .int .i64 0, .slice none 0 0, .int .u64 0, .int .u64 0, .int .i64 0, .int .u64 0, .int .i64 0, .bool false] 68)))); (try (go_wp2_with fail)); refine hK.out _ _ (by first | (first | with_reducible exact hS0 | with_reducible exact hS1 | with_reducible exact hS3 | with_reducible exact hS4 | with_reducible exact hS5 | with_reducible exact hS6 | with_reducible exact hS7 | with_reducible exact hS8 | exact hS7) | ((try dsimp only); (first | with_reducible exact hS0 | with_reducible exact hS1 | with_reducible exact hS3 | with_reducible exact hS4 | with_reducible exact hS5 | with_reducible exact hS6 | with_reducible exact hS7 | with_reducible exact hS8 | exact hS7))) (fun hHeld => ?_)
     clear hK K
     try simp only [Act.put, List.setIfInBounds_toArray, List.set_cons_zero, List.set_cons_succ]
     refine wpAnyH_ready (rs := [3]) (by kernel_rfl) (by simp) ?_
     refine AllReadyH.cons (o := { dst := some 71, op := Op.call { callee := Callee.value (Operand.func 23), args := #[Operand.tmp 70], argTypes := #[23] }, type := 56, pos := "law.go:128", after := #[{ on := 2, ground := Ground.data }, { on := 1, ground := Ground.chain }], guard := none }) rfl (fun K hK => ?_) AllReadyH.nil
     go_simp; (go_at_call 23; refine (HNr.out _).mono ?_; rintro e w11 ⟨A2, c2, rfl, h2, b4⟩; have b7 : Below w9.heap.size w9 w11 := (by first | exact bt b6 b4 | exact bt (bt b6 (b1alloc w10 _)) b4); have B7 := Lib.hid b7; (first | (have hZ := HZ1.out.on b4; have HZ := Lib.hid hZ; have thZ := there_sub (o := 0) (n := 20) hZ (by simp); have HR1 := Lib.hid (H1.out.on b4); have HR2 := Lib.hid (h2.imp (Q' := fun j => w9.heap.size + 1 <= j) (fun j _ hj => by (have := b6.size; have := HZ1.out.lt; omega))); have hS5 := (show (fun W : World => W.cell? ⟨w.heap.size, 0, none⟩ = some (.int .i64 ga) /\ W.cell? ⟨w.heap.size, 1, none⟩ = some (.int .i64 gd) /\ W.cell? ⟨w.heap.size, 2, none⟩ = some (.int .i64 gl)) (w11.setCells w9.heap.size 0 (#[.int .i64 ga, .int .i64 gd, .int .i64 gl, .slice A1 y1.pages.length c1, .int .u64 (y1.gen.toNat : Int), .int .u64 (y1.life.toNat : Int), .int .i64 y1.base, .int .u64 (y1.began.toNat : Int), .int .i64 (y1.seq : Int), .bool y1.due, .int .i64 ga, .int .i64 gd, .int .i64 gl, .slice A2 y1.pages.length c2, .int .u64 (y1.gen.toNat : Int), .int .u64 (y1.life.toNat : Int), .int .i64 y1.base, .int .u64 (y1.began.toNat : Int), .int .i64 (y1.seq : Int), .bool y1.due] : Array Value).toList) from HKT.out w11 b7 w9.heap.size (Nat.le_refl _) (#[.int .i64 ga, .int .i64 gd, .int .i64 gl, .slice A1 y1.pages.length c1, .int .u64 (y1.gen.toNat : Int), .int .u64 (y1.life.toNat : Int), .int .i64 y1.base, .int .u64 (y1.began.toNat : Int), .int .i64 (y1.seq : Int), .bool y1.due, .int .i64 ga, .int .i64 gd, .int .i64 gl, .slice A2 y1.pages.length c2, .int .u64 (y1.gen.toNat : Int), .int .u64 (y1.life.toNat : Int), .int .i64 y1.base, .int .u64 (y1.began.toNat : Int), .int .i64 (y1.seq : Int), .bool y1.due] : Array Value).toList); clear hZ h2) | (have hZ := (show Blk w11 w10.heap.size [.int .i64 0, .int .i64 0, .int .i64 0, .slice none 0 0, .int .u64 0, .int .u64 0, .int .i64 0, .int .u64 0, .int .i64 0, .bool false, .int .i64 0, .int .i64 0, .int .i64 0, .slice none 0 0, .int .u64 0, .int .u64 0, .int .i64 0, .int .u64 0, .int .i64 0, .bool false] from (Blk.new w10 [.int .i64 0, .int .i64 0, .int .i64 0, .slice none 0 0, .int .u64 0, .int .u64 0, .int .i64 0, .int .u64 0, .int .i64 0, .bool false, .int .i64 0, .int .i64 0, .int .i64 0, .slice none 0 0, .int .u64 0, .int .u64 0, .int .i64 0, .int .u64 0, .int .i64 0, .bool false] 68).on b4); have HZb := Lib.hid hZ; have thZ := there_sub (o := 0) (n := 20) hZ (by simp); have HR1 := Lib.hid (H1.out.on (bt (b1alloc w10 _) b4)); have HR2 := Lib.hid (h2.imp (Q' := fun j => w10.heap.size + 1 <= j) (fun j _ hj => by simpa using hj)); have hS5 := (show (fun W : World => W.cell? ⟨w.heap.size, 0, none⟩ = some (.int .i64 ga) /\ W.cell? ⟨w.heap.size, 1, none⟩ = some (.int .i64 gd) /\ W.cell? ⟨w.heap.size, 2, none⟩ = some (.int .i64 gl)) (w11.setCells w10.heap.size 0 (#[.int .i64 ga, .int .i64 gd, .int .i64 gl, .slice A1 y1.pages.length c1, .int .u64 (y1.gen.toNat : Int), .int .u64 (y1.life.toNat : Int), .int .i64 y1.base, .int .u64 (y1.began.toNat : Int), .int .i64 (y1.seq : Int), .bool y1.due, .int .i64 ga, .int .i64 gd, .int .i64 gl, .slice A2 y1.pages.length c2, .int .u64 (y1.gen.toNat : Int), .int .u64 (y1.life.toNat : Int), .int .i64 y1.base, .int .u64 (y1.began.toNat : Int), .int .i64 (y1.seq : Int), .bool y1.due] : Array Value).toList) from HKT.out w11 b7 w10.heap.size b6.size (#[.int .i64 ga, .int .i64 gd, .int .i64 gl, .slice A1 y1.pages.length c1, .int .u64 (y1.gen.toNat : Int), .int .u64 (y1.life.toNat : Int), .int .i64 y1.base, .int .u64 (y1.began.toNat : Int), .int .i64 (y1.seq : Int), .bool y1.due, .int .i64 ga, .int .i64 gd, .int .i64 gl, .slice A2 y1.pages.length c2, .int .u64 (y1.gen.toNat : Int), .int .u64 (y1.life.toNat : Int), .int .i64 y1.base, .int .u64 (y1.began.toNat : Int), .int .i64 (y1.seq : Int), .bool y1.due] : Array Value).toList); clear hZ h2) | (have HR1 := Lib.hid (H1.out.on b4); have HR2 := Lib.hid (h2.imp (Q' := fun j => w10.heap.size <= j) (fun j _ hj => hj)); clear h2)); have hS6 := HKS.out _ b7; have hS7 := HKS.out _ (bt b7 (b1alloc w11 (.cells #[.int .i64 0, .int .i64 0, .int .i64 0, .slice none 0 0, .int .u64 0, .int .u64 0, .int .i64 0, .int .u64 0, .int .i64 0, .bool false, .int .i64 0, .int .i64 0, .int .i64 0, .slice none 0 0, .int .u64 0, .int .u64 0, .int .i64 0, .int .u64 0, .int .i64 0, .bool false] 68))); have hS8 := HKT.out (w11.alloc (.cells #[.int .i64 0, .int .i64 0, .int .i64 0, .slice none 0 0, .int .u64 0, .int .u64 0, .int .i64 0, .int .u64 0, .int .i64 0, .bool false, .int .i64 0, .int .i64 0, .int .i64 0, .slice none 0 0, .int .u64 0, .int .u64 0, .int .i64 0, .int .u64 0, .int .i64 0, .bool false] 68)) (bt b7 (b1alloc w11 _)) w11.heap.size b7.size (#[.int .i64 ga, .int .i64 gd, .int .i64 gl, .slice A1 y1.pages.length c1, .int .u64 (y1.gen.toNat : Int), .int .u64 (y1.life.toNat : Int), .int .i64 y1.base, .int .u64 (y1.began.toNat : Int), .int .i64 (y1.seq : Int), .bool y1.due, .int .i64 ga, .int .i64 gd, .int .i64 gl, .slice A2 y1.pages.length c2, .int .u64 (y1.gen.toNat : Int), .int .u64 (y1.life.toNat : Int), .int .i64 y1.base, .int .u64 (y1.began.toNat : Int), .int .i64 (y1.seq : Int), .bool y1.due] : Array Value).toList; have thC := there_sub (o := 0) (n := 20) (Blk.new w11 [.int .i64 0, .int .i64 0, .int .i64 0, .slice none 0 0, .int .u64 0, .int .u64 0, .int .i64 0, .int .u64 0, .int .i64 0, .bool false, .int .i64 0, .int .i64 0, .int .i64 0, .slice none 0 0, .int .u64 0, .int .u64 0, .int .i64 0, .int .u64 0, .int .i64 0, .bool false] 68) (by simp)); (try (go_wp2_with fail)); refine hK.out _ _ (by first | (first | with_reducible exact hS0 | with_reducible exact hS1 | with_reducible exact hS3 | with_reducible exact hS4 | with_reducible exact hS5 | with_reducible exact hS6 | with_reducible exact hS7 | with_reducible exact hS8 | exact hS7) | ((try dsimp only); (first | with_reducible exact hS0 | with_reducible exact hS1 | with_reducible exact hS3 | with_reducible exact hS4 | with_reducible exact hS5 | with_reducible exact hS6 | with_reducible exact hS7 | with_reducible exact hS8 | exact hS7))) (fun hHeld => ?_)
     clear hK K
     try simp only [Act.put, List.setIfInBounds_toArray, List.set_cons_zero, List.set_cons_succ]
     refine wpAnyH_take (i := 4) (oi := { dst := some 72, op := Op.build 68 #[(0, Operand.tmp 69), (1, Operand.tmp 71)], type := 68, pos := "law.go:128", after := #[{ on := 1, ground := Ground.data }, { on := 3, ground := Ground.data }], guard := none }) (v := ?_) rfl (by kernel_rfl) (by kernel_rfl) (by kernel_rfl) (fun _ _ _ h => h) (Or.inl ⟨by rfl, ?_⟩) (by assumption) ?_; rotate_left; · ((intro w hSw; (try dsimp only at hSw); go_simp) <;> with_reducible rfl)
     try simp only [Act.put, List.setIfInBounds_toArray, List.set_cons_zero, List.set_cons_succ]
     refine wpAnyH_ready (rs := [6]) (by kernel_rfl) (by simp) ?_
     refine AllReadyH.cons (o := { dst := none, op := Op.store 68 (Operand.tmp 18) (Operand.tmp 72), type := 0, pos := "law.go:128", after := #[{ on := 5, ground := Ground.data }, { on := 4, ground := Ground.data }, { on := 3, ground := Ground.chain }, { on := 0, ground := Ground.phase }, { on := 1, ground := Ground.phase }, { on := 2, ground := Ground.phase }, { on := 3, ground := Ground.phase }, { on := 4, ground := Ground.phase }, { on := 5, ground := Ground.phase }], guard := none }) rfl (fun K hK => ?_) AllReadyH.nil
     rw [if_pos (by rfl)]; refine wp_store_mid _ _ _ rfl _ _ _ rfl rfl (by first | exact thZ | exact thC) (by kernel_rfl) (by simp [Value.oneCell']) ?_; refine hK.out _ _ (by (first | with_reducible exact hS0 | with_reducible exact hS1 | with_reducible exact hS3 | with_reducible exact hS4 | with_reducible exact hS5 | with_reducible exact hS6 | with_reducible exact hS7 | with_reducible exact hS8 | exact hS7)) (fun hHeld => ?_)
     clear hK K
     try simp only [Act.put]
     refine wpAnyH_done (by kernel_rfl) ?_ _
   all_goals
     go_wp2_with fail
     go_meet
     case rel => first
       | exact at8_new H9.out B7.out HZ.out rfl (by simp [e8]) (Nat.le_refl _) (HR1.out.imp (fun j _ hj => ⟨by omega, by omega⟩)) (HR2.out.imp (fun j _ hj => ⟨by omega, by omega⟩))
       | exact at8_new H9.out B7.out HZb.out rfl (by simp [e8]) b6.size (HR1.out.imp (fun j _ hj => ⟨by omega, by omega⟩)) (HR2.out.imp (fun j _ hj => ⟨by have := b6.size; omega, by omega⟩))
       | exact at8_new H9.out (bt B7.out (b1alloc w11 _)) (Blk.new w11 [.int .i64 0, .int .i64 0, .int .i64 0, .slice none 0 0, .int .u64 0, .int .u64 0, .int .i64 0, .int .u64 0, .int .i64 0, .bool false, .int .i64 0, .int .i64 0, .int .i64 0, .slice none 0 0, .int .u64 0, .int .u64 0, .int .i64 0, .int .u64 0, .int .i64 0, .bool false] 68) rfl (by simp [e8]) b7.size ((HR1.out.imp (Q' := fun j => w9.heap.size <= j /\ j ≠ w11.heap.size) (fun j hj h => ⟨by omega, by omega⟩)).on (b1alloc w11 _)) ((HR2.out.imp (Q' := fun j => w9.heap.size <= j /\ j ≠ w11.heap.size) (fun j hj h => ⟨by have := b6.size; omega, by omega⟩)).on (b1alloc w11 _))
 case rest =>
 obtain ⟨S, A1, c1, A2, c2, rfl, HC0, HN0⟩ := hcut
 have HC := Lib.hid HC0
 have HL0 := Lib.hid HN0
 clear HC0 HN0 H9 m0 m1 m2
 go_wp2_with fail
 go_loopw [16, 19, 20] (fun xv kv iv wr => ∃ (q K m X2 R2 L2 : Nat) (fp2 : List Nat) (y : RS) (A3 : Option Addr) (c3 : Nat) (yp : RS) (A4 : Option Addr) (c4 : Nat) (ua : Bool), q <= l.length /\ iv = .int .i64 (q : Int) /\ kv = .int .i64 (K : Int) /\ xv = .pointer (some ⟨X2, 0, none⟩) /\ CX (Al ga gd gl n y.pages y.gen (some y.seq) ua (q + K + 1)) wA wr X2 R2 L2 g fp2 gS bS ga gd gl (q + K + 1) /\ NL wA wr X2 R2 L2 fp2 gS bS ga gd gl S y A3 c3 yp A4 c4 /\ YOk ga gd gl y (q + 1) /\ Cnt K m ua /\ m <= q) (fun _ _ iv _ => l.length - (intOf iv).toNat)
 case atStart => exact ⟨0, 0, 0, X, R, L, fp9, y1, A1, c1, y1, A2, c2, true, by omega, rfl, rfl, rfl, HC.out, HL0.out, HY1.out.2.2.2, ⟨by omega, by omega, fun e => by cases e⟩, by omega⟩
 case round =>
   obtain ⟨q, K, m, X2, R2, L2, fp2, y, A3, c3, yp, A4, c4, ua, hq, rfl, rfl, rfl, hCX, hNL, hYO, hCnt, hmq⟩ := hrel
   obtain ⟨wo, hwo⟩ : ∃ wo, wo = wr := ⟨_, rfl⟩
   subst hwo
   have HCX := Lib.hid hCX
   have HNL := Lib.hid hNL
   have HYO := Lib.hid hYO
   have HCnt := Lib.hid (And.intro hCnt hmq)
   have h20 := HSL.out.1
   have hK16 : K <= 16 := by have := hCnt.le; have := hCnt.m8; omega
   clear hCX hNL hYO hCnt hmq HC HL0
   by_cases hlt : q < l.length
   · have hkn : (q : Int) < (l.length : Int) := by omega
     obtain ⟨bA, off, Ai, ci, rfl, hbA, hQA, hx⟩ := HR.out.get hlt
     have HX := Lib.hid (fun W (bW : Below w.heap.size w W) => show W.cell? ⟨bA, off + q * 3, none⟩ = some (.int .i64 l[q].kind) /\ Wal.TxAt W (fun j => j < w.heap.size) bA (off + q * 3 + 1) l[q].tx Ai ci from ⟨(World.cell?_of_block (bW.block _ hbA)).trans hx.c, hx.t.keep (Keep.of_below bW []) (fun j _ _ => by simp) hbA hQA⟩)
     have HLt := Lib.hid (HSL.out.2.2 q hlt)
     obtain ⟨x, hx0⟩ : ∃ x, x = l[q] := ⟨_, rfl⟩
     rw [<- hx0] at HX HLt
     have HbA := Lib.hid (And.intro hbA hQA)
     obtain ⟨kd, hkd⟩ : ∃ kd, kd = x.kind := ⟨_, rfl⟩
     have Hkd := Lib.hid hkd
     have Hlt := Lib.hid hlt
     clear hx hx0 hkd hbA hQA
     go_upto_if 82 with (fail)
     go_cut [] (fun wx => ∃ (L3 : Nat) (fp3 : List Nat) (ua3 : Bool) (m3 : Nat), CX (Al ga gd gl n y.pages y.gen (some y.seq) ua3 (q + K + 1)) wA wx X2 R2 L3 g fp3 gS bS ga gd gl (q + K + 1) /\ NL wA wx X2 R2 L3 fp3 gS bS ga gd gl S y A3 c3 yp A4 c4 /\ Cnt K m3 ua3 /\ m3 <= q + 1)
     case first => as_aux_lemma =>
       by_cases hqf : q < fs.length
       · have hqf2 : (q : Int) < (fs.length : Int) := by omega
         obtain ⟨bF, offF, rfl, hbF, hcF⟩ := HFr.out.1.get (k := q) (by simpa using hqf)
         have hfq := HFr.out.2 fs[q] (List.getElem_mem hqf)
         obtain ⟨fz, hfz⟩ : ∃ fz, fz = fs[q] := ⟨_, rfl⟩
         rw [List.getElem_map, <- hfz] at hcF
         rw [<- hfz] at hfq
         have z0 : wo.cell? ⟨bF, offF + q, none⟩ = some (.int .i64 fz) := ((bt b0 HCX.out.bel).cell (p := ⟨bF, offF + q, none⟩) hbF).trans hcF
         have HAr := Lib.hid (HCX.out.armed (Ψ := Al ga gd gl n y.pages y.gen (some y.seq) false (q + K + 1)) fz hfq.1 hfq.2 (fun _ _ _ h => h.arm))
         clear hfz hfq hcF
         go_wp2_with (go_at_call 30; refine HAr.out.mono ?_; rintro e w10 ⟨rfl, L3, fp3, h3, k3, f3⟩)
         go_meet
         case rel => exact ⟨L3, fp3, false, m + 1, h3, HNL.out.turn k3 f3, HCnt.out.1.arm (by have := HCnt.out.2; have := HN.out.1; omega), by have := HCnt.out.2; omega⟩
       · have hqf2 : ¬ (q : Int) < (fs.length : Int) := by omega
         go_wp2_with fail
         go_meet
         case rel => exact ⟨L2, fp2, ua, m, HCX.out, HNL.out, HCnt.out.1, by have := HCnt.out.2; omega⟩
     case rest =>
     obtain ⟨L3, fp3, ua3, m3, hC3, hN3, hCt3, hm3⟩ := hcut
     have HC3 := Lib.hid hC3
     have HN3 := Lib.hid hN3
     have HCt3 := Lib.hid (And.intro hCt3 hm3)
     have y0' := (HX.out wc (bt b0 hC3.bel)).1
     rw [<- Hkd.out] at y0'
     clear hC3 hN3 hCt3 hm3 HCX HNL HCnt
     go_upto_block 2 with (fail)
     go_cut [] (fun wx => Mid9 ga gd gl n wA X2 R2 g gS bS S q ua3 (q + K + 1 + 1) wx)
     case first =>
       by_cases hk0 : kd = 0
       · subst hk0
         have HCo := Lib.hid (fun W (bW : Below wc.heap.size wc W) => HN3.out.rcommit HC3.out HYO.out (by omega) HG.out HGr.out.1 Ai x.tx.pages ci x.tx.gen ((HX.out wc (bt b0 HC3.out.bel)).2.pgs.imp (fun j hj hq => Nat.lt_of_lt_of_le hq b0.size)) (by have := (HLt.out.pages x.tx (by simp)).1; omega) W bW)
         obtain ⟨yn, hyn⟩ : ∃ yn, yn = y.commit ga gd gl x.tx.pages x.tx.gen := ⟨_, rfl⟩
         rw [<- hyn] at HCo
         obtain ⟨y2, er⟩ := yn
         simp only at HCo
         have Hyn := Lib.hid hyn
         clear hyn
         go_upto_region 20 with (fail)
         have cz : Below wc.heap.size wc wc.drew := (Below.refl _ _).drew
         have HKS := Lib.hid (fun W (bW : Below wc.heap.size wc W) => show (fun W : World => W.cell? ⟨S, 0, none⟩ = some (.int .i64 ga) /\ W.cell? ⟨S, 1, none⟩ = some (.int .i64 gd) /\ W.cell? ⟨S, 2, none⟩ = some (.int .i64 gl) /\ W.cell? ⟨S, 3, none⟩ = some (.slice A3 y.pages.length c3) /\ W.cell? ⟨S, 4, none⟩ = some (.int .u64 (y.gen.toNat : Int)) /\ W.cell? ⟨S, 5, none⟩ = some (.int .u64 (y.life.toNat : Int)) /\ W.cell? ⟨S, 6, none⟩ = some (.int .i64 y.base) /\ W.cell? ⟨S, 7, none⟩ = some (.int .u64 (y.began.toNat : Int)) /\ W.cell? ⟨S, 8, none⟩ = some (.int .i64 (y.seq : Int)) /\ W.cell? ⟨S, 9, none⟩ = some (.bool y.due) /\ W.cell? ⟨bA, off + q * 3 + 1, none⟩ = some (.slice Ai x.tx.pages.length ci) /\ W.cell? ⟨bA, off + q * 3 + 1 + 1, none⟩ = some (.int .u64 (x.tx.gen.toNat : Int))) W from by
           obtain ⟨z0, z1, z2, z3, z4, z5, z6, z7, z8, z9, z10, z11, z12, z13, z14, z15, z16, z17, z18, z19⟩ := twenty (HN3.out.blk.on bW)
           have ht := (HX.out W (bt b0 (HC3.out.on bW).bel)).2
           exact ⟨z0, z1, z2, z3, z4, z5, z6, z7, z8, z9, ht.c0, ht.c1⟩)
         have HKT := Lib.hid (fun W (bW : Below wc.heap.size wc W) T (hT : wc.heap.size <= T) v0 v1 v2 v3 v4 v5 v6 v7 v8 v9 => show (fun W : World => W.cell? ⟨S, 0, none⟩ = some (.int .i64 ga) /\ W.cell? ⟨S, 1, none⟩ = some (.int .i64 gd) /\ W.cell? ⟨S, 2, none⟩ = some (.int .i64 gl) /\ W.cell? ⟨S, 3, none⟩ = some (.slice A3 y.pages.length c3) /\ W.cell? ⟨S, 4, none⟩ = some (.int .u64 (y.gen.toNat : Int)) /\ W.cell? ⟨S, 5, none⟩ = some (.int .u64 (y.life.toNat : Int)) /\ W.cell? ⟨S, 6, none⟩ = some (.int .i64 y.base) /\ W.cell? ⟨S, 7, none⟩ = some (.int .u64 (y.began.toNat : Int)) /\ W.cell? ⟨S, 8, none⟩ = some (.int .i64 (y.seq : Int)) /\ W.cell? ⟨S, 9, none⟩ = some (.bool y.due) /\ W.cell? ⟨bA, off + q * 3 + 1, none⟩ = some (.slice Ai x.tx.pages.length ci) /\ W.cell? ⟨bA, off + q * 3 + 1 + 1, none⟩ = some (.int .u64 (x.tx.gen.toNat : Int))) (set10 W T v0 v1 v2 v3 v4 v5 v6 v7 v8 v9) from by
           have k10 := set10_keep (fp := [T]) (Keep.refl _ W) (X := T) (by simp) v0 v1 v2 v3 v4 v5 v6 v7 v8 v9
           obtain ⟨z0, z1, z2, z3, z4, z5, z6, z7, z8, z9, z10, z11, z12, z13, z14, z15, z16, z17, z18, z19⟩ := twenty ((HN3.out.blk.on bW).keepK k10 (by have := HN3.out.blk.lt; simp; omega))
           have hbs := (bt b0 HC3.out.bel).size
           have hbA : bA < W.heap.size /\ bA ∉ [T] := ⟨by have := HbA.out.1; have := bW.size; omega, by have := HbA.out.1; simp; omega⟩
           have ht := (HX.out W (bt b0 (HC3.out.on bW).bel)).2
           exact ⟨z0, z1, z2, z3, z4, z5, z6, z7, z8, z9, (World.cell?_of_block (k10.block hbA.1 hbA.2)).trans ht.c0, (World.cell?_of_block (k10.block hbA.1 hbA.2)).trans ht.c1⟩)
         have hS0 := HKS.out _ cz
         have hS1 := HKS.out ((wc.alloc (.cells #[.int .i64 0, .int .i64 0, .int .i64 0, .slice none 0 0, .int .u64 0, .int .u64 0, .int .i64 0, .int .u64 0, .int .i64 0, .bool false] 56)).drew) (b1alloc wc _).drew
         go_region_held3 (fun W : World => W.cell? ⟨S, 0, none⟩ = some (.int .i64 ga) /\ W.cell? ⟨S, 1, none⟩ = some (.int .i64 gd) /\ W.cell? ⟨S, 2, none⟩ = some (.int .i64 gl) /\ W.cell? ⟨S, 3, none⟩ = some (.slice A3 y.pages.length c3) /\ W.cell? ⟨S, 4, none⟩ = some (.int .u64 (y.gen.toNat : Int)) /\ W.cell? ⟨S, 5, none⟩ = some (.int .u64 (y.life.toNat : Int)) /\ W.cell? ⟨S, 6, none⟩ = some (.int .i64 y.base) /\ W.cell? ⟨S, 7, none⟩ = some (.int .u64 (y.began.toNat : Int)) /\ W.cell? ⟨S, 8, none⟩ = some (.int .i64 (y.seq : Int)) /\ W.cell? ⟨S, 9, none⟩ = some (.bool y.due) /\ W.cell? ⟨bA, off + q * 3 + 1, none⟩ = some (.slice Ai x.tx.pages.length ci) /\ W.cell? ⟨bA, off + q * 3 + 1 + 1, none⟩ = some (.int .u64 (x.tx.gen.toNat : Int))) (first | with_reducible exact hS0 | with_reducible exact hS1 | with_reducible exact hS3 | with_reducible exact hS4 | with_reducible exact hS5 | with_reducible exact hS6) ((go_at_call 25; refine (HCo.out _ (by first | exact cz | exact (b1alloc wc _).drew)).mono ?_; rintro e w3 ⟨A5, c5, rfl, h3, b3⟩; have b6 : Below wc.heap.size wc w3 := (by first | exact bt cz b3 | exact bt (b1alloc wc _).drew b3); have hZ2 := Blk.new w3 [.int .i64 0, .int .i64 0, .int .i64 0, .slice none 0 0, .int .u64 0, .int .u64 0, .int .i64 0, .int .u64 0, .int .i64 0, .bool false] 56; have fr2 := hZ2.free; have lr2 := hZ2.lt; obtain ⟨r0, r1, r2, r3, r4, r5, r6, r7, r8, r9⟩ := ten hZ2; (first | (have hZ1 := (show Blk w3 wc.heap.size [.int .i64 0, .int .i64 0, .int .i64 0, .slice none 0 0, .int .u64 0, .int .u64 0, .int .i64 0, .int .u64 0, .int .i64 0, .bool false] from (show Blk ((wc.alloc (.cells #[.int .i64 0, .int .i64 0, .int .i64 0, .slice none 0 0, .int .u64 0, .int .u64 0, .int .i64 0, .int .u64 0, .int .i64 0, .bool false] 56)).drew) wc.heap.size _ from Blk.new wc [.int .i64 0, .int .i64 0, .int .i64 0, .slice none 0 0, .int .u64 0, .int .u64 0, .int .i64 0, .int .u64 0, .int .i64 0, .bool false] 56).on b3); have HZ1 := Lib.hid hZ1; have fr1 := hZ1.free; have lr1 := hZ1.lt; obtain ⟨s0, s1, s2, s3, s4, s5, s6, s7, s8, s9⟩ := ten hZ1; clear hZ1) | skip); have HZ2 := Lib.hid hZ2; have H3 := Lib.hid h3; clear hZ2 h3; have hS3 := HKS.out _ b6; have hS4 := HKS.out _ (bt b6 (b1alloc w3 (.cells #[.int .i64 0, .int .i64 0, .int .i64 0, .slice none 0 0, .int .u64 0, .int .u64 0, .int .i64 0, .int .u64 0, .int .i64 0, .bool false] 56))); have hS5 := (show (fun W : World => W.cell? ⟨S, 0, none⟩ = some (.int .i64 ga) /\ W.cell? ⟨S, 1, none⟩ = some (.int .i64 gd) /\ W.cell? ⟨S, 2, none⟩ = some (.int .i64 gl) /\ W.cell? ⟨S, 3, none⟩ = some (.slice A3 y.pages.length c3) /\ W.cell? ⟨S, 4, none⟩ = some (.int .u64 (y.gen.toNat : Int)) /\ W.cell? ⟨S, 5, none⟩ = some (.int .u64 (y.life.toNat : Int)) /\ W.cell? ⟨S, 6, none⟩ = some (.int .i64 y.base) /\ W.cell? ⟨S, 7, none⟩ = some (.int .u64 (y.began.toNat : Int)) /\ W.cell? ⟨S, 8, none⟩ = some (.int .i64 (y.seq : Int)) /\ W.cell? ⟨S, 9, none⟩ = some (.bool y.due) /\ W.cell? ⟨bA, off + q * 3 + 1, none⟩ = some (.slice Ai x.tx.pages.length ci) /\ W.cell? ⟨bA, off + q * 3 + 1 + 1, none⟩ = some (.int .u64 (x.tx.gen.toNat : Int))) (((((((((((w3).setCell ⟨wc.heap.size, 0, none⟩ (.int .i64 ga)).setCell ⟨wc.heap.size, 1, none⟩ (.int .i64 gd)).setCell ⟨wc.heap.size, 2, none⟩ (.int .i64 gl)).setCell ⟨wc.heap.size, 3, none⟩ (.slice A5 y2.pages.length c5)).setCell ⟨wc.heap.size, 4, none⟩ (.int .u64 (y2.gen.toNat : Int))).setCell ⟨wc.heap.size, 5, none⟩ (.int .u64 (y2.life.toNat : Int))).setCell ⟨wc.heap.size, 6, none⟩ (.int .i64 y2.base)).setCell ⟨wc.heap.size, 7, none⟩ (.int .u64 (y2.began.toNat : Int))).setCell ⟨wc.heap.size, 8, none⟩ (.int .i64 (y2.seq : Int))).setCell ⟨wc.heap.size, 9, none⟩ (.bool y2.due)) from HKT.out w3 b6 wc.heap.size (Nat.le_refl _) (.int .i64 ga) (.int .i64 gd) (.int .i64 gl) (.slice A5 y2.pages.length c5) (.int .u64 (y2.gen.toNat : Int)) (.int .u64 (y2.life.toNat : Int)) (.int .i64 y2.base) (.int .u64 (y2.began.toNat : Int)) (.int .i64 (y2.seq : Int)) (.bool y2.due)); have hS6 := HKS.out _ (bt b6 (b1alloc w3 (.cells #[.int .i64 ga, .int .i64 gd, .int .i64 gl, .slice A5 y2.pages.length c5, .int .u64 (y2.gen.toNat : Int), .int .u64 (y2.life.toNat : Int), .int .i64 y2.base, .int .u64 (y2.began.toNat : Int), .int .i64 (y2.seq : Int), .bool y2.due] 56)))))
         all_goals first
           | (have f4 := set10_blk HZ1.out (.int .i64 ga) (.int .i64 gd) (.int .i64 gl) (.slice A5 y2.pages.length c5) (.int .u64 (y2.gen.toNat : Int)) (.int .u64 (y2.life.toNat : Int)) (.int .i64 y2.base) (.int .u64 (y2.began.toNat : Int)) (.int .i64 (y2.seq : Int)) (.bool y2.due)
              have k4 := set10_keep (fp := [wc.heap.size]) (Keep.refl _ w3) (X := wc.heap.size) (by simp) (.int .i64 ga) (.int .i64 gd) (.int .i64 gl) (.slice A5 y2.pages.length c5) (.int .u64 (y2.gen.toNat : Int)) (.int .u64 (y2.life.toNat : Int)) (.int .i64 y2.base) (.int .u64 (y2.began.toNat : Int)) (.int .i64 (y2.seq : Int)) (.bool y2.due)
              have bW := set10_below b6 (Nat.le_refl _) (.int .i64 ga) (.int .i64 gd) (.int .i64 gl) (.slice A5 y2.pages.length c5) (.int .u64 (y2.gen.toNat : Int)) (.int .u64 (y2.life.toNat : Int)) (.int .i64 y2.base) (.int .u64 (y2.began.toNat : Int)) (.int .i64 (y2.seq : Int)) (.bool y2.due)
              have rW := (H3.out.keep k4 (fun j hj _ e => by rw [List.mem_singleton] at e; have := hj.2; simp at this; omega)).imp (Q' := fun j => Off X2 R2 L3 bS gS fp3 j /\ j ≠ S) (fun j _ o => o.1)
              obtain ⟨w4, hw4⟩ : ∃ W, W = ((((((((((w3).setCell ⟨wc.heap.size, 0, none⟩ (.int .i64 ga)).setCell ⟨wc.heap.size, 1, none⟩ (.int .i64 gd)).setCell ⟨wc.heap.size, 2, none⟩ (.int .i64 gl)).setCell ⟨wc.heap.size, 3, none⟩ (.slice A5 y2.pages.length c5)).setCell ⟨wc.heap.size, 4, none⟩ (.int .u64 (y2.gen.toNat : Int))).setCell ⟨wc.heap.size, 5, none⟩ (.int .u64 (y2.life.toNat : Int))).setCell ⟨wc.heap.size, 6, none⟩ (.int .i64 y2.base)).setCell ⟨wc.heap.size, 7, none⟩ (.int .u64 (y2.began.toNat : Int))).setCell ⟨wc.heap.size, 8, none⟩ (.int .i64 (y2.seq : Int))).setCell ⟨wc.heap.size, 9, none⟩ (.bool y2.due) := ⟨_, rfl⟩
              unfold set10 at f4 bW rW
              rw [<- hw4] at f4 bW rW ⊢
              obtain ⟨S2, hS2⟩ : ∃ s, s = wc.heap.size := ⟨_, rfl⟩
              have HS2 := Lib.hid (show wc.heap.size <= S2 by omega)
              rw [<- hS2] at f4 ⊢
              have F4 := Lib.hid f4
              have R4 := Lib.hid rW
              have B4 := Lib.hid bW
              clear f4 rW bW k4 hw4 hS2 HZ1 s0 s1 s2 s3 s4 s5 s6 s7 s8 s9 fr1 lr1)
           | (have f4 := Blk.new w3 [.int .i64 ga, .int .i64 gd, .int .i64 gl, .slice A5 y2.pages.length c5, .int .u64 (y2.gen.toNat : Int), .int .u64 (y2.life.toNat : Int), .int .i64 y2.base, .int .u64 (y2.began.toNat : Int), .int .i64 (y2.seq : Int), .bool y2.due] 56
              have bW := bt b6 (b1alloc w3 (.cells #[.int .i64 ga, .int .i64 gd, .int .i64 gl, .slice A5 y2.pages.length c5, .int .u64 (y2.gen.toNat : Int), .int .u64 (y2.life.toNat : Int), .int .i64 y2.base, .int .u64 (y2.began.toNat : Int), .int .i64 (y2.seq : Int), .bool y2.due] 56))
              have rW := (H3.out.imp (Q' := fun j => Off X2 R2 L3 bS gS fp3 j /\ j ≠ S) (fun j _ o => o.1)).on (b1alloc w3 (.cells #[.int .i64 ga, .int .i64 gd, .int .i64 gl, .slice A5 y2.pages.length c5, .int .u64 (y2.gen.toNat : Int), .int .u64 (y2.life.toNat : Int), .int .i64 y2.base, .int .u64 (y2.began.toNat : Int), .int .i64 (y2.seq : Int), .bool y2.due] 56))
              obtain ⟨w4, hw4⟩ : ∃ W, W = w3.alloc (.cells #[.int .i64 ga, .int .i64 gd, .int .i64 gl, .slice A5 y2.pages.length c5, .int .u64 (y2.gen.toNat : Int), .int .u64 (y2.life.toNat : Int), .int .i64 y2.base, .int .u64 (y2.began.toNat : Int), .int .i64 (y2.seq : Int), .bool y2.due] 56) := ⟨_, rfl⟩
              rw [<- hw4] at f4 bW rW ⊢
              obtain ⟨S2, hS2⟩ : ∃ s, s = w3.heap.size := ⟨_, rfl⟩
              have HS2 := Lib.hid (show wc.heap.size <= S2 by have := b6.size; omega)
              rw [<- hS2] at f4 ⊢
              have F4 := Lib.hid f4
              have R4 := Lib.hid rW
              have B4 := Lib.hid bW
              clear f4 rW bW hw4 hS2)
         all_goals as_aux_lemma =>
           clear r0 r1 r2 r3 r4 r5 r6 r7 r8 r9 fr2 lr2 hS0 hS1 hS3 hS4 hS5 hS6 HKS HKT b6 b3 cz HZ2 H3
           have H4 := Lib.hid (show W3 (Al ga gd gl n y.pages y.gen (some y.seq) ua3 (q + K + 1)) wA w4 X2 R2 L3 g fp3 gS bS ga gd gl (q + K + 1) S y A3 c3 yp A4 c4 S2 y2 A5 c5 from ⟨HC3.out.on B4.out, HN3.out.on B4.out, F4.out, R4.out, by have := HN3.out.blk.lt; have := HS2.out; omega⟩)
           have HO2 := Lib.hid (HC3.out.offNew HS2.out)
           have hx7 := (HLt.out.pages x.tx (by simp)).1
           have HCm := Lib.hid (fun W (bW : Below w4.heap.size w4 W) => (H4.out.cx.on bW).commit (yn := y2) (er := er) HG.out HGr.out.1 HGr.out.2 (by omega) HYO.out.due (fun j => j < wA.heap.size) Ai x.tx.pages ci x.tx.gen ((HX.out W (bt b0 (H4.out.cx.on bW).bel)).2.pgs.imp (fun j _ hj => Nat.lt_of_lt_of_le hj b0.size)) (fun j hj _ => H4.out.cx.off hj) (by omega) Hyn.out)
           go_upto_region 21 with (fail)
           have cz5 : Below w4.heap.size w4 w4.drew := (Below.refl _ _).drew
           have HKT := Lib.hid (fun W (bW : Below w.heap.size w W) => show (fun W : World => W.cell? ⟨bA, off + q * 3 + 1, none⟩ = some (.slice Ai x.tx.pages.length ci) /\ W.cell? ⟨bA, off + q * 3 + 1 + 1, none⟩ = some (.int .u64 (x.tx.gen.toNat : Int))) W from ⟨(HX.out W bW).2.c0, (HX.out W bW).2.c1⟩)
           have hS0 := HKT.out _ (bt b0 (H4.out.cx.on cz5).bel)
           clear hx7
           go_region_held3 (fun W : World => W.cell? ⟨bA, off + q * 3 + 1, none⟩ = some (.slice Ai x.tx.pages.length ci) /\ W.cell? ⟨bA, off + q * 3 + 1 + 1, none⟩ = some (.int .u64 (x.tx.gen.toNat : Int))) (first | with_reducible exact hS0 | with_reducible exact hS7) ((go_at_call 15; refine (HCm.out _ cz5).mono ?_; rintro e w7 ⟨f7, rfl, h7⟩; obtain ⟨L7, fp7, k7, fr7, b7, h7⟩ := h7.split; have hS7 := HKT.out _ (bt b0 b7); have H7 := Lib.hid h7; have HK7 := Lib.hid (And.intro (show Keep (X2 :: R2 :: L3 :: bS :: fp3) w4 w7 from (Keep.of_below cz5 (X2 :: R2 :: L3 :: bS :: fp3)).trans k7 (Fresh.refl _ _)) (show FreshL w4 L3 fp3 L7 fp7 from fr7)); clear h7 k7 fr7 b7))
           clear hS0 HKT cz5 HCm hS7
           rcases H7.out with ⟨e7, hc7⟩ | ⟨e7, her, hua, hc7⟩
           · subst e7
             have HW := Lib.hid (H4.out.turn HO2.out hc7 HK7.out.1 HK7.out.2)
             clear hc7 H7 HK7
             by_cases her : f7 = 0
             · subst her
               as_aux_lemma =>
                 obtain ⟨z0, z1, z2, z3, z4, z5, z6, z7, z8, z9, z10, z11, z12, z13, z14, z15, z16, z17, z18, z19⟩ := twenty HW.out.nl.blk
                 obtain ⟨s0, s1, s2, s3, s4, s5, s6, s7, s8, s9⟩ := ten HW.out.b2
                 go_wp2_with (first
                   | ((with_reducible show wpList _ _ _ (⟨none, .store 56 (.tmp 146) _, _, _, _, _⟩ :: _) _ _); refine st_lo rfl _ _ _ rfl rfl rfl (by kernel_rfl) HW.out ?_; intro wa hst; have HWa := Lib.hid hst; clear z0 z1 z2 z3 z4 z5 z6 z7 z8 z9 z10 z11 z12 z13 z14 z15 z16 z17 z18 z19 s0 s1 s2 s3 s4 s5 s6 s7 s8 s9 hst; (obtain ⟨z0, z1, z2, z3, z4, z5, z6, z7, z8, z9, z10, z11, z12, z13, z14, z15, z16, z17, z18, z19⟩ := twenty HWa.out.nl.blk); (obtain ⟨s0, s1, s2, s3, s4, s5, s6, s7, s8, s9⟩ := ten HWa.out.b2))
                   | ((with_reducible show wpList _ _ _ (⟨none, .store 56 (.tmp 149) _, _, _, _, _⟩ :: _) _ _); refine st_hiY rfl _ _ _ rfl rfl rfl (by kernel_rfl) HWa.out ?_; intro wb hst; have HWb := Lib.hid hst; clear z0 z1 z2 z3 z4 z5 z6 z7 z8 z9 z10 z11 z12 z13 z14 z15 z16 z17 z18 z19 s0 s1 s2 s3 s4 s5 s6 s7 s8 s9 hst; (obtain ⟨z0, z1, z2, z3, z4, z5, z6, z7, z8, z9, z10, z11, z12, z13, z14, z15, z16, z17, z18, z19⟩ := twenty HWb.out.nl.blk); (obtain ⟨s0, s1, s2, s3, s4, s5, s6, s7, s8, s9⟩ := ten HWb.out.b2))
                   | ((with_reducible show wpList _ _ _ (⟨none, .store 56 (.tmp 153) _, _, _, _, _⟩ :: _) _ _); refine st_hi2 rfl _ _ _ rfl rfl rfl (by kernel_rfl) HWb.out ?_; intro wd hst; have HWd := Lib.hid hst; clear z0 z1 z2 z3 z4 z5 z6 z7 z8 z9 z10 z11 z12 z13 z14 z15 z16 z17 z18 z19 s0 s1 s2 s3 s4 s5 s6 s7 s8 s9 hst; (obtain ⟨z0, z1, z2, z3, z4, z5, z6, z7, z8, z9, z10, z11, z12, z13, z14, z15, z16, z17, z18, z19⟩ := twenty HWd.out.nl.blk); (obtain ⟨s0, s1, s2, s3, s4, s5, s6, s7, s8, s9⟩ := ten HWd.out.b2)))
                 go_meet
                 case rel => exact ⟨L7, fp7, y2, A5, c5, y2, A5, c5, HWd.out.nl, (by have h := HYO.out.commit HGr.out.1 (by omega) x.tx.pages x.tx.gen; rw [<- Hyn.out] at h; exact h), (by have h := HYO.out.commit HGr.out.1 (by omega) x.tx.pages x.tx.gen; rw [<- Hyn.out] at h; exact h), .inl HWd.out.cx⟩
             · have t1 : (f7 == 0) = false := beq_no her
               have Her := Lib.hid her
               clear her
               as_aux_lemma =>
                 have hye := Lib.hid (show y2 = y from by
                   rcases rs_commit ga gd gl y HYO.out.due x.tx.pages x.tx.gen with ⟨_, _, e⟩ | ⟨_, e, _⟩
                   · rw [<- Hyn.out] at e; injection e
                   · rw [<- Hyn.out] at e; exact absurd e Her.out)
                 obtain ⟨z0, z1, z2, z3, z4, z5, z6, z7, z8, z9, z10, z11, z12, z13, z14, z15, z16, z17, z18, z19⟩ := twenty HW.out.nl.blk
                 obtain ⟨s0, s1, s2, s3, s4, s5, s6, s7, s8, s9⟩ := ten HW.out.b2
                 go_wp2_with (first
                   | ((with_reducible show wpList _ _ _ (⟨none, .store 56 (.tmp 149) _, _, _, _, _⟩ :: _) _ _); refine st_hiY rfl _ _ _ rfl rfl rfl (by kernel_rfl) HW.out ?_; intro wb hst; have HWb := Lib.hid hst; clear z0 z1 z2 z3 z4 z5 z6 z7 z8 z9 z10 z11 z12 z13 z14 z15 z16 z17 z18 z19 s0 s1 s2 s3 s4 s5 s6 s7 s8 s9 hst; (obtain ⟨z0, z1, z2, z3, z4, z5, z6, z7, z8, z9, z10, z11, z12, z13, z14, z15, z16, z17, z18, z19⟩ := twenty HWb.out.nl.blk); (obtain ⟨s0, s1, s2, s3, s4, s5, s6, s7, s8, s9⟩ := ten HWb.out.b2)))
                 go_meet
                 case rel => exact ⟨L7, fp7, y, A3, c3, y, A3, c3, HWb.out.nl, HYO.out.mono (by omega), HYO.out.mono (by omega), .inl (by rw [<- hye.out]; exact HWb.out.cx)⟩
           · subst e7 her hua
             have HW := Lib.hid (H4.out.turn HO2.out hc7 HK7.out.1 HK7.out.2)
             clear hc7 H7 HK7
             as_aux_lemma =>
               obtain ⟨z0, z1, z2, z3, z4, z5, z6, z7, z8, z9, z10, z11, z12, z13, z14, z15, z16, z17, z18, z19⟩ := twenty HW.out.nl.blk
               obtain ⟨s0, s1, s2, s3, s4, s5, s6, s7, s8, s9⟩ := ten HW.out.b2
               go_wp2_with (first
                 | ((with_reducible show wpList _ _ _ (⟨none, .store 56 (.tmp 149) _, _, _, _, _⟩ :: _) _ _); refine st_hiY rfl _ _ _ rfl rfl rfl (by kernel_rfl) HW.out ?_; intro wb hst; have HWb := Lib.hid hst; clear z0 z1 z2 z3 z4 z5 z6 z7 z8 z9 z10 z11 z12 z13 z14 z15 z16 z17 z18 z19 s0 s1 s2 s3 s4 s5 s6 s7 s8 s9 hst; (obtain ⟨z0, z1, z2, z3, z4, z5, z6, z7, z8, z9, z10, z11, z12, z13, z14, z15, z16, z17, z18, z19⟩ := twenty HWb.out.nl.blk); (obtain ⟨s0, s1, s2, s3, s4, s5, s6, s7, s8, s9⟩ := ten HWb.out.b2))
                 | ((with_reducible show wpList _ _ _ (⟨none, .store 56 (.tmp 153) _, _, _, _, _⟩ :: _) _ _); refine st_hi2 rfl _ _ _ rfl rfl rfl (by kernel_rfl) HWb.out ?_; intro wd hst; have HWd := Lib.hid hst; clear z0 z1 z2 z3 z4 z5 z6 z7 z8 z9 z10 z11 z12 z13 z14 z15 z16 z17 z18 z19 s0 s1 s2 s3 s4 s5 s6 s7 s8 s9 hst; (obtain ⟨z0, z1, z2, z3, z4, z5, z6, z7, z8, z9, z10, z11, z12, z13, z14, z15, z16, z17, z18, z19⟩ := twenty HWd.out.nl.blk); (obtain ⟨s0, s1, s2, s3, s4, s5, s6, s7, s8, s9⟩ := ten HWd.out.b2)))
               go_meet
               case rel => exact ⟨L7, fp7, y, A3, c3, y2, A5, c5, HWd.out.nl, HYO.out.mono (by omega), (by have h := HYO.out.commit HGr.out.1 (by omega) x.tx.pages x.tx.gen; rw [<- Hyn.out] at h; exact h), .inr ⟨rfl, HWd.out.cx⟩⟩
       · as_aux_lemma =>
           have t0 : (kd == 0) = false := beq_no hk0
           have HRx := Lib.hid (HC3.out.renewA HG.out HGr.out.1 HGr.out.2 (by omega))
           clear hk0
           go_upto_region 16 with (go_at_call 16; refine HRx.out.mono ?_; rintro e w7 ⟨f7, rfl, h7⟩; obtain ⟨L7, fp7, k7, fr7, b7, h7⟩ := h7.split; have H7 := Lib.hid h7; have HN7 := Lib.hid (HN3.out.turn k7 fr7); clear h7 k7 fr7 b7)
           rcases H7.out with ⟨e7, hc7⟩ | ⟨e7, hua, hc7⟩
           · subst e7
             have HC7 := Lib.hid hc7
             clear hc7 H7
             obtain ⟨z0, z1, z2, z3, z4, z5, z6, z7, z8, z9, z10, z11, z12, z13, z14, z15, z16, z17, z18, z19⟩ := twenty HN7.out.blk
             go_wp2_with ((with_reducible show wpList _ _ _ (⟨none, .store 56 (.tmp 99) _, _, _, _, _⟩ :: _) _ _); refine st2_hiY rfl _ _ _ rfl rfl rfl (by kernel_rfl) HN7.out HC7.out ?_; intro wd hst hst2; have HNe := Lib.hid hst; have HCe := Lib.hid hst2; clear hst hst2)
             go_meet
             case rel => exact ⟨L7, fp7, y, A3, c3, y, A3, c3, HNe.out, HYO.out.mono (by omega), HYO.out.mono (by omega), .inl HCe.out⟩
           · subst e7 hua
             have HC7 := Lib.hid hc7
             clear hc7 H7
             obtain ⟨z0, z1, z2, z3, z4, z5, z6, z7, z8, z9, z10, z11, z12, z13, z14, z15, z16, z17, z18, z19⟩ := twenty HN7.out.blk
             go_wp2_with ((with_reducible show wpList _ _ _ (⟨none, .store 56 (.tmp 99) _, _, _, _, _⟩ :: _) _ _); refine st2_hiY rfl _ _ _ rfl rfl rfl (by kernel_rfl) HN7.out HC7.out ?_; intro wd hst hst2; have HNe := Lib.hid hst; have HCe := Lib.hid hst2; clear hst hst2)
             go_meet
             case rel => exact ⟨L7, fp7, y, A3, c3, y, A3, c3, HNe.out, HYO.out.mono (by omega), HYO.out.mono (by omega), .inr ⟨rfl, HCe.out.imp (fun _ _ _ h => ZC.imp h (fun _ _ hh => .inl hh) (Nat.le_refl _)) (Nat.le_refl _)⟩⟩
     case rest =>
     obtain ⟨L5, fp5, y, A3, c3, yp, A4, c4, hN5, hY5, hP5, hF5⟩ := hcut
     have H5 := Lib.hid (And.intro hN5 (And.intro hY5 (And.intro hP5 hF5)))
     have hq20 : q <= 20 := by omega
     clear hN5 hY5 hP5 hF5
     go_wp2_with fail
     go_loopw [16, 19] (fun xv kv wr => ∃ (K5 m5 X5 R5 L5 : Nat) (fp5 : List Nat) (y : RS) (A3 : Option Addr) (c3 : Nat) (yp : RS) (A4 : Option Addr) (c4 : Nat) (ua5 : Bool), kv = .int .i64 (K5 : Int) /\ xv = .pointer (some ⟨X5, 0, none⟩) /\ NL wA wr X5 R5 L5 fp5 gS bS ga gd gl S y A3 c3 yp A4 c4 /\ YOk ga gd gl y (q + 2) /\ YOk ga gd gl yp (q + 2) /\ Cnt K5 m5 ua5 /\ m5 <= q + 1 /\ Fate9 ga gd gl n y yp ua5 wA wr X5 R5 L5 g fp5 gS bS (q + K5 + 2)) (fun _ kv _ => 40 - (intOf kv).toNat)
     case atStart => exact ⟨K, m3, X2, R2, L5, fp5, y, A3, c3, yp, A4, c4, ua3, rfl, rfl, H5.out.1, H5.out.2.1, H5.out.2.2.1, HCt3.out.1, HCt3.out.2, H5.out.2.2.2⟩
     case round =>
       obtain ⟨K5, m5, X5, R5, L5, fp5, y, A3, c3, yp, A4, c4, ua5, rfl, rfl, hNL, hYO, hYP, hCt, hm5, hFt⟩ := hrel
       obtain ⟨wi, hwi⟩ : ∃ wi, wi = wr := ⟨_, rfl⟩
       subst hwi
       have HNi := Lib.hid hNL
       have HYi := Lib.hid (And.intro hYO hYP)
       have hK5 : K5 <= 16 := by have := hCt.le; have := hCt.m8; omega
       have HCi := Lib.hid (And.intro hCt hm5)
       clear hNL hYO hYP hCt hm5
       rcases hFt with ha | ⟨hua, hd⟩
       · as_aux_lemma =>
           have HAi := Lib.hid ha
           have HDn := Lib.hid ha.downA
           clear ha
           go_upto_region 48 with (go_at_call 31; refine HDn.out.mono ?_; rintro e w8 ⟨rfl, rfl⟩)
           have cz : Below wi.heap.size wi wi.drew := (Below.refl _ _).drew
           obtain ⟨q5, hq5, ha5, hroom⟩ := (HAi.out.on cz).room HGr.out.1
           have HRm := Lib.hid hroom
           have HA5 := Lib.hid ha5
           have hwr : IntKind.i64.wrap (gl - (gl - (q5 : Int))) = (q5 : Int) := by rw [show gl - (gl - (q5 : Int)) = (q5 : Int) by omega]; exact wrap_small (by have := HN.out; omega) (by have := HN.out; omega)
           have HKS := Lib.hid (fun W (bW : Below wi.heap.size wi W) => show (fun W : World => W.cell? ⟨w.heap.size, 2, none⟩ = some (.int .i64 gl)) W from (gthree (F.out.below (bt HAi.out.bel bW) hltF)).2.2)
           have hS0 := HKS.out _ cz
           have Hq5 := Lib.hid hq5
           clear hroom ha5 hq5
           go_region_held3 (fun W : World => W.cell? ⟨w.heap.size, 2, none⟩ = some (.int .i64 gl)) (first | with_reducible exact hS0 | with_reducible exact hS1 | with_reducible exact hS2) ((go_at_call 28; refine HRm.out.mono ?_; rintro e w10 ⟨rfl, b10⟩; have bq := bt cz b10; have HBq := Lib.hid bq; have hS1 := HKS.out _ bq; (obtain ⟨z0, z1, z2, z3, z4, z5, z6, z7, z8, z9, z10, z11, z12, z13, z14, z15, z16, z17, z18, z19⟩ := twenty (HNi.out.blk.on bq)); have frS := (HNi.out.blk.on bq).free; have ltS := (HNi.out.blk.on bq).lt; have hS2 := (show (fun W : World => W.cell? ⟨w.heap.size, 2, none⟩ = some (.int .i64 gl)) (w10.setCell ⟨S, 8, none⟩ (.int .i64 (q5 : Int))) from (World.cell?_of_block (a := ⟨w.heap.size, 2, none⟩) ((Disk.keep_set w10 S 8 (.int .i64 (q5 : Int))).block (show w.heap.size < w10.heap.size by (have := hltF; have := (bt HAi.out.bel bq).size; omega)) (show w.heap.size ∉ [S] by (have := HNi.out.new; simp; omega)))).trans hS1)))
           have HBl := Lib.hid ((HNi.out.blk.on HBq.out).set (k := 8) (.int .i64 (q5 : Int)))
           clear z0 z1 z2 z3 z4 z5 z6 z7 z8 z9 z10 z11 z12 z13 z14 z15 z16 z17 z18 z19 frS ltS hS0 hS1 hS2 HKS
           obtain ⟨wJ, hwJ⟩ : ∃ W, W = w10.setCell ⟨S, 8, none⟩ (.int .i64 (q5 : Int)) := ⟨_, rfl⟩
           have HWJ := Lib.hid hwJ
           have HBJ := Lib.hid (show Blk wJ S _ from by rw [hwJ]; exact HBl.out)
           rw [<- hwJ]
           clear hwJ HBl
           have frS := HBJ.out.free
           have ltS := HBJ.out.lt
           obtain ⟨z0, z1, z2, z3, z4, z5, z6, z7, z8, z9, z10, z11, z12, z13, z14, z15, z16, z17, z18, z19⟩ := twenty HBJ.out
           go_upto_region 12 with (fail)
           have h9 := (HNi.out.on HBq.out).put (y1' := y.asked q5) (A1' := A3) (c1' := c3) (y2' := yp) (A2' := A4) (c2' := c4) (show Keep [S] w10 (wJ.setCell ⟨S, 9, none⟩ (.bool false)) from by rw [HWJ.out]; exact (Disk.keep_set w10 S 8 _).trans (Disk.keep_set _ S 9 _) (Fresh.refl _ _)) (HBJ.out.set (k := 9) (.bool false)) (HNi.out.on HBq.out).r1 (HNi.out.on HBq.out).r2
           have h8 := (HNi.out.on HBq.out).aside (w' := wJ.setCell ⟨S, 9, none⟩ (.bool false)) (HA5.out.on b10) (by rw [HWJ.out]; exact (Disk.keep_set w10 S 8 _).trans (Disk.keep_set _ S 9 _) (Fresh.refl _ _))
           have HNf := Lib.hid h9
           have HCf := Lib.hid h8
           have hte : q + 1 + K5 + 1 = q + K5 + 2 := by omega
           clear h9 h8 z0 z1 z2 z3 z4 z5 z6 z7 z8 z9 z10 z11 z12 z13 z14 z15 z16 z17 z18 z19 frS ltS
           go_wp2_with fail
           case roundEnd =>
             have h1 := Hlt.out
             exact ⟨⟨q + 1, K5, m5, X5, R5, L5, fp5, y.asked q5, A3, c3, yp, A4, c4, ua5, h1, rfl, rfl, rfl, by rw [hte]; exact HCf.out, HNf.out, (HYi.out.1.asked Hq5.out), HCi.out.1, HCi.out.2⟩, by simp only [intOf]; omega⟩
       · as_aux_lemma =>
           subst hua
           obtain ⟨hc1, hc2, hc3⟩ := HCi.out.1.crash
           have HCt := Lib.hid (And.intro hc1 (And.intro hc2 (And.intro hc3 HCi.out.2)))
           have HDn := Lib.hid hd.downD
           have HDe := Lib.hid hd.deadD
           have HRs := Lib.hid (hd.restarted (by omega) keep AK keep.length cK torn at_ rfl (HKr.out.on b0) (by have := HN.out.2.1; omega) HTb.out.1.1 HTb.out.1.2 HTb.out.2.1 HTb.out.2.2)
           have HOp := Lib.hid (fun W fp10 (h : RX ga gd gl n (fun P g => (P = y.pages /\ g = y.gen) \/ (P = yp.pages /\ g = yp.gen)) (q + K5 + 2) wA W g fp10 gS bS (q + K5 + 2)) => h.opens HG.out HGr.out.1 HGr.out.2 (by omega))
           have h40 : ¬ (40 : Int) < (K5 : Int) + 1 := by omega
           clear hd hc1 hc2 hc3
           go_upto_region 37 with (first
             | (go_at_call 31; refine HDn.out.mono ?_; rintro e w8 ⟨rfl, rfl⟩)
             | (go_at_call 29; refine HDe.out.mono ?_; rintro e w9 ⟨rfl, rfl⟩)
             | (go_at_call 32; refine HRs.out.mono ?_; rintro e w10 ⟨rfl, fp10, h10, k10, f10⟩; have H10 := Lib.hid h10; have HN10 := Lib.hid (HNi.out.disk k10 f10); obtain ⟨m0, m1, m2⟩ := gthree (F.out.below h10.bel hltF); clear h10 k10 f10)
             | (go_at_call 17; refine (HOp.out _ fp10 H10.out).mono ?_; rintro e w11 ⟨X6, R6, P6, g6, rfl, hok, h11, b11, x11, r11⟩; have HOk := Lib.hid hok; have HC11 := Lib.hid h11; have HN11 := Lib.hid (HN10.out.anew b11 x11 r11); clear hok h11 b11 x11 r11))
           clear m0 m1 m2 HDn HDe HRs HOp
           have HPl := Lib.hid (show (∀ b ∈ P6, b.length <= 1000) /\ P6.length <= 100 /\ yp.pages.length <= 100 /\ y.pages.length <= 100 from by
             have h1 := Geom.pagesOf_bd ga gd gl
             have h2 := HYi.out.1.len
             have h3 := HYi.out.2.len
             rcases HOk.out with ⟨e, _⟩ | ⟨e, _⟩
             · rw [e]; exact ⟨HYi.out.1.short, by omega, by omega, by omega⟩
             · rw [e]; exact ⟨HYi.out.2.short, by omega, by omega, by omega⟩)
           by_cases hPe : P6 = yp.pages
           · by_cases hge : g6 = yp.gen
             · as_aux_lemma =>
                 have HRw1 := Lib.hid (fun W A12 c12 (h1 : Rws W W.heap.size A12 P6) (h2 : Rws W W.heap.size A4 yp.pages) => R20.rows_any A12 A4 P6 yp.pages P6.length yp.pages.length c12 c4 W h1 h2 rfl rfl (by have := HPl.out.2.1; omega) (fun b hb => by have := HPl.out.1 b hb; omega) (fun b hb => by have := HYi.out.2.short b hb; omega))
                 rw [decide_eq_true hPe] at HRw1
                 have HPe := Lib.hid (And.intro hPe hge)
                 have tg1 : ((g6.toNat : Int) == (yp.gen.toNat : Int)) = true := by rw [hge]; simp
                 clear hPe hge
                 have HKSA := Lib.hid (fun W (bW : Below w11.heap.size w11 W) => show (fun W : World => W.cell? ⟨S, 13, none⟩ = some (.slice A4 yp.pages.length c4) /\ W.cell? ⟨S, 14, none⟩ = some (.int .u64 (yp.gen.toNat : Int))) W from by
                   obtain ⟨z0, z1, z2, z3, z4, z5, z6, z7, z8, z9, z10, z11, z12, z13, z14, z15, z16, z17, z18, z19⟩ := twenty (HN11.out.blk.on bW)
                   exact ⟨z13, z14⟩)
                 have czA : Below w11.heap.size w11 w11.drew := (Below.refl _ _).drew
                 have hS0A := HKSA.out _ czA
                 go_region_held3 (fun W : World => W.cell? ⟨S, 13, none⟩ = some (.slice A4 yp.pages.length c4) /\ W.cell? ⟨S, 14, none⟩ = some (.int .u64 (yp.gen.toNat : Int))) (first | with_reducible exact hS0A | with_reducible exact hS1A | with_reducible exact hS2A) ((first | (go_at_call 19; refine ((HC11.out.on czA).pages HGr.out.1).mono ?_; rintro e w12 ⟨A12, c12, rfl, r12, b12⟩; have bp := bt czA b12; have R12 := Lib.hid r12; have hS1A := HKSA.out _ bp; clear r12) | (go_at_call 18; refine (HRw1.out _ A12 c12 R12.out ((HN11.out.on bp).r2.rws)).mono ?_; rintro e w13 ⟨rfl, b13⟩; have bq := bt bp b13; have hS2A := HKSA.out _ bq; have HBqA := Lib.hid bq) | (go_at_call 20; refine ((HC11.out.on bq).gen).mono ?_; rintro e w14 ⟨rfl, rfl⟩)))
                 have HCs := Lib.hid (show CX (Sto.Op ga gd gl n yp.pages yp.gen true (q + K5 + 2)) wA w13 X6 R6 X6 g fp10 gS bS ga gd gl (q + K5 + 2) from by rw [<- HPe.out.1, <- HPe.out.2]; exact HC11.out.on HBqA.out)
                 have HNs := Lib.hid (HN11.out.on HBqA.out)
                 have HYz := Lib.hid HYi.out.2
                 clear hS0A hS1A hS2A HKSA czA bp bq b12 b13 HRw1 HBqA R12
                 obtain ⟨z0, z1, z2, z3, z4, z5, z6, z7, z8, z9, z10, z11, z12, z13, z14, z15, z16, z17, z18, z19⟩ := twenty HNs.out.blk
                 go_upto_region 41 with ((with_reducible show wpList _ _ _ (⟨none, .store 56 (.tmp 206) _, _, _, _, _⟩ :: _) _ _); refine st2_loP rfl _ _ _ rfl rfl rfl (by kernel_rfl) HNs.out HCs.out ?_; intro wT hst hst2; have HNT := Lib.hid hst; have HCT := Lib.hid hst2; clear hst hst2)
                 clear z0 z1 z2 z3 z4 z5 z6 z7 z8 z9 z10 z11 z12 z13 z14 z15 z16 z17 z18 z19
                 obtain ⟨z0, z1, z2, z3, z4, z5, z6, z7, z8, z9, z10, z11, z12, z13, z14, z15, z16, z17, z18, z19⟩ := twenty HNT.out.blk
                 go_upto_region 42 with ((with_reducible show wpList _ _ _ (⟨none, .store 56 (.tmp 224) _, _, _, _, _⟩ :: _) _ _); refine st2_hiY rfl _ _ _ rfl rfl rfl (by kernel_rfl) HNT.out HCT.out ?_; intro wU hst hst2; have HNU := Lib.hid hst; have HCU := Lib.hid hst2; clear hst hst2)
                 clear z0 z1 z2 z3 z4 z5 z6 z7 z8 z9 z10 z11 z12 z13 z14 z15 z16 z17 z18 z19
                 by_cases hkf : K5 + 1 < fs.length
                 · have hkf2 : (K5 : Int) + 1 < (fs.length : Int) := by omega
                   obtain ⟨bF, offF, rfl, hbF, hcF⟩ := HFr.out.1.get (k := K5 + 1) (by simpa using hkf)
                   have hfq := HFr.out.2 fs[K5 + 1] (List.getElem_mem hkf)
                   obtain ⟨fz, hfz⟩ : ∃ fz, fz = fs[K5 + 1] := ⟨_, rfl⟩
                   rw [List.getElem_map, <- hfz] at hcF
                   rw [<- hfz] at hfq
                   have z0 : wU.cell? ⟨bF, offF + (K5 + 1), none⟩ = some (.int .i64 fz) := ((bt b0 HCU.out.bel).cell (p := ⟨bF, offF + (K5 + 1), none⟩) hbF).trans hcF
                   have HAr := Lib.hid (HCU.out.armed (Ψ := Sto.Op ga gd gl n yp.pages yp.gen false (q + K5 + 2)) fz hfq.1 hfq.2 (fun _ _ _ h => h.arm))
                   have HK8 := Lib.hid (show K5 + 1 < 8 by have := HN.out.1; omega)
                   clear hfz hfq hcF hkf
                   go_upto_region 44 with (go_at_call 30; refine HAr.out.mono ?_; rintro e w15 ⟨rfl, L6, fp6, h6, k6, f6⟩; have HC6 := Lib.hid h6; have HN6 := Lib.hid (HNU.out.turn k6 f6); clear h6 k6 f6)
                   have HRn := Lib.hid (HC6.out.renewU HG.out HGr.out.1 HGr.out.2 (by omega))
                   go_upto_region 46 with (go_at_call 16; refine HRn.out.mono ?_; rintro e w17 ⟨f7, rfl, h7⟩; obtain ⟨L7, fp7, k7, fr7, b7, h7⟩ := h7.split; have H7 := Lib.hid h7; have HN7 := Lib.hid (HN6.out.turn k7 fr7); clear h7 k7 fr7 b7)
                   rcases H7.out with ⟨e7, hc7⟩ | ⟨e7, hua7, hc7⟩
                   · subst e7
                     have HF7 := Lib.hid (show Fate9 ga gd gl n yp yp false wA w17 X6 R6 L7 g fp7 gS bS (q + (K5 + 1) + 2) from .inl hc7)
                     clear hc7 H7
                     go_wp2_with fail
                     case roundEnd => exact ⟨⟨K5 + 1, m5, X6, R6, L7, fp7, yp, A4, c4, yp, A4, c4, false, rfl, rfl, HN7.out, HYz.out, HYz.out, HCt.out.1.again HCt.out.2.2.1 HK8.out, HCt.out.2.2.2, HF7.out⟩, by simp only [intOf]; omega⟩
                   · subst e7
                     have HF7 := Lib.hid (show Fate9 ga gd gl n yp yp false wA w17 X6 R6 L7 g fp7 gS bS (q + (K5 + 1) + 2) from .inr ⟨rfl, hc7.imp (fun _ _ _ h => ZC.imp h (fun _ _ hh => .inl hh) (Nat.le_refl _)) (Nat.le_refl _)⟩)
                     clear hc7 H7
                     go_wp2_with fail
                     case roundEnd => exact ⟨⟨K5 + 1, m5, X6, R6, L7, fp7, yp, A4, c4, yp, A4, c4, false, rfl, rfl, HN7.out, HYz.out, HYz.out, HCt.out.1.again HCt.out.2.2.1 HK8.out, HCt.out.2.2.2, HF7.out⟩, by simp only [intOf]; omega⟩
                 · have hkf2 : ¬ (K5 : Int) + 1 < (fs.length : Int) := by omega
                   clear hkf
                   go_upto_region 44 with (fail)
                   have HRn := Lib.hid (HCU.out.renewU HG.out HGr.out.1 HGr.out.2 (by omega))
                   go_upto_region 46 with (go_at_call 16; refine HRn.out.mono ?_; rintro e w17 ⟨f7, rfl, h7⟩; obtain ⟨L7, fp7, k7, fr7, b7, h7⟩ := h7.split; have H7 := Lib.hid h7; have HN7 := Lib.hid (HNU.out.turn k7 fr7); clear h7 k7 fr7 b7)
                   rcases H7.out with ⟨e7, hc7⟩ | ⟨e7, hua7, hc7⟩
                   · subst e7
                     have HF7 := Lib.hid (show Fate9 ga gd gl n yp yp true wA w17 X6 R6 L7 g fp7 gS bS (q + (K5 + 1) + 2) from .inl hc7)
                     clear hc7 H7
                     go_wp2_with fail
                     case roundEnd => exact ⟨⟨K5 + 1, m5, X6, R6, L7, fp7, yp, A4, c4, yp, A4, c4, true, rfl, rfl, HN7.out, HYz.out, HYz.out, HCt.out.1, HCt.out.2.2.2, HF7.out⟩, by simp only [intOf]; omega⟩
                   · exact absurd hua7 (by simp)
             · as_aux_lemma =>
                 obtain ⟨hP2, hg2⟩ : P6 = y.pages /\ g6 = y.gen := by
                   rcases HOk.out with h | ⟨_, e⟩
                   · exact h
                   · exact absurd e hge
                 have tg1 : ((g6.toNat : Int) == (yp.gen.toNat : Int)) = false := beq_no (fun e => hge (UInt64.toNat_inj.1 (by omega)))
                 have HP2 := Lib.hid (And.intro hP2 hg2)
                 have HPe := Lib.hid hPe
                 clear hP2 hg2 hge hPe
                 have HRw1 := Lib.hid (fun W A12 c12 (h1 : Rws W W.heap.size A12 P6) (h2 : Rws W W.heap.size A4 yp.pages) => R20.rows_any A12 A4 P6 yp.pages P6.length yp.pages.length c12 c4 W h1 h2 rfl rfl (by have := HPl.out.2.1; omega) (fun b hb => by have := HPl.out.1 b hb; omega) (fun b hb => by have := HYi.out.2.short b hb; omega))
                 rw [decide_eq_true HPe.out] at HRw1
                 have HKSA := Lib.hid (fun W (bW : Below w11.heap.size w11 W) => show (fun W : World => W.cell? ⟨S, 13, none⟩ = some (.slice A4 yp.pages.length c4) /\ W.cell? ⟨S, 14, none⟩ = some (.int .u64 (yp.gen.toNat : Int))) W from by
                   obtain ⟨z0, z1, z2, z3, z4, z5, z6, z7, z8, z9, z10, z11, z12, z13, z14, z15, z16, z17, z18, z19⟩ := twenty (HN11.out.blk.on bW)
                   exact ⟨z13, z14⟩)
                 have czA : Below w11.heap.size w11 w11.drew := (Below.refl _ _).drew
                 have hS0A := HKSA.out _ czA
                 go_region_held3 (fun W : World => W.cell? ⟨S, 13, none⟩ = some (.slice A4 yp.pages.length c4) /\ W.cell? ⟨S, 14, none⟩ = some (.int .u64 (yp.gen.toNat : Int))) (first | with_reducible exact hS0A | with_reducible exact hS1A | with_reducible exact hS2A) ((first | (go_at_call 19; refine ((HC11.out.on czA).pages HGr.out.1).mono ?_; rintro e w12 ⟨A12, c12, rfl, r12, b12⟩; have bp := bt czA b12; have R12 := Lib.hid r12; have hS1A := HKSA.out _ bp; clear r12) | (go_at_call 18; refine (HRw1.out _ A12 c12 R12.out ((HN11.out.on bp).r2.rws)).mono ?_; rintro e w13 ⟨rfl, b13⟩; have bq := bt bp b13; have hS2A := HKSA.out _ bq; have HBqA := Lib.hid bq) | (go_at_call 20; refine ((HC11.out.on bq).gen).mono ?_; rintro e w14 ⟨rfl, rfl⟩)))
                 have HC13 := Lib.hid (HC11.out.on HBqA.out)
                 have HN13 := Lib.hid (HN11.out.on HBqA.out)
                 have tg2 : ((g6.toNat : Int) != (y.gen.toNat : Int)) = false := bne_no (by rw [HP2.out.2])
                 clear hS0A hS1A hS2A HKSA czA bp bq b12 b13 HRw1 R12
                 go_upto_region 39 with (fail)
                 have HRw2 := Lib.hid (fun W A12 c12 (h1 : Rws W W.heap.size A12 P6) (h2 : Rws W W.heap.size A3 y.pages) => R20.rows_any A12 A3 P6 y.pages P6.length y.pages.length c12 c3 W h1 h2 rfl rfl (by have := HPl.out.2.1; omega) (fun b hb => by have := HPl.out.1 b hb; omega) (fun b hb => by have := HYi.out.1.short b hb; omega))
                 rw [decide_eq_true HP2.out.1] at HRw2
                 have HKSB := Lib.hid (fun W (bW : Below w13.heap.size w13 W) => show (fun W : World => W.cell? ⟨S, 3, none⟩ = some (.slice A3 y.pages.length c3) /\ W.cell? ⟨S, 4, none⟩ = some (.int .u64 (y.gen.toNat : Int))) W from by
                   obtain ⟨z0, z1, z2, z3, z4, z5, z6, z7, z8, z9, z10, z11, z12, z13, z14, z15, z16, z17, z18, z19⟩ := twenty (HN13.out.blk.on bW)
                   exact ⟨z3, z4⟩)
                 have czB : Below w13.heap.size w13 w13.drew := (Below.refl _ _).drew
                 have hS0B := HKSB.out _ czB
                 go_region_held3 (fun W : World => W.cell? ⟨S, 3, none⟩ = some (.slice A3 y.pages.length c3) /\ W.cell? ⟨S, 4, none⟩ = some (.int .u64 (y.gen.toNat : Int))) (first | with_reducible exact hS0B | with_reducible exact hS1B | with_reducible exact hS2B) ((first | (go_at_call 19; refine ((HC13.out.on czB).pages HGr.out.1).mono ?_; rintro e w15 ⟨A12, c12, rfl, r12, b12⟩; have bp := bt czB b12; have R12 := Lib.hid r12; have hS1B := HKSB.out _ bp; clear r12) | (go_at_call 18; refine (HRw2.out _ A12 c12 R12.out ((HN13.out.on bp).r1.rws)).mono ?_; rintro e w16 ⟨rfl, b13⟩; have bq := bt bp b13; have hS2B := HKSB.out _ bq; have HBqB := Lib.hid bq) | (go_at_call 20; refine ((HC13.out.on bq).gen).mono ?_; rintro e w14 ⟨rfl, rfl⟩)))
                 have HCT := Lib.hid (show CX (Sto.Op ga gd gl n y.pages y.gen true (q + K5 + 2)) wA w16 X6 R6 X6 g fp10 gS bS ga gd gl (q + K5 + 2) from by rw [<- HP2.out.1, <- HP2.out.2]; exact HC13.out.on HBqB.out)
                 have HNT := Lib.hid (HN13.out.on HBqB.out)
                 have HYz := Lib.hid HYi.out.1
                 clear hS0B hS1B hS2B HKSB czB bp bq b12 b13 HRw2 HBqB R12
                 obtain ⟨z0, z1, z2, z3, z4, z5, z6, z7, z8, z9, z10, z11, z12, z13, z14, z15, z16, z17, z18, z19⟩ := twenty HNT.out.blk
                 go_upto_region 42 with ((with_reducible show wpList _ _ _ (⟨none, .store 56 (.tmp 224) _, _, _, _, _⟩ :: _) _ _); refine st2_hiY rfl _ _ _ rfl rfl rfl (by kernel_rfl) HNT.out HCT.out ?_; intro wU hst hst2; have HNU := Lib.hid hst; have HCU := Lib.hid hst2; clear hst hst2)
                 clear z0 z1 z2 z3 z4 z5 z6 z7 z8 z9 z10 z11 z12 z13 z14 z15 z16 z17 z18 z19
                 by_cases hkf : K5 + 1 < fs.length
                 · have hkf2 : (K5 : Int) + 1 < (fs.length : Int) := by omega
                   obtain ⟨bF, offF, rfl, hbF, hcF⟩ := HFr.out.1.get (k := K5 + 1) (by simpa using hkf)
                   have hfq := HFr.out.2 fs[K5 + 1] (List.getElem_mem hkf)
                   obtain ⟨fz, hfz⟩ : ∃ fz, fz = fs[K5 + 1] := ⟨_, rfl⟩
                   rw [List.getElem_map, <- hfz] at hcF
                   rw [<- hfz] at hfq
                   have z0 : wU.cell? ⟨bF, offF + (K5 + 1), none⟩ = some (.int .i64 fz) := ((bt b0 HCU.out.bel).cell (p := ⟨bF, offF + (K5 + 1), none⟩) hbF).trans hcF
                   have HAr := Lib.hid (HCU.out.armed (Ψ := Sto.Op ga gd gl n y.pages y.gen false (q + K5 + 2)) fz hfq.1 hfq.2 (fun _ _ _ h => h.arm))
                   have HK8 := Lib.hid (show K5 + 1 < 8 by have := HN.out.1; omega)
                   clear hfz hfq hcF hkf
                   go_upto_region 44 with (go_at_call 30; refine HAr.out.mono ?_; rintro e w15 ⟨rfl, L6, fp6, h6, k6, f6⟩; have HC6 := Lib.hid h6; have HN6 := Lib.hid (HNU.out.turn k6 f6); clear h6 k6 f6)
                   have HRn := Lib.hid (HC6.out.renewU HG.out HGr.out.1 HGr.out.2 (by omega))
                   go_upto_region 46 with (go_at_call 16; refine HRn.out.mono ?_; rintro e w17 ⟨f7, rfl, h7⟩; obtain ⟨L7, fp7, k7, fr7, b7, h7⟩ := h7.split; have H7 := Lib.hid h7; have HN7 := Lib.hid (HN6.out.turn k7 fr7); clear h7 k7 fr7 b7)
                   rcases H7.out with ⟨e7, hc7⟩ | ⟨e7, hua7, hc7⟩
                   · subst e7
                     have HF7 := Lib.hid (show Fate9 ga gd gl n y y false wA w17 X6 R6 L7 g fp7 gS bS (q + (K5 + 1) + 2) from .inl hc7)
                     clear hc7 H7
                     go_wp2_with fail
                     case roundEnd => exact ⟨⟨K5 + 1, m5, X6, R6, L7, fp7, y, A3, c3, y, A3, c3, false, rfl, rfl, HN7.out, HYz.out, HYz.out, HCt.out.1.again HCt.out.2.2.1 HK8.out, HCt.out.2.2.2, HF7.out⟩, by simp only [intOf]; omega⟩
                   · subst e7
                     have HF7 := Lib.hid (show Fate9 ga gd gl n y y false wA w17 X6 R6 L7 g fp7 gS bS (q + (K5 + 1) + 2) from .inr ⟨rfl, hc7.imp (fun _ _ _ h => ZC.imp h (fun _ _ hh => .inl hh) (Nat.le_refl _)) (Nat.le_refl _)⟩)
                     clear hc7 H7
                     go_wp2_with fail
                     case roundEnd => exact ⟨⟨K5 + 1, m5, X6, R6, L7, fp7, y, A3, c3, y, A3, c3, false, rfl, rfl, HN7.out, HYz.out, HYz.out, HCt.out.1.again HCt.out.2.2.1 HK8.out, HCt.out.2.2.2, HF7.out⟩, by simp only [intOf]; omega⟩
                 · have hkf2 : ¬ (K5 : Int) + 1 < (fs.length : Int) := by omega
                   clear hkf
                   go_upto_region 44 with (fail)
                   have HRn := Lib.hid (HCU.out.renewU HG.out HGr.out.1 HGr.out.2 (by omega))
                   go_upto_region 46 with (go_at_call 16; refine HRn.out.mono ?_; rintro e w17 ⟨f7, rfl, h7⟩; obtain ⟨L7, fp7, k7, fr7, b7, h7⟩ := h7.split; have H7 := Lib.hid h7; have HN7 := Lib.hid (HNU.out.turn k7 fr7); clear h7 k7 fr7 b7)
                   rcases H7.out with ⟨e7, hc7⟩ | ⟨e7, hua7, hc7⟩
                   · subst e7
                     have HF7 := Lib.hid (show Fate9 ga gd gl n y y true wA w17 X6 R6 L7 g fp7 gS bS (q + (K5 + 1) + 2) from .inl hc7)
                     clear hc7 H7
                     go_wp2_with fail
                     case roundEnd => exact ⟨⟨K5 + 1, m5, X6, R6, L7, fp7, y, A3, c3, y, A3, c3, true, rfl, rfl, HN7.out, HYz.out, HYz.out, HCt.out.1, HCt.out.2.2.2, HF7.out⟩, by simp only [intOf]; omega⟩
                   · exact absurd hua7 (by simp)
           · as_aux_lemma =>
               obtain ⟨hP2, hg2⟩ : P6 = y.pages /\ g6 = y.gen := by
                 rcases HOk.out with h | ⟨e, _⟩
                 · exact h
                 · exact absurd e hPe
               have HP2 := Lib.hid (And.intro hP2 hg2)
               have HPe := Lib.hid hPe
               clear hP2 hg2 hPe
               have HRw1 := Lib.hid (fun W A12 c12 (h1 : Rws W W.heap.size A12 P6) (h2 : Rws W W.heap.size A4 yp.pages) => R20.rows_any A12 A4 P6 yp.pages P6.length yp.pages.length c12 c4 W h1 h2 rfl rfl (by have := HPl.out.2.1; omega) (fun b hb => by have := HPl.out.1 b hb; omega) (fun b hb => by have := HYi.out.2.short b hb; omega))
               rw [decide_eq_false HPe.out] at HRw1
               have HKSA := Lib.hid (fun W (bW : Below w11.heap.size w11 W) => show (fun W : World => W.cell? ⟨S, 13, none⟩ = some (.slice A4 yp.pages.length c4) /\ W.cell? ⟨S, 14, none⟩ = some (.int .u64 (yp.gen.toNat : Int))) W from by
                 obtain ⟨z0, z1, z2, z3, z4, z5, z6, z7, z8, z9, z10, z11, z12, z13, z14, z15, z16, z17, z18, z19⟩ := twenty (HN11.out.blk.on bW)
                 exact ⟨z13, z14⟩)
               have czA : Below w11.heap.size w11 w11.drew := (Below.refl _ _).drew
               have hS0A := HKSA.out _ czA
               refine wp_region_held_drew (S := (fun W : World => W.cell? ⟨S, 13, none⟩ = some (.slice A4 yp.pages.length c4) /\ W.cell? ⟨S, 14, none⟩ = some (.int .u64 (yp.gen.toNat : Int)))) (by kernel_rfl) (by exact hS0A) (fun hHeld => ?_)
               refine wpAnyH_take (i := 0) (oi := { dst := some 190, op := Op.move (Operand.tmp 25), type := 35, pos := "law.go:164", after := #[], guard := none }) (v := ?_) rfl (by kernel_rfl) (by kernel_rfl) (by kernel_rfl) (fun _ _ _ h => h) (Or.inl ⟨by rfl, ?_⟩) (by assumption) ?_; rotate_left; · ((intro w hSw; (try dsimp only at hSw); go_simp) <;> with_reducible rfl)
               try simp only [Act.put, List.setIfInBounds_toArray, List.set_cons_zero, List.set_cons_succ]
               refine wpAnyH_take (i := 2) (oi := { dst := some 192, op := Op.fieldAddr 68 (Operand.tmp 18) 1, type := 0, pos := "law.go:164", after := #[], guard := none }) (v := ?_) rfl (by kernel_rfl) (by kernel_rfl) (by kernel_rfl) (fun _ _ _ h => h) (Or.inl ⟨by rfl, ?_⟩) (by assumption) ?_; rotate_left; · ((intro w hSw; (try dsimp only at hSw); go_simp) <;> with_reducible rfl)
               try simp only [Act.put, List.setIfInBounds_toArray, List.set_cons_zero, List.set_cons_succ]
               refine wpAnyH_take (i := 3) (oi := { dst := some 193, op := Op.fieldAddr 56 (Operand.tmp 192) 1, type := 0, pos := "law.go:164", after := #[{ on := 2, ground := Ground.data }], guard := none }) (v := ?_) rfl (by kernel_rfl) (by kernel_rfl) (by kernel_rfl) (fun _ _ _ h => h) (Or.inl ⟨by rfl, ?_⟩) (by assumption) ?_; rotate_left; · ((intro w hSw; (try dsimp only at hSw); go_simp) <;> with_reducible rfl)
               try simp only [Act.put, List.setIfInBounds_toArray, List.set_cons_zero, List.set_cons_succ]
               refine wpAnyH_take (i := 4) (oi := { dst := some 194, op := Op.load 47 (Operand.tmp 193), type := 47, pos := "law.go:164", after := #[{ on := 3, ground := Ground.data }], guard := none }) (v := ?_) rfl (by kernel_rfl) (by kernel_rfl) (by kernel_rfl) (fun _ _ _ h => h) (Or.inl ⟨by rfl, ?_⟩) (by assumption) ?_; rotate_left; · ((intro w hSw; (try dsimp only at hSw); go_simp) <;> with_reducible rfl)
               try simp only [Act.put, List.setIfInBounds_toArray, List.set_cons_zero, List.set_cons_succ]
               refine wpAnyH_ready (rs := [1]) (by kernel_rfl) (by simp) ?_
               refine AllReadyH.cons (o := { dst := some 191, op := Op.call { callee := Callee.value (Operand.func 19), args := #[Operand.tmp 190], argTypes := #[35] }, type := 47, pos := "law.go:164", after := #[{ on := 0, ground := Ground.data }], guard := none }) rfl (fun K hK => ?_) AllReadyH.nil
               go_simp; (go_at_call 19; refine ((HC11.out.on czA).pages HGr.out.1).mono ?_; rintro e w12 ⟨A12, c12, rfl, r12, b12⟩; have bp := bt czA b12; have R12 := Lib.hid r12; have hS1A := HKSA.out _ bp; clear r12); (try (go_wp2_with fail)); refine hK.out _ _ (by first | (first | with_reducible exact hS0A | with_reducible exact hS1A | with_reducible exact hS2A) | ((try dsimp only); (first | with_reducible exact hS0A | with_reducible exact hS1A | with_reducible exact hS2A))) (fun hHeld => ?_)
               clear hK K
               try simp only [Act.put, List.setIfInBounds_toArray, List.set_cons_zero, List.set_cons_succ]
               refine wpAnyH_ready (rs := [5]) (by kernel_rfl) (by simp) ?_
               refine AllReadyH.cons (o := { dst := some 195, op := Op.call { callee := Callee.value (Operand.func 18), args := #[Operand.tmp 191, Operand.tmp 194], argTypes := #[47, 47] }, type := 4, pos := "law.go:164", after := #[{ on := 1, ground := Ground.data }, { on := 4, ground := Ground.data }, { on := 1, ground := Ground.chain }], guard := none }) rfl (fun K hK => ?_) AllReadyH.nil
               go_simp; (go_at_call 18; refine (HRw1.out _ A12 c12 R12.out ((HN11.out.on bp).r2.rws)).mono ?_; rintro e w13 ⟨rfl, b13⟩; have bq := bt bp b13; have hS2A := HKSA.out _ bq; have HBqA := Lib.hid bq); (try (go_wp2_with fail)); refine hK.out _ _ (by first | (first | with_reducible exact hS0A | with_reducible exact hS1A | with_reducible exact hS2A) | ((try dsimp only); (first | with_reducible exact hS0A | with_reducible exact hS1A | with_reducible exact hS2A))) (fun hHeld => ?_)
               clear hK K
               try simp only [Act.put, List.setIfInBounds_toArray, List.set_cons_zero, List.set_cons_succ]
               refine wpAnyH_take (i := 6) (oi := { dst := some 196, op := Op.move (Operand.tmp 195), type := 4, pos := "law.go:164", after := #[{ on := 5, ground := Ground.data }, { on := 5, ground := Ground.chain }], guard := none }) (v := ?_) rfl (by kernel_rfl) (by kernel_rfl) (by kernel_rfl) (fun _ _ _ h => h) (Or.inl ⟨by rfl, ?_⟩) (by assumption) ?_; rotate_left; · ((intro w hSw; (try dsimp only at hSw); go_simp) <;> with_reducible rfl)
               try simp only [Act.put, List.setIfInBounds_toArray, List.set_cons_zero, List.set_cons_succ]
               refine wpAnyH_take (i := 7) (oi := { dst := some 197, op := Op.move (Operand.tmp 25), type := 35, pos := "law.go:164", after := #[{ on := 6, ground := Ground.guard }], guard := some (6, true) }) (v := undef) rfl (by kernel_rfl) (by kernel_rfl) (by kernel_rfl) (fun _ _ _ h => h) (Or.inr ⟨by rfl, rfl⟩) (by assumption) ?_
               try simp only [Act.put, List.setIfInBounds_toArray, List.set_cons_zero, List.set_cons_succ]
               refine wpAnyH_take (i := 9) (oi := { dst := some 199, op := Op.fieldAddr 68 (Operand.tmp 18) 1, type := 0, pos := "law.go:164", after := #[{ on := 6, ground := Ground.guard }], guard := some (6, true) }) (v := undef) rfl (by kernel_rfl) (by kernel_rfl) (by kernel_rfl) (fun _ _ _ h => h) (Or.inr ⟨by rfl, rfl⟩) (by assumption) ?_
               try simp only [Act.put, List.setIfInBounds_toArray, List.set_cons_zero, List.set_cons_succ]
               refine wpAnyH_take (i := 10) (oi := { dst := some 200, op := Op.fieldAddr 56 (Operand.tmp 199) 2, type := 0, pos := "law.go:164", after := #[{ on := 9, ground := Ground.data }, { on := 6, ground := Ground.guard }], guard := some (6, true) }) (v := undef) rfl (by kernel_rfl) (by kernel_rfl) (by kernel_rfl) (fun _ _ _ h => h) (Or.inr ⟨by rfl, rfl⟩) (by assumption) ?_
               try simp only [Act.put, List.setIfInBounds_toArray, List.set_cons_zero, List.set_cons_succ]
               refine wpAnyH_take (i := 11) (oi := { dst := some 201, op := Op.load 39 (Operand.tmp 200), type := 39, pos := "law.go:164", after := #[{ on := 10, ground := Ground.data }, { on := 6, ground := Ground.guard }], guard := some (6, true) }) (v := undef) rfl (by kernel_rfl) (by kernel_rfl) (by kernel_rfl) (fun _ _ _ h => h) (Or.inr ⟨by rfl, rfl⟩) (by assumption) ?_
               try simp only [Act.put, List.setIfInBounds_toArray, List.set_cons_zero, List.set_cons_succ]
               refine wpAnyH_ready (rs := [8]) (by kernel_rfl) (by simp) ?_
               refine AllReadyH.cons (o := { dst := some 198, op := Op.call { callee := Callee.value (Operand.func 20), args := #[Operand.tmp 197], argTypes := #[35] }, type := 39, pos := "law.go:164", after := #[{ on := 7, ground := Ground.data }, { on := 6, ground := Ground.chain }, { on := 6, ground := Ground.guard }], guard := some (6, true) }) rfl (fun K hK => ?_) AllReadyH.nil
               rw [if_neg]; rotate_left; · exact fun h => Bool.noConfusion (show false = true from h)
               refine hK.out _ _ hHeld (fun hHeld => ?_)
               clear hK K
               try simp only [Act.put, List.setIfInBounds_toArray, List.set_cons_zero, List.set_cons_succ]
               refine wpAnyH_take (i := 12) (oi := { dst := some 202, op := Op.binOp BinOp.eql 39 (Operand.tmp 198) (Operand.tmp 201) 39, type := 4, pos := "law.go:164", after := #[{ on := 8, ground := Ground.data }, { on := 11, ground := Ground.data }, { on := 6, ground := Ground.guard }], guard := some (6, true) }) (v := undef) rfl (by kernel_rfl) (by kernel_rfl) (by kernel_rfl) (fun _ _ _ h => h) (Or.inr ⟨by rfl, rfl⟩) (by assumption) ?_
               try simp only [Act.put, List.setIfInBounds_toArray, List.set_cons_zero, List.set_cons_succ]
               refine wpAnyH_take (i := 13) (oi := { dst := some 203, op := Op.pick (Operand.tmp 196) (Operand.tmp 202) (Operand.const (Value.bool false)), type := 4, pos := "law.go:164", after := #[{ on := 6, ground := Ground.data }, { on := 12, ground := Ground.data }], guard := none }) (v := ?_) rfl (by kernel_rfl) (by kernel_rfl) (by kernel_rfl) (fun _ _ _ h => h) (Or.inl ⟨by rfl, ?_⟩) (by assumption) ?_; rotate_left; · ((intro w hSw; (try dsimp only at hSw); go_simp) <;> with_reducible rfl)
               try simp only [Act.put, List.setIfInBounds_toArray, List.set_cons_zero, List.set_cons_succ]
               refine wpAnyH_done (by kernel_rfl) ?_ _
               have HC13 := Lib.hid (HC11.out.on HBqA.out)
               have HN13 := Lib.hid (HN11.out.on HBqA.out)
               have tg2 : ((g6.toNat : Int) != (y.gen.toNat : Int)) = false := bne_no (by rw [HP2.out.2])
               clear hS0A hS1A hS2A HKSA czA bp bq b12 b13 HRw1 R12
               go_upto_region 39 with (fail)
               have HRw2 := Lib.hid (fun W A12 c12 (h1 : Rws W W.heap.size A12 P6) (h2 : Rws W W.heap.size A3 y.pages) => R20.rows_any A12 A3 P6 y.pages P6.length y.pages.length c12 c3 W h1 h2 rfl rfl (by have := HPl.out.2.1; omega) (fun b hb => by have := HPl.out.1 b hb; omega) (fun b hb => by have := HYi.out.1.short b hb; omega))
               rw [decide_eq_true HP2.out.1] at HRw2
               have HKSB := Lib.hid (fun W (bW : Below w13.heap.size w13 W) => show (fun W : World => W.cell? ⟨S, 3, none⟩ = some (.slice A3 y.pages.length c3) /\ W.cell? ⟨S, 4, none⟩ = some (.int .u64 (y.gen.toNat : Int))) W from by
                 obtain ⟨z0, z1, z2, z3, z4, z5, z6, z7, z8, z9, z10, z11, z12, z13, z14, z15, z16, z17, z18, z19⟩ := twenty (HN13.out.blk.on bW)
                 exact ⟨z3, z4⟩)
               have czB : Below w13.heap.size w13 w13.drew := (Below.refl _ _).drew
               have hS0B := HKSB.out _ czB
               go_region_held3 (fun W : World => W.cell? ⟨S, 3, none⟩ = some (.slice A3 y.pages.length c3) /\ W.cell? ⟨S, 4, none⟩ = some (.int .u64 (y.gen.toNat : Int))) (first | with_reducible exact hS0B | with_reducible exact hS1B | with_reducible exact hS2B) ((first | (go_at_call 19; refine ((HC13.out.on czB).pages HGr.out.1).mono ?_; rintro e w15 ⟨A12, c12, rfl, r12, b12⟩; have bp := bt czB b12; have R12 := Lib.hid r12; have hS1B := HKSB.out _ bp; clear r12) | (go_at_call 18; refine (HRw2.out _ A12 c12 R12.out ((HN13.out.on bp).r1.rws)).mono ?_; rintro e w16 ⟨rfl, b13⟩; have bq := bt bp b13; have hS2B := HKSB.out _ bq; have HBqB := Lib.hid bq) | (go_at_call 20; refine ((HC13.out.on bq).gen).mono ?_; rintro e w14 ⟨rfl, rfl⟩)))
               have HCT := Lib.hid (show CX (Sto.Op ga gd gl n y.pages y.gen true (q + K5 + 2)) wA w16 X6 R6 X6 g fp10 gS bS ga gd gl (q + K5 + 2) from by rw [<- HP2.out.1, <- HP2.out.2]; exact HC13.out.on HBqB.out)
               have HNT := Lib.hid (HN13.out.on HBqB.out)
               have HYz := Lib.hid HYi.out.1
               clear hS0B hS1B hS2B HKSB czB bp bq b12 b13 HRw2 HBqB R12
               obtain ⟨z0, z1, z2, z3, z4, z5, z6, z7, z8, z9, z10, z11, z12, z13, z14, z15, z16, z17, z18, z19⟩ := twenty HNT.out.blk
               go_upto_region 42 with ((with_reducible show wpList _ _ _ (⟨none, .store 56 (.tmp 224) _, _, _, _, _⟩ :: _) _ _); refine st2_hiY rfl _ _ _ rfl rfl rfl (by kernel_rfl) HNT.out HCT.out ?_; intro wU hst hst2; have HNU := Lib.hid hst; have HCU := Lib.hid hst2; clear hst hst2)
               clear z0 z1 z2 z3 z4 z5 z6 z7 z8 z9 z10 z11 z12 z13 z14 z15 z16 z17 z18 z19
               by_cases hkf : K5 + 1 < fs.length
               · have hkf2 : (K5 : Int) + 1 < (fs.length : Int) := by omega
                 obtain ⟨bF, offF, rfl, hbF, hcF⟩ := HFr.out.1.get (k := K5 + 1) (by simpa using hkf)
                 have hfq := HFr.out.2 fs[K5 + 1] (List.getElem_mem hkf)
                 obtain ⟨fz, hfz⟩ : ∃ fz, fz = fs[K5 + 1] := ⟨_, rfl⟩
                 rw [List.getElem_map, <- hfz] at hcF
                 rw [<- hfz] at hfq
                 have z0 : wU.cell? ⟨bF, offF + (K5 + 1), none⟩ = some (.int .i64 fz) := ((bt b0 HCU.out.bel).cell (p := ⟨bF, offF + (K5 + 1), none⟩) hbF).trans hcF
                 have HAr := Lib.hid (HCU.out.armed (Ψ := Sto.Op ga gd gl n y.pages y.gen false (q + K5 + 2)) fz hfq.1 hfq.2 (fun _ _ _ h => h.arm))
                 have HK8 := Lib.hid (show K5 + 1 < 8 by have := HN.out.1; omega)
                 clear hfz hfq hcF hkf
                 go_upto_region 44 with (go_at_call 30; refine HAr.out.mono ?_; rintro e w15 ⟨rfl, L6, fp6, h6, k6, f6⟩; have HC6 := Lib.hid h6; have HN6 := Lib.hid (HNU.out.turn k6 f6); clear h6 k6 f6)
                 have HRn := Lib.hid (HC6.out.renewU HG.out HGr.out.1 HGr.out.2 (by omega))
                 go_upto_region 46 with (go_at_call 16; refine HRn.out.mono ?_; rintro e w17 ⟨f7, rfl, h7⟩; obtain ⟨L7, fp7, k7, fr7, b7, h7⟩ := h7.split; have H7 := Lib.hid h7; have HN7 := Lib.hid (HN6.out.turn k7 fr7); clear h7 k7 fr7 b7)
                 rcases H7.out with ⟨e7, hc7⟩ | ⟨e7, hua7, hc7⟩
                 · subst e7
                   have HF7 := Lib.hid (show Fate9 ga gd gl n y y false wA w17 X6 R6 L7 g fp7 gS bS (q + (K5 + 1) + 2) from .inl hc7)
                   clear hc7 H7
                   go_wp2_with fail
                   case roundEnd => exact ⟨⟨K5 + 1, m5, X6, R6, L7, fp7, y, A3, c3, y, A3, c3, false, rfl, rfl, HN7.out, HYz.out, HYz.out, HCt.out.1.again HCt.out.2.2.1 HK8.out, HCt.out.2.2.2, HF7.out⟩, by simp only [intOf]; omega⟩
                 · subst e7
                   have HF7 := Lib.hid (show Fate9 ga gd gl n y y false wA w17 X6 R6 L7 g fp7 gS bS (q + (K5 + 1) + 2) from .inr ⟨rfl, hc7.imp (fun _ _ _ h => ZC.imp h (fun _ _ hh => .inl hh) (Nat.le_refl _)) (Nat.le_refl _)⟩)
                   clear hc7 H7
                   go_wp2_with fail
                   case roundEnd => exact ⟨⟨K5 + 1, m5, X6, R6, L7, fp7, y, A3, c3, y, A3, c3, false, rfl, rfl, HN7.out, HYz.out, HYz.out, HCt.out.1.again HCt.out.2.2.1 HK8.out, HCt.out.2.2.2, HF7.out⟩, by simp only [intOf]; omega⟩
               · have hkf2 : ¬ (K5 : Int) + 1 < (fs.length : Int) := by omega
                 clear hkf
                 go_upto_region 44 with (fail)
                 have HRn := Lib.hid (HCU.out.renewU HG.out HGr.out.1 HGr.out.2 (by omega))
                 go_upto_region 46 with (go_at_call 16; refine HRn.out.mono ?_; rintro e w17 ⟨f7, rfl, h7⟩; obtain ⟨L7, fp7, k7, fr7, b7, h7⟩ := h7.split; have H7 := Lib.hid h7; have HN7 := Lib.hid (HNU.out.turn k7 fr7); clear h7 k7 fr7 b7)
                 rcases H7.out with ⟨e7, hc7⟩ | ⟨e7, hua7, hc7⟩
                 · subst e7
                   have HF7 := Lib.hid (show Fate9 ga gd gl n y y true wA w17 X6 R6 L7 g fp7 gS bS (q + (K5 + 1) + 2) from .inl hc7)
                   clear hc7 H7
                   go_wp2_with fail
                   case roundEnd => exact ⟨⟨K5 + 1, m5, X6, R6, L7, fp7, y, A3, c3, y, A3, c3, true, rfl, rfl, HN7.out, HYz.out, HYz.out, HCt.out.1, HCt.out.2.2.2, HF7.out⟩, by simp only [intOf]; omega⟩
                 · exact absurd hua7 (by simp)
   · obtain rfl : q = l.length := by omega
     have hkn : ¬ (l.length : Int) < (l.length : Int) := by omega
     go_wp2_with (go_at_call 10; refine (hal.out _).mono ?_; rintro e w14 ⟨rfl, b14⟩)
     go_ret
     exact ⟨rfl, bt b0 (bt HCX.out.bel b14)⟩
set_option maxRecDepth 100000 in
theorem lifted (os : Os) (started : os.Started) (H : Type) (enc : TypeId × Value -> H) :
   ReturnsInHanded {} Tryz.checked os 7 .any (Rows.storeCrashesSpec.pre6 enc Tryz.prog Tryz.f7 Rows.storeCrashesRow.domain false) (Rows.storeCrashesSpec.post enc Tryz.prog Tryz.f7 false true false false) := by
 refine returnsInHanded_of_change (C := Tryz.checked) own started (by kernel_rfl) Tryz.func7
   (ChangeSpec.witness6 (enc := enc) (C := Tryz.checked) false ⟨#[], #[.agg #[.int .i64 0, .int .i64 0, .int .i64 0], .slice none 0 0, .slice none 0 0, .slice none 0 0, .int .i64 0, .int .i64 0], []⟩ 8 (by kernel_rfl) (by kernel_rfl) (by kernel_rfl) (by kernel_rfl)) ?_
 intro W base args ds gs before hval0 hW hcnd _
 have hval : ∀ (j : Nat) t v, Tryz.f7.params[j]? = some t -> args[j]? = some v -> Value.okWide Tryz.prog W .any base t v := hval0
 have hW' := hW
 obtain ⟨p, q, hA0, hV, rfl, hfz, hnd⟩ := hW
 have hA : DataW.TrodAll enc Tryz.prog W 0 (fun _ => true) true Tryz.f7.params.toList args.toList ds p := hA0
 rw [Tryz.params7] at hA hval
 obtain ⟨v0, vs0, d0, ds0, p0, q0, hargs, rfl, rfl, h0, r0⟩ := trodAll_cons hA
 obtain ⟨v1, vs1, d1, ds1, p1, q1, rfl, rfl, rfl, h1, r1⟩ := trodAll_cons r0
 obtain ⟨v2, vs2, d2, ds2, p2, q2, rfl, rfl, rfl, h2, r2⟩ := trodAll_cons r1
 obtain ⟨v3, vs3, d3, ds3, p3, q3, rfl, rfl, rfl, h3, r3⟩ := trodAll_cons r2
 obtain ⟨v4, vs4, d4, ds4, p4, q4, rfl, rfl, rfl, h4, r4⟩ := trodAll_cons r3
 obtain ⟨v5, vs5, d5, ds5, p5, q5, rfl, rfl, rfl, h5, r5⟩ := trodAll_cons r4
 obtain ⟨rfl, rfl, rfl⟩ := trodAll_nil r5
 obtain rfl : args = #[v0, v1, v2, v3, v4, v5] := by cases args; simp_all
 obtain ⟨rfl, rfl⟩ := trodVars_none hV
 have k0 := h0
 have lt0 := places_lt k0
 obtain ⟨c0a, c0b, c0c, y0a, y0b, y0c, m0, rfl, _, _, hy0a, hy0b, hy0c⟩ := open_agg3 Tryz.underlying23 (by kernel_rfl) (by kernel_rfl) (hval 0 23 v0 rfl rfl) h0
 obtain ⟨n0a, e0a, _, w0a⟩ := DataW.trod_int Tryz.underlying3 hy0a
 simp only [List.cons.injEq, and_true] at e0a
 subst e0a
 obtain ⟨n0b, e0b, _, w0b⟩ := DataW.trod_int Tryz.underlying3 hy0b
 simp only [List.cons.injEq, and_true] at e0b
 subst e0b
 obtain ⟨n0c, e0c, _, w0c⟩ := DataW.trod_int Tryz.underlying3 hy0c
 simp only [List.cons.injEq, and_true] at e0c
 subst e0c
 have k1 := h1
 have lt1 := places_lt k1
 obtain ⟨a1, len1, cap1, rfl⟩ := okWide_slice Tryz.underlying24 (hval 1 24 v1 rfl rfl)
 obtain ⟨fuel1, hf1⟩ := h1
 obtain ⟨l1, rfl, rr1, rc1, rm1⟩ := sacts_of hf1
 have k2 := h2
 have lt2 := places_lt k2
 obtain ⟨a2, len2, cap2, rfl⟩ := okWide_slice Tryz.underlying66 (hval 2 66 v2 rfl rfl)
 obtain ⟨fuel2, hf2⟩ := h2
 obtain ⟨l2, rfl, rr2, rc2, rm2, rw2⟩ := ints_of rfl Tryz.underlying66 Tryz.underlying3 (by kernel_rfl) hf2
 have k3 := h3
 have lt3 := places_lt k3
 obtain ⟨a3, len3, cap3, rfl⟩ := okWide_slice Tryz.underlying66 (hval 3 66 v3 rfl rfl)
 obtain ⟨fuel3, hf3⟩ := h3
 obtain ⟨l3, rfl, rr3, rc3, rm3, rw3⟩ := ints_of rfl Tryz.underlying66 Tryz.underlying3 (by kernel_rfl) hf3
 have k4 := h4
 have lt4 := places_lt k4
 obtain ⟨n4, rfl, _, _, w4⟩ := open_int Tryz.underlying3 (hval 4 3 v4 rfl rfl) h4
 have k5 := h5
 have lt5 := places_lt k5
 obtain ⟨n5, rfl, _, _, w5⟩ := open_int Tryz.underlying3 (hval 5 3 v5 rfl rfl) h5
 clear hA0 hval0
 refine (walk n0a n0b n0c a1 l1 cap1 a2 l2 cap2 a3 l3 cap3 n4 n5 W (wfi w0a).1 (wfi w0a).2 (wfi w0b).1 (wfi w0b).2 (wfi w0c).1 (wfi w0c).2 rr1 rc1 rm1 rr2 rc2 rm2 rw2 rr3 rc3 rm3 rw3 (wfi w4).1 (wfi w4).2 (wfi w5).1 (wfi w5).2).mono fun e W' ⟨he, bel⟩ => ?_
 subst he
 exact ⟨_, rfl, _, _, _, [], _, [], hW', trodAll_mk1 (shut_bool Tryz.underlying4 _), (trodAll_cons_mk (Below.trod laidOut (by kernel_rfl) (of_decide_eq_true (by kernel_rfl)) k0 bel lt0) (trodAll_cons_mk (Below.trod laidOut (by kernel_rfl) (of_decide_eq_true (by kernel_rfl)) k1 bel lt1) (trodAll_cons_mk (Below.trod laidOut (by kernel_rfl) (of_decide_eq_true (by kernel_rfl)) k2 bel lt2) (trodAll_cons_mk (Below.trod laidOut (by kernel_rfl) (of_decide_eq_true (by kernel_rfl)) k3 bel lt3) (trodAll_cons_mk (Below.trod laidOut (by kernel_rfl) (of_decide_eq_true (by kernel_rfl)) k4 bel lt4) (trodAll_cons_mk (Below.trod laidOut (by kernel_rfl) (of_decide_eq_true (by kernel_rfl)) k5 bel lt5) trodAll_mk0)))))), rfl, bel.frame _, fun h => by cases h⟩
theorem proved : Rows.StoreCrashesSaid :=
 OpenClaim.holds_of_wide 7 Tryz.f7 rfl rfl rfl rfl rfl rfl rfl ⟨rfl, rfl, rfl, rfl, rfl⟩ rfl rfl rfl rfl rfl (by kernel_rfl) Tryz.func7 (by kernel_rfl)
   (of_decide_eq_true (by kernel_rfl)) (by unfold Func.isWrapper; first | (rw [if_pos (by decide +kernel)]; kernel_rfl) | (rw [if_neg (by decide +kernel)]; exact ⟨rfl, rfl⟩))
   (fun os started H enc _ => lifted os started H enc)
#print axioms proved
end Go.Proofs.YtchcmklelmlbgaaGreat.StoreCrashes
