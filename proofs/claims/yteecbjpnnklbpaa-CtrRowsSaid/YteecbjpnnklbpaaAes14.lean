/- The walk of the statements' own example. -/
import Derived.Test.YteecbjpnnklbpaaAes13
namespace Go.Proofs.Yteecbjpnnklbpaa.Aes
open Go.RowKit
open Go.Proofs.Yteecbjpnnklbpaa.Gf
set_option linter.unusedVariables false
set_option maxRecDepth 100000
def kEx (k : Nat) : List UInt8 := (List.range k).map UInt8.ofNat
def bEx : List UInt8 := (List.range 16).map fun i => UInt8.ofNat (17 * i)
theorem kEx_succ (k : Nat) : kEx (k + 1) = kEx k ++ [UInt8.ofNat k] := by simp [kEx, List.range_succ]
theorem kEx_len (k : Nat) : (kEx k).length = k := by simp [kEx]
theorem bEx_len : bEx.length = 16 := by simp [bEx]
theorem bEx_at (k : Nat) (h : k < 16) : bEx.getD k 0 = UInt8.ofNat (17 * k) := by
  simp [bEx, List.getD, List.getElem?_map, List.getElem?_range h]
theorem ex_at : ∃ c, encrypt (sched (kEx 32)) bEx = c ∧ c.getD 0 0 = 0x8e ∧ c.getD 1 0 = 0xa2 ∧ c.getD 2 0 = 0xb7 ∧ c.getD 3 0 = 0xca := by
  refine ⟨_, rfl, ?_⟩
  have h : (encrypt (sched (kEx 32)) bEx).take 4 = [0x8e, 0xa2, 0xb7, 0xca] := example_ok
  have hl := encrypt_len (sched (kEx 32)) bEx
  obtain ⟨C, hC⟩ : ∃ C, C = encrypt (sched (kEx 32)) bEx := ⟨_, rfl⟩
  rw [← hC] at h hl ⊢
  match C, hl with
  | a :: b :: c :: d :: r, _ =>
    simp only [List.take_succ_cons, List.cons.injEq] at h
    exact ⟨h.1, h.2.1, h.2.2.1, h.2.2.2.1⟩
theorem info8 : (Try.prog.info? 5).map (fun i => (i.zero, i.size, i.bytes)) = some (some (.int .u8 0), 1, 1) := by kernel_rfl
set_option maxHeartbeats 1600000 in
theorem alive_any (w : World) : Calls Try.prog 17 #[] w fun e w' => e = .returned (.bool true) ∧ Below w.heap.size w w' := by
  obtain ⟨i0, hi0, hz0, hz1, hz2⟩ := info_parts info8
  obtain ⟨C, hC, hC0, hC1, hC2, hC3⟩ := ex_at
  have hsc : ∀ (A : Option Addr) (c : Nat) (W : World), 32 ≤ c → c ≤ maxLen → Rd W W.heap.size A ((kEx 32).map e8) → Calls Try.prog 18 #[.slice A 32 c] W fun e w' => e = .returned (.tuple #[arrV (vb (sched (kEx 32))), .int .i64 0]) ∧ Below W.heap.size W w' := fun A c W h1 h2 h3 => by
    have := schedule_any A (kEx 32) 32 c W (kEx_len 32).symm h1 h2 h3
    rw [keysOf, if_pos (kEx_len 32), if_pos (kEx_len 32)] at this
    exact this
  have hLl := sched_len (kEx 32)
  have hen := fun W => encrypt_any (sched (kEx 32)) bEx hLl bEx_len W
  rw [hC] at hen
  have hCl : C.length = 16 := by rw [← hC]; exact encrypt_len _ _
  clear hC
  obtain ⟨L, hL⟩ : ∃ L, L = sched (kEx 32) := ⟨_, rfl⟩
  rw [← hL] at hsc hLl hen
  clear hL
  have hbl := bEx_len
  have hba := bEx_at
  obtain ⟨bx, hbx⟩ : ∃ b, b = bEx := ⟨_, rfl⟩
  rw [← hbx] at hen hbl hba
  clear hbx
  have hszb := sizeL hbl
  have hszC := sizeL hCl
  have hszL := size240 sizeK hLl
  have hZ := zero240_len
  have zK := zeroVK
  obtain ⟨Z, hZe⟩ : ∃ Z, Z = zero240 := ⟨_, rfl⟩
  rw [← hZe] at hZ zK
  clear hZe
  have hZL : (vb Z).length = (vb L).length := by rw [vb_len, vb_len, hLl, hZ]
  have HZL := Lib.hid hZL
  have Hsc := Lib.hid hsc
  have Hen := Lib.hid hen
  have Hbl := Lib.hid hbl
  have Hba := Lib.hid hba
  have HCl := Lib.hid hCl
  have HC0 := Lib.hid hC0
  have HC1 := Lib.hid hC1
  have HC2 := Lib.hid hC2
  have HC3 := Lib.hid hC3
  clear hsc hen hbl hba hCl hC0 hC1 hC2 hC3 hZ hLl hZL
  go_enter Try.func17, Try.ntmps17
  go_wp2_with (first
    | ((with_reducible show wpList _ _ _ (⟨some 2, _, _, _, _, _⟩ :: _) _ _); refine wpList_allocN rfl _ rfl (vb zero16) zeroV16 ?_; intro w1 hb1 bw1 hs1)
    | fail)
  have lB : w.heap.size < w1.heap.size := hs1
  go_loopw [1, 3] (fun v i wr => ∃ k : Nat, k ≤ 32 ∧ i = .int .i64 k ∧ Blk wr w.heap.size (vb zero16) ∧ wr.ownsRow w1.heap.size 5 1 v k ((kEx k).map e8) ∧ Below w.heap.size w wr ∧ w1.heap.size ≤ wr.heap.size) (fun _ i _ => 32 - (intOf i).toNat)
  case atStart => exact ⟨0, by omega, rfl, hb1, own_nil _ _ _ _, bw1, Nat.le_refl _⟩
  case round =>
    obtain ⟨k, hk, rfl, d0, hown, bt0, hsz⟩ := hrel
    obtain ⟨A0, c0, rfl⟩ := own_form hown
    by_cases hlt : k < 32
    · have hwk : IntKind.u8.wrap (k : Int) = ((UInt8.ofNat k).toNat : Int) := by rw [IntKind.wrap_u8']; simp
      have hks := Lib.hid (kEx_succ k)
      obtain ⟨y, hy⟩ : ∃ y, y = UInt8.ofNat k := ⟨_, rfl⟩
      rw [← hy] at hwk hks
      clear hy
      go_wp2_with (at_builtin; refine wpList_append_rd _ rfl _ _ _ rfl w1.heap.size 5 i0 _ 1 1 Try.underlying27 hi0 hz0 hz1 hz2 rfl (by omega) _ k _ rfl (hown.alloc _) _ _ 1 1 [e8 y] rfl rfl (Rd.lit wr _ _ _ (wr.heap.size + 1) rfl (by omega)) (one_int _ _) (by simp only [maxLen]; omega) (by omega) (le_alloc hsz _) ?_; intro v2 w2 hown2 hg2 hat2)
      go_roundw
      case rel =>
        have hne : some w.heap.size ≠ (Value.slice A0 k c0).ownBlock := fun e => by have := own_block hown e.symm; omega
        exact ⟨k + 1, by omega, by go_num, (d0.alloc _).grown hg2 hne, by rw [hks.out, List.map_append]; exact hown2, (bt0.alloc bt0.size _).grown hg2 (le_alloc bt0.size _) (fun g hg => by have := own_block hown hg; omega), Nat.le_trans hsz (by have := hg2.size; simp at this; omega)⟩
      case measure => simp [intOf]; omega
    · obtain rfl : k = 32 := by omega
      obtain ⟨A1, hA1⟩ : ∃ A, A = A0 := ⟨_, rfl⟩
      obtain ⟨c1, hc1⟩ : ∃ c, c = c0 := ⟨_, rfl⟩
      subst hA1 hc1
      have hcap := own_cap hown
      clear hb1 bw1 hs1
      go_wp2
      go_loopw [4] (fun i wx => ∃ n : Nat, n ≤ 16 ∧ i = .int .i64 n ∧ Blk wx w.heap.size (vb (part bx zero16 n)) ∧ wx.ownsRow w1.heap.size 5 1 (.slice A1 32 c1) 32 ((kEx 32).map e8) ∧ Below w.heap.size w wx) (fun i _ => 16 - (intOf i).toNat)
      case atStart => exact ⟨0, by omega, rfl, by rw [part_zero]; exact d0, hown, bt0⟩
      case round =>
        obtain ⟨n, hn, rfl, e0, hown', bx0⟩ := hrel
        clear d0 hown bt0 hsz
        by_cases hln : n < 16
        · have hset := Lib.hid (part_set bx zero16 n 16 Hbl.out rfl hln)
          have hv := Lib.hid (Hba.out n hln)
          have hwn : IntKind.i64.wrap (17 * (n : Int)) = 17 * (n : Int) := by rw [IntKind.wrap_i64]; omega
          have hw8 : IntKind.u8.wrap (17 * (n : Int)) = ((UInt8.ofNat (17 * n)).toNat : Int) := by rw [IntKind.wrap_u8']; simp
          obtain ⟨y, hy⟩ : ∃ y, y = UInt8.ofNat (17 * n) := ⟨_, rfl⟩
          rw [← hy] at hw8 hv
          have hcc := Blk.byte e0 (k := n) (by rw [part_len _ _ n 16 Hbl.out rfl (by omega)]; exact hln)
          have hf := e0.free n
          have hlt0 := e0.lt
          have hnI : (n : Int) < 16 := by omega
          clear hy
          go_wp2
          go_roundw
          case rel =>
            have hbs := e0.set (k := n) (e8 y)
            have hst := hset.out
            rw [hv.out] at hst
            rw [vb_set, hst] at hbs
            exact ⟨n + 1, by omega, by go_num, hbs, own_keep hown' (Keep.of_grown (fp := [w.heap.size]) (grown_set _ _ _) (fun g e => by cases e; simp)) (fun g hg => by have := own_block hown' hg; simp; omega), bset bx0 (Nat.le_refl _) _⟩
          case measure => simp [intOf]; omega
        · obtain rfl : n = 16 := by omega
          rw [part_all _ _ 16 Hbl.out rfl] at e0
          go_wp2_with fail
          refine (Hsc.out A1 c1 _ hcap.1 hcap.2 (Rd.own hown')).mono ?_
          rintro e w3 ⟨rfl, b3⟩
          have f0 := e0.on b3
          have bt3 := bt bx0 b3
          clear e0 hown' bx0
          go_wp2_with (first
            | ((with_reducible show wpList _ _ _ (⟨some 5, _, _, _, _, _⟩ :: _) _ _); refine wpList_allocN rfl _ rfl (vb Z) zK ?_; intro w4 hb4 bw4 hs4)
            | ((with_reducible show wpList _ _ _ (⟨none, .store 29 (.tmp 5) _, _, _, _, _⟩ :: _) _ _); refine wpList_storeN rfl _ _ _ rfl rfl (ys := vb L) rfl hb4 HZL.out (vb_one _) hszL ?_; intro w5 hb5 hg5; have bt5 := below_row bw4 hg5 (Nat.le_refl _) bw4.size; have f5 := f0.on bt5)
            | ((with_reducible show wpList _ _ _ (⟨some 31, _, _, _, _, _⟩ :: _) _ _); refine wpList_loadA rfl _ _ rfl rfl hb5 Try.underlying29 hszL ?_)
            | ((with_reducible show wpList _ _ _ (⟨some 32, _, _, _, _, _⟩ :: _) _ _); refine wpList_loadA rfl _ _ rfl rfl f5 Try.underlying22 hszb ?_)
            | fail)
          refine (Hen.out _).mono ?_
          rintro e w6 ⟨rfl, b6⟩
          have bt6 := bt (bt bt3 bt5) b6
          clear f0 b3 bt3 hb4 bw4 hs4 hb5 hg5 bt5 f5 b6
          go_wp2_with (first
            | ((with_reducible show wpList _ _ _ (⟨some 7, _, _, _, _, _⟩ :: _) _ _); refine wpList_allocN rfl _ rfl (vb zero16) zeroV16 ?_; intro w7 hb7 bw7 hs7)
            | ((with_reducible show wpList _ _ _ (⟨none, .store 22 (.tmp 7) _, _, _, _, _⟩ :: _) _ _); refine wpList_storeN rfl _ _ _ rfl rfl (ys := vb C) rfl hb7 (by rw [vb_len, vb_len, HCl.out]; rfl) (vb_one _) hszC ?_; intro w8 hb8 hg8; have bt8 := below_row bw7 hg8 (Nat.le_refl _) bw7.size; have c0 := Blk.byte hb8 (k := 0) (by rw [HCl.out]; omega); have c1 := Blk.byte hb8 (k := 1) (by rw [HCl.out]; omega); have c2 := Blk.byte hb8 (k := 2) (by rw [HCl.out]; omega); have c3 := Blk.byte hb8 (k := 3) (by rw [HCl.out]; omega); rw [HC0.out] at c0; rw [HC1.out] at c1; rw [HC2.out] at c2; rw [HC3.out] at c3; clear hb7 bw7 hs7)
            | fail)
          go_ret
          exact ⟨rfl, bt bt6 bt8⟩
end Go.Proofs.Yteecbjpnnklbpaa.Aes
