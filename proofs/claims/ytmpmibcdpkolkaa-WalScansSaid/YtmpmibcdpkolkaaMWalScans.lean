/- WalScans: for every input the law returns true: which transactions are read of any sectors. No condition. -/
import Derived.Test.YtmpmibcdpkolkaaWalScansG
import Derived.Test.YtmpmibcdpkolkaaWalScansH
import Derived.Deep.RegionHeld3
import Derived.Deep.DeepCutAuto
namespace Go.Proofs.Ytmpmibcdpkolkaa.WalScans
open Go.ChangeShapes Go.WideShapes Go.ChangeAt Go.RowKit Go.Joins
open Go.ChangeMaps (open_string shut_string)
open Go.Proofs.Ytmpmibcdpkolkaa.Sup (Gb gv gcell gthree newN_any UpN up_new stp stp_yes stp_no bytesAt bytesAt_len size_ge)
open Go.Proofs.Ytmpmibcdpkolkaa.Wal
open Go.Proofs.Ytmpmibcdpkolkaa.Geom (lo hi pagesOf right)
open Go.Proofs.Ytmpmibcdpkolkaa.Disk (St DAt)
open Go.Proofs.Ytmpmibcdpkolkaa.Sec (symbolic_any RetX five5x X X0 rightF text sumOf sumAfter)
set_option linter.unusedVariables false
set_option maxRecDepth 100000
theorem sec5 {w w' : World} {b o : Nat} {v0 v1 v2 v3 v4 : Value} (hb : b < w.heap.size) (h : Below w.heap.size w w') (c0 : w.cell? ⟨b, o, none⟩ = some v0) (c1 : w.cell? ⟨b, o + 1, none⟩ = some v1) (c2 : w.cell? ⟨b, o + 2, none⟩ = some v2) (c3 : w.cell? ⟨b, o + 3, none⟩ = some v3) (c4 : w.cell? ⟨b, o + 4, none⟩ = some v4) :
    w'.cell? ⟨b, o, none⟩ = some v0 ∧ w'.cell? ⟨b, o + 1, none⟩ = some v1 ∧ w'.cell? ⟨b, o + 2, none⟩ = some v2 ∧ w'.cell? ⟨b, o + 3, none⟩ = some v3 ∧ w'.cell? ⟨b, o + 4, none⟩ = some v4 :=
  ⟨(h.cell (p := ⟨b, _, none⟩) hb).trans c0, (h.cell (p := ⟨b, _, none⟩) hb).trans c1, (h.cell (p := ⟨b, _, none⟩) hb).trans c2, (h.cell (p := ⟨b, _, none⟩) hb).trans c3, (h.cell (p := ⟨b, _, none⟩) hb).trans c4⟩
theorem sec5k {w w' : World} {fp : List Nat} {b o : Nat} {v0 v1 v2 v3 v4 : Value} (hb : b < w.heap.size) (hn : b ∉ fp) (h : Keep fp w w') (c0 : w.cell? ⟨b, o, none⟩ = some v0) (c1 : w.cell? ⟨b, o + 1, none⟩ = some v1) (c2 : w.cell? ⟨b, o + 2, none⟩ = some v2) (c3 : w.cell? ⟨b, o + 3, none⟩ = some v3) (c4 : w.cell? ⟨b, o + 4, none⟩ = some v4) :
    w'.cell? ⟨b, o, none⟩ = some v0 ∧ w'.cell? ⟨b, o + 1, none⟩ = some v1 ∧ w'.cell? ⟨b, o + 2, none⟩ = some v2 ∧ w'.cell? ⟨b, o + 3, none⟩ = some v3 ∧ w'.cell? ⟨b, o + 4, none⟩ = some v4 := by
  have e := fun o => World.cell?_of_block (a := ⟨b, o, none⟩) (h.block hb hn)
  exact ⟨(e _).trans c0, (e _).trans c1, (e _).trans c2, (e _).trans c3, (e _).trans c4⟩
/-- what is owned stays, while other blocks are turned -/
theorem own_kp {w w' : World} {base : Nat} {e : TypeId} {z n : Nat} {v : Value} {xs : List Value} {fp : List Nat} (h : w.ownsRow base e z v n xs) (k : Keep fp w w') (hn : ∀ r, v.ownBlock = some r → r ∉ fp) : w'.ownsRow base e z v n xs :=
  Wal.own_keep h (fun j cs e _ hh => k.block (lt_of_block hh) (hn j e))
theorem not_turn5 {w1 : World} {gS bS : Nat} {fp fp' : List Nat} {base : Nat} {e : TypeId} {v : Value} {z j : Nat} {xs : List Value} (hown : w1.ownsRow base e z v j xs) (hnot : ∀ r, v.ownBlock = some r → r ∉ gS :: bS :: fp) (f : Fresh w1 fp fp') : ∀ r, v.ownBlock = some r → r ∉ gS :: bS :: fp' := fun r hr hm => by
  have h0 := hnot r hr
  rcases List.mem_cons.1 hm with e | hm
  · exact h0 (by rw [e]; simp)
  rcases List.mem_cons.1 hm with e | hm
  · exact h0 (by rw [e]; simp)
  · exact f.out (hown.lt r hr).2 (fun hm => h0 (by simp [hm])) hm
theorem grow5 {w2 X w9 : World} {g : Nat} {fp : List Nat} {s : St} {gS bS : Nat} {L : List (List UInt8)} {e : TypeId} {v v9 : Value} {z j : Nat} {xs : List Value} {tmp : Obj} (H : Here w2 X g fp s gS bS L) (hown : X.ownsRow w2.heap.size e z v j xs) (hnot : ∀ r, v.ownBlock = some r → r ∉ gS :: bS :: fp)
    (hg : (X.alloc tmp).grownBy w9 v.ownBlock) (hat : v9.ownBlock = v.ownBlock ∨ v9.ownBlock = some (X.alloc tmp).heap.size) : Here w2 w9 g fp s gS bS L ∧ ∀ r, v9.ownBlock = some r → r ∉ gS :: bS :: fp := by
  refine ⟨(H.on (b1alloc X tmp)).row hg (fun r e => ⟨(hown.lt r e).1, hnot r e⟩), fun r hr => ?_⟩
  rcases hat with h | h
  · exact hnot r (h ▸ hr)
  · rw [h] at hr
    injection hr with hr
    subst hr
    have h1 := H.both.sym.lt
    intro hm
    have hsz : (X.alloc tmp).heap.size = X.heap.size + 1 := by simp
    rcases List.mem_cons.1 hm with e | hm
    · omega
    rcases List.mem_cons.1 hm with e | hm
    · omega
    · have := H.both.disk.lt _ hm; omega
/-- a sector that was kept: where its bytes lie -/
structure Es where
  A : Option Addr
  c : Nat
  x : X
def Es.cells (e : Es) : List Value := [.int .i64 e.x.kind, .int .u64 (e.x.life.toNat : Int), .int .i64 e.x.seq, .int .u64 (e.x.gen.toNat : Int), .slice e.A e.x.body.length e.c]
theorem flat5 {α : Type} {f : α → List Value} (hf : ∀ x, (f x).length = 5) : ∀ (l : List α) (i : Nat) (h : i < l.length) (k : Nat), k < 5 → (l.flatMap f)[i * 5 + k]? = (f l[i])[k]?
  | [], i, h, _, _ => by cases h
  | x :: l, 0, _, k, hk => by rw [List.flatMap_cons, List.getElem?_append_left (by rw [hf]; omega)]; simp
  | x :: l, i + 1, h, k, hk => by
    rw [List.flatMap_cons, List.getElem?_append_right (by rw [hf]; omega), hf, show (i + 1) * 5 + k - 5 = i * 5 + k by omega]
    simpa using flat5 hf l i (by simpa using h) k hk
theorem own_cell5 {w : World} {base n c g : Nat} {e : TypeId} {l : List Es} (h : w.ownsRow base e 5 (.slice (some ⟨g, 0, none⟩) n c) n (l.flatMap Es.cells)) (i : Nat) (hi : i < l.length) (k : Nat) (hk : k < 5) : w.cell? ⟨g, i * 5 + k, none⟩ = (l[i].cells)[k]? := by
  have hl := h.1
  have h2 : ∀ l : List Es, (l.flatMap Es.cells).length = l.length * 5 := fun l => by
    induction l with
    | nil => rfl
    | cons x l ih => rw [List.flatMap_cons, List.length_append, ih, List.length_cons]; simp [Es.cells]; omega
  have h3 := h2 l
  have := World.ownsRow.cellAt (j := i * 5 + k) h (by omega)
  rw [this]
  exact flat5 (fun _ => rfl) l i hi k hk
/-- kept sectors read as sectors -/
theorem es_secs {w w' : World} {base : Nat} {e : TypeId} {A : Option Addr} {l : List X} {n c : Nat} {es : List Es} (hr : w'.ownsRow base e 5 (.slice A n c) n (es.flatMap Es.cells)) (hn : n = l.length) (he : es.map Es.x = l) (hok : ∀ e ∈ es, Rd w w.heap.size e.A (e.x.body.map e8) ∧ e.x.body.length ≤ e.c ∧ e.c ≤ maxLen) (b : Below w.heap.size w w') :
    Secs w' w'.heap.size A l := by
  subst hn
  have hll : es.length = l.length := by rw [← he]; simp
  intro hne
  have hp : 0 < l.length := by cases l; exact absurd rfl hne; simp
  obtain ⟨g, c', e', hg⟩ := own_some hr (by omega)
  injection e' with e1 e2 e3
  subst e1
  obtain ⟨cs, hcs⟩ := Disk.own_blk hr
  refine ⟨g, 0, rfl, lt_of_block hcs, fun i hi => ?_⟩
  have hi' : i < es.length := by omega
  obtain ⟨k1, k2, k3⟩ := hok _ (List.getElem_mem hi')
  have c0 := own_cell5 hr i hi' 0 (by omega)
  have c1 := own_cell5 hr i hi' 1 (by omega)
  have c2 := own_cell5 hr i hi' 2 (by omega)
  have c3 := own_cell5 hr i hi' 3 (by omega)
  have c4 := own_cell5 hr i hi' 4 (by omega)
  have hx : l[i] = es[i].x := by
    have : l[i]? = (es.map Es.x)[i]? := by rw [he]
    rw [List.getElem?_map, List.getElem?_eq_getElem hi, List.getElem?_eq_getElem hi'] at this
    simpa using this
  refine ⟨es[i].A, es[i].c, ?_⟩
  rw [Nat.zero_add, hx]
  exact ⟨by simpa [Es.cells] using c0, by simpa [Es.cells] using c1, by simpa [Es.cells] using c2, by simpa [Es.cells] using c3, by simpa [Es.cells] using c4, (k1.below b).more b.size, k2, k3⟩
/-- what is read so far is small -/
def RgB (B n : Nat) (r : Rg) : Prop := (r.all.length ≤ n ∧ r.now.length ≤ n) ∧ (∀ t ∈ r.all, t.pages.length ≤ n ∧ ∀ y ∈ t.pages, y.body.length ≤ B) ∧ ∀ y ∈ r.now, y.body.length ≤ B
theorem RgB.more {B n m : Nat} {r : Rg} (h : RgB B n r) (hm : n ≤ m) : RgB B m r := ⟨⟨by have := h.1.1; omega, by have := h.1.2; omega⟩, fun t ht => ⟨by have := (h.2.1 t ht).1; omega, (h.2.1 t ht).2⟩, h.2.2⟩
theorem RgB.take {B n : Nat} {np : Int} {r : Rg} {i : Nat} {x : X} (h : RgB B n r) (hx : x.body.length ≤ B) : RgB B (n + 1) (takeF np r i x).1 := by
  unfold takeF
  have hm := h.more (Nat.le_succ n)
  split
  · exact hm
  · split
    · exact hm
    · split
      · refine ⟨⟨hm.1.1, by have := h.1.2; simp; omega⟩, hm.2.1, fun y hy => ?_⟩
        rcases List.mem_append.1 hy with hy | hy
        · exact h.2.2 y hy
        · rw [List.mem_singleton] at hy; subst hy; simp; omega
      · split
        · refine ⟨⟨by have := h.1.1; simp; omega, by simp⟩, fun t ht => ?_, fun y hy => by cases hy⟩
          rcases List.mem_append.1 ht with ht | ht
          · exact hm.2.1 t ht
          · rw [List.mem_singleton] at ht; subst ht; exact ⟨hm.1.2, h.2.2⟩
        · exact hm
theorem scanH_small {B : Nat} {np : Int} {rd : Nat → X} {good : Nat → Bool} (hx : ∀ j, (rd j).body.length ≤ B) : ∀ (N i n : Nat) (r : Rg), RgB B n r → RgB B (n + N) (scanH np rd good N i r)
  | 0, i, n, r, h => h
  | N + 1, i, n, r, h => by
    unfold scanH
    split
    · have h1 := h.take (np := np) (i := i) (hx i)
      split
      · have := scanH_small (np := np) (rd := rd) (good := good) hx N (i + 1) (n + 1) _ h1
        exact this.more (by omega)
      · exact h1.more (by omega)
    · exact h.more (by omega)
theorem rscan_small {B : Nat} {np : Int} {life : UInt64} {l : List X} (hl : ∀ x ∈ l, x.body.length ≤ B) : (rscanF np life l).length ≤ l.length ∧ ∀ t ∈ rscanF np life l, t.pages.length ≤ l.length ∧ ∀ y ∈ t.pages, y.body.length ≤ B := by
  have h := scanH_small (B := B) (np := np) (rd := fun k => l.getD k X0) (good := goodR life l) (fun j => by
    by_cases hj : j < l.length
    · have : l.getD j X0 = l[j] := by simp [List.getD, hj]
      simp only [this]
      exact hl _ (List.getElem_mem hj)
    · have : l.getD j X0 = X0 := by simp [List.getD, hj]
      simp only [this]
      exact Nat.zero_le _) l.length 0 0 r00 ⟨⟨Nat.le_refl _, Nat.le_refl _⟩, fun t ht => (by cases ht), fun y hy => (by cases hy)⟩
  rw [Nat.zero_add] at h
  exact ⟨h.1.1, h.2.1⟩
theorem okP_small {ga gd gl base : Int} {l : List X} {j : Nat} (h : okP ga gd gl base l j = true) : (l.getD j X0).body.length ≤ 1000 := by
  have := (Sec.right_of (of_decide_eq_true h)).2.2.2.2.2.2
  omega
theorem infoS5 : (Try.prog.info? 49).map (fun i => (i.zero, i.size, i.bytes)) = some (some (.agg #[.int .i64 0, .int .u64 0, .int .i64 0, .int .u64 0, .slice none 0 0]), 5, 56) := by kernel_rfl
set_option maxHeartbeats 8000000 in
theorem walk (ga gd gl : Int) (life : UInt64) (base : Int) (A : Option Addr) (l : List X) (c : Nat) (w : World) (ha0 : -9223372036854775808 ≤ ga) (ha1 : ga ≤ 9223372036854775807) (hd0 : -9223372036854775808 ≤ gd) (hd1 : gd ≤ 9223372036854775807) (hg0 : -9223372036854775808 ≤ gl) (hg1 : gl ≤ 9223372036854775807)
    (hb0 : -9223372036854775808 ≤ base) (hb1 : base ≤ 9223372036854775807) (hr : Secs w w.heap.size A l) (hc : l.length ≤ c) (hcm : c ≤ maxLen) :
    Calls Try.prog 9 #[gv ga gd gl, .int .u64 (life.toNat : Int), .int .i64 base, .slice A l.length c] w fun e w' => e = .returned (.bool true) ∧ Below w.heap.size w w' := by
  have hG : Gb ga gd gl := ⟨ha0, ha1, hd0, hd1, hg0, hg1⟩
  have FG := Blk.new w (gcell ga gd gl) 23
  have bw := b1alloc w (.cells (gcell ga gd gl).toArray 23)
  obtain ⟨z0, z1, z2⟩ := gthree FG
  have HA := Lib.hid FG
  have HRg := Lib.hid (fun W => Geom.rright_any ga gd gl W hG.a0 hG.a1 hG.d0 hG.d1 hG.g0 hG.g1)
  have HPg := Lib.hid (fun W => Geom.rpages_any ga gd gl W hG.a0 hG.a1 hG.d0 hG.d1 hG.g0 hG.g1)
  have HSz := Lib.hid (fun W => Geom.rsize_any ga gd gl W hG.a0 hG.a1 hG.d0 hG.d1 hG.g0 hG.g1)
  clear hc hcm FG ha0 ha1 hd0 hd1 hg0 hg1
  by_cases h16 : 16 < gl
  · clear hr
    go_enter Try.func9, Try.ntmps9
    go_wp2_with (first
      | (go_at_call 49; refine (alive_any _).mono ?_; rintro e w8 ⟨rfl, b8⟩))
    go_ret
    exact ⟨rfl, bt bw b8⟩
  cases hq : Geom.right ga gd gl with
  | false =>
    rw [hq] at HRg
    clear hq hr
    go_enter Try.func9, Try.ntmps9
    go_wp2_with (first
      | (go_at_call 19; refine (HRg.out _).mono ?_; rintro e w1 ⟨rfl, b1⟩)
      | (go_at_call 49; refine (alive_any _).mono ?_; rintro e w8 ⟨rfl, b8⟩))
    go_ret
    exact ⟨rfl, bt (bt bw b1) b8⟩
  | true =>
  rw [hq] at HRg
  by_cases hn0 : base < 0
  · clear hq hr
    go_enter Try.func9, Try.ntmps9
    go_wp2_with (first
      | (go_at_call 19; refine (HRg.out _).mono ?_; rintro e w1 ⟨rfl, b1⟩)
      | (go_at_call 49; refine (alive_any _).mono ?_; rintro e w8 ⟨rfl, b8⟩))
    go_ret
    exact ⟨rfl, bt (bt bw b1) b8⟩
  by_cases hn1 : 1073741824 < base
  · clear hq hr
    go_enter Try.func9, Try.ntmps9
    go_wp2_with (first
      | (go_at_call 19; refine (HRg.out _).mono ?_; rintro e w1 ⟨rfl, b1⟩)
      | (go_at_call 49; refine (alive_any _).mono ?_; rintro e w8 ⟨rfl, b8⟩))
    go_ret
    exact ⟨rfl, bt (bt bw b1) b8⟩
  by_cases h20 : l.length ≤ 20
  rotate_left
  · have t2 : (20 : Int) < (l.length : Int) := by omega
    clear hq hr h20
    go_enter Try.func9, Try.ntmps9
    go_wp2_with (first
      | (go_at_call 19; refine (HRg.out _).mono ?_; rintro e w1 ⟨rfl, b1⟩)
      | (go_at_call 49; refine (alive_any _).mono ?_; rintro e w8 ⟨rfl, b8⟩))
    go_ret
    exact ⟨rfl, bt (bt bw b1) b8⟩
  have t2 : ¬ (20 : Int) < (l.length : Int) := by omega
  have hy := Geom.right_yes hq
  have hsb := Geom.size_bd ga gd gl
  have hlz := log_size hq
  obtain ⟨n, hn⟩ : ∃ n : Nat, (n : Int) = Geom.sizeOf ga gd gl := ⟨(Geom.sizeOf ga gd gl).toNat, by omega⟩
  have hn7 : 4 ≤ n ∧ n ≤ 238 := by omega
  rw [← hn] at HSz
  obtain ⟨G, hGG⟩ : ∃ G : Nat, gl = (G : Int) := ⟨gl.toNat, by omega⟩
  obtain ⟨M, hM1, hM2, hM3⟩ : ∃ M : Nat, M ≤ l.length ∧ (M : Int) ≤ gl ∧ (M = l.length ∨ (M : Int) = gl) := by
    by_cases h : l.length ≤ G
    · exact ⟨l.length, Nat.le_refl _, by omega, .inl rfl⟩
    · exact ⟨G, by omega, by omega, .inr hGG.symm⟩
  have HQ := Lib.hid (fun (k : Nat) (hk : k ≤ M) => qw_inv (n := n) hq (show 0 ≤ base by omega) hn l k (by omega))
  have hqM := HQ.out M (Nat.le_refl _)
  have hsc := hqM.scan hq (by omega) hn life hM1 hM2 hM3
  have hrw : wrightF (qw ga gd gl base l n M).2 ga gd gl base = 0 := wright_new hq hn (by omega) (by omega) hqM.up.size
  have hSc := fun g fp gS bS W h => scan_any g fp (qw ga gd gl base l n M).2 gS bS (qw ga gd gl base l n M).1 ga gd gl life base W hG h (by have := hqM.len; omega) (by have := hqM.sz; omega) hrw hqM.up.down
  have hle := rowN_le ga gd gl base l
  have hths : ∀ k, k ≤ M → ∀ x ∈ l.take (rowN ga gd gl base l k), x.body.length ≤ 1000 := fun k hk x hx => by
    obtain ⟨j, hj, rfl⟩ := List.mem_iff_getElem.1 hx
    have hj' : j < rowN ga gd gl base l k := by rw [List.length_take] at hj; omega
    have hjl : j < l.length := by have := hle k; omega
    rw [List.getElem_take]
    have h := okP_small (rowN_ok ga gd gl base l k j hj')
    rw [show l.getD j X0 = l[j] by simp [List.getD, hjl]] at h
    exact h
  obtain ⟨TX, hTX⟩ : ∃ TX, TX = scanTx (qw ga gd gl base l n M).1 (qw ga gd gl base l n M).2 ga gd gl base life := ⟨_, rfl⟩
  rw [← hTX] at hSc hsc
  have hsm := rscan_small (np := pagesOf ga gd gl) (life := life) (hths M (Nat.le_refl _))
  rw [← hsc] at hsm
  have hTl : TX.length ≤ 100000 := by have := hsm.1; rw [List.length_take] at this; omega
  have hTp : ∀ t ∈ TX, t.pages.length ≤ 1000000 ∧ ∀ y ∈ t.pages, y.body.length ≤ 1000000 := fun t ht => by
    obtain ⟨h1, h2⟩ := hsm.2 t ht
    rw [List.length_take] at h1
    exact ⟨by omega, fun y hy => by have := h2 y hy; omega⟩
  have hpb := Geom.pagesOf_bd ga gd gl
  have hRS := fun A c W h => rscan_any A (l.take (rowN ga gd gl base l M)) c life (pagesOf ga gd gl) W h (by rw [List.length_take]; omega) (fun x hx => by have := hths M (Nat.le_refl _) x hx; omega) (by omega) (by omega)
  rw [← hsc] at hRS
  have hlt : (l.take (rowN ga gd gl base l M)).length = rowN ga gd gl base l M := by rw [List.length_take]; have := hle M; omega
  rw [hlt] at hRS
  have HN := Lib.hid (fun W => newN_any n (n : Int) rfl (by omega) (by omega) W)
  have HSc := Lib.hid hSc
  have HRS := Lib.hid hRS
  have HTl := Lib.hid hTl
  have HTp := Lib.hid hTp
  have HR := Lib.hid (fun W (bW : Below w.heap.size w W) => hr.below bW)
  have HR0 := Lib.hid (fun i (hi : i < l.length) => hr.get hi)
  have Hle := Lib.hid hle
  have Hlen := Lib.hid hlt
  have HEnd := Lib.hid hM3
  have Hpl := Lib.hid (fun k : Nat => And.intro (pl_eq (k := k) hq (show 0 ≤ base by omega)) (pl_bd hq (show 0 ≤ base by omega) hn k))
  have Hgl := Lib.hid (And.intro hy hGG)
  obtain ⟨i0, hi0, hz0, hz1, hz2⟩ := info_parts infoS5
  have hne : ¬ gl = 0 := by omega
  have hm64 : M ≤ 64 := by omega
  have Hpgs := Lib.hid (fun W => (HPg.out W))
  clear hGG hr hSc hRS hTX hsc hsm hTl hTp hths hqM hrw hle hlt hM3 hq hy hsb hlz hn hn7 hpb
  go_enter Try.func9, Try.ntmps9
  go_wp2_with (first
    | (go_at_call 19; refine (HRg.out _).mono ?_; rintro e w1 ⟨rfl, b1⟩; have FG2 := HA.out.on b1; have bw2 := bt bw b1; have ltG := FG2.lt; clear z0 z1 z2; obtain ⟨z0, z1, z2⟩ := gthree FG2)
    | (go_at_call 13; refine (HSz.out _).mono ?_; rintro e w5 ⟨rfl, b5⟩)
    | (go_at_call 12; refine (HN.out _).mono ?_; rintro e w6 ⟨g, fp, rfl, hD, hfp, b6⟩; have bs := bt b5 b6; have hfp' := fun j hj => Nat.le_trans b5.size (hfp j hj))
    | (go_at_call 14; refine (symbolic_any _).mono ?_; rintro e w7 ⟨gS, bS, rfl, hS, hgS, hbS, b7⟩; have H7 := Here.start hD hfp' bs hS hgS hbS b7; clear z0 z1 z2))
  go_loopw [12, 13, 14] (fun o wh i wr => ∃ k : Nat, k ≤ M ∧ i = .int .i64 (k : Int) ∧ ∃ B : Bool, wh = .bool B ∧ ∃ q : List (List UInt8) × St, ∃ m : Nat, ∃ fp', Here w1 wr g fp' q.2 gS bS q.1 ∧ ∃ es : List Es, wr.ownsRow w1.heap.size 49 5 o m (es.flatMap Es.cells) ∧ (∀ r, o.ownBlock = some r → r ∉ gS :: bS :: fp') ∧ Hid (q = qw ga gd gl base l n k ∧ m = rowN ga gd gl base l k ∧ B = decide (m = k) ∧ es.map Es.x = l.take m ∧ ∀ e ∈ es, Rd w w.heap.size e.A (e.x.body.map e8) ∧ e.x.body.length ≤ e.c ∧ e.c ≤ maxLen)) (fun _ _ i _ => M - (intOf i).toNat)
  case atStart => exact ⟨0, Nat.zero_le _, rfl, true, rfl, ([], Disk.new n), 0, fp, H7, [], own_nil _ _ _ _, fun r e => (by cases e), Lib.hid ⟨rfl, rfl, rfl, rfl, fun e h => (by cases h)⟩⟩
  case round =>
    obtain ⟨k, hk, rfl, B, rfl, q, m, fp', HB, es, hown, hnot, hid⟩ := hrel
    clear H7
    have bWr := bt bw2 HB.bel
    have FGr := FG2.below HB.bel ltG
    obtain ⟨z0, z1, z2⟩ := gthree FGr
    have HFr := Lib.hid FGr
    have lFr := FGr.lt
    by_cases hlt : k < M
    · have hkl : (k : Int) < (l.length : Int) := by omega
      have hkg : (k : Int) < gl := by omega
      have hll : k < l.length := by omega
      have hge : ¬ (l.length : Int) ≤ (k : Int) := by omega
      obtain ⟨b, off, Ak, ck, rfl, hb, hs⟩ := (HR.out wr bWr).get hll
      have hb1 : b < wr.heap.size := Nat.lt_of_lt_of_le hb bWr.size
      obtain ⟨b', off', Ak', ck', eA, _, hs0⟩ := HR0.out k hll
      have hes0 : ∃ A0 c0, Rd w w.heap.size A0 (l[k].body.map e8) ∧ l[k].body.length ≤ c0 ∧ c0 ≤ maxLen ∧ A0 = Ak ∧ c0 = ck := by
        injection eA with eA
        injection eA with e1 e2 _
        subst e1 e2
        have h1 := (bWr.cell (p := ⟨b, off + k * 5 + 4, none⟩) hb).trans hs0.c4
        rw [hs.c4] at h1
        injection h1 with h1
        injection h1 with h2 _ h3
        exact ⟨Ak', ck', hs0.rd, hs0.cap, hs0.max, h2.symm, h3.symm⟩
      obtain ⟨A0, c0', hr0, hc0, hm0, rfl, rfl⟩ := hes0
      clear eA hs0
      have hqk := HQ.out k hk
      have hp := (Hpl.out k).1
      have hpb := (Hpl.out k).2
      have hgy := Hgl.out.1
      have hgd : l.getD k X0 = l[k] := by simp [List.getD, hll]
      have hok : okP ga gd gl base l k = decide (rightF (pl ga gd gl base k) l[k] = 0) := by unfold okP; rw [hgd]
      have hqs : qw ga gd gl base l n (k + 1) = stp (qw ga gd gl base l n k) (pl ga gd gl base k) l[k] := by rw [qw, hgd]
      have hrn : rowN ga gd gl base l (k + 1) = if rowN ga gd gl base l k = k ∧ okP ga gd gl base l k = true then k + 1 else rowN ga gd gl base l k := rfl
      have htk : l.take (k + 1) = l.take k ++ [l[k]] := List.take_succ_eq_append_getElem hll
      have hmle : m ≤ k := by rw [hid.out.2.1]; exact Hle.out k
      rw [hok] at hrn
      obtain ⟨x, hx⟩ : ∃ x, x = l[k] := ⟨_, rfl⟩
      obtain ⟨p, hpe⟩ : ∃ p, p = pl ga gd gl base k := ⟨_, rfl⟩
      rw [← hx] at hs hr0 hc0 hrn hqs htk
      rw [← hpe] at hrn hqs hp hpb
      rw [← hid.out.1] at hqs hqk
      rw [← hid.out.2.1] at hrn
      obtain ⟨c0, c1, c2, c3, c4, hrd, _, _⟩ := hs
      have hRx := fun W (bW : Below wr.heap.size wr W) => (hrd.below (bW.mono bWr.size)).more (Nat.le_trans bWr.size bW.size)
      obtain ⟨B1, hB1⟩ : ∃ B1, B1 = base % gl := ⟨_, rfl⟩
      obtain ⟨P0, hP0⟩ : ∃ P0, P0 = (base + (k : Int)) % gl := ⟨_, rfl⟩
      have hB0 := Int.emod_nonneg base hne
      have hB2 := Int.emod_lt_of_pos base (show 0 < gl by omega)
      have hP1 := Int.emod_nonneg (base + (k : Int)) hne
      have hP2 := Int.emod_lt_of_pos (base + (k : Int)) (show 0 < gl by omega)
      have ht1 : base.tmod gl = B1 := by rw [hB1]; exact Int.tmod_eq_emod_of_nonneg (by omega)
      have ht2 : (B1 + (k : Int)).tmod gl = P0 := by rw [Int.tmod_eq_emod_of_nonneg (by omega), hB1, hP0, Int.emod_add_emod]
      have hw1 : IntKind.i64.wrap B1 = B1 := wrap_small (by omega) (by omega)
      have hw2 : IntKind.i64.wrap (B1 + (k : Int)) = B1 + k := wrap_small (by omega) (by omega)
      have hw3 : IntKind.i64.wrap P0 = P0 := wrap_small (by omega) (by omega)
      have hw4 : IntKind.i64.wrap (4 + P0) = p := by rw [wrap_small (by omega) (by omega), hp, hP0]
      have hk1 : k + 1 ≤ M := hlt
      have hms : M - (k + 1) < M - k := by omega
      have hk9 : k ≤ 1000000000 := by omega
      have Hr0 := Lib.hid (show Rd w w.heap.size A0 (x.body.map e8) ∧ x.body.length ≤ c0' ∧ c0' ≤ maxLen from ⟨hr0, hc0, hm0⟩)
      have Hrn := Lib.hid hrn
      have Hqs := Lib.hid hqs
      have Htk := Lib.hid htk
      have Hqk := Lib.hid hqk
      have Hmle := Lib.hid hmle
      have Hb2 := Lib.hid (show m + 1 ≤ maxLen ∧ (m + 1) * 56 ≤ 140737488355328 from ⟨by unfold maxLen; omega, by omega⟩)
      clear hr0 hc0 hm0 hrn hqs htk hqk hmle hx hpe hp hpb hgy hgd hok hB1 hP0 hB0 hB2 hP1 hP2 hll HR HR0
      go_upto_region 10 with (fail)
      refine region_inb (by kernel_rfl) (by kernel_rfl) ?_
      have inbNe := InB.some
      have inbW := @wrap_small
      have inbU := IntKind.wrap_u8'
      repeat (refine wpQuiet_step (fun K hK => ?_); go_simp; first | (refine hK _ ?_; clear hK K) | (apply Exists.intro; refine ⟨?_, hK _ ?_⟩; (· (intro w' hw'; first | fail | (have hcw := hw'.cell; go_simp; exact rfl))); clear hK K))
      refine wpQuiet_nil ?_
      intro wq hq
      clear inbNe inbW inbU
      have H8 := HB.on hq.below
      have ow8 := own_on hown hq.below
      have FG8 := HFr.out.on hq.below
      have hb8 : b < wq.heap.size := Nat.lt_of_lt_of_le hb1 hq.below.size
      have d0 := (hq.below.cell (p := ⟨b, off + k * 5, none⟩) hb1).trans c0
      have d1 := (hq.below.cell (p := ⟨b, off + k * 5 + 1, none⟩) hb1).trans c1
      have d2 := (hq.below.cell (p := ⟨b, off + k * 5 + 2, none⟩) hb1).trans c2
      have d3 := (hq.below.cell (p := ⟨b, off + k * 5 + 3, none⟩) hb1).trans c3
      have d4 := (hq.below.cell (p := ⟨b, off + k * 5 + 4, none⟩) hb1).trans c4
      have hbn : b ∉ bS :: fp' := fun e => by have h1 := HB.own b e; have h2 := bw2.size; omega
      have hbn1 : b ∉ [bS] := fun e => hbn (by rw [List.mem_singleton] at e; rw [e]; simp)
      clear c0 c1 c2 c3 c4 z0 z1 z2 ht1 ht2 hw1 hw2 hw3 hw4
      go_upto_region 11 with (fail)
      by_cases hrt : rightF p x = 0
      · skip
        have hqs2 := Hqs.out.trans (stp_yes hrt)
        have hEn := fun A c W hS hr => Sec.encode_sym p gS bS q.1 x A c W hS (by have := Hqk.out.len; omega) hr hrt
        have hPu := fun fp W A c h hr => Disk.put_any g fp q.2 p A 512 c (bytesAt q p x) W h (by have := Hqk.out.sz; omega) (bytesAt_len q p x).symm hr
        have hbyt : text p x ++ sumOf q.1 (text p x) = bytesAt q p x := rfl
        rw [hbyt] at hEn
        obtain ⟨by_, hby⟩ : ∃ b, b = bytesAt q p x := ⟨_, rfl⟩
        rw [← hby] at hEn hPu hqs2
        have Hqs2 := Lib.hid hqs2
        have HEn := Lib.hid hEn
        have HPu := Lib.hid hPu
        have Hrt := Lib.hid hrt
        clear hqs2 hEn hPu hbyt hby hrt
        have cz : Below wq.heap.size wq wq.drew := (Below.refl _ _).drew
        go_region_held3 (fun w' => w'.cell? ⟨b, off + k * 5, none⟩ = some (.int .i64 x.kind) ∧ w'.cell? ⟨b, off + k * 5 + 1, none⟩ = some (.int .u64 (x.life.toNat : Int)) ∧ w'.cell? ⟨b, off + k * 5 + 2, none⟩ = some (.int .i64 x.seq) ∧ w'.cell? ⟨b, off + k * 5 + 3, none⟩ = some (.int .u64 (x.gen.toNat : Int)) ∧ w'.cell? ⟨b, off + k * 5 + 4, none⟩ = some (.slice A0 x.body.length c0')) (first | with_reducible exact sec5 hb8 cz d0 d1 d2 d3 d4 | with_reducible exact e10) (first
          | (go_at_call 42; refine (HEn.out A0 c0' _ ((H8.on cz).both.sym) (hRx _ (bt hq.below cz))).mono ?_; rintro e w10 ⟨A10, d10, rfl, own10, k10, s10⟩; have e10 := sec5k hb8 hbn1 k10 d0 d1 d2 d3 d4))
        have H10 := (H8.on cz).summed s10 k10
        have ow10 := own_kp (own_on ow8 cz) k10 (fun r hr e => hnot r hr (by rw [List.mem_singleton] at e; rw [e]; simp))
        have hb10 : b < w10.heap.size := Nat.lt_of_lt_of_le hb8 k10.size
        obtain ⟨f0, f1, f2, f3, f4⟩ := e10
        clear d0 d1 d2 d3 d4
        cases B with
        | true =>
          have hmk : m = k := by have := hid.out.2.2.1; exact of_decide_eq_true this.symm
          have Hrow := Lib.hid (show m + 1 = rowN ga gd gl base l (k + 1) by rw [Hrn.out, if_pos ⟨hmk, decide_eq_true Hrt.out⟩, hmk])
          have Hmk := Lib.hid hmk
          clear hmk
          go_wp2_with (first
            | (go_at_call 43; refine (HPu.out _ _ _ _ H10.both.disk (Rd.own own10)).mono ?_; rintro e w11 d11; obtain ⟨rfl, fp11, H11, k11, f11⟩ := H10.did d11; have ow11 := own_kp ow10 k11 (fun r hr e => hnot r hr (List.mem_cons_of_mem _ e)); have hn11 := not_turn5 ow10 hnot f11; obtain ⟨g0, g1, g2, g3, g4⟩ := sec5k hb10 hbn k11 f0 f1 f2 f3 f4; clear f0 f1 f2 f3 f4)
            | (at_builtin; refine wpList_append_rd _ rfl _ _ _ rfl w1.heap.size 49 i0 _ 5 56 Try.underlying71 hi0 hz0 hz1 hz2 rfl (by omega) _ m (es.flatMap Es.cells) rfl (ow11.alloc _) (w11.heap.size + 1) (some ⟨w11.heap.size, 0, none⟩) 1 1 (Es.cells ⟨A0, c0', x⟩) rfl rfl (Rd.lit w11 _ _ _ _ rfl (Nat.lt_succ_self _)) (by simp [Es.cells, Value.oneCell']) Hb2.out.1 Hb2.out.2 (le_alloc H11.bel.size _) ?_; intro v20 w20 own20 hg20 hat20))
          case roundEnd =>
            obtain ⟨H20, hn20⟩ := grow5 H11 ow11 hn11 hg20 hat20
            refine ⟨⟨k + 1, hk1, by first | rfl | (rw [Snap.wrap_up hk9]; rfl), true, rfl, (sumAfter q.1 (text p x), (Disk.put q.2 p by_).1), m + 1, fp11, H20, es ++ [⟨A0, c0', x⟩], by simpa using own20, hn20, Lib.hid ⟨Hqs2.out.symm, Hrow.out, by rw [Hmk.out]; simp, ?_, fun e he => ?_⟩⟩, by first | exact hms | (rw [Snap.wrap_up hk9]; exact hms)⟩
            · rw [List.map_append, hid.out.2.2.2.1, Hmk.out, Htk.out]; rfl
            · rcases List.mem_append.1 he with he | he
              · exact hid.out.2.2.2.2 e he
              · rw [List.mem_singleton] at he; subst he; exact Hr0.out
        | false =>
          have hmk : ¬ m = k := by have := hid.out.2.2.1; exact of_decide_eq_false this.symm
          have Hrow := Lib.hid (show m = rowN ga gd gl base l (k + 1) by rw [Hrn.out, if_neg (fun h => hmk h.1)])
          clear hmk
          go_wp2_with (first
            | (go_at_call 43; refine (HPu.out _ _ _ _ H10.both.disk (Rd.own own10)).mono ?_; rintro e w11 d11; obtain ⟨rfl, fp11, H11, k11, f11⟩ := H10.did d11; have ow11 := own_kp ow10 k11 (fun r hr e => hnot r hr (List.mem_cons_of_mem _ e)); have hn11 := not_turn5 ow10 hnot f11; obtain ⟨g0, g1, g2, g3, g4⟩ := sec5k hb10 hbn k11 f0 f1 f2 f3 f4; clear f0 f1 f2 f3 f4))
          case roundEnd =>
            exact ⟨⟨k + 1, hk1, by first | rfl | (rw [Snap.wrap_up hk9]; rfl), false, rfl, (sumAfter q.1 (text p x), (Disk.put q.2 p by_).1), m, fp11, H11, es, ow11, hn11, Lib.hid ⟨Hqs2.out.symm, Hrow.out, (decide_eq_false (by have := Hmle.out; omega)).symm, hid.out.2.2.2.1, hid.out.2.2.2.2⟩⟩, by first | exact hms | (rw [Snap.wrap_up hk9]; exact hms)⟩
      · skip
        have Hqs2 := Lib.hid (Hqs.out.trans (stp_no hrt))
        have HEn := Lib.hid (fun g A c W => Sec.encode_bad p g x A c W hrt)
        have Hrow := Lib.hid (show m = rowN ga gd gl base l (k + 1) by rw [Hrn.out, if_neg (fun h => by rw [decide_eq_false hrt] at h; exact absurd h.2 (by simp))])
        have Hdec := Lib.hid (show false = decide (m = k + 1) from (decide_eq_false (by have := Hmle.out; omega)).symm)
        obtain ⟨F, hF⟩ : ∃ F, F = rightF p x := ⟨_, rfl⟩
        rw [← hF] at HEn hrt
        have t5 := beq_no hrt
        clear hrt hF hrd
        have cz : Below wq.heap.size wq wq.drew := (Below.refl _ _).drew
        go_region_held3 (fun w' => w'.cell? ⟨b, off + k * 5, none⟩ = some (.int .i64 x.kind) ∧ w'.cell? ⟨b, off + k * 5 + 1, none⟩ = some (.int .u64 (x.life.toNat : Int)) ∧ w'.cell? ⟨b, off + k * 5 + 2, none⟩ = some (.int .i64 x.seq) ∧ w'.cell? ⟨b, off + k * 5 + 3, none⟩ = some (.int .u64 (x.gen.toNat : Int)) ∧ w'.cell? ⟨b, off + k * 5 + 4, none⟩ = some (.slice A0 x.body.length c0')) (first | with_reducible exact sec5 hb8 cz d0 d1 d2 d3 d4 | with_reducible exact sec5 hb8 c10 d0 d1 d2 d3 d4) (first
          | (go_at_call 42; refine (HEn.out _ _ _ _).mono ?_; rintro e w10 ⟨rfl, b10⟩; have c10 := bt cz b10))
        have H10 := H8.on c10
        have ow10 := own_on ow8 c10
        clear d0 d1 d2 d3 d4
        cases B with
        | true =>
          go_wp2_with fail
          case roundEnd => exact ⟨⟨k + 1, hk1, by first | rfl | (rw [Snap.wrap_up hk9]; rfl), false, rfl, q, m, fp', H10, es, ow10, hnot, Lib.hid ⟨Hqs2.out.symm, Hrow.out, Hdec.out, hid.out.2.2.2.1, hid.out.2.2.2.2⟩⟩, by first | exact hms | (rw [Snap.wrap_up hk9]; exact hms)⟩
        | false =>
          go_wp2_with fail
          case roundEnd => exact ⟨⟨k + 1, hk1, by first | rfl | (rw [Snap.wrap_up hk9]; rfl), false, rfl, q, m, fp', H10, es, ow10, hnot, Lib.hid ⟨Hqs2.out.symm, Hrow.out, Hdec.out, hid.out.2.2.2.1, hid.out.2.2.2.2⟩⟩, by first | exact hms | (rw [Snap.wrap_up hk9]; exact hms)⟩
    · skip
      have hkM : k = M := by omega
      obtain ⟨A5, c5, rfl⟩ := own_form hown
      have h1 := hid.out.1
      have h2 := hid.out.2.1
      subst hkM
      subst h1
      subst h2
      have hTh : ∀ W, Below wr.heap.size wr W → Secs W W.heap.size A5 (l.take (rowN ga gd gl base l k)) := fun W bW => es_secs (own_on hown bW) Hlen.out.symm hid.out.2.2.2.1 hid.out.2.2.2.2 (bt bWr bW)
      have HTh := Lib.hid hTh
      have hsp : (¬ (k : Int) < (l.length : Int)) ∨ ((k : Int) < (l.length : Int) ∧ ¬ (k : Int) < gl) := by
        rcases HEnd.out with h | h
        · left; omega
        · by_cases hx : (k : Int) < (l.length : Int)
          · exact .inr ⟨hx, by omega⟩
          · exact .inl hx
      have HWr := Lib.hid hown
      clear hTh hlt hk hm64 hM1 hM2 hown
      rcases hsp with hA | ⟨hA, hB⟩
      all_goals
        go_upto_region 18 with (first
          | (go_at_call 50; refine (HSc.out _ _ _ _ _ HB.both).mono ?_; rintro e w6 ⟨⟨v6, rfl, hO⟩, b6⟩; have H6 := HB.on b6; obtain ⟨A6, c6, rfl, hT6, hc6, hm6⟩ := hO.txs; have FG6 := HFr.out.on b6; clear z0 z1 z2; obtain ⟨z0, z1, z2⟩ := gthree FG6))
        have cz : Below w6.heap.size w6 w6.drew := (Below.refl _ _).drew
        have hgz : ∀ W', Below w6.heap.size w6 W' → (W'.cell? ⟨w.heap.size, 0, none⟩ = some (.int .i64 ga) ∧ W'.cell? ⟨w.heap.size, 1, none⟩ = some (.int .i64 gd) ∧ W'.cell? ⟨w.heap.size, 2, none⟩ = some (.int .i64 gl)) := fun W' b' => gthree (FG6.on b')
        have HOf := Lib.hid (fun W (bW : Below w6.heap.size w6 W) => of_any _ A6 TX c6 W (hT6.on bW) HTl.out)
        have HSe := Lib.hid (fun W (bW : Below w6.heap.size w6 W) => HRS.out A5 c5 W (HTh.out W (bt b6 bW)))
        have t6 : True := trivial
        clear hT6 hO
        go_region_held3 (fun W' => W'.cell? ⟨w.heap.size, 0, none⟩ = some (.int .i64 ga) ∧ W'.cell? ⟨w.heap.size, 1, none⟩ = some (.int .i64 gd) ∧ W'.cell? ⟨w.heap.size, 2, none⟩ = some (.int .i64 gl)) (first | with_reducible exact hgz _ cz | with_reducible exact eO | with_reducible exact eP | with_reducible exact eR | with_reducible exact eS | with_reducible exact eL) (first
          | (go_at_call 52; (first | (refine (HOf.out _ bcR).mono ?_; done) | (refine (HOf.out _ bcP).mono ?_) | (refine (HOf.out _ cz).mono ?_)); rintro e wO ⟨⟨AO, cO, rfl, hTO, _, _⟩, bO⟩; have bcO := (by first | with_reducible exact bt bcR bO | with_reducible exact bt bcP bO | with_reducible exact bt cz bO : Below w6.heap.size w6 wO); have eO := hgz _ bcO)
          | (go_at_call 33; refine (HPg.out _).mono ?_; rintro e wP ⟨rfl, bP⟩; have bcP := (by first | with_reducible exact bt bcO bP | with_reducible exact bt cz bP : Below w6.heap.size w6 wP); have eP := hgz _ bcP)
          | (go_at_call 53; (first | refine (HSe.out _ bcO).mono ?_ | refine (HSe.out _ bcP).mono ?_); rintro e wR ⟨⟨AR, cR, rfl, hTR, _, _⟩, bR⟩; have bcR := (by first | with_reducible exact bt bcO bR | with_reducible exact bt bcP bR : Below w6.heap.size w6 wR); have eR := hgz _ bcR)
          | (go_at_call 51; refine (txsame_any (fun _ => True) (fun _ => True) AO AR TX TX _ _ cO cR _ (by first | with_reducible exact hTO.on (bt bP bR) | with_reducible exact hTO.on bR | with_reducible exact hTO) (by first | with_reducible exact hTR | with_reducible exact hTR.on bO) rfl rfl (by have := HTl.out; omega) HTp.out (fun x hx => (HTp.out x hx).2)).mono ?_; rintro e wS ⟨rfl, bS_⟩; rw [decide_eq_true (rfl : TX = TX)]; have bcS := (by first | with_reducible exact bt bcR bS_ | with_reducible exact bt bcO bS_ : Below w6.heap.size w6 wS); have eS := hgz _ bcS)
          | (go_at_call 49; refine (alive_any _).mono ?_; rintro e wL ⟨rfl, bL⟩; have bcL := bt bcS bL; have eL := hgz _ bcL))
        all_goals
          go_wp2
          go_ret
          exact ⟨rfl, bt (bt bw2 H6.bel) bcL⟩
set_option maxRecDepth 100000 in
theorem lifted (os : Os) (started : os.Started) (H : Type) (enc : TypeId × Value → H) :
    ReturnsInHanded {} Try.checked os 9 .any (Rows.walScansSpec.pre6 enc Try.prog Try.f9 Rows.walScansRow.domain false) (Rows.walScansSpec.post enc Try.prog Try.f9 false true false false) := by
  refine returnsInHanded_of_change (C := Try.checked) own started (by kernel_rfl) Try.func9
    (ChangeSpec.witness6 (enc := enc) (C := Try.checked) false ⟨#[], #[.agg #[.int .i64 0, .int .i64 0, .int .i64 0], .int .u64 0, .int .i64 0, .slice none 0 0], []⟩ 8 (by kernel_rfl) (by kernel_rfl) (by kernel_rfl) (by kernel_rfl)) ?_
  intro W base args ds gs before hval0 hW hcnd _
  have hval : ∀ (j : Nat) t v, Try.f9.params[j]? = some t → args[j]? = some v → Value.okWide Try.prog W .any base t v := hval0
  have hW' := hW
  obtain ⟨p, q, hA0, hV, rfl, hfz, hnd⟩ := hW
  have hA : DataW.TrodAll enc Try.prog W 0 (fun _ => true) true Try.f9.params.toList args.toList ds p := hA0
  rw [Try.params9] at hA hval
  obtain ⟨v0, vs0, d0, ds0, p0, q0, hargs, rfl, rfl, h0, r0⟩ := trodAll_cons hA
  obtain ⟨v1, vs1, d1, ds1, p1, q1, rfl, rfl, rfl, h1, r1⟩ := trodAll_cons r0
  obtain ⟨v2, vs2, d2, ds2, p2, q2, rfl, rfl, rfl, h2, r2⟩ := trodAll_cons r1
  obtain ⟨v3, vs3, d3, ds3, p3, q3, rfl, rfl, rfl, h3, r3⟩ := trodAll_cons r2
  obtain ⟨rfl, rfl, rfl⟩ := trodAll_nil r3
  obtain rfl : args = #[v0, v1, v2, v3] := by cases args; simp_all
  obtain ⟨rfl, rfl⟩ := trodVars_none hV
  have k0 := h0
  have lt0 := places_lt k0
  obtain ⟨c0a, c0b, c0c, y0a, y0b, y0c, m0, rfl, _, _, hy0a, hy0b, hy0c⟩ := open_agg3 Try.underlying23 (by kernel_rfl) (by kernel_rfl) (hval 0 23 v0 rfl rfl) h0
  obtain ⟨n0a, e0a, _, w0a⟩ := DataW.trod_int Try.underlying3 hy0a
  simp only [List.cons.injEq, and_true] at e0a
  subst e0a
  obtain ⟨n0b, e0b, _, w0b⟩ := DataW.trod_int Try.underlying3 hy0b
  simp only [List.cons.injEq, and_true] at e0b
  subst e0b
  obtain ⟨n0c, e0c, _, w0c⟩ := DataW.trod_int Try.underlying3 hy0c
  simp only [List.cons.injEq, and_true] at e0c
  subst e0c
  have k1 := h1
  have lt1 := places_lt k1
  obtain ⟨n1, rfl, _, _, w1⟩ := open_int Try.underlying24 (hval 1 24 v1 rfl rfl) h1
  obtain ⟨x1, rfl⟩ := wf64 w1
  have k2 := h2
  have lt2 := places_lt k2
  obtain ⟨n2, rfl, _, _, w2⟩ := open_int Try.underlying3 (hval 2 3 v2 rfl rfl) h2
  have k3 := h3
  have lt3 := places_lt k3
  obtain ⟨a3, len3, cap3, rfl⟩ := okWide_slice Try.underlying71 (hval 3 71 v3 rfl rfl)
  obtain ⟨fuel3, hf3⟩ := h3
  obtain ⟨l3, rfl, rr3, rc3, rm3⟩ := sectors_of hf3
  clear hA0 hval0
  refine (walk n0a n0b n0c x1 n2 a3 l3 cap3 W (wfi w0a).1 (wfi w0a).2 (wfi w0b).1 (wfi w0b).2 (wfi w0c).1 (wfi w0c).2 (wfi w2).1 (wfi w2).2 rr3 rc3 rm3).mono fun e W' ⟨he, bel⟩ => ?_
  subst he
  exact ⟨_, rfl, _, _, _, [], _, [], hW', trodAll_mk1 (shut_bool Try.underlying4 _), (trodAll_cons_mk (Below.trod laidOut (by kernel_rfl) (of_decide_eq_true (by kernel_rfl)) k0 bel lt0) (trodAll_cons_mk (Below.trod laidOut (by kernel_rfl) (of_decide_eq_true (by kernel_rfl)) k1 bel lt1) (trodAll_cons_mk (Below.trod laidOut (by kernel_rfl) (of_decide_eq_true (by kernel_rfl)) k2 bel lt2) (trodAll_cons_mk (Below.trod laidOut (by kernel_rfl) (of_decide_eq_true (by kernel_rfl)) k3 bel lt3) trodAll_mk0)))), rfl, bel.frame _, fun h => by cases h⟩

theorem proved : Rows.WalScansSaid :=
  OpenClaim.holds_of_wide 9 Try.f9 rfl rfl rfl rfl rfl rfl rfl ⟨rfl, rfl, rfl, rfl, rfl⟩ rfl rfl rfl rfl rfl (by kernel_rfl) Try.func9 (by kernel_rfl)
    (of_decide_eq_true (by kernel_rfl)) (by unfold Func.isWrapper; first | (rw [if_pos (by decide +kernel)]; kernel_rfl) | (rw [if_neg (by decide +kernel)]; exact ⟨rfl, rfl⟩))
    (fun os started H enc _ => lifted os started H enc)
#print axioms proved
end Go.Proofs.Ytmpmibcdpkolkaa.WalScans
