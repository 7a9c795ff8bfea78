/- Texts of this claim, joined: AesPlain, AesBackPlain, AesKeyPlain, CtrPlain, Aes1, Aes2, Aes3, Aes4, Aes5, Aes6. -/
import Derived.Test.YteecbjpnnklbpaaDoorGB
import Derived.Test.YteecbjpnnklbpaaDoorGA
import Derived.Deep.MidRow
import Derived.Deep.RegionHeld3
/- AES as plain functions of lists of bytes; nothing of the program. -/
namespace Go.Proofs.YteecbjpnnklbpaaDoor.Aes
open Go.Proofs.YteecbjpnnklbpaaDoor.Gf
set_option linter.unusedVariables false

/-- the first k of one list, and the rest of another -/
def part (a b : List UInt8) (k : Nat) : List UInt8 := a.take k ++ b.drop k
theorem part_zero (a b : List UInt8) : part a b 0 = b := by simp [part]
theorem part_all (a b : List UInt8) (n : Nat) (ha : a.length = n) (hb : b.length = n) : part a b n = a := by
  rw [part, List.take_of_length_le (by omega), List.drop_of_length_le (by omega), List.append_nil]
theorem part_len (a b : List UInt8) (k n : Nat) (ha : a.length = n) (hb : b.length = n) (hk : k ≤ n) : (part a b k).length = n := by simp [part, ha, hb]; omega
theorem part_old (a b : List UInt8) (k i n : Nat) (ha : a.length = n) (hb : b.length = n) (hk : k ≤ i) (hi : i < n) : (part a b k).getD i 0 = b.getD i 0 := by
  rw [part, List.getD_eq_getElem?_getD, List.getD_eq_getElem?_getD, List.getElem?_append_right (by simp [ha]; omega), List.getElem?_drop]
  congr 2
  simp [ha]; omega
theorem part_set (a b : List UInt8) (k n : Nat) (ha : a.length = n) (hb : b.length = n) (hk : k < n) : (part a b k).set k (a.getD k 0) = part a b (k + 1) := by
  apply List.ext_getElem
  · rw [List.length_set, part_len a b k n ha hb (by omega), part_len a b (k + 1) n ha hb (by omega)]
  · intro i h1 h2
    rw [List.getElem_set]
    rw [List.length_set, part_len a b k n ha hb (by omega)] at h1
    by_cases e : k = i
    · subst e
      rw [if_pos rfl]
      simp only [part]
      rw [List.getElem_append_left (by simp; omega), List.getElem_take]
      simp [List.getD, List.getElem?_eq_getElem (show k < a.length by omega)]
    · rw [if_neg e]
      simp only [part]
      by_cases l : i < k
      · rw [List.getElem_append_left (by simp; omega), List.getElem_append_left (by simp; omega), List.getElem_take, List.getElem_take]
      · rw [List.getElem_append_right (by simp; omega), List.getElem_append_right (by simp; omega), List.getElem_drop, List.getElem_drop]
        congr 1
        simp; omega

def sub (s : List UInt8) : List UInt8 := s.map box
theorem sub_len (s : List UInt8) : (sub s).length = s.length := by simp [sub]
theorem sub_at (s : List UInt8) (i : Nat) (h : i < s.length) : (sub s).getD i 0 = box (s.getD i 0) := by
  simp [sub, List.getD, List.getElem?_eq_getElem h]
def of16 (f : Nat → UInt8) : List UInt8 := (List.range 16).map f
theorem of16_len (f : Nat → UInt8) : (of16 f).length = 16 := by simp [of16]
theorem of16_at (f : Nat → UInt8) (i : Nat) (h : i < 16) : (of16 f).getD i 0 = f i := by
  simp [of16, List.getD, List.getElem?_map, List.getElem?_range h]
def shift (s : List UInt8) : List UInt8 := of16 fun i => s.getD ((i + 4 * (i % 4)) % 16) 0
theorem shift_len (s : List UInt8) : (shift s).length = 16 := of16_len _
def colOf (s : List UInt8) (c : Nat) : Col := ⟨s.getD (4 * c) 0, s.getD (4 * c + 1) 0, s.getD (4 * c + 2) 0, s.getD (4 * c + 3) 0⟩
def colGet (x : Col) (i : Nat) : UInt8 := if i % 4 = 0 then x.a else if i % 4 = 1 then x.b else if i % 4 = 2 then x.c else x.d
def mixS (s : List UInt8) : List UInt8 := of16 fun i => colGet (mix (colOf s (i / 4))) i
theorem mix_len (s : List UInt8) : (mixS s).length = 16 := of16_len _
def add (s k : List UInt8) : List UInt8 := of16 fun i => s.getD i 0 ^^^ k.getD i 0
theorem add_len (s k : List UInt8) : (add s k).length = 16 := of16_len _
theorem ext16 {a b : List UInt8} (ha : a.length = 16) (hb : b.length = 16) (h : ∀ i, i < 16 → a.getD i 0 = b.getD i 0) : a = b := by
  apply List.ext_getElem (by omega)
  intro i h1 h2
  have := h i (by omega)
  simpa [List.getD, List.getElem?_eq_getElem h1, List.getElem?_eq_getElem h2] using this
end Go.Proofs.YteecbjpnnklbpaaDoor.Aes

/- AES as plain functions: rows shifted four times, columns mixed four times, keys added twice; unlike blocks are encrypted to unlike ones. Nothing of the program. -/
namespace Go.Proofs.YteecbjpnnklbpaaDoor.Aes
open Go.Proofs.YteecbjpnnklbpaaDoor.Gf
set_option linter.unusedVariables false
theorem shift_at (s : List UInt8) (i : Nat) (h : i < 16) : (shift s).getD i 0 = s.getD ((i + 4 * (i % 4)) % 16) 0 := of16_at _ i h
theorem shift4 (s : List UInt8) (h : s.length = 16) : shift (shift (shift (shift s))) = s := by
  refine ext16 (shift_len _) h fun i hi => ?_
  rw [shift_at _ _ hi, shift_at _ _ (Nat.mod_lt _ (by omega)), shift_at _ _ (Nat.mod_lt _ (by omega)), shift_at _ _ (Nat.mod_lt _ (by omega))]
  congr 1
  omega
theorem mixS_col (s : List UInt8) (c : Nat) (hc : c < 4) : colOf (mixS s) c = mix (colOf s c) := by
  have key : ∀ j, j < 4 → (mixS s).getD (4 * c + j) 0 = colGet (mix (colOf s c)) j := fun j hj => by
    have h := of16_at (fun i => colGet (mix (colOf s (i / 4))) i) (4 * c + j) (by omega)
    rw [show (4 * c + j) / 4 = c by omega] at h
    rw [show (mixS s).getD (4 * c + j) 0 = _ from h]
    unfold colGet
    rw [show (4 * c + j) % 4 = j % 4 by omega]
  have h0 := key 0 (by omega)
  have h1 := key 1 (by omega)
  have h2 := key 2 (by omega)
  have h3 := key 3 (by omega)
  unfold colOf
  rw [Nat.add_zero] at h0
  rw [h0, h1, h2, h3]
  rfl
theorem at_col (s : List UInt8) (i : Nat) : s.getD i 0 = colGet (colOf s (i / 4)) i := by
  unfold colGet colOf
  rcases (show i % 4 = 0 ∨ i % 4 = 1 ∨ i % 4 = 2 ∨ i % 4 = 3 by omega) with h | h | h | h
  · rw [if_pos h]; exact congrArg (fun k => s.getD k 0) (by omega)
  · rw [if_neg (by omega), if_pos h]; exact congrArg (fun k => s.getD k 0) (by omega)
  · rw [if_neg (by omega), if_neg (by omega), if_pos h]; exact congrArg (fun k => s.getD k 0) (by omega)
  · rw [if_neg (by omega), if_neg (by omega), if_neg (by omega)]; exact congrArg (fun k => s.getD k 0) (by omega)
theorem mixS4 (s : List UInt8) (h : s.length = 16) : mixS (mixS (mixS (mixS s))) = s := by
  refine ext16 (mix_len _) h fun i hi => ?_
  have hc : i / 4 < 4 := by omega
  rw [at_col, mixS_col _ _ hc, mixS_col _ _ hc, mixS_col _ _ hc, mixS_col _ _ hc]; exact (congrArg (fun c => colGet c i) (mix4_id _)).trans (at_col s i).symm
theorem add_at (s k : List UInt8) (i : Nat) (h : i < 16) : (add s k).getD i 0 = s.getD i 0 ^^^ k.getD i 0 := of16_at _ i h
theorem add_add (s k : List UInt8) (h : s.length = 16) : add (add s k) k = s := by
  refine ext16 (add_len _ _) h fun i hi => ?_
  rw [add_at _ _ _ hi, add_at _ _ _ hi, UInt8.xor_assoc, UInt8.xor_self, UInt8.xor_zero]
theorem add_inj {s t k : List UInt8} (hs : s.length = 16) (ht : t.length = 16) (h : add s k = add t k) : s = t := by
  rw [← add_add s k hs, h, add_add t k ht]
theorem mixS_inj {s t : List UInt8} (hs : s.length = 16) (ht : t.length = 16) (h : mixS s = mixS t) : s = t := by
  rw [← mixS4 s hs, h, mixS4 t ht]
theorem shift_inj {s t : List UInt8} (hs : s.length = 16) (ht : t.length = 16) (h : shift s = shift t) : s = t := by
  rw [← shift4 s hs, h, shift4 t ht]
theorem box_inj {x y : UInt8} (h : box x = box y) : x = y := by
  have hb : ∀ i : Fin 256, ((List.range 256).map fun n => box (UInt8.ofNat n)).idxOf (box (UInt8.ofNat i.val)) = i.val := by decide +kernel
  have hx := hb ⟨x.toNat, x.toNat_lt⟩
  have hy := hb ⟨y.toNat, y.toNat_lt⟩
  simp only [UInt8.ofNat_toNat] at hx hy
  rw [h, hy] at hx
  exact UInt8.toNat_inj.1 hx.symm
theorem map_box_inj : ∀ {s t : List UInt8}, s.map box = t.map box → s = t
  | [], [], _ => rfl
  | [], _ :: _, h => by simp at h
  | _ :: _, [], h => by simp at h
  | x :: s, y :: t, h => by
    simp only [List.map_cons, List.cons.injEq] at h
    rw [box_inj h.1, map_box_inj h.2]
theorem sub_inj {s t : List UInt8} (h : sub s = sub t) : s = t := map_box_inj h
/-- a round behind the first key -/
def step (ks : Nat → List UInt8) (i : Nat) (s : List UInt8) : List UInt8 := add (if i < 14 then mixS (shift (sub s)) else shift (sub s)) (ks i)
theorem step_len (ks : Nat → List UInt8) (i : Nat) (s : List UInt8) : (step ks i s).length = 16 := add_len _ _
def enc (ks : Nat → List UInt8) (s : List UInt8) : Nat → List UInt8
  | 0 => add s (ks 0)
  | i + 1 => step ks (i + 1) (enc ks s i)
theorem enc_len (ks : Nat → List UInt8) (s : List UInt8) (i : Nat) : (enc ks s i).length = 16 := by cases i <;> exact add_len _ _
theorem step_inj {ks : Nat → List UInt8} {i : Nat} {s t : List UInt8} (hs : s.length = 16) (ht : t.length = 16) (h : step ks i s = step ks i t) : s = t := by
  unfold step at h
  have h1 : (sub s).length = 16 := by rw [sub_len, hs]
  have h2 : (sub t).length = 16 := by rw [sub_len, ht]
  split at h
  · exact sub_inj (shift_inj h1 h2 (mixS_inj (shift_len _) (shift_len _) (add_inj (mix_len _) (mix_len _) h)))
  · exact sub_inj (shift_inj h1 h2 (add_inj (shift_len _) (shift_len _) h))
theorem enc_inj {ks : Nat → List UInt8} {s t : List UInt8} (hs : s.length = 16) (ht : t.length = 16) : ∀ i, enc ks s i = enc ks t i → s = t
  | 0, h => add_inj hs ht h
  | i + 1, h => enc_inj hs ht i (step_inj (enc_len _ _ _) (enc_len _ _ _) h)
end Go.Proofs.YteecbjpnnklbpaaDoor.Aes

/- The keys of AES's rounds as a plain list of 240 bytes. Nothing of the program. -/
namespace Go.Proofs.YteecbjpnnklbpaaDoor.Aes
open Go.Proofs.YteecbjpnnklbpaaDoor.Gf
set_option linter.unusedVariables false
def colL (x : Col) : List UInt8 := [x.a, x.b, x.c, x.d]
theorem colL_get (x : Col) (n : Nat) (h : n < 4) : (colL x).getD n 0 = colGet x n := by
  match n, h with
  | 0, _ => rfl
  | 1, _ => rfl
  | 2, _ => rfl
  | 3, _ => rfl
def rotC (x : Col) : Col := ⟨x.b, x.c, x.d, x.a⟩
def boxC (x : Col) : Col := ⟨box x.a, box x.b, box x.c, box x.d⟩
/-- the word ahead, as it goes into the one at place i -/
def turn (x : Col) (i : Nat) : Col :=
  if i % 8 = 0 then ⟨box x.b ^^^ pow 2 (i / 8 - 1), box x.c, box x.d, box x.a⟩ else if i % 4 = 0 then boxC x else x
def wn (key : List UInt8) (l : List Col) : Col :=
  if l.length < 8 then colOf key l.length else addC (l.getD (l.length - 8) ⟨0, 0, 0, 0⟩) (turn (l.getD (l.length - 1) ⟨0, 0, 0, 0⟩) l.length)
def wc (key : List UInt8) : Nat → List Col
  | 0 => []
  | k + 1 => wc key k ++ [wn key (wc key k)]
theorem wc_len (key : List UInt8) : ∀ k, (wc key k).length = k
  | 0 => rfl
  | k + 1 => by simp [wc, wc_len key k]
theorem wc_get (key : List UInt8) : ∀ k j, j < k → (wc key k).getD j ⟨0, 0, 0, 0⟩ = wn key (wc key j)
  | 0, j, h => by omega
  | k + 1, j, h => by
    by_cases hj : j < k
    · rw [← wc_get key k j hj, wc]
      simp [List.getD, List.getElem?_append_left (show j < (wc key k).length by rw [wc_len]; exact hj)]
    · obtain rfl : j = k := by omega
      rw [wc]
      simp [List.getD, List.getElem?_append_right, wc_len]
/-- the word at a place -/
def wAt (key : List UInt8) (i : Nat) : Col := wn key (wc key i)
theorem wAt_lo (key : List UInt8) (i : Nat) (h : i < 8) : wAt key i = colOf key i := by unfold wAt wn; rw [wc_len, if_pos h]
theorem wAt_hi (key : List UInt8) (i : Nat) (h : 8 ≤ i) : wAt key i = addC (wAt key (i - 8)) (turn (wAt key (i - 1)) i) := by
  conv => lhs; unfold wAt wn
  rw [wc_len, if_neg (by omega), wc_get _ _ _ (by omega), wc_get _ _ _ (by omega)]
  rfl
def flat (l : List Col) : List UInt8 := l.flatMap colL
theorem flat_len : ∀ l : List Col, (flat l).length = 4 * l.length
  | [] => rfl
  | x :: l => by rw [flat, List.flatMap_cons, List.length_append, ← flat, flat_len l]; simp [colL]; omega
theorem flat_get : ∀ (l : List Col) (i n : Nat), n < 4 → i < l.length → (flat l).getD (4 * i + n) 0 = colGet (l.getD i ⟨0, 0, 0, 0⟩) n
  | [], i, n, _, h => by simp at h
  | x :: l, 0, n, hn, _ => by
    rw [← show ((x :: l).getD 0 ⟨0, 0, 0, 0⟩) = x from rfl, ← colL_get _ _ hn]
    simp only [flat, List.flatMap_cons, Nat.mul_zero, Nat.zero_add, List.getD]
    rw [List.getElem?_append_left (by simp [colL]; omega)]
    rfl
  | x :: l, i + 1, n, hn, h => by
    rw [show (x :: l).getD (i + 1) ⟨0, 0, 0, 0⟩ = l.getD i ⟨0, 0, 0, 0⟩ from rfl, ← flat_get l i n hn (by simpa using h)]
    simp only [flat, List.flatMap_cons, List.getD]
    rw [List.getElem?_append_right (by simp [colL]; omega)]
    congr 2
    simp [colL]; omega
/-- the keys: 240 bytes -/
def sched (key : List UInt8) : List UInt8 := flat (wc key 60)
theorem sched_len (key : List UInt8) : (sched key).length = 240 := by rw [sched, flat_len, wc_len]
theorem sched_get (key : List UInt8) (i n : Nat) (hi : i < 60) (hn : n < 4) : (sched key).getD (4 * i + n) 0 = colGet (wAt key i) n := by
  rw [sched, flat_get _ _ _ hn (by rw [wc_len]; exact hi), wc_get _ _ _ hi]; rfl
theorem sched_col (key : List UInt8) (i : Nat) (hi : i < 60) : colOf (sched key) i = wAt key i := by
  have h0 := sched_get key i 0 hi (by omega)
  have h1 := sched_get key i 1 hi (by omega)
  have h2 := sched_get key i 2 hi (by omega)
  have h3 := sched_get key i 3 hi (by omega)
  unfold colOf
  rw [Nat.add_zero] at h0
  rw [h0, h1, h2, h3]
  rfl
/-- the key of a round -/
def keyAt (L : List UInt8) (i : Nat) : List UInt8 := (L.drop (16 * i)).take 16
theorem keyAt_len (L : List UInt8) (i : Nat) (h : L.length = 240) (hi : i < 15) : (keyAt L i).length = 16 := by simp [keyAt, h]; omega
/-- a block encrypted with keys -/
def encrypt (L : List UInt8) (s : List UInt8) : List UInt8 := enc (keyAt L) s 14
theorem encrypt_len (L s : List UInt8) : (encrypt L s).length = 16 := enc_len _ _ _
/-- what Schedule tells -/
def keysOf (key : List UInt8) : List UInt8 := if key.length = 32 then sched key else List.replicate 240 0
theorem keysOf_len (key : List UInt8) : (keysOf key).length = 240 := by
  unfold keysOf; split
  · exact sched_len _
  · exact List.length_replicate ..
theorem example_ok : (encrypt (sched ((List.range 32).map UInt8.ofNat)) ((List.range 16).map fun i => UInt8.ofNat (17 * i))).take 4 = [0x8e, 0xa2, 0xb7, 0xca] := by decide +kernel
end Go.Proofs.YteecbjpnnklbpaaDoor.Aes

/- Counters of 16 bytes and rows of blocks as plain functions. Nothing of the program. -/
namespace Go.Proofs.YteecbjpnnklbpaaDoor.Ctr
open Go.Proofs.YteecbjpnnklbpaaDoor.Aes
set_option linter.unusedVariables false
/-- a number added to bytes, the lowest first -/
def addR : List UInt8 → Nat → List UInt8
  | [], _ => []
  | x :: l, n => UInt8.ofNat (n + x.toNat) :: addR l ((n + x.toNat) / 256)
theorem addR_len : ∀ l n, (addR l n).length = l.length
  | [], _ => rfl
  | x :: l, n => by simp [addR, addR_len l]
theorem addR_zero : ∀ l, addR l 0 = l
  | [] => rfl
  | x :: l => by
    have := x.toNat_lt
    rw [addR, show (0 + x.toNat) / 256 = 0 by omega, addR_zero l]
    simp
theorem addR_add : ∀ l m n, addR (addR l m) n = addR l (m + n)
  | [], _, _ => rfl
  | x :: l, m, n => by
    have hx := x.toNat_lt
    have hu : (UInt8.ofNat (m + x.toNat)).toNat = (m + x.toNat) % 256 := by simp
    rw [addR, addR, addR, addR_add l, hu]
    congr 1
    · apply UInt8.toNat_inj.1; simp; omega
    · congr 1; omega
/-- a counter, so much later -/
def later (c : List UInt8) (n : Nat) : List UInt8 := (addR c.reverse n).reverse
theorem later_len (c : List UInt8) (n : Nat) : (later c n).length = c.length := by simp [later, addR_len]
theorem later_zero (c : List UInt8) : later c 0 = c := by simp [later, addR_zero]
theorem later_add (c : List UInt8) (m n : Nat) : later (later c m) n = later c (m + n) := by simp [later, addR_add]
def next (c : List UInt8) : List UInt8 := later c 1
theorem next_len (c : List UInt8) : (next c).length = c.length := later_len c 1
theorem later_succ (c : List UInt8) (n : Nat) : later c (n + 1) = next (later c n) := (later_add c n 1).symm
/-- what is added to a list behind whose last byte there is a carry -/
theorem later_snoc (c : List UInt8) (x : UInt8) (n : Nat) : later (c ++ [x]) n = later c ((n + x.toNat) / 256) ++ [UInt8.ofNat (n + x.toNat)] := by
  simp [later, addR]
/-- the blocks of a row -/
def block (L c : List UInt8) (i : Nat) : List UInt8 := encrypt L (later c i)
theorem block_len (L c : List UInt8) (i : Nat) : (block L c i).length = 16 := encrypt_len _ _
def row (L c : List UInt8) : Nat → List UInt8
  | 0 => []
  | k + 1 => row L c k ++ block L c k
theorem row_len (L c : List UInt8) : ∀ k, (row L c k).length = 16 * k
  | 0 => rfl
  | k + 1 => by rw [row, List.length_append, row_len L c k, block_len]; omega
theorem row_take (L c : List UInt8) (size : Nat) : ∀ k j, size ≤ 16 * k → k ≤ j → (row L c j).take size = (row L c k).take size
  | k, j, h, hj => by
    obtain ⟨d, rfl⟩ : ∃ d, j = k + d := ⟨j - k, by omega⟩
    clear hj
    induction d with
    | zero => rfl
    | succ d ih => rw [show k + (d + 1) = (k + d) + 1 by omega, row, List.take_append_of_le_length (by rw [row_len]; omega), ih]
/-- so many bytes of a row -/
def stream (L c : List UInt8) (size : Nat) : List UInt8 := (row L c ((size + 15) / 16)).take size
theorem stream_len (L c : List UInt8) (size : Nat) : (stream L c size).length = size := by rw [stream, List.length_take, row_len]; omega
theorem stream_take (L c : List UInt8) (m n : Nat) (h : m ≤ n) : (stream L c n).take m = stream L c m := by
  rw [stream, stream, List.take_take, Nat.min_eq_left h]
  exact row_take L c m _ _ (by omega) (by omega)
/-- counters while a carry goes on -/
theorem next_stop (t : List UInt8) (x : UInt8) (h : x + 1 ≠ 0) : next (t ++ [x]) = t ++ [x + 1] := by
  have hx : x.toNat ≠ 255 := fun e => h (by apply UInt8.toNat_inj.1; rw [UInt8.toNat_add, e]; rfl)
  have := x.toNat_lt
  rw [next, later_snoc, show (1 + x.toNat) / 256 = 0 by omega, later_zero]
  congr 2
  apply UInt8.toNat_inj.1
  rw [UInt8.toNat_add]; simp; omega
theorem next_go (t : List UInt8) (x : UInt8) (h : x + 1 = 0) : next (t ++ [x]) = next t ++ [0] := by
  have hx : x.toNat = 255 := by
    have h1 := congrArg UInt8.toNat h
    have := x.toNat_lt
    rw [UInt8.toNat_add] at h1
    simp at h1
    omega
  rw [next, later_snoc, hx]
  rfl
theorem take_snoc (c : List UInt8) (j : Nat) (h : j < c.length) : c.take (j + 1) = c.take j ++ [c.getD j 0] := by
  rw [List.take_succ_eq_append_getElem h]; simp [List.getD, List.getElem?_eq_getElem h]
theorem set_mid (c suf : List UInt8) (j : Nat) (x : UInt8) (h : j < c.length) : (c.take (j + 1) ++ suf).set j x = c.take j ++ (x :: suf) := by
  rw [take_snoc c j h, List.append_assoc, List.set_append_right _ _ (by simp; omega)]
  simp [Nat.min_eq_left (Nat.le_of_lt h)]
theorem get_mid (c suf : List UInt8) (j : Nat) (h : j < c.length) : (c.take (j + 1) ++ suf).getD j 0 = c.getD j 0 := by
  simp [List.getD, List.getElem?_append_left (show j < (c.take (j + 1)).length by simp; omega), List.getElem?_take]
theorem next_here (c suf : List UInt8) (j : Nat) (hj : j < c.length) (h : next c = next (c.take (j + 1)) ++ suf) (hx : c.getD j 0 + 1 ≠ 0 ∨ j = 0) : next c = c.take j ++ ((c.getD j 0 + 1) :: suf) := by
  rw [h, take_snoc c j hj]
  by_cases h0 : c.getD j 0 + 1 = 0
  · rcases hx with hx | rfl
    · exact absurd h0 hx
    · rw [next_go _ _ h0, h0]; rfl
  · rw [next_stop _ _ h0, List.append_assoc]; rfl
theorem next_on (c suf : List UInt8) (j : Nat) (hj : j < c.length) (h : next c = next (c.take (j + 1)) ++ suf) (hx : c.getD j 0 + 1 = 0) : next c = next (c.take j) ++ (0 :: suf) := by
  rw [h, take_snoc c j hj, next_go _ _ hx, List.append_assoc]; rfl
theorem next_nil : next [] = [] := rfl
theorem later_nil (n : Nat) : later [] n = [] := rfl
theorem later_on (c suf : List UInt8) (j n m : Nat) (hj : j < c.length) (h : later c n = later (c.take (j + 1)) m ++ suf) : later c n = later (c.take j) ((m + (c.getD j 0).toNat) / 256) ++ (UInt8.ofNat (m + (c.getD j 0).toNat) :: suf) := by
  rw [h, take_snoc c j hj, later_snoc, List.append_assoc]; rfl
end Go.Proofs.YteecbjpnnklbpaaDoor.Ctr

/- The walks of aes.Sub, Shift, Add, and of the reference's. -/
namespace Go.Proofs.YteecbjpnnklbpaaDoor.Aes
open Go.RowKit
open Go.Proofs.YteecbjpnnklbpaaDoor.Gf
set_option linter.unusedVariables false
set_option maxRecDepth 100000
/-- bytes as cells -/
def vb (l : List UInt8) : List Value := l.map e8
theorem vb_len (l : List UInt8) : (vb l).length = l.length := by simp [vb]
theorem vb_one (l : List UInt8) : ∀ v ∈ vb l, v.oneCell' = true := by
  intro v hv
  simp only [vb, List.mem_map] at hv
  obtain ⟨x, _, rfl⟩ := hv
  rfl
theorem vb_set (l : List UInt8) (k : Nat) (x : UInt8) : (vb l).set k (e8 x) = vb (l.set k x) := by simp [vb, List.map_set]
theorem _root_.Go.Proofs.YteecbjpnnklbpaaDoor.Blk.byte {w : World} {g : Nat} {l : List UInt8} (h : Blk w g (vb l)) {k : Nat} (hk : k < l.length) : w.cell? ⟨g, k, none⟩ = some (e8 (l.getD k 0)) := by
  rw [h.cell (by rw [vb_len]; exact hk)]
  simp [vb, List.getD, List.getElem?_eq_getElem hk]
/-- a state as a value -/
def stV (l : List UInt8) : Value := arrV (vb l)
def zero16 : List UInt8 := List.replicate 16 0
theorem size16 : (Tryd.prog.info? 83).map (·.size) = some 16 := by kernel_rfl
theorem zeroV16 (w : World) : (zeroValue 83).run Tryd.prog w = .ok (arrV (vb zero16)) w := by kernel_rfl
theorem sizeL {l : List UInt8} (h : l.length = 16) : (Tryd.prog.info? 83).map (·.size) = some (vb l).length := by rw [vb_len, h]; exact size16
theorem index16 (l : List UInt8) (k : Nat) (hl : l.length = 16) (hk : k < 16) (w : World) : (Instr.index 83 (arrV (vb l)) (.int .i64 (k : Int))).run Tryd.prog w = .ok (e8 (l.getD k 0)) w :=
  run_index_ints (P := Tryd.prog) (n := 16) (k := .i64) Tryd.underlying83 Tryd.underlying5 (by kernel_rfl) hk (by simp [vb, hl, hk, List.getD]) w
set_option maxHeartbeats 400000 in
theorem sub_any (s : List UInt8) (hs : s.length = 16) (w : World) : Calls Tryd.prog 92 #[stV s] w fun e w' => e = .returned (stV (sub s)) ∧ Below w.heap.size w w' := by
  have Hs := Lib.hid hs
  have hsz := sizeL hs
  have hl2 : (sub s).length = 16 := by rw [sub_len]; exact hs
  have hsz2 := sizeL hl2
  have Hl2 := Lib.hid hl2
  clear hs hl2
  unfold stV
  go_enter Tryd.func92, Tryd.ntmps92
  go_wp2_with (first
    | (refine wpList_boxN rfl _ _ rfl (vb s) rfl ?_; intro w1 hb1 bw1 hs1)
    | (refine wpList_allocN rfl _ rfl (vb zero16) zeroV16 ?_; intro w2 hb2 bw2 hs2; have hb12 := hb1.on bw2; have bt2 := bt bw1 bw2)
    | (refine wpList_loadA rfl _ _ rfl rfl hb12 Tryd.underlying83 hsz ?_)
    | fail)
  have hB2 := bw1.size
  have l01 : w.heap.size < w1.heap.size := hs1
  obtain ⟨B1, hB1⟩ : ∃ B, B = w1.heap.size := ⟨_, rfl⟩
  rw [← hB1] at hb2 l01 ⊢
  clear hB1 hb1 bw1 bw2 hs1 hs2 hB2
  go_loopw [6] (fun i wr => ∃ k : Nat, k ≤ 16 ∧ i = .int .i64 k ∧ Blk wr w.heap.size (vb (part (sub s) s k)) ∧ Blk wr B1 (vb zero16) ∧ Below w.heap.size w wr) (fun i _ => 16 - (intOf i).toNat)
  case atStart => exact ⟨0, by omega, rfl, by rw [part_zero]; exact hb12, hb2, bt2⟩
  case round =>
    obtain ⟨k, hk, rfl, d0, d1, bt⟩ := hrel
    by_cases hlt : k < 16
    · have hix := index16 s k Hs.out hlt
      have hset := Lib.hid (part_set (sub s) s k 16 Hl2.out Hs.out hlt)
      have hc := Blk.byte d0 (k := k) (by rw [part_len _ _ k 16 Hl2.out Hs.out (by omega)]; exact hlt)
      have hf := d0.free k
      have hsa := Lib.hid (sub_at s k (by rw [Hs.out]; exact hlt))
      obtain ⟨x, hx⟩ : ∃ x, x = s.getD k 0 := ⟨_, rfl⟩
      rw [← hx] at hix hsa
      have hB := d0.lt
      clear hx
      go_wp2_with (go_at_call 110; refine (box_any x _ rfl _).mono ?_; rintro e w' ⟨rfl, rfl⟩)
      go_roundw
      case rel =>
        have hbs := d0.set (k := k) (e8 (box x))
        have hst := hset.out
        rw [hsa.out] at hst
        rw [vb_set, hst] at hbs
        exact ⟨k + 1, by omega, by go_num, hbs, d1.other _ (by omega), bt.setCell (Nat.le_refl _) _⟩
      case measure => simp [intOf]; omega
    · obtain rfl : k = 16 := by omega
      rw [part_all _ _ 16 Hl2.out Hs.out] at d0
      go_wp2_with (first
        | (refine wpList_loadA rfl _ _ rfl rfl d0 Tryd.underlying83 hsz2 ?_)
        | (refine wpList_storeN rfl _ _ _ rfl rfl (ys := vb (sub s)) rfl d1 (by rw [vb_len, vb_len, Hl2.out]; rfl) (vb_one _) hsz2 ?_; intro w9 hb9 hg9))
      exact bodyPost_ret (v := arrV (vb (sub s))) (results_arr Tryd.results92 _ hb9 Tryd.underlying83 hsz2 rfl) rfl ⟨rfl, below_row bt hg9 (by omega) bt.size⟩
set_option maxHeartbeats 400000 in
theorem rsub_any (s : List UInt8) (hs : s.length = 16) (w : World) : Calls Tryd.prog 103 #[stV s] w fun e w' => e = .returned (stV (sub s)) ∧ Below w.heap.size w w' := by
  have Hs := Lib.hid hs
  have hsz := sizeL hs
  have hl2 : (sub s).length = 16 := by rw [sub_len]; exact hs
  have hsz2 := sizeL hl2
  have Hl2 := Lib.hid hl2
  clear hs hl2
  unfold stV
  go_enter Tryd.func103, Tryd.ntmps103
  go_wp2_with (first
    | (refine wpList_boxN rfl _ _ rfl (vb s) rfl ?_; intro w1 hb1 bw1 hs1)
    | (refine wpList_allocN rfl _ rfl (vb zero16) zeroV16 ?_; intro w2 hb2 bw2 hs2; have hb12 := hb1.on bw2; have bt2 := bt bw1 bw2)
    | fail)
  have hB2 := bw1.size
  have l01 : w.heap.size < w1.heap.size := hs1
  obtain ⟨B1, hB1⟩ : ∃ B, B = w1.heap.size := ⟨_, rfl⟩
  rw [← hB1] at hb2 l01 ⊢
  clear hB1 hb1 bw1 bw2 hs1 hs2 hB2
  go_loopw [3] (fun i wr => ∃ k : Nat, k ≤ 16 ∧ i = .int .i64 k ∧ Blk wr w.heap.size (vb (part (sub s) s k)) ∧ Blk wr B1 (vb zero16) ∧ Below w.heap.size w wr) (fun i _ => 16 - (intOf i).toNat)
  case atStart => exact ⟨0, by omega, rfl, by rw [part_zero]; exact hb12, hb2, bt2⟩
  case round =>
    obtain ⟨k, hk, rfl, d0, d1, bt⟩ := hrel
    by_cases hlt : k < 16
    · have hset := Lib.hid (part_set (sub s) s k 16 Hl2.out Hs.out hlt)
      have hc := Blk.byte d0 (k := k) (by rw [part_len _ _ k 16 Hl2.out Hs.out (by omega)]; exact hlt)
      rw [part_old _ _ k k 16 Hl2.out Hs.out (Nat.le_refl _) hlt] at hc
      have hsa := Lib.hid (sub_at s k (by rw [Hs.out]; exact hlt))
      obtain ⟨x, hx⟩ : ∃ x, x = s.getD k 0 := ⟨_, rfl⟩
      rw [← hx] at hc hsa
      have hB := d0.lt
      have hf := d0.free k
      clear hx
      go_wp2_with fail
      refine (rbox_any x _ rfl _).mono ?_
      rintro e w5 ⟨rfl, b5⟩
      have hc5 := (b5.cell (p := ⟨w.heap.size, k, none⟩) hB).trans hc
      have e0 := d0.on b5
      have e1 := d1.on b5
      have hB5 := e0.lt
      have hf5 := e0.free k
      have bt5 := bt.trans (b5.mono bt.size)
      clear hc hB hf
      go_wp2_with fail
      go_roundw
      case rel =>
        have hbs := e0.set (k := k) (e8 (box x))
        have hst := hset.out
        rw [hsa.out] at hst
        rw [vb_set, hst] at hbs
        exact ⟨k + 1, by omega, by go_num, hbs, e1.other _ (by omega), bt5.setCell (Nat.le_refl _) _⟩
      case measure => simp [intOf]; omega
    · obtain rfl : k = 16 := by omega
      rw [part_all _ _ 16 Hl2.out Hs.out] at d0
      go_wp2_with (first
        | (refine wpList_loadA rfl _ _ rfl rfl d0 Tryd.underlying83 hsz2 ?_)
        | (refine wpList_storeN rfl _ _ _ rfl rfl (ys := vb (sub s)) rfl d1 (by rw [vb_len, vb_len, Hl2.out]; rfl) (vb_one _) hsz2 ?_; intro w9 hb9 hg9))
      exact bodyPost_ret (v := arrV (vb (sub s))) (results_arr Tryd.results103 _ hb9 Tryd.underlying83 hsz2 rfl) rfl ⟨rfl, below_row bt hg9 (by omega) bt.size⟩
set_option maxHeartbeats 400000 in
theorem add_any (s t : List UInt8) (hs : s.length = 16) (ht : t.length = 16) (w : World) : Calls Tryd.prog 89 #[stV s, stV t] w fun e w' => e = .returned (stV (add s t)) ∧ Below w.heap.size w w' := by
  have Hs := Lib.hid hs
  have Ht := Lib.hid ht
  have hsz := sizeL hs
  have hszt := sizeL ht
  have hl2 := add_len s t
  have hsz2 := sizeL hl2
  have Hl2 := Lib.hid hl2
  clear hs hl2 ht
  unfold stV
  go_enter Tryd.func89, Tryd.ntmps89
  go_wp2_with (first
    | ((with_reducible show wpList _ _ _ (⟨some 2, _, _, _, _, _⟩ :: _) _ _); refine wpList_boxN rfl _ _ rfl (vb s) rfl ?_; intro w1 hb1 bw1 hs1)
    | ((with_reducible show wpList _ _ _ (⟨some 3, _, _, _, _, _⟩ :: _) _ _); refine wpList_boxN rfl _ _ rfl (vb t) rfl ?_; intro w2 hb2 bw2 hs2; have hb12 := hb1.on bw2; have bt2 := bt bw1 bw2)
    | (refine wpList_allocN rfl _ rfl (vb zero16) zeroV16 ?_; intro w3 hb3 bw3 hs3; have hb13 := hb12.on bw3; have hb23 := hb2.on bw3; have bt3 := bt bt2 bw3)
    | (refine wpList_loadA rfl _ _ rfl rfl hb23 Tryd.underlying83 hszt ?_)
    | fail)
  have l01 : w.heap.size < w1.heap.size := hs1
  have l12 : w1.heap.size < w2.heap.size := hs2
  obtain ⟨B1, hB1⟩ : ∃ B, B = w1.heap.size := ⟨_, rfl⟩
  obtain ⟨B2, hB2⟩ : ∃ B, B = w2.heap.size := ⟨_, rfl⟩
  rw [← hB1] at hb23 l01 l12 ⊢
  rw [← hB2] at hb3 l12 ⊢
  clear hB1 hB2 hb1 hb2 hb12 bw1 bw2 bw3 hs1 hs2 hs3 bt2
  go_loopw [8] (fun i wr => ∃ k : Nat, k ≤ 16 ∧ i = .int .i64 k ∧ Blk wr w.heap.size (vb (part (add s t) s k)) ∧ Blk wr B2 (vb zero16) ∧ Below w.heap.size w wr) (fun i _ => 16 - (intOf i).toNat)
  case atStart => exact ⟨0, by omega, rfl, by rw [part_zero]; exact hb13, hb3, bt3⟩
  case round =>
    obtain ⟨k, hk, rfl, d0, d1, bt⟩ := hrel
    by_cases hlt : k < 16
    · have hix := index16 t k Ht.out hlt
      have hset := Lib.hid (part_set (add s t) s k 16 Hl2.out Hs.out hlt)
      have hc := Blk.byte d0 (k := k) (by rw [part_len _ _ k 16 Hl2.out Hs.out (by omega)]; exact hlt)
      rw [part_old _ _ k k 16 Hl2.out Hs.out (Nat.le_refl _) hlt] at hc
      have hf := d0.free k
      have hsa := Lib.hid (of16_at (fun i => s.getD i 0 ^^^ t.getD i 0) k hlt)
      obtain ⟨x, hx⟩ : ∃ x, x = s.getD k 0 := ⟨_, rfl⟩
      obtain ⟨y, hy⟩ : ∃ y, y = t.getD k 0 := ⟨_, rfl⟩
      rw [← hx] at hc hsa
      rw [← hy] at hix hsa
      have hB := d0.lt
      clear hx hy
      go_wp2
      go_roundw
      case rel =>
        have hbs := d0.set (k := k) (e8 (x ^^^ y))
        have hst := hset.out
        rw [show (add s t).getD k 0 = x ^^^ y from hsa.out] at hst
        rw [vb_set, hst] at hbs
        rw [xor8]
        exact ⟨k + 1, by omega, by go_num, hbs, d1.other _ (by omega), bt.setCell (Nat.le_refl _) _⟩
      case measure => simp [intOf]; omega
    · obtain rfl : k = 16 := by omega
      rw [part_all _ _ 16 Hl2.out Hs.out] at d0
      go_wp2_with (first
        | (refine wpList_loadA rfl _ _ rfl rfl d0 Tryd.underlying83 hsz2 ?_)
        | (refine wpList_storeN rfl _ _ _ rfl rfl (ys := vb (add s t)) rfl d1 (by rw [vb_len, vb_len, Hl2.out]; rfl) (vb_one _) hsz2 ?_; intro w9 hb9 hg9))
      exact bodyPost_ret (v := arrV (vb (add s t))) (results_arr Tryd.results89 _ hb9 Tryd.underlying83 hsz2 rfl) rfl ⟨rfl, below_row bt hg9 (by omega) bt.size⟩
end Go.Proofs.YteecbjpnnklbpaaDoor.Aes

/- The walks of aes.Shift, the reference's Add and Shift. -/
namespace Go.Proofs.YteecbjpnnklbpaaDoor.Aes
open Go.RowKit
open Go.Proofs.YteecbjpnnklbpaaDoor.Gf
set_option linter.unusedVariables false
set_option maxRecDepth 100000
set_option maxHeartbeats 400000 in
theorem radd_any (s t : List UInt8) (hs : s.length = 16) (ht : t.length = 16) (w : World) : Calls Tryd.prog 101 #[stV s, stV t] w fun e w' => e = .returned (stV (add s t)) ∧ Below w.heap.size w w' := by
  have Hs := Lib.hid hs
  have Ht := Lib.hid ht
  have hl2 := add_len s t
  have hsz2 := sizeL hl2
  have Hl2 := Lib.hid hl2
  clear hs hl2 ht
  unfold stV
  go_enter Tryd.func101, Tryd.ntmps101
  go_wp2_with (first
    | ((with_reducible show wpList _ _ _ (⟨some 2, _, _, _, _, _⟩ :: _) _ _); refine wpList_boxN rfl _ _ rfl (vb s) rfl ?_; intro w1 hb1 bw1 hs1)
    | ((with_reducible show wpList _ _ _ (⟨some 3, _, _, _, _, _⟩ :: _) _ _); refine wpList_boxN rfl _ _ rfl (vb t) rfl ?_; intro w2 hb2 bw2 hs2; have hb12 := hb1.on bw2; have bt2 := bt bw1 bw2)
    | (refine wpList_allocN rfl _ rfl (vb zero16) zeroV16 ?_; intro w3 hb3 bw3 hs3; have hb13 := hb12.on bw3; have hb23 := hb2.on bw3; have bt3 := bt bt2 bw3)
    | fail)
  have l01 : w.heap.size < w1.heap.size := hs1
  have l12 : w1.heap.size < w2.heap.size := hs2
  obtain ⟨B1, hB1⟩ : ∃ B, B = w1.heap.size := ⟨_, rfl⟩
  obtain ⟨B2, hB2⟩ : ∃ B, B = w2.heap.size := ⟨_, rfl⟩
  rw [← hB1] at hb23 l01 l12 ⊢
  rw [← hB2] at hb3 l12 ⊢
  clear hB1 hB2 hb1 hb2 hb12 bw1 bw2 bw3 hs1 hs2 hs3 bt2
  go_loopw [5] (fun i wr => ∃ k : Nat, k ≤ 16 ∧ i = .int .i64 k ∧ Blk wr w.heap.size (vb (part (add s t) s k)) ∧ Blk wr B1 (vb t) ∧ Blk wr B2 (vb zero16) ∧ Below w.heap.size w wr) (fun i _ => 16 - (intOf i).toNat)
  case atStart => exact ⟨0, by omega, rfl, by rw [part_zero]; exact hb13, hb23, hb3, bt3⟩
  case round =>
    obtain ⟨k, hk, rfl, d0, d1, d2, bt⟩ := hrel
    by_cases hlt : k < 16
    · have hset := Lib.hid (part_set (add s t) s k 16 Hl2.out Hs.out hlt)
      have hc := Blk.byte d0 (k := k) (by rw [part_len _ _ k 16 Hl2.out Hs.out (by omega)]; exact hlt)
      rw [part_old _ _ k k 16 Hl2.out Hs.out (Nat.le_refl _) hlt] at hc
      have hct := Blk.byte d1 (k := k) (by rw [Ht.out]; exact hlt)
      have hf := d0.free k
      have hsa := Lib.hid (of16_at (fun i => s.getD i 0 ^^^ t.getD i 0) k hlt)
      obtain ⟨x, hx⟩ : ∃ x, x = s.getD k 0 := ⟨_, rfl⟩
      obtain ⟨y, hy⟩ : ∃ y, y = t.getD k 0 := ⟨_, rfl⟩
      rw [← hx] at hc hsa
      rw [← hy] at hct hsa
      have hB := d0.lt
      have hBB := d1.lt
      clear hx hy
      go_wp2
      go_region
      go_wp2
      go_roundw
      case rel =>
        have hbs := d0.set (k := k) (e8 (x ^^^ y))
        have hst := hset.out
        rw [show (add s t).getD k 0 = x ^^^ y from hsa.out] at hst
        rw [vb_set, hst] at hbs
        rw [xor8]
        exact ⟨k + 1, by omega, by go_num, hbs, d1.other _ (by omega), d2.other _ (by omega), (bset bt (Nat.le_refl _) _).drew⟩
      case measure => simp [intOf]; omega
    · obtain rfl : k = 16 := by omega
      rw [part_all _ _ 16 Hl2.out Hs.out] at d0
      go_wp2_with (first
        | (refine wpList_loadA rfl _ _ rfl rfl d0 Tryd.underlying83 hsz2 ?_)
        | (refine wpList_storeN rfl _ _ _ rfl rfl (ys := vb (add s t)) rfl d2 (by rw [vb_len, vb_len, Hl2.out]; rfl) (vb_one _) hsz2 ?_; intro w9 hb9 hg9))
      exact bodyPost_ret (v := arrV (vb (add s t))) (results_arr Tryd.results101 _ hb9 Tryd.underlying83 hsz2 rfl) rfl ⟨rfl, below_row bt hg9 (by omega) bt.size⟩
theorem tmod_lit (k m : Nat) (hm : 0 < m) : ((k : Int)).tmod (m : Int) = ((k % m : Nat) : Int) := by
  rw [Int.tmod_eq_emod_of_nonneg (by omega)]; omega
set_option maxHeartbeats 400000 in
theorem shift_any (s : List UInt8) (hs : s.length = 16) (w : World) : Calls Tryd.prog 91 #[stV s] w fun e w' => e = .returned (stV (shift s)) ∧ Below w.heap.size w w' := by
  have Hs := Lib.hid hs
  have hl2 := shift_len s
  have hsz2 := sizeL hl2
  have Hl2 := Lib.hid hl2
  have hlz : zero16.length = 16 := rfl
  have Hz := Lib.hid hlz
  clear hs hl2 hlz
  unfold stV
  go_enter Tryd.func91, Tryd.ntmps91
  go_wp2_with (first
    | (refine wpList_boxN rfl _ _ rfl (vb s) rfl ?_; intro w1 hb1 bw1 hs1)
    | (refine wpList_allocN rfl _ rfl (vb zero16) zeroV16 ?_; intro w2 hb2 bw2 hs2; have hb12 := hb1.on bw2; have bt2 := bt bw1 bw2)
    | fail)
  have l01 : w.heap.size < w1.heap.size := hs1
  obtain ⟨B1, hB1⟩ : ∃ B, B = w1.heap.size := ⟨_, rfl⟩
  rw [← hB1] at hb2 l01 ⊢
  clear hB1 hb1 bw1 bw2 hs1 hs2
  go_loopw [4] (fun i wr => ∃ k : Nat, k ≤ 16 ∧ i = .int .i64 k ∧ Blk wr w.heap.size (vb s) ∧ Blk wr B1 (vb (part (shift s) zero16 k)) ∧ Below w.heap.size w wr) (fun i _ => 16 - (intOf i).toNat)
  case atStart => exact ⟨0, by omega, rfl, hb12, by rw [part_zero]; exact hb2, bt2⟩
  case round =>
    obtain ⟨k, hk, rfl, d0, d1, bt⟩ := hrel
    by_cases hlt : k < 16
    · have hset := Lib.hid (part_set (shift s) zero16 k 16 Hl2.out Hz.out hlt)
      obtain ⟨m, hm⟩ : ∃ m, m = (k + 4 * (k % 4)) % 16 := ⟨_, rfl⟩
      obtain ⟨r, hr⟩ : ∃ r, r = k % 4 := ⟨_, rfl⟩
      have hmlt : m < 16 := by omega
      have h1 : (k : Int).tmod 4 = (r : Int) := by rw [Int.tmod_eq_emod_of_nonneg (by omega)]; omega
      have h2 : ((k : Int) + 4 * (r : Int)).tmod 16 = (m : Int) := by rw [Int.tmod_eq_emod_of_nonneg (by omega)]; omega
      have hsa := Lib.hid (of16_at (fun i => s.getD ((i + 4 * (i % 4)) % 16) 0) k hlt)
      have hrb : r < 4 := by omega
      have Hm := Lib.hid hm
      clear hm hr
      have hc := Blk.byte d0 (k := m) (by rw [Hs.out]; exact hmlt)
      have hct := Blk.byte d1 (k := k) (by rw [part_len _ _ k 16 Hl2.out Hz.out (by omega)]; exact hlt)
      have hf := d1.free k
      obtain ⟨x, hx⟩ : ∃ x, x = s.getD m 0 := ⟨_, rfl⟩
      have hsx : (shift s).getD k 0 = x := by rw [hx, Hm.out]; exact hsa.out
      have Hsx := Lib.hid hsx
      rw [← hx] at hc
      have hB := d0.lt
      have hBB := d1.lt
      clear hx hsx
      go_wp2
      go_roundw
      case rel =>
        have hbs := d1.set (k := k) (e8 x)
        have hst := hset.out
        rw [Hsx.out] at hst
        rw [vb_set, hst] at hbs
        exact ⟨k + 1, by omega, by go_num, d0.other _ (by omega), hbs, bt.setCell (by show w.heap.size ≤ B1; omega) _⟩
      case measure => simp [intOf]; omega
    · obtain rfl : k = 16 := by omega
      rw [part_all _ _ 16 Hl2.out Hz.out] at d1
      go_wp2_with (first
        | (refine wpList_loadA rfl _ _ rfl rfl d1 Tryd.underlying83 hsz2 ?_)
        | (refine wpList_storeN rfl _ _ _ rfl rfl (ys := vb (shift s)) rfl d1 rfl (vb_one _) hsz2 ?_; intro w9 hb9 hg9))
      exact bodyPost_ret (v := arrV (vb (shift s))) (results_arr Tryd.results91 _ hb9 Tryd.underlying83 hsz2 rfl) rfl ⟨rfl, below_row bt hg9 (by omega) bt.size⟩
end Go.Proofs.YteecbjpnnklbpaaDoor.Aes

/- The walks of the reference's Shift and Mix. -/
namespace Go.Proofs.YteecbjpnnklbpaaDoor.Aes
open Go.RowKit
open Go.Proofs.YteecbjpnnklbpaaDoor.Gf
set_option linter.unusedVariables false
set_option maxRecDepth 100000
set_option maxHeartbeats 800000 in
theorem rshift_any (s : List UInt8) (hs : s.length = 16) (w : World) : Calls Tryd.prog 102 #[stV s] w fun e w' => e = .returned (stV (shift s)) ∧ Below w.heap.size w w' := by
  have Hs := Lib.hid hs
  have hl2 := shift_len s
  have hsz2 := sizeL hl2
  have Hl2 := Lib.hid hl2
  have hlz : zero16.length = 16 := rfl
  have Hz := Lib.hid hlz
  clear hs hl2 hlz
  unfold stV
  go_enter Tryd.func102, Tryd.ntmps102
  go_wp2_with (first
    | (refine wpList_boxN rfl _ _ rfl (vb s) rfl ?_; intro w1 hb1 bw1 hs1)
    | ((with_reducible show wpList _ _ _ (⟨some 2, _, _, _, _, _⟩ :: _) _ _); refine wpList_allocN rfl _ rfl (vb zero16) zeroV16 ?_; intro w2 hb2 bw2 hs2; have hb12 := hb1.on bw2; have bt2 := bt bw1 bw2)
    | ((with_reducible show wpList _ _ _ (⟨some 3, _, _, _, _, _⟩ :: _) _ _); refine wpList_allocN rfl _ rfl (vb zero16) zeroV16 ?_; intro w3 hb3 bw3 hs3; have hb13 := hb12.on bw3; have hb23 := hb2.on bw3; have bt3 := bt bt2 bw3)
    | fail)
  have l01 : w.heap.size < w1.heap.size := hs1
  have l12 : w1.heap.size < w2.heap.size := hs2
  obtain ⟨B1, hB1⟩ : ∃ B, B = w1.heap.size := ⟨_, rfl⟩
  obtain ⟨B2, hB2⟩ : ∃ B, B = w2.heap.size := ⟨_, rfl⟩
  rw [← hB1] at hb23 l01 l12 ⊢
  rw [← hB2] at hb3 l12 ⊢
  clear hB1 hB2 hb1 hb2 hb12 bw1 bw2 bw3 hs1 hs2 hs3 bt2
  go_loopw [4] (fun i wr => ∃ c : Nat, c ≤ 4 ∧ i = .int .i64 c ∧ Blk wr w.heap.size (vb s) ∧ Blk wr B1 (vb zero16) ∧ Blk wr B2 (vb (part (shift s) zero16 (4 * c))) ∧ Below w.heap.size w wr) (fun i _ => 4 - (intOf i).toNat)
  case atStart => exact ⟨0, by omega, rfl, hb13, hb23, by rw [Nat.mul_zero, part_zero]; exact hb3, bt3⟩
  case round =>
    obtain ⟨c, hc, rfl, d0, d1, d2, bt⟩ := hrel
    clear hb13 hb23 hb3 bt3
    by_cases hlt : c < 4
    · go_wp2
      go_loopw [5] (fun i wx => ∃ r : Nat, r ≤ 4 ∧ i = .int .i64 r ∧ Blk wx w.heap.size (vb s) ∧ Blk wx B1 (vb zero16) ∧ Blk wx B2 (vb (part (shift s) zero16 (4 * c + r))) ∧ Below w.heap.size w wx) (fun i _ => 4 - (intOf i).toNat)
      case atStart => exact ⟨0, by omega, rfl, d0, d1, by rw [Nat.add_zero]; exact d2, bt⟩
      case round =>
        obtain ⟨r, hr, rfl, e0, e1, e2, bx⟩ := hrel
        clear d0 d1 d2 bt
        by_cases hlr : r < 4
        · have hset := Lib.hid (part_set (shift s) zero16 (4 * c + r) 16 Hl2.out Hz.out (by omega))
          obtain ⟨q, hq⟩ : ∃ q, q = (c + r) % 4 := ⟨_, rfl⟩
          have hqb : q < 4 := by omega
          have h1 : ((c : Int) + (r : Int)).tmod 4 = (q : Int) := by rw [Int.tmod_eq_emod_of_nonneg (by omega)]; omega
          have hsa := of16_at (fun i => s.getD ((i + 4 * (i % 4)) % 16) 0) (4 * c + r) (by omega)
          rw [show (4 * c + r + 4 * ((4 * c + r) % 4)) % 16 = 4 * q + r by omega] at hsa
          have Hsa := Lib.hid (show (shift s).getD (4 * c + r) 0 = s.getD (4 * q + r) 0 from hsa)
          clear hsa hq
          obtain ⟨m, hm⟩ : ∃ m, m = 4 * q + r := ⟨_, rfl⟩
          obtain ⟨n, hn⟩ : ∃ n, n = 4 * c + r := ⟨_, rfl⟩
          have hmI : 4 * (q : Int) + (r : Int) = (m : Int) := by omega
          have hnI : 4 * (c : Int) + (r : Int) = (n : Int) := by omega
          have hmlt : m < 16 := by omega
          have hnlt : n < 16 := by omega
          rw [← hm] at Hsa
          rw [← hn] at Hsa hset e2
          have Hn := Lib.hid hn
          clear hm hn
          have hcc := Blk.byte e0 (k := m) (by rw [Hs.out]; exact hmlt)
          have hct := Blk.byte e2 (k := n) (by rw [part_len _ _ n 16 Hl2.out Hz.out (by omega)]; exact hnlt)
          have hf := e2.free n
          obtain ⟨x, hx⟩ : ∃ x, x = s.getD m 0 := ⟨_, rfl⟩
          rw [← hx] at hcc Hsa
          have hB := e0.lt
          have hBB := e2.lt
          clear hx
          go_wp2
          try go_region
          try go_wp2
          go_roundw
          case rel =>
            have hbs := e2.set (k := n) (e8 x)
            have hst := hset.out
            rw [Hsa.out] at hst
            rw [vb_set, hst] at hbs
            first
              | exact ⟨r + 1, by omega, by go_num, e0.other _ (by omega), e1.other _ (by omega), (by rw [← Nat.add_assoc, ← Hn.out]; exact hbs), bx.setCell (by show w.heap.size ≤ B2; omega) _⟩
              | (repeat apply Exists.intro
                 exact ⟨⟨r + 1, by omega, by go_num, e0.other _ (by omega), e1.other _ (by omega), (by rw [← Nat.add_assoc, ← Hn.out]; exact hbs), bx.setCell (by show w.heap.size ≤ B2; omega) _⟩, rfl⟩)
          case measure => simp [intOf]; omega
        · obtain rfl : r = 4 := by omega
          go_wp2
          go_roundw
          case rel =>
            first
              | exact ⟨c + 1, by omega, by go_num, e0, e1, e2, bx⟩
              | (repeat apply Exists.intro
                 exact ⟨⟨c + 1, by omega, by go_num, e0, e1, e2, bx⟩, rfl⟩)
          case measure => simp [intOf]; omega
    · obtain rfl : c = 4 := by omega
      rw [part_all _ _ 16 Hl2.out Hz.out] at d2
      go_wp2_with (first
        | (refine wpList_loadA rfl _ _ rfl rfl d2 Tryd.underlying83 hsz2 ?_)
        | (refine wpList_storeN rfl _ _ _ rfl rfl (ys := vb (shift s)) rfl d1 (by rw [vb_len, vb_len, Hl2.out]; rfl) (vb_one _) hsz2 ?_; intro w9 hb9 hg9))
      exact bodyPost_ret (v := arrV (vb (shift s))) (results_arr Tryd.results102 _ hb9 Tryd.underlying83 hsz2 rfl) rfl ⟨rfl, below_row bt hg9 (by omega) bt.size⟩
end Go.Proofs.YteecbjpnnklbpaaDoor.Aes

/- The walks of aes.column and Mix. -/
namespace Go.Proofs.YteecbjpnnklbpaaDoor.Aes
open Go.RowKit
open Go.Proofs.YteecbjpnnklbpaaDoor.Gf
set_option linter.unusedVariables false
set_option maxRecDepth 100000

theorem size4 : (Tryd.prog.info? 112).map (·.size) = some 4 := by kernel_rfl
theorem size8 : (Tryd.prog.info? 5).map (·.size) = some 1 := by kernel_rfl
theorem zeroV4 (w : World) : (zeroValue 112).run Tryd.prog w = .ok (arrV (vb [0, 0, 0, 0])) w := by kernel_rfl
theorem run_arrayAt4 (w : World) (a : Addr) (c : Nat) : (Instr.arrayAt 112 (.slice (some a) 4 c)).run Tryd.prog w = .ok (.pointer (some a)) w := by
  simp [Instr.arrayAt, run_underlying Tryd.underlying112, go_sem]
set_option maxHeartbeats 400000 in
theorem column_any (g o c : Nat) (x : Col) (w : World) (hr : w.rangeAt g o (vb (colL x))) :
    Calls Tryd.prog 109 #[.slice (some ⟨g, o, none⟩) 4 c] w fun e w' => ∃ A, e = .returned (.slice (some A) 4 4) ∧ Rd w' w'.heap.size (some A) (vb (colL (mix x))) ∧ Below w.heap.size w w' := by
  have hat := run_arrayAt4 w ⟨g, o, none⟩ c
  have hcol : ∀ w, Calls Tryd.prog 121 #[arrV (vb (colL x))] w fun e w' => e = .returned (arrV (vb (colL (mix x)))) ∧ Below w.heap.size w w' := Gf.column_any x
  have Hcol := Lib.hid hcol
  clear hcol
  go_enter Tryd.func109, Tryd.ntmps109
  go_wp2_with (first
    | ((with_reducible show wpList _ _ _ (⟨some 6, _, _, _, _, _⟩ :: _) _ _); refine wpList_load_mid rfl _ _ rfl g o rfl (vb (colL x)) _ hr Tryd.underlying112 rfl size4 ?_)
    | fail)
  refine (Hcol.out w).mono ?_
  rintro e w1 ⟨rfl, b1⟩
  go_wp2_with (first
    | (refine wpList_allocN rfl _ rfl (vb [0, 0, 0, 0]) zeroV4 ?_; intro w2 hb2 bw2 hs2; have bt2 := bt b1 bw2)
    | (refine wpList_storeN rfl _ _ _ rfl rfl (ys := vb (colL (mix x))) rfl hb2 rfl (vb_one _) size4 ?_; intro w3 hb3 hg3)
    | fail)
  go_ret
  exact ⟨_, rfl, hb3.rd, below_row bt2 hg3 b1.size bt2.size⟩
end Go.Proofs.YteecbjpnnklbpaaDoor.Aes

/- The walk of aes.Mix. -/
namespace Go.Proofs.YteecbjpnnklbpaaDoor.Aes
open Go.RowKit
open Go.Proofs.YteecbjpnnklbpaaDoor.Gf
set_option linter.unusedVariables false
set_option maxRecDepth 100000
theorem step_copyN {P : Program} {w : World} {ops : Array Oper} {o : Oper} {a : Act} {K : Act → World → Prop} {Q : Exit → Act → World → Prop} {E : Prop} (hgd : o.guard = none) (d s : Operand) (t t' : TypeId)
    (ho : o.op = .call { callee := .builtin .copy, args := #[d, s], argTypes := #[t, t'] }) {g off dLen dCap : Nat} {ad : Addr} {sLen sCap : Nat} (hd : a.eval d = .slice (some ⟨g, off, none⟩) dLen dCap) (hs : a.eval s = .slice (some ad) sLen sCap)
    (cs : List Value) (hn : cs.length = Nat.min sLen dLen) {e : TypeId} (hu : P.underlying t = some (.slice e)) (hi : (P.info? e).map (·.size) = some 1) {xs : List Value} (hb : Blk w g xs) (hfit : off + cs.length ≤ xs.length)
    (hsrc : ∀ j v, cs[j]? = some v → w.cell? (ad.add j) = some v) (h1 : ∀ v ∈ cs, v.oneCell' = true)
    (h : ∀ w1, Blk w1 g (splice xs off cs) → w.grownBy w1 (some g) → K (a.put o.dst (goInt cs.length)) w1) :
    if Region.wanted o (yielded ops a.tmps) = true then Oper.wp P o a w K Q else E := by
  rw [if_pos (by simp [Region.wanted, hgd])]
  have hr := run_copy_cells (P := P) w t t' o.type e g off dLen dCap ad sLen sCap cs hu hi hn hsrc (fun j hj => by rw [hb.cell (show off + j < xs.length by omega)]; rfl) (fun j _ => hb.free _) h1
  unfold Oper.wp execOp
  simp only [ho, resolve, invoke, builtin, Sem.run_bind, Sem.run_pure, Result.andThen_ok, List.map_toArray, List.map_cons, List.map_nil, hd, hs, hr]
  exact h _ (hb.setCells cs off) (setCells_grown g cs off w)
theorem mix_at4 (s : List UInt8) (c j : Nat) (hc : c < 4) (hj : j < 4) : (mixS s).getD (4 * c + j) 0 = colGet (mix (colOf s c)) j := by
  have h := of16_at (fun i => colGet (mix (colOf s (i / 4))) i) (4 * c + j) (by omega)
  rw [show (4 * c + j) / 4 = c by omega] at h
  rw [show (mixS s).getD (4 * c + j) 0 = _ from h]
  unfold colGet
  rw [show (4 * c + j) % 4 = j % 4 by omega]
theorem splice_mix (s : List UInt8) (hs : s.length = 16) (c : Nat) (hc : c < 4) : splice (vb (part (mixS s) s (4 * c))) (4 * c) (vb (colL (mix (colOf s c)))) = vb (part (mixS s) s (4 * (c + 1))) := by
  have hm := mix_len s
  have h0 := mix_at4 s c 0 hc (by omega)
  have h1 := mix_at4 s c 1 hc (by omega)
  have h2 := mix_at4 s c 2 hc (by omega)
  have h3 := mix_at4 s c 3 hc (by omega)
  have p0 := part_set (mixS s) s (4 * c) 16 hm hs (by omega)
  have p1 := part_set (mixS s) s (4 * c + 1) 16 hm hs (by omega)
  have p2 := part_set (mixS s) s (4 * c + 2) 16 hm hs (by omega)
  have p3 := part_set (mixS s) s (4 * c + 3) 16 hm hs (by omega)
  rw [Nat.add_zero] at h0
  rw [h0] at p0
  rw [h1] at p1
  rw [h2] at p2
  rw [h3] at p3
  show (((((vb (part (mixS s) s (4 * c))).set (4 * c) (e8 (mix (colOf s c)).a)).set (4 * c + 1) (e8 (mix (colOf s c)).b)).set (4 * c + 1 + 1) (e8 (mix (colOf s c)).c)).set (4 * c + 1 + 1 + 1) (e8 (mix (colOf s c)).d)) = _
  rw [vb_set, show (part (mixS s) s (4 * c)).set (4 * c) (mix (colOf s c)).a = _ from p0, vb_set, show (part (mixS s) s (4 * c + 1)).set (4 * c + 1) (mix (colOf s c)).b = _ from p1, vb_set,
    show (part (mixS s) s (4 * c + 1 + 1)).set (4 * c + 1 + 1) (mix (colOf s c)).c = _ from p2, vb_set, show (part (mixS s) s (4 * c + 1 + 1 + 1)).set (4 * c + 1 + 1 + 1) (mix (colOf s c)).d = _ from p3]
  rfl
theorem range_col {w : World} {g : Nat} {s m : List UInt8} {c : Nat} (hs : s.length = 16) (hm : m.length = 16) (hc : c < 4) (h : Blk w g (vb (part m s (4 * c)))) : w.rangeAt g (4 * c) (vb (colL (colOf s c))) := by
  have hb : ∀ j, j < 4 → w.cell? ⟨g, 4 * c + j, none⟩ = some (e8 (s.getD (4 * c + j) 0)) := fun j hj => by
    rw [Blk.byte h (k := 4 * c + j) (by rw [part_len _ _ (4 * c) 16 hm hs (by omega)]; omega), part_old _ _ (4 * c) (4 * c + j) 16 hm hs (by omega) (by omega)]
  intro j v hv
  match j, hv with
  | 0, hv => cases hv; exact hb 0 (by omega)
  | 1, hv => cases hv; exact hb 1 (by omega)
  | 2, hv => cases hv; exact hb 2 (by omega)
  | 3, hv => cases hv; exact hb 3 (by omega)
  | j + 4, hv => simp [vb, colL] at hv
theorem run_slice16 (B n p : Nat) (hp : p = n + 4) (h : n + 4 ≤ 16) (w : World) :
    (Instr.sliceAt 83 (.pointer (some ⟨B, 0, none⟩)) (some (.int .i64 (n : Int))) (some (.int .i64 (p : Int))) none).run Tryd.prog w = .ok (.slice (some ⟨B, n, none⟩) 4 (16 - n)) w := by
  have h2 : (p : Int) ≤ 16 := by omega
  have h3 : p - n = 4 := by omega
  have h4 : n ≤ p := by omega
  simp [Instr.sliceAt, run_underlying Tryd.underlying83, go_sem, h2, h3, h4]
  omega
set_option maxHeartbeats 800000 in
theorem mix_any (s : List UInt8) (hs : s.length = 16) (w : World) : Calls Tryd.prog 90 #[stV s] w fun e w' => e = .returned (stV (mixS s)) ∧ Below w.heap.size w w' := by
  have Hs := Lib.hid hs
  have hl2 := mix_len s
  have hsz2 := sizeL hl2
  have Hl2 := Lib.hid hl2
  clear hs hl2
  unfold stV
  go_enter Tryd.func90, Tryd.ntmps90
  go_wp2_with (first
    | (refine wpList_boxN rfl _ _ rfl (vb s) rfl ?_; intro w1 hb1 bw1 hs1)
    | (refine wpList_allocN rfl _ rfl (vb zero16) zeroV16 ?_; intro w2 hb2 bw2 hs2; have hb12 := hb1.on bw2; have bt2 := bt bw1 bw2)
    | fail)
  have l01 : w.heap.size < w1.heap.size := hs1
  obtain ⟨B1, hB1⟩ : ∃ B, B = w1.heap.size := ⟨_, rfl⟩
  rw [← hB1] at hb2 l01 ⊢
  clear hB1 hb1 bw1 bw2 hs1 hs2
  go_loopw [3] (fun i wr => ∃ c n : Nat, c ≤ 4 ∧ n = 4 * c ∧ i = .int .i64 n ∧ Blk wr w.heap.size (vb (part (mixS s) s (4 * c))) ∧ Blk wr B1 (vb zero16) ∧ Below w.heap.size w wr) (fun i _ => 16 - (intOf i).toNat)
  case atStart => exact ⟨0, 0, by omega, rfl, rfl, by rw [Nat.mul_zero, part_zero]; exact hb12, hb2, bt2⟩
  case round =>
    obtain ⟨c, n, hc, hn, rfl, d0, d1, bt0⟩ := hrel
    by_cases hlt : c < 4
    · have hrg := range_col Hs.out Hl2.out hlt d0
      have hsp := Lib.hid (splice_mix s Hs.out c hlt)
      obtain ⟨X, hX⟩ : ∃ X, X = colOf s c := ⟨_, rfl⟩
      rw [← hX] at hrg hsp
      rw [← hn] at hsp hrg d0
      have hpl := Lib.hid (part_len (mixS s) s n 16 Hl2.out Hs.out (by omega))
      have hnb : n < 16 := by omega
      have hn12 : n + 4 ≤ 16 := by omega
      obtain ⟨p, hp⟩ : ∃ p, p = n + 4 := ⟨_, rfl⟩
      have hwp : IntKind.i64.wrap ((n : Int) + 4) = (p : Int) := by rw [IntKind.wrap_i64]; omega
      have hsl := run_slice16 w.heap.size n p hp (by omega)
      have Hp := Lib.hid hp
      clear hp
      have Hn := Lib.hid hn
      clear hX hn
      have hB := d0.lt
      go_wp2
      go_region_held3 (fun w' => True) (trivial)
        (first
        | (go_at_call 109; refine (column_any w.heap.size n _ X _ (by exact hrg)).mono ?_; rintro e w3 ⟨A1, rfl, r1, b3⟩; have e0 : Blk w3 w.heap.size (vb (part (mixS s) s n)) := Blk.below (by exact d0) b3 hB)
        | (refine step_copyN (by rfl) _ _ _ _ (by rfl) (by rfl) (by rfl) (vb (colL (mix X))) (by rfl) Tryd.underlying37 size8 e0 (by rw [vb_len, vb_len, hpl.out]; exact hn12) (by intro j v hv; obtain ⟨b, off, hA, hl, hcell⟩ := r1 (by simp [vb, colL]); cases hA; have hj := (List.getElem?_eq_some_iff.1 hv); obtain ⟨hj, hv'⟩ := hj; rw [Addr.add_lit, hcell j hj, hv']) (vb_one _) ?_; intro w4 hb4 hg4; rw [hsp.out] at hb4)
        | fail)
      go_wp2
      go_roundw
      case rel =>
        refine ⟨c + 1, n + 4, by omega, by have := Hn.out; omega, by rw [Hp.out], hb4, ?_, ?_⟩
        · exact (Blk.grown (Blk.below (by exact d1) b3 d1.lt) hg4 (by simp; omega))
        · exact below_row (bt0.trans (Below.trans (by exact (Below.refl _ _).drew) (b3.mono bt0.size))) hg4 (Nat.le_refl _) (Nat.le_trans bt0.size b3.size)
      case measure => simp [intOf]; have := Hp.out; omega
    · obtain rfl : c = 4 := by omega
      rw [part_all _ _ 16 Hl2.out Hs.out] at d0
      subst hn
      go_wp2_with (first
        | (refine wpList_loadA rfl _ _ rfl rfl d0 Tryd.underlying83 hsz2 ?_)
        | (refine wpList_storeN rfl _ _ _ rfl rfl (ys := vb (mixS s)) rfl d1 (by rw [vb_len, vb_len, Hl2.out]; rfl) (vb_one _) hsz2 ?_; intro w9 hb9 hg9))
      exact bodyPost_ret (v := arrV (vb (mixS s))) (results_arr Tryd.results90 _ hb9 Tryd.underlying83 hsz2 rfl) rfl ⟨rfl, below_row bt0 hg9 (by omega) bt0.size⟩
end Go.Proofs.YteecbjpnnklbpaaDoor.Aes

/- The walk of the reference's Mix. -/
namespace Go.Proofs.YteecbjpnnklbpaaDoor.Aes
open Go.RowKit
open Go.Proofs.YteecbjpnnklbpaaDoor.Gf
set_option linter.unusedVariables false
set_option maxRecDepth 100000
theorem step_allocN {P : Program} {w : World} {ops : Array Oper} {o : Oper} {a : Act} {K : Act → World → Prop} {Q : Exit → Act → World → Prop} {E : Prop} (hgd : o.guard = none) (t : TypeId) (ho : o.op = .alloc t) (xs : List Value)
    (hz : ∀ w, (zeroValue t).run P w = .ok (arrV xs) w)
    (h : ∀ w1, Blk w1 w.heap.size xs → Below w.heap.size w w1 → w.heap.size < w1.heap.size → K (a.put o.dst (.pointer (some ⟨w.heap.size, 0, none⟩))) w1) :
    if Region.wanted o (yielded ops a.tmps) = true then Oper.wp P o a w K Q else E := by
  rw [if_pos (by simp [Region.wanted, hgd])]
  unfold Oper.wp execOp
  simp only [ho]
  simp [Instr.alloc, hz, go_sem, arrV]
  exact h _ (Blk.new w xs t) (b1alloc _ _) (by simp)
theorem step_storeN {P : Program} {w : World} {ops : Array Oper} {o : Oper} {a : Act} {K : Act → World → Prop} {Q : Exit → Act → World → Prop} {E : Prop} (hgd : o.guard = none) (t : TypeId) (x y : Operand) (ho : o.op = .store t x y)
    {g : Nat} (hx : a.eval x = .pointer (some ⟨g, 0, none⟩)) {xs ys : List Value} (hy : a.eval y = arrV ys) (hb : Blk w g xs) (hl : xs.length = ys.length) (h1 : ∀ v ∈ ys, v.oneCell' = true) (hi : (P.info? t).map (·.size) = some ys.length)
    (h : ∀ w1, Blk w1 g ys → w.grownBy w1 (some g) → K (a.put o.dst undef) w1) :
    if Region.wanted o (yielded ops a.tmps) = true then Oper.wp P o a w K Q else E := by
  rw [if_pos (by simp [Region.wanted, hgd])]
  obtain ⟨t', hb'⟩ := hb
  have := run_storeVar_row (P := P) w g t' t _ ys.toArray hb' (by simpa using hi) (by simpa using hl) (by simpa using h1)
  unfold Oper.wp execOp
  simp only [ho, hx, hy]
  simp [Instr.storeAt, Instr.sureAddr, this, arrV]
  exact h _ (Blk.setRow ⟨t', hb'⟩) (setRow_grown _ _ _)
set_option maxHeartbeats 1600000 in
theorem rmix_any (s : List UInt8) (hs : s.length = 16) (w : World) : Calls Tryd.prog 104 #[stV s] w fun e w' => e = .returned (stV (mixS s)) ∧ Below w.heap.size w w' := by
  have Hs := Lib.hid hs
  have hl2 := mix_len s
  have hsz2 := sizeL hl2
  have Hl2 := Lib.hid hl2
  have hlz : zero16.length = 16 := rfl
  have Hz := Lib.hid hlz
  clear hs hl2 hlz
  have hcol : ∀ (x : Col) (w : World), Calls Tryd.prog 118 #[.agg #[e8 x.a, e8 x.b, e8 x.c, e8 x.d]] w fun e w' => e = .returned (.agg #[e8 (mix x).a, e8 (mix x).b, e8 (mix x).c, e8 (mix x).d]) ∧ Below w.heap.size w w' := Gf.rcolumn_any
  have Hcol := Lib.hid hcol
  clear hcol
  unfold stV
  go_enter Tryd.func104, Tryd.ntmps104
  go_wp2_with (first
    | (refine wpList_boxN rfl _ _ rfl (vb s) rfl ?_; intro w1 hb1 bw1 hs1)
    | ((with_reducible show wpList _ _ _ (⟨some 2, _, _, _, _, _⟩ :: _) _ _); refine wpList_allocN rfl _ rfl (vb zero16) zeroV16 ?_; intro w2 hb2 bw2 hs2; have hb12 := hb1.on bw2; have bt2 := bt bw1 bw2)
    | ((with_reducible show wpList _ _ _ (⟨some 3, _, _, _, _, _⟩ :: _) _ _); refine wpList_allocN rfl _ rfl (vb zero16) zeroV16 ?_; intro w3 hb3 bw3 hs3; have hb13 := hb12.on bw3; have hb23 := hb2.on bw3; have bt3 := bt bt2 bw3)
    | fail)
  have l01 : w.heap.size < w1.heap.size := hs1
  have l12 : w1.heap.size < w2.heap.size := hs2
  obtain ⟨B1, hB1⟩ : ∃ B, B = w1.heap.size := ⟨_, rfl⟩
  obtain ⟨B2, hB2⟩ : ∃ B, B = w2.heap.size := ⟨_, rfl⟩
  rw [← hB1] at hb23 l01 l12 ⊢
  rw [← hB2] at hb3 l12 ⊢
  clear hB1 hB2 hb1 hb2 hb12 bw1 bw2 bw3 hs1 hs2 hs3 bt2
  go_loopw [4] (fun i wr => ∃ c : Nat, c ≤ 4 ∧ i = .int .i64 c ∧ Blk wr w.heap.size (vb s) ∧ Blk wr B1 (vb zero16) ∧ Blk wr B2 (vb (part (mixS s) zero16 (4 * c))) ∧ Below w.heap.size w wr) (fun i _ => 4 - (intOf i).toNat)
  case atStart => exact ⟨0, by omega, rfl, hb13, hb23, by rw [Nat.mul_zero, part_zero]; exact hb3, bt3⟩
  case round =>
    obtain ⟨c, hc, rfl, d0, d1, d2, bt0⟩ := hrel
    clear hb13 hb23 hb3 bt3
    by_cases hlt : c < 4
    · obtain ⟨n, hn⟩ : ∃ n, n = 4 * c := ⟨_, rfl⟩
      obtain ⟨X, hX⟩ : ∃ X, X = colOf s c := ⟨_, rfl⟩
      have g0 := Blk.byte d0 (k := n) (by rw [Hs.out]; omega)
      have g1 := Blk.byte d0 (k := n + 1) (by rw [Hs.out]; omega)
      have g2 := Blk.byte d0 (k := n + 2) (by rw [Hs.out]; omega)
      have g3 := Blk.byte d0 (k := n + 3) (by rw [Hs.out]; omega)
      rw [show s.getD n 0 = X.a by rw [hX, hn]; rfl] at g0
      rw [show s.getD (n + 1) 0 = X.b by rw [hX, hn]; rfl] at g1
      rw [show s.getD (n + 2) 0 = X.c by rw [hX, hn]; rfl] at g2
      rw [show s.getD (n + 3) 0 = X.d by rw [hX, hn]; rfl] at g3
      have hw0 : IntKind.i64.wrap (4 * (c : Int)) = (n : Int) := by rw [IntKind.wrap_i64]; omega
      obtain ⟨n1, hn1⟩ : ∃ m, m = n + 1 := ⟨_, rfl⟩
      obtain ⟨n2, hn2⟩ : ∃ m, m = n + 2 := ⟨_, rfl⟩
      obtain ⟨n3, hn3⟩ : ∃ m, m = n + 3 := ⟨_, rfl⟩
      have hw1 : IntKind.i64.wrap ((n : Int) + 1) = (n1 : Int) := by rw [IntKind.wrap_i64]; omega
      have hw2 : IntKind.i64.wrap ((n : Int) + 2) = (n2 : Int) := by rw [IntKind.wrap_i64]; omega
      have hw3 : IntKind.i64.wrap ((n : Int) + 3) = (n3 : Int) := by rw [IntKind.wrap_i64]; omega
      rw [← hn1] at g1
      rw [← hn2] at g2
      rw [← hn3] at g3
      have q0 : n < 16 := by omega
      have q1 : n1 < 16 := by omega
      have q2 : n2 < 16 := by omega
      have q3 : n3 < 16 := by omega
      have z0 : (n : Int) < 16 := by omega
      have z1 : (n1 : Int) < 16 := by omega
      have z2 : (n2 : Int) < 16 := by omega
      have z3 : (n3 : Int) < 16 := by omega
      have hB := d0.lt
      have HX := Lib.hid hX
      have Hn := Lib.hid hn
      clear hn hn1 hn2 hn3 hX
      go_wp2
      have hcx := Hcol.out X
      obtain ⟨Y, hY⟩ : ∃ Y, Y = mix X := ⟨_, rfl⟩
      rw [← hY] at hcx
      have HY := Lib.hid hY
      have Hcx := Lib.hid hcx
      clear hY hcx
      have bel0 : Below wr.heap.size wr wr.drew := (Below.refl _ _).drew
      have lB2 := d2.lt
      have HK : ∀ W, Below wr.heap.size wr W → W.cell? ⟨w.heap.size, n, none⟩ = some (e8 X.a) ∧ W.cell? ⟨w.heap.size, n1, none⟩ = some (e8 X.b) ∧ W.cell? ⟨w.heap.size, n2, none⟩ = some (e8 X.c) ∧ W.cell? ⟨w.heap.size, n3, none⟩ = some (e8 X.d) := fun W hW =>
        ⟨(hW.cell (p := ⟨w.heap.size, n, none⟩) hB).trans g0, (hW.cell (p := ⟨w.heap.size, n1, none⟩) hB).trans g1, (hW.cell (p := ⟨w.heap.size, n2, none⟩) hB).trans g2, (hW.cell (p := ⟨w.heap.size, n3, none⟩) hB).trans g3⟩
      have HK' := Lib.hid HK
      clear HK
      go_region_held3 (fun w' => w'.cell? ⟨w.heap.size, n, none⟩ = some (e8 X.a) ∧ w'.cell? ⟨w.heap.size, n1, none⟩ = some (e8 X.b) ∧ w'.cell? ⟨w.heap.size, n2, none⟩ = some (e8 X.c) ∧ w'.cell? ⟨w.heap.size, n3, none⟩ = some (e8 X.d)) (first | (refine HK'.out _ ?_; first | exact bc | exact bel0 | exact bt bc (b1alloc _ _) | exact bset (bset (bset (bset bc (Nat.le_refl _) _) (Nat.le_refl _) _) (Nat.le_refl _) _) (Nat.le_refl _) _ | exact bt bel0 (b1alloc _ _)))
        (first
        | (go_at_call 118; refine (Hcx.out _).mono ?_; rintro e w3 ⟨rfl, b3⟩; have bc : Below wr.heap.size wr w3 := (by first | exact bt bel0 b3 | exact bt (bt bel0 (b1alloc _ _)) b3); try (have hchk : Below (wr.drew.alloc (.cells #[.int .u8 0, .int .u8 0, .int .u8 0, .int .u8 0] 112)).heap.size (wr.drew.alloc (.cells #[.int .u8 0, .int .u8 0, .int .u8 0, .int .u8 0] 112)) w3 := b3; have y0 : w3.cell? ⟨wr.heap.size, 0, none⟩ = some (.int .u8 0) := (by rw [b3.cell (by simp)]; simp); have y1 : w3.cell? ⟨wr.heap.size, 1, none⟩ = some (.int .u8 0) := (by rw [b3.cell (by simp)]; simp); have y2 : w3.cell? ⟨wr.heap.size, 2, none⟩ = some (.int .u8 0) := (by rw [b3.cell (by simp)]; simp); have y3 : w3.cell? ⟨wr.heap.size, 3, none⟩ = some (.int .u8 0) := (by rw [b3.cell (by simp)]; simp); have yf : ∀ k, w3.frozen? ⟨wr.heap.size, k, none⟩ = false := (by intro k; rw [b3.frozen (by simp)]; simp)))
        | fail)
      all_goals
        first
        | (have f3 : Blk ((((w3.setCell ⟨wr.heap.size, 0, none⟩ (.int .u8 (Y.a.toNat : Int))).setCell ⟨wr.heap.size, 1, none⟩ (.int .u8 (Y.b.toNat : Int))).setCell ⟨wr.heap.size, 2, none⟩ (.int .u8 (Y.c.toNat : Int))).setCell ⟨wr.heap.size, 3, none⟩ (.int .u8 (Y.d.toNat : Int))) wr.heap.size (vb (colL Y)) := (((((Blk.new wr.drew (vb [0, 0, 0, 0]) 112).on hchk).set (k := 0) (e8 Y.a)).set (k := 1) (e8 Y.b)).set (k := 2) (e8 Y.c)).set (k := 3) (e8 Y.d)
           have bW : Below wr.heap.size wr ((((w3.setCell ⟨wr.heap.size, 0, none⟩ (.int .u8 (Y.a.toNat : Int))).setCell ⟨wr.heap.size, 1, none⟩ (.int .u8 (Y.b.toNat : Int))).setCell ⟨wr.heap.size, 2, none⟩ (.int .u8 (Y.c.toNat : Int))).setCell ⟨wr.heap.size, 3, none⟩ (.int .u8 (Y.d.toNat : Int))) := bset (bset (bset (bset bc (Nat.le_refl _) _) (Nat.le_refl _) _) (Nat.le_refl _) _) (Nat.le_refl _) _
           obtain ⟨W1, hW1⟩ : ∃ W, W = ((((w3.setCell ⟨wr.heap.size, 0, none⟩ (.int .u8 (Y.a.toNat : Int))).setCell ⟨wr.heap.size, 1, none⟩ (.int .u8 (Y.b.toNat : Int))).setCell ⟨wr.heap.size, 2, none⟩ (.int .u8 (Y.c.toNat : Int))).setCell ⟨wr.heap.size, 3, none⟩ (.int .u8 (Y.d.toNat : Int))) := ⟨_, rfl⟩
           rw [← hW1] at f3 bW ⊢
           obtain ⟨B3, hB3⟩ : ∃ B, B = wr.heap.size := ⟨_, rfl⟩
           have lB3 : wr.heap.size ≤ B3 := by omega
           rw [← hB3] at f3 ⊢
           clear hW1 hB3 hchk y0 y1 y2 y3 yf)
        | (have f3 : Blk (w3.alloc (.cells #[.int .u8 (Y.a.toNat : Int), .int .u8 (Y.b.toNat : Int), .int .u8 (Y.c.toNat : Int), .int .u8 (Y.d.toNat : Int)] 112)) w3.heap.size (vb (colL Y)) := Blk.new w3 (vb (colL Y)) 112
           have bW : Below wr.heap.size wr (w3.alloc (.cells #[.int .u8 (Y.a.toNat : Int), .int .u8 (Y.b.toNat : Int), .int .u8 (Y.c.toNat : Int), .int .u8 (Y.d.toNat : Int)] 112)) := bt bc (b1alloc _ _)
           have lB3' := bc.size
           obtain ⟨W1, hW1⟩ : ∃ W, W = (w3.alloc (.cells #[.int .u8 (Y.a.toNat : Int), .int .u8 (Y.b.toNat : Int), .int .u8 (Y.c.toNat : Int), .int .u8 (Y.d.toNat : Int)] 112)) := ⟨_, rfl⟩
           rw [← hW1] at f3 bW ⊢
           obtain ⟨B3, hB3⟩ : ∃ B, B = w3.heap.size := ⟨_, rfl⟩
           have lB3 : wr.heap.size ≤ B3 := by omega
           rw [← hB3] at f3 ⊢
           clear hW1 hB3 lB3')
        have f0 := d0.on bW
        have f1 := d1.on bW
        have f2 := d2.on bW
        have btW := bt bt0 bW
        clear b3 bc bW d0 d1 d2 bt0 g0 g1 g2 g3
        have lBW : B2 < B3 := by omega
        have HY2 := Lib.hid (show ∀ r, r < 4 → (mixS s).getD (n + r) 0 = (colL Y).getD r 0 by
          intro r hr
          rw [colL_get _ _ hr, HY.out, HX.out, Hn.out]
          exact mix_at4 s c r hlt hr)
        go_wp2
        go_loopw [6] (fun i wx => ∃ r : Nat, r ≤ 4 ∧ i = .int .i64 r ∧ Blk wx w.heap.size (vb s) ∧ Blk wx B1 (vb zero16) ∧ Blk wx B2 (vb (part (mixS s) zero16 (n + r))) ∧ Blk wx B3 (vb (colL Y)) ∧ Below w.heap.size w wx) (fun i _ => 4 - (intOf i).toNat)
        case atStart => exact ⟨0, by omega, rfl, f0, f1, by rw [Nat.add_zero, Hn.out]; exact f2, f3, btW⟩
        case round =>
          obtain ⟨r, hr, rfl, e0, e1, e2, e3, bx⟩ := hrel
          clear f0 f1 f2 f3 btW
          by_cases hlr : r < 4
          · have hnn := Hn.out
            have hset := Lib.hid (part_set (mixS s) zero16 (n + r) 16 Hl2.out Hz.out (by omega))
            have hv := Lib.hid (HY2.out r hlr)
            have hcc := Blk.byte e3 (k := r) (by simp [colL]; omega)
            have hct := Blk.byte e2 (k := n + r) (by rw [part_len _ _ (n + r) 16 Hl2.out Hz.out (by omega)]; omega)
            obtain ⟨m, hm⟩ : ∃ m, m = n + r := ⟨_, rfl⟩
            have hmI : (n : Int) + (r : Int) = (m : Int) := by omega
            have hmlt : m < 16 := by omega
            have hmlI : (m : Int) < 16 := by omega
            rw [← hm] at hset hv e2 hct
            have Hm := Lib.hid hm
            clear hm hnn
            have hf := e2.free m
            obtain ⟨x, hx⟩ : ∃ x, x = (colL Y).getD r 0 := ⟨_, rfl⟩
            rw [← hx] at hcc hv
            have hBB := e2.lt
            have hB3 := e3.lt
            clear hx
            go_wp2
            go_roundw
            case rel =>
              have hbs := e2.set (k := m) (e8 x)
              have hst := hset.out
              rw [hv.out] at hst
              rw [vb_set, hst] at hbs
              exact ⟨r + 1, by omega, by go_num, e0.other _ (by omega), e1.other _ (by omega), (by rw [← Nat.add_assoc, ← Hm.out]; exact hbs), e3.other _ (by omega), bx.setCell (by show w.heap.size ≤ B2; omega) _⟩
            case measure => simp [intOf]; omega
          · obtain rfl : r = 4 := by omega
            go_wp2
            go_roundw
            case rel => exact ⟨c + 1, by omega, by go_num, e0, e1, (by have := Hn.out; rw [show 4 * (c + 1) = n + 4 by omega]; exact e2), bx⟩
            case measure => simp [intOf]; omega
    · obtain rfl : c = 4 := by omega
      rw [part_all _ _ 16 Hl2.out Hz.out] at d2
      go_wp2_with (first
        | (refine wpList_loadA rfl _ _ rfl rfl d2 Tryd.underlying83 hsz2 ?_)
        | (refine wpList_storeN rfl _ _ _ rfl rfl (ys := vb (mixS s)) rfl d1 (by rw [vb_len, vb_len, Hl2.out]; rfl) (vb_one _) hsz2 ?_; intro w9 hb9 hg9))
      exact bodyPost_ret (v := arrV (vb (mixS s))) (results_arr Tryd.results104 _ hb9 Tryd.underlying83 hsz2 rfl) rfl ⟨rfl, below_row bt0 hg9 (by omega) bt0.size⟩
end Go.Proofs.YteecbjpnnklbpaaDoor.Aes
