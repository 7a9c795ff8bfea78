/- What is written is read: plain laws on fields as bytes. -/
import Derived.Test.YtdkcdojcglmlbaaLRead2
namespace Go.Proofs.Ytdkcdojcglmlbaa.Back
open Wire
open Go.Proofs.Ytdkcdojcglmlbaa.Read
set_option linter.unusedVariables false

theorem back_0 (f : Fl) (h : f.kind = 0) (s : Int) (rest : List UInt8) : outc 0 s (enc f ++ rest) 0 = (f.n.toNat % 256, [], rest, 0) := by
  rw [enc_0 h]
  simp only [outc, if_true, List.cons_append, List.nil_append, takeP_0, UInt8.toNat_ofNat']
theorem back_1 (f : Fl) (h : f.kind = 1) (h1 : 1 ≤ f.size) (h8 : f.size ≤ 8) (rest : List UInt8) : outc 1 f.size (enc f ++ rest) 0 = (f.n.toNat % 256 ^ f.size.toNat, [], rest, 0) := by
  rw [enc_1 h, Num.put_yes h1 h8]
  have hl := Num.putL_len f.n.toNat f.size.toNat
  have ht := takeP_1y (size := f.size) (l := Num.putL f.n.toNat f.size.toNat ++ rest) ⟨h1, h8, by rw [List.length_append, hl]; omega⟩
  simp only [outc, if_true]
  rw [ht, List.take_left' hl, List.drop_left' hl, Num.getN_putL]
theorem back_2 (f : Fl) (h : f.kind = 2) (hb : f.b.length ≤ 300) (s : Int) (hs : 65535 ≤ s) (rest : List UInt8) : outc 2 s (enc f ++ rest) 0 = (0, f.b, rest, 0) := by
  rw [enc_2 h, field_few (by omega)]
  have hl := Num.putL_len f.b.length 2
  have hg : Num.getN ((Num.putL f.b.length 2 ++ f.b ++ rest).take 2) = f.b.length := by
    rw [List.append_assoc, List.take_left' hl, Num.getN_putL]
    exact Nat.mod_eq_of_lt (by omega)
  have ht := takeP_2y (size := s) (l := Num.putL f.b.length 2 ++ f.b ++ rest) ⟨by rw [List.length_append, List.length_append, hl]; omega, by rw [hg]; omega, by rw [hg, List.length_append, List.length_append, hl]; omega⟩
  simp only [outc, if_true]
  rw [ht, hg]
  rw [show (Num.putL f.b.length 2 ++ f.b ++ rest).drop 2 = f.b ++ rest by rw [List.append_assoc, List.drop_left' hl], List.take_left' rfl,
    show (Num.putL f.b.length 2 ++ f.b ++ rest).drop (2 + f.b.length) = rest from List.drop_left' (by rw [List.length_append, hl])]
theorem enc_bad (f : Fl) (h : f.kind = 1) (hs : f.size < 1 ∨ 8 < f.size) : enc f = [] := by
  rw [enc_1 h, Num.put_no hs]
theorem u64_is {n : Nat} (h : n < 18446744073709551616) : ∃ u : UInt64, u.toNat = n := ⟨UInt64.ofNat n, by rw [UInt64.toNat_ofNat']; exact Nat.mod_eq_of_lt h⟩
theorem read_0m (g : Nat) (l rest : List UInt8) (size : Int) (t : Bool) (wk ws : Int) (m : Int) (n : Nat) (hm : m = (n : Int)) (hn : n < 18446744073709551616) (wv : Value) (w : World) (ho : outc 0 size l 0 = (n, [], rest, 0)) (hr : RAt w g l 0) :
    Calls Try.prog 26 #[.pointer (some ⟨g, 0, none⟩), .int .i64 0, .int .i64 size, .bool t, .agg #[.int .i64 wk, .int .i64 ws, .int .u64 m, wv]] w (Got w g (.bool true) rest 0) := by
  obtain ⟨u, rfl⟩ := u64_is hn
  subst hm
  have := read_0 g l 0 size t wk ws u wv w hr (by rw [ho])
  rw [ho] at this
  exact this
theorem read_1m (g : Nat) (l rest : List UInt8) (size : Int) (hs0 : -9223372036854775808 ≤ size) (hs1 : size ≤ 9223372036854775807) (t : Bool) (wk ws : Int) (m : Int) (n : Nat) (hm : m = (n : Int)) (hn : n < 18446744073709551616) (wv : Value) (w : World) (ho : outc 1 size l 0 = (n, [], rest, 0)) (hr : RAt w g l 0) :
    Calls Try.prog 26 #[.pointer (some ⟨g, 0, none⟩), .int .i64 1, .int .i64 size, .bool t, .agg #[.int .i64 wk, .int .i64 ws, .int .u64 m, wv]] w (Got w g (.bool true) rest 0) := by
  obtain ⟨u, rfl⟩ := u64_is hn
  subst hm
  have := read_1 g l 0 size hs0 hs1 t wk ws u wv w hr (by rw [ho])
  rw [ho] at this
  exact this
theorem read_2m (g : Nat) (l rest : List UInt8) (size : Int) (t : Bool) (wk ws : Int) (u : UInt64) (A : Option Addr) (m : List UInt8) (c : Nat) (w : World) (B : Nat) (hm : Rd w B A (m.map e8)) (hB : B ≤ g) (hml : m.length ≤ 1000000) (ho : outc 2 size l 0 = (0, m, rest, 0)) (hr : RAt w g l 0) :
    Calls Try.prog 26 #[.pointer (some ⟨g, 0, none⟩), .int .i64 2, .int .i64 size, .bool t, .agg #[.int .i64 wk, .int .i64 ws, .int .u64 (u.toNat : Int), .slice A m.length c]] w (Got w g (.bool true) rest 0) := by
  cases t
  · have := read_2b g l 0 size wk ws u A m c w B hr hm hB (by rw [ho]) hml
    rw [ho] at this
    exact this
  · have := read_2t g l 0 size wk ws u A m c w B hr hm hB (by rw [ho])
    rw [ho] at this
    exact this
end Go.Proofs.Ytdkcdojcglmlbaa.Back
