/- The walk of the document's Take at bytes. -/
import Derived.Test.YtdkcdojcglmlbaaLRead
namespace Go.Proofs.Ytdkcdojcglmlbaa.Read
open Go.RowKit Wire
set_option linter.unusedVariables false
set_option maxRecDepth 100000

set_option maxHeartbeats 1600000 in
theorem take_2 (A : Option Addr) (l : List UInt8) (n cap : Nat) (size : Int) (hs0 : -9223372036854775808 ≤ size) (hs1 : size ≤ 9223372036854775807) (w : World) (hn : n = l.length) (B : Nat) (hB : B ≤ w.heap.size) (hr : Rd w B A (l.map e8)) (hl : l.length ≤ 300) (hc : l.length ≤ cap) (hcm : cap ≤ maxLen) :
    Calls Try.prog 25 #[.slice A n cap, .int .i64 2, .int .i64 size] w fun e w' => TookF w B l e w' (takeP 2 size l) := by
  subst hn
  unfold maxLen at hcm
  by_cases h2 : 2 ≤ l.length
  · have hg := getN_two (l := l) (by omega) (by omega)
    obtain ⟨b, off, rfl, hbb, hc0⟩ := hr.get (k := 0) (by simp; omega)
    obtain ⟨b', off', e', hbb', hc1⟩ := hr.get (k := 1) (by simp; omega)
    have hbb := Nat.lt_of_lt_of_le hbb hB
    injection e' with e'
    injection e' with e1 e2 _
    subst e1 e2
    rw [List.getElem_map] at hc0 hc1
    rw [Nat.add_zero] at hc0
    have hx0 : (l[0].toNat : Int) ≤ 255 := by have := l[0].toNat_lt; omega
    have hx1 : (l[1].toNat : Int) ≤ 255 := by have := l[1].toNat_lt; omega
    obtain ⟨x, hx⟩ : ∃ x, x = l[0] := ⟨_, rfl⟩
    obtain ⟨y, hy⟩ : ∃ y, y = l[1] := ⟨_, rfl⟩
    rw [← hx] at hc0 hx0 hg
    rw [← hy] at hc1 hx1 hg
    clear hx hy hbb'
    have w1 : IntKind.i64.wrap ((x.toNat : Int) * 256) = (x.toNat : Int) * 256 := IntWalk.i64_in _ (by omega)
    have w2 : IntKind.i64.wrap ((x.toNat : Int) * 256 + (y.toNat : Int)) = (x.toNat : Int) * 256 + (y.toNat : Int) := IntWalk.i64_in _ (by omega)
    have w3 : IntKind.i64.wrap (x.toNat : Int) = (x.toNat : Int) := IntWalk.i64_in _ (by omega)
    have w4 : IntKind.i64.wrap (y.toNat : Int) = (y.toNat : Int) := IntWalk.i64_in _ (by omega)
    have b0 : (0 : Int) < (l.length : Int) := by omega
    have b1 : (1 : Int) < (l.length : Int) := by omega
    by_cases h : has2 size l
    · rw [takeP_2y h]
      obtain ⟨_, h3, h4⟩ := h
      rw [hg] at h3 h4 ⊢
      have Hg := Lib.hid hg
      clear hg
      go_enter Try.func25, Try.ntmps25
      go_wp2
      go_quiet (fail)
      go_wp2
      · refine bodyPost_ret (v := .tuple #[.agg #[.int .i64 2, .int .i64 0, .int .u64 0, .slice (some ⟨b, off, none⟩) (x.toNat * 256 + y.toNat) (0)], .int .i64 (2 + ((x.toNat : Int) * 256 + (y.toNat : Int))), .bool true]) (by simp [results, Try.results25, go_sem]) rfl (tookF_2 (by repeat (first | exact b1alloc _ _ | refine bset_new ?_ _ _ | refine bdrew ?_ _)) h4 (Rd.empty (by
          have : x.toNat * 256 + y.toNat = 0 := by omega
          rw [this]; simp)) (by omega))
      · refine bodyPost_ret (v := .tuple #[.agg #[.int .i64 2, .int .i64 0, .int .u64 0, .slice (some ⟨b, off + 2, none⟩) (x.toNat * 256 + y.toNat) (cap - 2)], .int .i64 (2 + ((x.toNat : Int) * 256 + (y.toNat : Int))), .bool true]) (by simp [results, Try.results25, go_sem]) rfl (tookF_2 (by repeat (first | exact b1alloc _ _ | refine bset_new ?_ _ _ | refine bdrew ?_ _)) h4 (by
          have := (hr.drop 2).take (x.toNat * 256 + y.toNat)
          rw [Option.map_some, Addr.add_lit] at this
          rw [List.map_take, List.map_drop]
          exact this) (by omega))
    · rw [takeP_2n h]
      have hno : size < ((x.toNat * 256 + y.toNat : Nat) : Int) ∨ (l.length : Int) - 2 < ((x.toNat * 256 + y.toNat : Nat) : Int) := by
        unfold has2 at h; rw [hg] at h; omega
      clear h hg
      by_cases h3 : (l.length : Int) - 2 < ((x.toNat * 256 + y.toNat : Nat) : Int)
      · go_enter Try.func25, Try.ntmps25
        go_wp2
        go_quiet (fail)
        go_wp2
        refine bodyPost_ret (v := .tuple #[.agg #[.int .i64 0, .int .i64 0, .int .u64 0, .slice none 0 0], .int .i64 (0), .bool false]) (by simp [results, Try.results25, go_sem]) rfl ⟨rfl, by repeat (first | exact b1alloc _ _ | refine bset_new ?_ _ _ | refine bdrew ?_ _)⟩
      · have h4 := hno.resolve_right h3
        clear hno
        go_enter Try.func25, Try.ntmps25
        go_wp2
        go_quiet (fail)
        go_wp2
        refine bodyPost_ret (v := .tuple #[.agg #[.int .i64 0, .int .i64 0, .int .u64 0, .slice none 0 0], .int .i64 (0), .bool false]) (by simp [results, Try.results25, go_sem]) rfl ⟨rfl, by repeat (first | exact b1alloc _ _ | refine bset_new ?_ _ _ | refine bdrew ?_ _)⟩
  · rw [takeP_2n (fun h => h2 h.1)]
    go_enter Try.func25, Try.ntmps25
    go_wp2
    refine bodyPost_ret (v := .tuple #[.agg #[.int .i64 0, .int .i64 0, .int .u64 0, .slice none 0 0], .int .i64 (0), .bool false]) (by simp [results, Try.results25, go_sem]) rfl ⟨rfl, b1alloc _ _⟩
end Go.Proofs.Ytdkcdojcglmlbaa.Read
