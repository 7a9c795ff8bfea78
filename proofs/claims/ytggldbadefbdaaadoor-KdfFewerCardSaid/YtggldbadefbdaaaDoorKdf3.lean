/- The walks of kdf.Derive, Chain, Mix, Extract. -/
import Derived.Test.YtggldbadefbdaaaDoorKdf2
import Derived.Test.YtggldbadefbdaaaDoorStr
import Derived.Lib.AppendStr
namespace Go.Proofs.YtggldbadefbdaaaDoor.Kdf
open Go.RowKit
open Go.Proofs.YtggldbadefbdaaaDoor.Sha (Tab)
open Go.Proofs.YtggldbadefbdaaaDoor.Mac (mac of_any)
set_option linter.unusedVariables false
set_option maxRecDepth 100000
/-- a slice comes back that reads so; nothing that lay has turned -/
def RetD (w : World) (l : List UInt8) (e : Ending) (w' : World) : Prop :=
  ∃ A c, e = .returned (.slice A l.length c) ∧ Rd w' w'.heap.size A (l.map e8) ∧ Below w.heap.size w w'
theorem RetD.of {E : TypeId} {w w' : World} {l : List UInt8} {e : Ending} (h : RetB E w l e w') : RetD w l e w' := by
  obtain ⟨A, c, he, hown, hb⟩ := h
  exact ⟨A, c, he, Rd.own hown, hb⟩
theorem RetD.after {w w1 w2 : World} {l : List UInt8} {e : Ending} (h1 : Below w.heap.size w w1) (h : RetD w1 l e w2) : RetD w l e w2 := by
  obtain ⟨A, c, he, hr, hb⟩ := h
  exact ⟨A, c, he, hr, bt h1 hb⟩
theorem put32 : Num.putL (UInt64.ofNat 32).toNat 2 = [0, 32] := by decide
theorem wrap8 (n : Nat) : IntKind.u8.wrap (n : Int) = ((UInt8.ofNat n).toNat : Int) := by rw [IntKind.wrap_u8, UInt8.toNat_ofNat']; omega
theorem strCells_l (l : List UInt8) : Lib.strCells ⟨l.toArray⟩ = l.map e8 := rfl
theorem ba_size (l : List UInt8) : (⟨l.toArray⟩ : ByteArray).size = l.length := by simp [ByteArray.size]
theorem infoB_len (lab : List UInt8) : (infoB lab).length = 13 + lab.length := by simp [infoB, prefixB]; omega
set_option maxHeartbeats 800000 in
theorem derive_any (A : Option Addr) (k lab : List UInt8) (n c : Nat) (w : World) (hn : n = k.length) (hr : Rd w w.heap.size A (k.map e8)) (bk : k.length ≤ 1000000000) (bl : lab.length ≤ 100000) (hk : Tab w) :
    Calls Tryd.prog 44 #[.slice A n c, .string ⟨lab.toArray⟩] w fun e w' => RetD w (derive k lab) e w' := by
  subst hn
  obtain ⟨i0, hi0, hz0, hz1, hz2⟩ := info_parts info8
  have hpt := Num.put_any (UInt64.ofNat 32) 32 (by decide) 2 2 rfl (by omega) (by omega) w
  rw [put32] at hpt
  obtain ⟨t, ht⟩ : ∃ t, t = prefixB ++ lab := ⟨_, rfl⟩
  have hcat : (⟨#[111, 117, 98, 108, 105, 101, 116, 116, 101, 32]⟩ ++ ⟨lab.toArray⟩ : ByteArray) = ⟨t.toArray⟩ := by rw [ht]; exact ba_append prefixB lab
  have htl : t.length = 10 + lab.length := by rw [ht]; simp [prefixB]; omega
  have hsz := ba_size t
  have hwr := wrap8 t.length
  have hinfo : infoB lab = [0, 32] ++ [UInt8.ofNat t.length] ++ t := by rw [infoB, ← ht]; rfl
  have hil := infoB_len lab
  obtain ⟨b, hb⟩ : ∃ b, b = UInt8.ofNat t.length := ⟨_, rfl⟩
  rw [← hb] at hwr hinfo
  have Hi := Lib.hid hinfo
  have Hil := Lib.hid hil
  have Htl := Lib.hid htl
  clear ht hinfo hil htl hb
  go_enter Tryd.func44, Tryd.ntmps44
  go_wp2_with fail
  refine hpt.mono ?_
  clear hpt
  rintro e w1 ⟨A1, c1, rfl, own1, b1⟩
  go_wp2_with (at_builtin; (first
    | (refine wpList_append_rd _ rfl _ _ _ rfl w.heap.size 5 i0 _ 1 1 Tryd.underlying24 hi0 hz0 hz1 hz2 rfl (by omega) _ 2 ([0, 32].map e8) (by rfl) (own1.alloc _) _ (some ⟨w1.heap.size, 0, none⟩) 1 1 [e8 b] (by rfl) (by rfl) (rd_byte (by simp) (by simp)) (one_int _ _) (by simp only [maxLen]; omega) (by omega) (le_alloc b1.size _) ?_; intro v2 w2 own2 hg2 hat2; obtain ⟨A2, c2, rfl⟩ := own_form own2; have b2 : Below w.heap.size w w2 := (b1.alloc b1.size _).grown hg2 (le_alloc b1.size _) (fun k hk => own_block own1 hk))
    | (refine Lib.wpList_append_own_string _ rfl _ _ _ _ rfl w.heap.size 5 i0 Tryd.underlying24 Tryd.underlying9 hi0 hz0 hz1 hz2 _ 3 _ (by rfl) own2 ⟨t.toArray⟩ (by rfl) (by rw [hsz]; simp only [maxLen]; have := Htl.out; omega) (by rw [hsz]; have := Htl.out; omega) b2.size ?_; intro v3 w3 own3 hg3 hat3; clear hat3; obtain ⟨A3, c3, rfl⟩ := own_form own3; have b3 : Below w.heap.size w w3 := b2.grown hg3 b2.size (fun k hk => own_block own2 hk))))
  have hl3 : 3 + t.length = (infoB lab).length := by rw [Hil.out, Htl.out]; omega
  have own4 : w3.ownsRow w.heap.size 5 1 (.slice A3 (3 + t.length) c3) (3 + t.length) ((infoB lab).map e8) := by
    rw [Hi.out, List.map_append, List.map_append]
    rw [hsz] at own3
    exact own3
  refine (expand_yes A A3 k (infoB lab) _ _ _ _ 32 _ rfl (by omega) (by omega) w3 rfl hl3 (hr.on b3) (Rd.own own4) bk (by rw [Hil.out]; omega) (hk.on b3)).mono ?_
  rintro e w4 ⟨A4, c4, rfl, hr4, -, -, b4⟩
  rw [show expand k (infoB lab) 32 = derive k lab from rfl] at hr4 ⊢
  have hdl := derive_len k lab
  go_wp2_with fail
  go_ret
  exact ⟨A4, c4, rfl, hr4, bt b3 b4⟩
end Go.Proofs.YtggldbadefbdaaaDoor.Kdf
