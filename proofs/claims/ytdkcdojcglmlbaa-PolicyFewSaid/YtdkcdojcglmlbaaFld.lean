/- A field, and a slice of fields in memory. -/
import Derived.Test.YtdkcdojcglmlbaaBase
namespace Go.Proofs.Ytdkcdojcglmlbaa
open Go.RowKit
structure Fl where
  kind : Int
  size : Int
  n : UInt64
  b : List UInt8
def Fl.ok (f : Fl) : Prop := -9223372036854775808 ≤ f.kind ∧ f.kind ≤ 9223372036854775807 ∧ -9223372036854775808 ≤ f.size ∧ f.size ≤ 9223372036854775807
/-- the bytes of a field lie at A, below B -/
def FlAt (w : World) (B : Nat) (f : Fl) (A : Option Addr) (c : Nat) : Prop := Rd w B A (f.b.map e8) ∧ f.b.length ≤ c ∧ c ≤ maxLen
abbrev flv (f : Fl) (A : Option Addr) (c : Nat) : Value := .agg #[.int .i64 f.kind, .int .i64 f.size, .int .u64 (f.n.toNat : Int), .slice A f.b.length c]
def Fields (w : World) (B : Nat) (A : Option Addr) (l : List Fl) : Prop :=
  l ≠ [] → ∃ b off, A = some ⟨b, off, none⟩ ∧ b < B ∧ ∀ i (h : i < l.length), ∃ a c,
    w.cell? ⟨b, off + i * 4, none⟩ = some (.int .i64 l[i].kind) ∧ w.cell? ⟨b, off + i * 4 + 1, none⟩ = some (.int .i64 l[i].size) ∧ w.cell? ⟨b, off + i * 4 + 2, none⟩ = some (.int .u64 (l[i].n.toNat : Int)) ∧
    w.cell? ⟨b, off + i * 4 + 3, none⟩ = some (.slice a l[i].b.length c) ∧ FlAt w B l[i] a c ∧ l[i].ok
theorem FlAt.keep {w w' : World} {B : Nat} {f : Fl} {A : Option Addr} {c : Nat} (h : FlAt w B f A c) (hb : Below B w w') : FlAt w' B f A c := ⟨h.1.below hb, h.2⟩
theorem Fields.get {w : World} {B : Nat} {A : Option Addr} {l : List Fl} (h : Fields w B A l) {i : Nat} (hi : i < l.length) :
    ∃ b off a c, A = some ⟨b, off, none⟩ ∧ b < B ∧ 
    w.cell? ⟨b, off + i * 4, none⟩ = some (.int .i64 l[i].kind) ∧ w.cell? ⟨b, off + i * 4 + 1, none⟩ = some (.int .i64 l[i].size) ∧ w.cell? ⟨b, off + i * 4 + 2, none⟩ = some (.int .u64 (l[i].n.toNat : Int)) ∧
    w.cell? ⟨b, off + i * 4 + 3, none⟩ = some (.slice a l[i].b.length c) ∧ FlAt w B l[i] a c ∧ l[i].ok := by
  obtain ⟨b, off, rfl, hb, h1⟩ := h (by rintro rfl; exact absurd hi (by simp))
  obtain ⟨a, c, h2⟩ := h1 i hi
  exact ⟨b, off, a, c, rfl, hb, h2⟩
theorem Fields.keep {w w' : World} {B : Nat} {A : Option Addr} {l : List Fl} (h : Fields w B A l) (hb : Below B w w') : Fields w' B A l := by
  intro hne
  obtain ⟨b, off, rfl, hbb, h1⟩ := h hne
  refine ⟨b, off, rfl, hbb, fun i hi => ?_⟩
  obtain ⟨a, c, h2, h3, h4, h5, h6, h7⟩ := h1 i hi
  exact ⟨a, c, (hb.cell (p := ⟨_, _, _⟩) hbb).trans h2, (hb.cell (p := ⟨_, _, _⟩) hbb).trans h3, (hb.cell (p := ⟨_, _, _⟩) hbb).trans h4, (hb.cell (p := ⟨_, _, _⟩) hbb).trans h5, h6.keep hb, h7⟩
end Go.Proofs.Ytdkcdojcglmlbaa
