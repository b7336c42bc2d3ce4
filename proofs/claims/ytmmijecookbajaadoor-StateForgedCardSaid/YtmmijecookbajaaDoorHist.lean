/- history.Leaf, Node and split answer as the specification says. Conditions: none beyond those in the theorems. By an AI agent. -/
import Derived.Test.YtmmijecookbajaaDoorOf
import Derived.Test.YtmmijecookbajaaDoorSp2
namespace Go.Proofs.YtmmijecookbajaaDoor
open Go Go.RowKit

/-- A variable that holds a slice of one byte. -/
structure Mark (B : Nat) (w : World) (g x : Nat) : Prop where
  rd : ∃ a c, w.cell? ⟨g, 0, none⟩ = some (.slice a 1 c) ∧ Bytes w a 1 c [x] ∧ ∀ p, a = some p → p.block < B
  lt : g < B
theorem Mark.keep {B : Nat} {w w' : World} {g x : Nat} {M : List Nat} (h : Mark B w g x) (X : Chg w w' M) (hM : ∀ k ∈ M, B ≤ k) : Mark B w' g x := by
  obtain ⟨a, c, h1, h2, h3⟩ := h.rd
  have hlt := h.lt
  exact ⟨⟨a, c, X.cell h1 (fun hm => by have := hM _ hm; simp only at this; omega), h2.keep X (fun p hp hm => by have := hM _ hm; have := h3 p hp; omega), h3⟩, h.lt⟩
/-- The tables and marks, below block B. -/
structure GH (B : Nat) (w : World) : Prop where
  sha : GS B w
  leaf : Mark B w 2 2
  fork : Mark B w 0 3
  none : Mark B w 1 4
theorem GH.keep {B : Nat} {w w' : World} {M : List Nat} (h : GH B w) (X : Chg w w' M) (hM : ∀ k ∈ M, B ≤ k) : GH B w' := ⟨h.sha.keep X hM, h.leaf.keep X hM, h.fork.keep X hM, h.none.keep X hM⟩
/-- Of two slices of bytes, laid in a literal. -/
theorem parts_two {w : World} {b : Nat} {a1 a2 : Option Addr} {n1 n2 c1 c2 : Nat} {x y : List Nat} {t : TypeId} (hb : Blk w b (flatC [.slice a1 n1 c1, .slice a2 n2 c2]) t) (h1 : Bytes w a1 n1 c1 x) (h2 : Bytes w a2 n2 c2 y)
    (l1 : ∀ v ∈ x, v < 256) (l2 : ∀ v ∈ y, v < 256) : Parts w (some ⟨b, 0, none⟩) 2 2 [x, y] := by
  refine ⟨⟨_, lit_reads hb rfl (by decide), rfl, ?_⟩⟩
  intro i v bs hv hbs
  match i, hv, hbs with
  | 0, hv, hbs =>
    simp [flatC, Value.cells] at hv hbs
    subst hv hbs
    exact ⟨⟨a1, c1, by rw [h1.length], by rw [h1.length]; exact h1⟩, l1⟩
  | 1, hv, hbs =>
    simp [flatC, Value.cells] at hv hbs
    subst hv hbs
    exact ⟨⟨a2, c2, by rw [h2.length], by rw [h2.length]; exact h2⟩, l2⟩
  | i + 2, hv, hbs => simp [flatC, Value.cells] at hv
theorem parts_three {w : World} {b : Nat} {a1 a2 a3 : Option Addr} {n1 n2 n3 c1 c2 c3 : Nat} {x y z : List Nat} {t : TypeId} (hb : Blk w b (flatC [.slice a1 n1 c1, .slice a2 n2 c2, .slice a3 n3 c3]) t) (h1 : Bytes w a1 n1 c1 x) (h2 : Bytes w a2 n2 c2 y) (h3 : Bytes w a3 n3 c3 z)
    (l1 : ∀ v ∈ x, v < 256) (l2 : ∀ v ∈ y, v < 256) (l3 : ∀ v ∈ z, v < 256) : Parts w (some ⟨b, 0, none⟩) 3 3 [x, y, z] := by
  refine ⟨⟨_, lit_reads hb rfl (by decide), rfl, ?_⟩⟩
  intro i v bs hv hbs
  match i, hv, hbs with
  | 0, hv, hbs =>
    simp [flatC, Value.cells] at hv hbs
    subst hv hbs
    exact ⟨⟨a1, c1, by rw [h1.length], by rw [h1.length]; exact h1⟩, l1⟩
  | 1, hv, hbs =>
    simp [flatC, Value.cells] at hv hbs
    subst hv hbs
    exact ⟨⟨a2, c2, by rw [h2.length], by rw [h2.length]; exact h2⟩, l2⟩
  | 2, hv, hbs =>
    simp [flatC, Value.cells] at hv hbs
    subst hv hbs
    exact ⟨⟨a3, c3, by rw [h3.length], by rw [h3.length]; exact h3⟩, l3⟩
  | i + 3, hv, hbs => simp [flatC, Value.cells] at hv
/-- A hash: 32 bytes. -/
def HOk (h : List Nat) : Prop := h.length = 32 ∧ ∀ x ∈ h, x < 256
theorem sha_ok (b : List Nat) : HOk (Sp.sha b) := ⟨sha_length b, sha_lt b⟩
abbrev hv (h : List Nat) : Value := .agg (natsC .u8 h).toArray

end Go.Proofs.YtmmijecookbajaaDoor
