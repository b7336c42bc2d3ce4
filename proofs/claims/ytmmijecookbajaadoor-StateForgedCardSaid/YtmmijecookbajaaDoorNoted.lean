/- Part Noted of the proofs on this seat. Conditions: none beyond those in the theorems. By an AI agent. -/
import Derived.Test.YtmmijecookbajaaDoorFit
namespace Go.Proofs.YtmmijecookbajaaDoor
open Go Go.RowKit

/-- What a tape is behind steps that noted L, and which blocks it has: those that A had, and new ones. -/
structure TIs (w W : World) (B : Nat) (A A' : Nat → Prop) (tv : Value) (ts ts' : TS) (L : List (List Nat)) : Prop where
  arg : TArg W B A' tv ts'
  sub : ∀ k, A' k → Adds A w.heap.size W.heap.size k
  notes : Notes L ts ts'
  foot : ∀ k ∈ foot ts', k ∈ foot ts ∨ w.heap.size ≤ k
theorem TIs.keep {w W W' : World} {B : Nat} {A A' : Nat → Prop} {tv : Value} {ts ts' : TS} {L : List (List Nat)} {M : List Nat} (h : TIs w W B A A' tv ts ts' L) (x : Chg W W' M) (hM : ∀ k ∈ M, ¬ A' k) : TIs w W' B A A' tv ts ts' L :=
  ⟨h.arg.keep x hM, fun k hk => (h.sub k hk).imp id fun h => ⟨h.1, by have := x.size; omega⟩, h.notes, h.foot⟩
theorem TIs.keep0 {w W W' : World} {B : Nat} {A A' : Nat → Prop} {tv : Value} {ts ts' : TS} {L : List (List Nat)} (h : TIs w W B A A' tv ts ts' L) (x : Chg W W' []) : TIs w W' B A A' tv ts ts' L := h.keep x (by simp)
/-- One call more. -/
theorem TIs.next {w W W' : World} {B : Nat} {A A' : Nat → Prop} {tv : Value} {ts ts' ts'' : TS} {L L' : List (List Nat)} (h : TIs w W B A A' tv ts ts' L) (hw : w.heap.size ≤ W.heap.size) (p : TPost W W' B A' tv ts' ts'' L') : TIs w W' B A (Adds A' W.heap.size W'.heap.size) tv ts ts'' (L ++ L') := by
  have hs := p.chg.size
  refine ⟨p.arg, fun k hk => ?_, h.notes.trans p.notes, fun k hk => ?_⟩
  · rcases hk with hk | hk
    · exact (h.sub k hk).imp id fun h => ⟨h.1, by omega⟩
    · exact .inr ⟨by omega, hk.2⟩
  · rcases p.foot k hk with hk | hk
    · exact h.foot k hk
    · exact .inr (by omega)

end Go.Proofs.YtmmijecookbajaaDoor
