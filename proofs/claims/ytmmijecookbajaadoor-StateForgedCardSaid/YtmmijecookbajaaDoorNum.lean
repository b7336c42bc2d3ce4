/- Part Num of the proofs on this seat. Conditions: none beyond those in the theorems. By an AI agent. -/
import Derived.Test.YtmmijecookbajaaDoorC5
import Derived.Test.YtmmijecookbajaaDoorLaw1
namespace Go.Proofs.YtmmijecookbajaaDoor
open Go Go.RowKit

/-- A number of 128 bits. -/
abbrev Nm := Nat × Nat
def NOk (x : Nm) : Prop := x.1 < 18446744073709551616 ∧ x.2 < 18446744073709551616
def numC (x : Nm) : List Value := [.int .u64 (x.1 : Int), .int .u64 (x.2 : Int)]
def nv (x : Nm) : Value := .agg (numC x).toArray
theorem numC_len (x : Nm) : (numC x).length = 2 := rfl
theorem numC_one (x : Nm) : ∀ u ∈ numC x, u.oneCell' = true := by intro u hu; simp [numC] at hu; rcases hu with rfl | rfl <;> rfl
theorem num_eq {d : Nat} (w : World) (x y : Nm) : (Op.equalIn (d + 2) 24 (nv x) (nv y)).run Tryd.prog w = .ok (decide (x = y)) w := by
  have h := eq_agg (P := Tryd.prog) (w := w) (d := d + 1) (t := 24) (xs := (numC x).toArray) (ys := (numC y).toArray) Tryd.underlying24 (by kernel_rfl)
    (eqF_cons rfl (part1 ty22 (xs := numC x) (i := 0) rfl) (part1 ty22 (xs := numC y) (i := 0) rfl) (run_equalIn_int w d _ _ _ _ _ Tryd.underlying22)
      (eqF_cons rfl (part1 ty22 (xs := numC x) (i := 1) rfl) (part1 ty22 (xs := numC y) (i := 1) rfl) (run_equalIn_int w d _ _ _ _ _ Tryd.underlying22) eqF_nil))
  have e : ((x.1 : Int) == (y.1 : Int) && ((x.2 : Int) == (y.2 : Int) && true)) = decide (x = y) := by
    rw [Bool.eq_iff_iff]
    simp [Prod.ext_iff]; omega
  rw [e] at h
  exact h
section
variable {ρ : Env} {w : World} {ty tyy : TypeId} {x y : Operand} {a b : Nm}
theorem runs_nm_eq (hx : ev? ρ x = some (nv a)) (hy : ev? ρ y = some (nv b)) : Runs Tryd.prog ρ (.binOp .eql 24 x y tyy) ty w (.bool (decide (a = b))) w :=
  runs_agg_eq (by kernel_rfl) hx hy (num_eq (d := 9998) w a b)
theorem runs_nm_ne (hx : ev? ρ x = some (nv a)) (hy : ev? ρ y = some (nv b)) : Runs Tryd.prog ρ (.binOp .neq 24 x y tyy) ty w (.bool (decide (a ≠ b))) w :=
  runs_as (runs_agg_ne (by kernel_rfl) hx hy (num_eq (d := 9998) w a b)) (by congr 1; by_cases h : a = b <;> simp [h])
end
/-- Sixteen bytes, the highest first. -/
def Sp.numB (x : Nm) : List Nat := (List.range 16).map fun i => (if i < 8 then x.1 else x.2) / 2 ^ (8 * (7 - i % 8)) % 256
theorem numB_len (x : Nm) : (Sp.numB x).length = 16 := by simp [Sp.numB]
theorem numB_lt (x : Nm) : ∀ v ∈ Sp.numB x, v < 256 := by intro v hv; simp [Sp.numB] at hv; obtain ⟨i, _, rfl⟩ := hv; exact Nat.mod_lt _ (by decide)
/-- n bytes of a number, the highest first. -/
def Sp.intB (n : Nat) (y : Int) : List Nat := (List.range n).map fun i => (y / 2 ^ (8 * (n - 1 - i)) % 256).toNat
theorem intB_len (n : Nat) (y : Int) : (Sp.intB n y).length = n := by simp [Sp.intB]
theorem intB_lt (n : Nat) (y : Int) : ∀ v ∈ Sp.intB n y, v < 256 := by
  intro v hv; simp [Sp.intB] at hv; obtain ⟨i, _, rfl⟩ := hv
  omega
end Go.Proofs.YtmmijecookbajaaDoor
