/- The law HistoryNodes returns true, whatever it is given, once the listed variables are laid. Conditions: none beyond those in the theorems. By an AI agent. -/
import Derived.Test.YtmmijecookbajaaDoorFit
namespace Go.Proofs.YtmmijecookbajaaDoor
open Go Go.RowKit

def land64 (a : Int) (m : Nat) : Nat := (BitVec.ofInt 64 a &&& BitVec.ofInt 64 (m : Int)).toNat
theorem land64_le {a : Int} {m : Nat} (h : m < 9223372036854775808) : land64 a m ≤ m := by
  unfold land64
  rw [BitVec.toNat_and]
  refine Nat.le_trans Nat.and_le_right ?_
  rw [BitVec.toNat_ofInt]; omega
theorem runs_and64 {P : Program} {ρ : Env} {w : World} {x : Operand} {tx ty tyy : TypeId} {a : Int} (m : Nat) (hx : ev? ρ x = some (.int .i64 a)) (hm : m < 9223372036854775808) :
    Runs P ρ (.binOp .and tx x (.const (.int .i64 (m : Int))) tyy) ty w (.int .i64 (land64 a m : Nat)) w :=
  runs_as (runs_and hx rfl) (by
    have := land64_le (a := a) hm
    show Value.int .i64 (IntKind.i64.wrap ((land64 a m : Nat) : Int)) = _
    rw [wrap_i64 (by omega) (by omega)])
theorem runs_shl1 {P : Program} {ρ : Env} {w : World} {x y : Operand} {tx ty tyy : TypeId} {j : Nat} (hx : ev? ρ x = some (.int .i64 1)) (hy : ev? ρ y = some (.int .i64 (j : Int))) (hj : j ≤ 40) :
    Runs P ρ (.binOp .shl tx x y tyy) ty w (.int .i64 ((2 ^ j : Nat) : Int)) w :=
  runs_as (runs_shl hx hy (by omega)) (by
    have h1 : (2 : Nat) ^ j ≤ 2 ^ 40 := Nat.pow_le_pow_right (by decide) hj
    have h2 : (2 : Nat) ^ 40 = 1099511627776 := by decide
    show Value.int .i64 (IntKind.i64.wrap (1 * 2 ^ (min (j : Int).toNat 64))) = _
    rw [show min (j : Int).toNat 64 = j by omega, Int.one_mul, wrap_i64]
    · simp
    · have : (0 : Int) ≤ 2 ^ j := Int.pow_nonneg (by decide)
      omega
    · have : ((2 : Int) ^ j) = ((2 ^ j : Nat) : Int) := by simp
      omega)
theorem pow_uniq {i j n : Nat} (h1 : 2 ^ i < n) (h2 : n ≤ 2 * 2 ^ i) (h3 : 2 ^ j < n) (h4 : n ≤ 2 * 2 ^ j) : i = j := by
  rcases Nat.lt_trichotomy i j with h | h | h
  · have : 2 ^ (i + 1) ≤ 2 ^ j := Nat.pow_le_pow_right (by decide) h
    rw [Nat.pow_succ] at this; omega
  · exact h
  · have : 2 ^ (j + 1) ≤ 2 ^ i := Nat.pow_le_pow_right (by decide) h
    rw [Nat.pow_succ] at this; omega
theorem split_is {n j : Nat} (h1 : 2 ^ j < n) (h2 : n ≤ 2 * 2 ^ j) : Sp.split n = 2 ^ j := by
  obtain ⟨i, hi⟩ := Sp.split_pow n
  have h3 := Sp.split_lt (n := n) (by have : 0 < 2 ^ j := Nat.pow_pos (by decide); omega)
  have h4 := Sp.split_ge n
  rw [hi] at h3 h4 ⊢
  rw [pow_uniq h1 h2 h3 h4]

end Go.Proofs.YtmmijecookbajaaDoor
