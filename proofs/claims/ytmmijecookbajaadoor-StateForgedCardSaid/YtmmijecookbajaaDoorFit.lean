/- fit returns true. Conditions: none beyond those in the theorems. By an AI agent. -/
import Derived.Test.YtmmijecookbajaaDoorLaw0
namespace Go.Proofs.YtmmijecookbajaaDoor
open Go Go.RowKit

section
variable {ρ : Env} {w : World} {x y : Operand} {ty tyy : TypeId} {xs ys : List Nat}
theorem inj_ofNat {xs ys : List Nat} : (xs.map Int.ofNat == ys.map Int.ofNat) = decide (xs = ys) := by
  rw [Bool.eq_iff_iff]
  simp only [beq_iff_eq, decide_eq_true_eq]
  refine ⟨fun h => ?_, fun h => by rw [h]⟩
  induction xs generalizing ys with
  | nil => cases ys with
    | nil => rfl
    | cons => simp at h
  | cons a xs ih => cases ys with
    | nil => simp at h
    | cons b ys =>
      simp at h
      rw [ih h.2]
      have := h.1
      rw [show a = b by omega]
theorem runs_hv_eq (hx : ev? ρ x = some (hv xs)) (hy : ev? ρ y = some (hv ys)) (h1 : HOk xs) (h2 : HOk ys) : Runs Tryd.prog ρ (.binOp .eql 26 x y tyy) ty w (.bool (decide (xs = ys))) w := by
  have := runs_arr_eq (P := Tryd.prog) (ρ := ρ) (w := w) (x := x) (y := y) (ty := ty) (tyy := tyy) Tryd.underlying26 Tryd.underlying5 ty5 (by kernel_rfl) (xs := xs.map Int.ofNat) (ys := ys.map Int.ofNat) (by simp [h1.1]) (by simp [h2.1]) (by rw [hx]; simp only [hv, natsC_ints]) (by rw [hy]; simp only [hv, natsC_ints])
  rwa [inj_ofNat] at this
theorem runs_hv_ne (hx : ev? ρ x = some (hv xs)) (hy : ev? ρ y = some (hv ys)) (h1 : HOk xs) (h2 : HOk ys) : Runs Tryd.prog ρ (.binOp .neq 26 x y tyy) ty w (.bool (decide (xs ≠ ys))) w := by
  have := runs_arr_ne (P := Tryd.prog) (ρ := ρ) (w := w) (x := x) (y := y) (ty := ty) (tyy := tyy) Tryd.underlying26 Tryd.underlying5 ty5 (by kernel_rfl) (xs := xs.map Int.ofNat) (ys := ys.map Int.ofNat) (by simp [h1.1]) (by simp [h2.1]) (by rw [hx]; simp only [hv, natsC_ints]) (by rw [hy]; simp only [hv, natsC_ints])
  rw [inj_ofNat] at this
  rwa [show decide (xs ≠ ys) = !decide (xs = ys) by simp]
end
theorem leaf_unlike : Sp.leaf [] ≠ Sp.leaf [1] := by decide +kernel
theorem path_three (a b c : List Nat) : Sp.path [a, b, c] 0 = [b, c] := by
  rw [Sp.path_lo _ _ (by simp) (by show 0 < Sp.split 3; decide)]
  show Sp.path [a, b] 0 ++ [Sp.root [c]] = _
  rw [Sp.path_lo _ _ (by simp) (by show 0 < Sp.split 2; decide)]
  show (Sp.path [a] 0 ++ [Sp.root [b]]) ++ [Sp.root [c]] = _
  rw [Sp.path_one, Sp.root_one, Sp.root_one]; rfl
theorem lit1 {w : World} {b x : Nat} {t : TypeId} (h : Blk w b (flatC [.int .u8 (x : Int)]) t) : Bytes w (some ⟨b, 0, none⟩) 1 1 [x] := lit_reads h rfl (by decide)

end Go.Proofs.YtmmijecookbajaaDoor
