/- Part Bump of the proofs on this seat. Conditions: none beyond those in the theorems. By an AI agent. -/
import Derived.Test.YtmmijecookbajaaDoorOrd0
import Derived.Test.YtmmijecookbajaaDoorNodes
namespace Go.Proofs.YtmmijecookbajaaDoor
open Go Go.RowKit

theorem At.c1 {w : World} {b o j : Nat} {cs : List Value} {v : Value} (h : At w b o cs) (hv : cs[j]? = some v) : w.cell? ⟨b, o + j * 1, none⟩ = some v := by
  rw [Nat.mul_one]; exact h j v hv
/-- One byte goes up by one. -/
def Sp.bump (h : List Nat) (j : Nat) : List Nat := h.set j ((h.getD j 0 + 1) % 256)
theorem bump_ok {h : List Nat} (ok : HOk h) (j : Nat) : HOk (Sp.bump h j) := by
  refine ⟨by simp [Sp.bump, ok.1], fun x hx => ?_⟩
  rcases List.mem_or_eq_of_mem_set hx with hx | rfl
  · exact ok.2 x hx
  · omega
theorem bump_ne {h : List Nat} (ok : HOk h) {j : Nat} (hj : j < 32) : Sp.bump h j ≠ h := by
  intro e
  have hl := ok.1
  have h1 : (Sp.bump h j)[j]? = h[j]? := by rw [e]
  unfold Sp.bump at h1
  rw [List.getElem?_set_self (by omega)] at h1
  have h2 : h[j]? = some h[j] := List.getElem?_eq_getElem (by omega)
  have h3 := ok.2 h[j] (List.getElem_mem _)
  rw [h2, List.getD_eq_getElem?_getD, h2] at h1
  simp at h1
  omega
theorem byte_at {h : List Nat} (ok : HOk h) {j : Nat} (hj : j < 32) : h[j]? = some (h.getD j 0) := by
  have hl := ok.1
  rw [List.getD_eq_getElem?_getD, List.getElem?_eq_getElem (by omega)]; rfl
theorem flat_set1 {hs : List (List Nat)} (ok : ∀ x ∈ hs, HOk x) {i j v : Nat} {x : List Nat} (hx : hs[i]? = some x) (hj : j < 32) : hs.flatten.set (i * 32 + j) v = (hs.set i (x.set j v)).flatten := by
  induction hs generalizing i with
  | nil => simp at hx
  | cons y hs ih =>
    have hy := (ok y (by simp)).1
    cases i with
    | zero =>
      simp at hx; subst hx
      simp only [List.flatten_cons, List.set_cons_zero, Nat.zero_mul, Nat.zero_add]
      rw [List.set_append_left _ _ (by omega)]
    | succ i =>
      simp only [List.getElem?_cons_succ] at hx
      simp only [List.flatten_cons, List.set_cons_succ]
      rw [List.set_append_right _ _ (by omega), show (i + 1) * 32 + j - y.length = i * 32 + j by omega, ih (fun z hz => ok z (by simp [hz])) hx]
/-- One byte of a hash in a row goes up by one. -/
theorem HsB.bump {w w' : World} {g n c i j : Nat} {hs : List (List Nat)} {t : TypeId} {x : List Nat} {cs : List Value} (h : HsB w g n c hs t) (hx : hs[i]? = some x) (hj : j < 32) (hcs : Blk w g cs t)
    (hw : Blk w' g (cs.set (0 + i * 32 + j * 1) (.int .u8 (((x.getD j 0 + 1) % 256 : Nat) : Int))) t) : HsB w' g n c (hs.set i (Sp.bump x j)) t := by
  obtain ⟨r, hb⟩ := h.blk
  have hl := h.len
  have hi := (List.getElem?_eq_some_iff.1 hx).1
  have okx := h.ok x (List.mem_of_getElem? hx)
  have e : cs = natsC .u8 hs.flatten ++ r := by
    have h1 : some (Obj.cells cs.toArray t (0, 0)) = some (Obj.cells (natsC .u8 hs.flatten ++ r).toArray t (0, 0)) := hcs.symm.trans hb
    simpa using h1
  have h32 : (natsC .u8 hs.flatten).length = n * 32 := by rw [natsC_length, flat32 h.ok, hl]
  refine ⟨⟨r, ?_⟩, by simp [hl], fun y hy => ?_, h.le, h.mx⟩
  · rw [e, Nat.zero_add, Nat.mul_one, List.set_append_left _ _ (by omega), natsC_set, flat_set1 h.ok hx hj] at hw
    exact hw
  · rcases List.mem_or_eq_of_mem_set hy with hy | rfl
    · exact h.ok y hy
    · exact bump_ok okx j
theorem HsB.byte {w : World} {g n c i j : Nat} {hs : List (List Nat)} {t : TypeId} {x : List Nat} (h : HsB w g n c hs t) (hx : hs[i]? = some x) (hj : j < 32) : w.cell? ⟨g, 0 + i * 32 + j * 1, none⟩ = some (.int .u8 ((x.getD j 0 : Nat) : Int)) :=
  (h.rd.elem hx).c1 (natsC_get (byte_at (h.ok x (List.mem_of_getElem? hx)) hj))
theorem runs_inc8 {P : Program} {ρ : Env} {w : World} {tx ty tyy : TypeId} {x : Operand} {v : Nat} (hx : ev? ρ x = some (.int .u8 (v : Int))) : Runs P ρ (.binOp .add tx x (.const (.int .u8 1)) tyy) ty w (.int .u8 (((v + 1) % 256 : Nat) : Int)) w :=
  runs_as (runs_add hx rfl) (congrArg (Value.int .u8) (by rw [wrap_u8]; omega))
/-- An own copy of a row of hashes. -/
theorem hsb_copy {w : World} {B n : Nat} {e : TypeId} {v : Value} {hs : List (List Nat)} (h : w.ownsRow B e 32 v (0 + n) ([] ++ natsC .u8 hs.flatten)) (ok : ∀ x ∈ hs, HOk x) (hl : hs.length = n) (hn : 0 < n) : ∃ g c, v = .slice (some ⟨g, 0, none⟩) n c ∧ HsB w g n c hs e ∧ B ≤ g := by
  rw [Nat.zero_add, List.nil_append] at h
  exact hsb_of_own h ok hl hn
end Go.Proofs.YtmmijecookbajaaDoor
