/- Part Law2 of the proofs on this seat. Conditions: none beyond those in the theorems. By an AI agent. -/
import Derived.Test.YtecpedpfkdnfhaaDoorGrown2
namespace Go.Proofs.YtecpedpfkdnfhaaDoor
open Go Go.RowKit

theorem At.c1 {w : World} {b o j : Nat} {cs : List Value} {v : Value} (h : At w b o cs) (hv : cs[j]? = some v) : w.cell? ⟨b, o + j * 1, none⟩ = some v := by
  rw [Nat.mul_one]; exact h j v hv
/-- One byte goes up by one. -/
def Sp.bump (h : List Nat) (j : Nat) : List Nat := h.set j ((h.getD j 0 + 1) % 256)
theorem bump_ok {h : List Nat} (ok : HOk h) (j : Nat) : HOk (Sp.bump h j) := by
  refine ⟨by simp [Sp.bump, ok.1], fun x hx => ?_⟩
  rcases List.mem_or_eq_of_mem_set hx with hx | rfl
  · exact ok.2 x hx
  · omega
theorem bump_ne {h : List Nat} (ok : HOk h) {j : Nat} (hj : j < 32) : Sp.bump h j ≠ h := by
  intro e
  have hl := ok.1
  have h1 : (Sp.bump h j)[j]? = h[j]? := by rw [e]
  unfold Sp.bump at h1
  rw [List.getElem?_set_self (by omega)] at h1
  have h2 : h[j]? = some h[j] := List.getElem?_eq_getElem (by omega)
  have h3 := ok.2 h[j] (List.getElem_mem _)
  rw [h2, List.getD_eq_getElem?_getD, h2] at h1
  simp at h1
  omega
theorem byte_at {h : List Nat} (ok : HOk h) {j : Nat} (hj : j < 32) : h[j]? = some (h.getD j 0) := by
  have hl := ok.1
  rw [List.getD_eq_getElem?_getD, List.getElem?_eq_getElem (by omega)]; rfl
theorem flat_set1 {hs : List (List Nat)} (ok : ∀ x ∈ hs, HOk x) {i j v : Nat} {x : List Nat} (hx : hs[i]? = some x) (hj : j < 32) : hs.flatten.set (i * 32 + j) v = (hs.set i (x.set j v)).flatten := by
  induction hs generalizing i with
  | nil => simp at hx
  | cons y hs ih =>
    have hy := (ok y (by simp)).1
    cases i with
    | zero =>
      simp at hx; subst hx
      simp only [List.flatten_cons, List.set_cons_zero, Nat.zero_mul, Nat.zero_add]
      rw [List.set_append_left _ _ (by omega)]
    | succ i =>
      simp only [List.getElem?_cons_succ] at hx
      simp only [List.flatten_cons, List.set_cons_succ]
      rw [List.set_append_right _ _ (by omega), show (i + 1) * 32 + j - y.length = i * 32 + j by omega, ih (fun z hz => ok z (by simp [hz])) hx]
/-- One byte of a hash in a row goes up by one. -/
theorem HsB.bump {w w' : World} {g n c i j : Nat} {hs : List (List Nat)} {t : TypeId} {x : List Nat} {cs : List Value} (h : HsB w g n c hs t) (hx : hs[i]? = some x) (hj : j < 32) (hcs : Blk w g cs t)
    (hw : Blk w' g (cs.set (0 + i * 32 + j * 1) (.int .u8 (((x.getD j 0 + 1) % 256 : Nat) : Int))) t) : HsB w' g n c (hs.set i (Sp.bump x j)) t := by
  obtain ⟨r, hb⟩ := h.blk
  have hl := h.len
  have hi := (List.getElem?_eq_some_iff.1 hx).1
  have okx := h.ok x (List.mem_of_getElem? hx)
  have e : cs = natsC .u8 hs.flatten ++ r := by
    have h1 : some (Obj.cells cs.toArray t (0, 0)) = some (Obj.cells (natsC .u8 hs.flatten ++ r).toArray t (0, 0)) := hcs.symm.trans hb
    simpa using h1
  have h32 : (natsC .u8 hs.flatten).length = n * 32 := by rw [natsC_length, flat32 h.ok, hl]
  refine ⟨⟨r, ?_⟩, by simp [hl], fun y hy => ?_, h.le, h.mx⟩
  · rw [e, Nat.zero_add, Nat.mul_one, List.set_append_left _ _ (by omega), natsC_set, flat_set1 h.ok hx hj] at hw
    exact hw
  · rcases List.mem_or_eq_of_mem_set hy with hy | rfl
    · exact h.ok y hy
    · exact bump_ok okx j
theorem HsB.byte {w : World} {g n c i j : Nat} {hs : List (List Nat)} {t : TypeId} {x : List Nat} (h : HsB w g n c hs t) (hx : hs[i]? = some x) (hj : j < 32) : w.cell? ⟨g, 0 + i * 32 + j * 1, none⟩ = some (.int .u8 ((x.getD j 0 : Nat) : Int)) :=
  (h.rd.elem hx).c1 (natsC_get (byte_at (h.ok x (List.mem_of_getElem? hx)) hj))
theorem runs_inc8 {P : Program} {ρ : Env} {w : World} {tx ty tyy : TypeId} {x : Operand} {v : Nat} (hx : ev? ρ x = some (.int .u8 (v : Int))) : Runs P ρ (.binOp .add tx x (.const (.int .u8 1)) tyy) ty w (.int .u8 (((v + 1) % 256 : Nat) : Int)) w :=
  runs_as (runs_add hx rfl) (congrArg (Value.int .u8) (by rw [wrap_u8]; omega))
/-- An own copy of a row of hashes. -/
theorem hsb_copy {w : World} {B n : Nat} {e : TypeId} {v : Value} {hs : List (List Nat)} (h : w.ownsRow B e 32 v (0 + n) ([] ++ natsC .u8 hs.flatten)) (ok : ∀ x ∈ hs, HOk x) (hl : hs.length = n) (hn : 0 < n) : ∃ g c, v = .slice (some ⟨g, 0, none⟩) n c ∧ HsB w g n c hs e ∧ B ≤ g := by
  rw [Nat.zero_add, List.nil_append] at h
  exact hsb_of_own h ok hl hn
/-- Notes of a way are short. -/
theorem climbN_short (leaf : List Nat) (hl : HOk leaf) : ∀ (k : Nat) (p : List (List Nat)) (i n : Nat), p.length ≤ k → (∀ x ∈ p, HOk x) → ∀ x ∈ Sp.climbN leaf i n p, x.length = 65 := by
  intro k
  induction k with
  | zero => intro p i n h _ x hx; rw [List.eq_nil_of_length_eq_zero (show p.length = 0 by omega), Sp.climbN_nil] at hx; simp at hx
  | succ k ih =>
    intro p i n h ok x hx
    rcases List.eq_nil_or_concat p with rfl | ⟨q, last, rfl⟩
    · rw [Sp.climbN_nil] at hx; simp at hx
    rw [List.concat_eq_append] at h ok hx
    rw [List.length_append, List.length_singleton] at h
    have okq : ∀ e ∈ q, HOk e := fun e he => ok e (by simp [he])
    have okl := (ok last (by simp)).1
    by_cases h1 : n ≤ 1
    · rw [Sp.climbN_one _ _ _ _ h1] at hx; simp at hx
    by_cases hi : i < Sp.split n
    · rw [Sp.climbN_lo _ _ _ _ _ (by omega) hi] at hx
      simp only [List.mem_append, List.mem_singleton] at hx
      rcases hx with hx | rfl
      · exact ih q _ _ (by omega) okq x hx
      · have := (climb_ok leaf hl _ q i (Sp.split n) (Nat.le_refl _)).1; simp; omega
    · rw [Sp.climbN_hi _ _ _ _ _ (by omega) hi] at hx
      simp only [List.mem_append, List.mem_singleton] at hx
      rcases hx with hx | rfl
      · exact ih q _ _ (by omega) okq x hx
      · have := (climb_ok leaf hl _ q (i - Sp.split n) (n - Sp.split n) (Nat.le_refl _)).1; simp; omega
theorem bothN_short (old : List Nat) (ho : HOk old) : ∀ (k : Nat) (p : List (List Nat)) (m n : Nat) (whole : Bool), p.length ≤ k → (∀ x ∈ p, HOk x) → ∀ x ∈ Sp.bothN old p m n whole, x.length = 65 := by
  intro k
  induction k with
  | zero => intro p m n whole h _ x hx; rw [List.eq_nil_of_length_eq_zero (show p.length = 0 by omega), Sp.bothN_nil] at hx; simp at hx
  | succ k ih =>
    intro p m n whole h ok x hx
    rcases List.eq_nil_or_concat p with rfl | ⟨q, last, rfl⟩
    · rw [Sp.bothN_nil] at hx; simp at hx
    rw [List.concat_eq_append] at h ok hx
    rw [List.length_append, List.length_singleton] at h
    have okq : ∀ e ∈ q, HOk e := fun e he => ok e (by simp [he])
    have okl := (ok last (by simp)).1
    by_cases hmn : m = n
    · subst hmn
      cases whole with
      | true => rw [Sp.bothN_whole] at hx; simp at hx
      | false => rw [Sp.bothN_part] at hx; simp at hx
    by_cases hk : m ≤ Sp.split n
    · rw [Sp.bothN_lo _ _ _ _ _ _ hmn hk] at hx
      simp only [List.mem_append, List.mem_singleton] at hx
      rcases hx with hx | rfl
      · exact ih q _ _ _ (by omega) okq x hx
      · have := (both_ok old ho _ q m (Sp.split n) whole (Nat.le_refl _) okq).2.1; simp; omega
    · rw [Sp.bothN_hi _ _ _ _ _ _ hmn hk] at hx
      simp only [List.mem_append, List.mem_cons, List.not_mem_nil, or_false] at hx
      rcases hx with hx | rfl | rfl
      · exact ih q _ _ _ (by omega) okq x hx
      · have := (both_ok old ho _ q (m - Sp.split n) (n - Sp.split n) false (Nat.le_refl _) okq).1.1; simp; omega
      · have := (both_ok old ho _ q (m - Sp.split n) (n - Sp.split n) false (Nat.le_refl _) okq).2.1; simp; omega
theorem isGrownN_short (m n : Nat) (old : List Nat) (ho : HOk old) (p : List (List Nat)) (ok : ∀ x ∈ p, HOk x) : ∀ x ∈ Sp.isGrownN m n old p, x.length ≤ 65 := by
  intro x hx
  unfold Sp.isGrownN at hx
  split at hx
  · simp at hx
  split at hx
  · split at hx <;> simp at hx
    subst hx; simp
  · have := bothN_short old ho _ p m n true (Nat.le_refl _) ok x hx; omega
/-- What Grown says of m below n. -/
theorem isGrown_mid {m n : Nat} {old young : List Nat} {p : List (List Nat)} (h : Sp.isGrown m n old young p = true) (h0 : 0 < m) (hmn : m < n) : Sp.both old p m n true = (old, young, true) := by
  unfold Sp.isGrown at h
  rw [if_neg (by omega), if_neg (by omega)] at h
  simp only [Bool.and_eq_true, beq_iff_eq] at h
  exact Prod.ext h.1.2 (Prod.ext h.2 h.1.1)
theorem isGrownN_mid {m n : Nat} {old : List Nat} {p : List (List Nat)} (h0 : 0 < m) (hmn : m < n) : Sp.isGrownN m n old p = Sp.bothN old p m n true := by
  unfold Sp.isGrownN
  rw [if_neg (by omega), if_neg (by omega)]
/-- Growth shows what it is to show. -/
theorem grown_shows (l : List (List Nat)) (m : Nat) (hm : m ≤ l.length) : Sp.isGrown m l.length (Sp.root (l.take m)) (Sp.root l) (Sp.grown m l) = true := by
  unfold Sp.isGrown Sp.grown
  by_cases h1 : m = l.length
  · subst h1; rw [if_pos rfl, if_pos (.inr rfl)]; simp
  · rw [if_neg h1]
    by_cases h0 : m = 0
    · subst h0; rw [if_pos rfl, if_pos (.inl rfl)]; simp [Sp.root_nil]
    · rw [if_neg h0, if_neg (by omega), both_growth_ l m (by omega) hm]; simp
where both_growth_ (l : List (List Nat)) (m : Nat) (h0 : 0 < m) (hm : m ≤ l.length) : Sp.both (Sp.root (l.take m)) (Sp.growth true m l) m l.length true = (Sp.root (l.take m), Sp.root l, true) :=
  Sp.both_growth _ l m true _ (Nat.le_refl _) h0 hm (fun _ => rfl)
theorem grown_len (m : Nat) (l : List (List Nat)) (hm : m ≤ l.length) : (Sp.grown m l).length ≤ l.length + 1 := by
  unfold Sp.grown
  split
  · simp
  · exact Sp.growth_len true m l (by omega) hm
end Go.Proofs.YtecpedpfkdnfhaaDoor
