/- Part Coll of the proofs on this seat. Conditions: none beyond those in the theorems. By an AI agent. -/
import Derived.Test.YtmmijecookbajaaDoorClash
namespace Go.Proofs.YtmmijecookbajaaDoor
open Go Go.RowKit

theorem Sp.Clash.mono {xs ys : List (List Nat)} (h : Sp.Clash xs) (hs : ∀ x ∈ xs, x ∈ ys) : Sp.Clash ys := by
  obtain ⟨a, ha, b, hb, e, hne⟩ := h
  exact ⟨a, hs a ha, b, hs b hb, e, hne⟩
theorem app32 {a b a' b' : List Nat} (h : a ++ b = a' ++ b') (e : a.length = a'.length) : a = a' ∧ b = b' := List.append_inj h e
/-- Two lists of hashes that have one root: they are alike, or two unlike ones that were noted have one hash. -/
theorem root_coll : ∀ (m : Nat) (l l' : List (List Nat)), l.length ≤ m → l.length = l'.length → (∀ x ∈ l, HOk x) → (∀ x ∈ l', HOk x) → Sp.root l = Sp.root l' → l ≠ l' → Sp.Clash (Sp.notes l ++ Sp.notes l') := by
  intro m
  induction m with
  | zero =>
    intro l l' h hl _ _ _ hne
    have h1 : l = [] := List.eq_nil_of_length_eq_zero (by omega)
    have h2 : l' = [] := List.eq_nil_of_length_eq_zero (by omega)
    exact absurd (h1.trans h2.symm) hne
  | succ m ih =>
    intro l l' h hl ok ok' hr hne
    by_cases h2 : 2 ≤ l.length
    · have hk0 := Sp.split_pos l.length
      have hk1 := Sp.split_lt h2
      rw [Sp.notes_two l h2, Sp.notes_two l' (by omega)]
      rw [Sp.root_two l h2, Sp.root_two l' (by omega)] at hr
      rw [← hl] at hr ⊢
      obtain ⟨k, hk⟩ : ∃ k, k = Sp.split l.length := ⟨_, rfl⟩
      rw [← hk] at hk0 hk1 hr ⊢
      have o1 : ∀ x ∈ l.take k, HOk x := fun x hx => ok x (List.mem_of_mem_take hx)
      have o2 : ∀ x ∈ l.drop k, HOk x := fun x hx => ok x (List.mem_of_mem_drop hx)
      have o1' : ∀ x ∈ l'.take k, HOk x := fun x hx => ok' x (List.mem_of_mem_take hx)
      have o2' : ∀ x ∈ l'.drop k, HOk x := fun x hx => ok' x (List.mem_of_mem_drop hx)
      by_cases he : 1 :: (Sp.root (l.take k) ++ Sp.root (l.drop k)) = 1 :: (Sp.root (l'.take k) ++ Sp.root (l'.drop k))
      · have he2 := (List.cons.inj he).2
        obtain ⟨e1, e2⟩ := app32 he2 (by rw [(root_ok _ _ (Nat.le_refl _) o1).1, (root_ok _ _ (Nat.le_refl _) o1').1])
        by_cases ht : l.take k = l'.take k
        · have hd : l.drop k ≠ l'.drop k := fun hd => hne (by rw [← List.take_append_drop k l, ht, hd, List.take_append_drop])
          refine (ih (l.drop k) (l'.drop k) (by rw [List.length_drop]; omega) (by rw [List.length_drop, List.length_drop, hl]) o2 o2' e2 hd).mono fun x hx => ?_
          simp only [List.mem_append] at hx ⊢
          rcases hx with hx | hx
          · exact .inl (.inl (.inr hx))
          · exact .inr (.inl (.inr hx))
        · refine (ih (l.take k) (l'.take k) (by rw [List.length_take]; omega) (by rw [List.length_take, List.length_take, hl]) o1 o1' e1 ht).mono fun x hx => ?_
          simp only [List.mem_append] at hx ⊢
          rcases hx with hx | hx
          · exact .inl (.inl (.inl hx))
          · exact .inr (.inl (.inl hx))
      · exact ⟨_, by simp, _, by simp, hr, he⟩
    · match l, l', h2, hl with
      | [], [], _, _ => exact absurd rfl hne
      | [x], [y], _, _ =>
        rw [Sp.root_one, Sp.root_one] at hr
        exact absurd (by rw [hr]) hne
      | _ :: _ :: _, _, h2, _ => simp at h2
/-- Two lists of bytes that have one leaf's hash. -/
theorem leaf_coll {x y : List Nat} {xs : List (List Nat)} (h : Sp.leaf x = Sp.leaf y) (hne : x ≠ y) (hx : 0 :: x ∈ xs) (hy : 0 :: y ∈ xs) : Sp.Clash xs :=
  ⟨_, hx, _, hy, h, fun e => hne (List.cons.inj e).2⟩
end Go.Proofs.YtmmijecookbajaaDoor
