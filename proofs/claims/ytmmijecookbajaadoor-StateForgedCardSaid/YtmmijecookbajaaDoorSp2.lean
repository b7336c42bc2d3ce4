/- Leaf, node, root of a tree of hashes on lists, and what is noted. Conditions: none beyond those in the theorems. By an AI agent. -/
import Derived.Test.YtmmijecookbajaaDoorSp
/- Trees of hashes, after RFC 6962. No Go here. -/
namespace Go.Proofs.YtmmijecookbajaaDoor
namespace Sp
def leaf (b : List Nat) : List Nat := sha (0 :: b)
def node (a b : List Nat) : List Nat := sha (1 :: (a ++ b))
def splitGo (n : Nat) : Nat → Nat → Nat
  | 0, k => k
  | f + 1, k => if 2 * k < n then splitGo n f (2 * k) else k
def split (n : Nat) : Nat := splitGo n n 1
theorem splitGo_spec (n : Nat) : ∀ f k, 0 < k → n ≤ k + f → ∃ j, splitGo n f k = k * 2 ^ j ∧ n ≤ 2 * splitGo n f k ∧ (k < n → splitGo n f k < n) := by
  intro f
  induction f with
  | zero => intro k hk hn; exact ⟨0, by simp [splitGo], by simp only [splitGo]; omega, fun h => h⟩
  | succ f ih =>
    intro k hk hn
    simp only [splitGo]
    split
    · rename_i h
      obtain ⟨j, h1, h2, h3⟩ := ih (2 * k) (by omega) (by omega)
      exact ⟨j + 1, by rw [h1, Nat.pow_succ, Nat.mul_comm (2 ^ j) 2, ← Nat.mul_assoc, Nat.mul_comm k 2], h2, fun _ => h3 h⟩
    · exact ⟨0, by simp, by omega, fun h => h⟩
theorem split_pos (n : Nat) : 0 < split n := by
  obtain ⟨j, h, _⟩ := splitGo_spec n n 1 (by omega) (by omega)
  rw [split, h, Nat.one_mul]; exact Nat.two_pow_pos j
theorem split_lt {n : Nat} (h : 2 ≤ n) : split n < n := by
  obtain ⟨j, _, _, h3⟩ := splitGo_spec n n 1 (by omega) (by omega)
  exact h3 (by omega)
theorem split_ge (n : Nat) : n ≤ 2 * split n := by
  obtain ⟨j, _, h2, _⟩ := splitGo_spec n n 1 (by omega) (by omega)
  exact h2
theorem split_pow (n : Nat) : ∃ j, split n = 2 ^ j := by
  obtain ⟨j, h, _⟩ := splitGo_spec n n 1 (by omega) (by omega)
  exact ⟨j, by rw [split, h, Nat.one_mul]⟩
theorem splitGo_step (n f k : Nat) (h : 2 * k < n) (hf : n ≤ k + f) (hk : 0 < k) : splitGo n f k = splitGo n (f - 1) (2 * k) := by
  match f with
  | 0 => omega
  | f + 1 => simp only [splitGo]; rw [if_pos h]; rfl
theorem splitGo_stop (n f k : Nat) (h : ¬ 2 * k < n) : splitGo n f k = k := by
  match f with
  | 0 => rfl
  | f + 1 => simp only [splitGo]; rw [if_neg h]

/-- the root, f steps at most -/
def rootF : Nat → List (List Nat) → List Nat
  | 0, _ => []
  | f + 1, l =>
    match l with
    | [] => sha []
    | [x] => x
    | l => node (rootF f (l.take (split l.length))) (rootF f (l.drop (split l.length)))
def root (l : List (List Nat)) : List Nat := rootF (l.length + 1) l
def notesF : Nat → List (List Nat) → List (List Nat)
  | 0, _ => []
  | f + 1, l =>
    match l with
    | [] => [[]]
    | [_] => []
    | l => notesF f (l.take (split l.length)) ++ notesF f (l.drop (split l.length)) ++ [1 :: (rootF f (l.take (split l.length)) ++ rootF f (l.drop (split l.length)))]
def notes (l : List (List Nat)) : List (List Nat) := notesF (l.length + 1) l
theorem rootF_more : ∀ (f g : Nat) (l : List (List Nat)), l.length < f → l.length < g → rootF f l = rootF g l := by
  intro f
  induction f with
  | zero => intro g l h; omega
  | succ f ih =>
    intro g l hf hg
    obtain ⟨g, rfl⟩ : ∃ g', g = g' + 1 := ⟨g - 1, by omega⟩
    match l, hf, hg with
    | [], _, _ => rfl
    | [_], _, _ => rfl
    | a :: b :: l, hf, hg =>
      have h1 := split_lt (n := (a :: b :: l).length) (by simp)
      have h2 := split_pos (a :: b :: l).length
      simp only [rootF]
      rw [ih g (List.take _ _) (by simp only [List.length_take]; omega) (by simp only [List.length_take]; omega), ih g (List.drop _ _) (by simp only [List.length_drop]; omega) (by simp only [List.length_drop]; omega)]
theorem notesF_more : ∀ (f g : Nat) (l : List (List Nat)), l.length < f → l.length < g → notesF f l = notesF g l := by
  intro f
  induction f with
  | zero => intro g l h; omega
  | succ f ih =>
    intro g l hf hg
    obtain ⟨g, rfl⟩ : ∃ g', g = g' + 1 := ⟨g - 1, by omega⟩
    match l, hf, hg with
    | [], _, _ => rfl
    | [_], _, _ => rfl
    | a :: b :: l, hf, hg =>
      have h1 := split_lt (n := (a :: b :: l).length) (by simp)
      have h2 := split_pos (a :: b :: l).length
      simp only [notesF]
      rw [ih g (List.take _ _) (by simp only [List.length_take]; omega) (by simp only [List.length_take]; omega), ih g (List.drop _ _) (by simp only [List.length_drop]; omega) (by simp only [List.length_drop]; omega),
        rootF_more f g (List.take _ _) (by simp only [List.length_take]; omega) (by simp only [List.length_take]; omega), rootF_more f g (List.drop _ _) (by simp only [List.length_drop]; omega) (by simp only [List.length_drop]; omega)]
theorem root_nil : root [] = sha [] := rfl
theorem root_one (x : List Nat) : root [x] = x := rfl
theorem root_two (l : List (List Nat)) (h : 2 ≤ l.length) : root l = node (root (l.take (split l.length))) (root (l.drop (split l.length))) := by
  have h1 := split_lt h
  have h2 := split_pos l.length
  match l, h with
  | a :: b :: l, h =>
    show node (rootF _ _) (rootF _ _) = node (rootF _ _) (rootF _ _)
    rw [rootF_more _ ((List.take (split (a :: b :: l).length) (a :: b :: l)).length + 1) (List.take _ _) (by simp only [List.length_take]; omega) (by omega),
      rootF_more _ ((List.drop (split (a :: b :: l).length) (a :: b :: l)).length + 1) (List.drop _ _) (by simp only [List.length_drop]; omega) (by omega)]
theorem notes_nil : notes [] = [[]] := rfl
theorem notes_one (x : List Nat) : notes [x] = [] := rfl
theorem notes_two (l : List (List Nat)) (h : 2 ≤ l.length) : notes l = notes (l.take (split l.length)) ++ notes (l.drop (split l.length)) ++ [1 :: (root (l.take (split l.length)) ++ root (l.drop (split l.length)))] := by
  have h1 := split_lt h
  have h2 := split_pos l.length
  match l, h with
  | a :: b :: l, h =>
    show notesF _ _ ++ notesF _ _ ++ [1 :: (rootF _ _ ++ rootF _ _)] = notesF _ _ ++ notesF _ _ ++ [1 :: (rootF _ _ ++ rootF _ _)]
    rw [rootF_more _ ((List.take (split (a :: b :: l).length) (a :: b :: l)).length + 1) (List.take _ _) (by simp only [List.length_take]; omega) (by omega),
      rootF_more _ ((List.drop (split (a :: b :: l).length) (a :: b :: l)).length + 1) (List.drop _ _) (by simp only [List.length_drop]; omega) (by omega),
      notesF_more _ ((List.take (split (a :: b :: l).length) (a :: b :: l)).length + 1) (List.take _ _) (by simp only [List.length_take]; omega) (by omega),
      notesF_more _ ((List.drop (split (a :: b :: l).length) (a :: b :: l)).length + 1) (List.drop _ _) (by simp only [List.length_drop]; omega) (by omega)]
theorem notes_len : ∀ (m : Nat) (l : List (List Nat)), l.length ≤ m → l ≠ [] → (notes l).length + 1 = l.length := by
  intro m
  induction m with
  | zero => intro l h hn; exact absurd (List.eq_nil_of_length_eq_zero (by omega)) hn
  | succ m ih =>
    intro l h hn
    by_cases h2 : 2 ≤ l.length
    · have h1 := split_lt h2
      have h0 := split_pos l.length
      have e1 : (l.take (split l.length)).length = split l.length := by rw [List.length_take]; omega
      have e2 : (l.drop (split l.length)).length = l.length - split l.length := by rw [List.length_drop]
      have a1 := ih (l.take (split l.length)) (by omega) (by intro e; rw [e] at e1; simp at e1; omega)
      have a2 := ih (l.drop (split l.length)) (by omega) (by intro e; rw [e] at e2; simp at e2; omega)
      rw [notes_two l h2]
      simp only [List.length_append, List.length_cons, List.length_nil]
      omega
    · match l, hn, h2 with
      | [x], _, _ => rfl
      | _ :: _ :: _, _, h2 => simp at h2
theorem notes_le (l : List (List Nat)) : (notes l).length ≤ l.length + 1 := by
  by_cases h : l = []
  · subst h; simp [notes_nil]
  · have := notes_len l.length l (Nat.le_refl _) h; omega
theorem notes_le' (l : List (List Nat)) (h : l ≠ []) : (notes l).length + 1 ≤ l.length := by
  have := notes_len l.length l (Nat.le_refl _) h; omega
end Sp
end Go.Proofs.YtmmijecookbajaaDoor
