/- The way up along a path of a tree of hashes on lists. Conditions: none beyond those in the theorems. By an AI agent. -/
import Derived.Test.YtmmijecookbajaaDoorSp3
namespace Go.Proofs.YtmmijecookbajaaDoor.Sp
def zero32 : List Nat := List.replicate 32 0
/-- The way up, from a leaf, along the path turned round: the hash, whether the path fits, what is noted. -/
def climbR (leaf : List Nat) : List (List Nat) → Nat → Nat → (List Nat × Bool) × List (List Nat)
  | [], _, n => if n ≤ 1 then ((leaf, true), []) else ((zero32, false), [])
  | last :: q, i, n => if n ≤ 1 then ((leaf, false), []) else
      if i < split n then (let r := climbR leaf q i (split n); ((node r.1.1 last, r.1.2), r.2 ++ [1 :: (r.1.1 ++ last)]))
      else (let r := climbR leaf q (i - split n) (n - split n); ((node last r.1.1, r.1.2), r.2 ++ [1 :: (last ++ r.1.1)]))
def climb (leaf : List Nat) (i n : Nat) (p : List (List Nat)) : List Nat × Bool := (climbR leaf p.reverse i n).1
def climbN (leaf : List Nat) (i n : Nat) (p : List (List Nat)) : List (List Nat) := (climbR leaf p.reverse i n).2
theorem climb_one (leaf : List Nat) (i n : Nat) (p : List (List Nat)) (h : n ≤ 1) : climb leaf i n p = (leaf, p.isEmpty) := by
  unfold climb
  cases hp : p.reverse with
  | nil => rw [List.reverse_eq_nil_iff] at hp; subst hp; simp [climbR, h]
  | cons x q => simp [climbR, h]; intro e; rw [e] at hp; simp at hp
theorem climbN_one (leaf : List Nat) (i n : Nat) (p : List (List Nat)) (h : n ≤ 1) : climbN leaf i n p = [] := by
  unfold climbN
  cases hp : p.reverse with
  | nil => simp [climbR, h]
  | cons x q => simp [climbR, h]
theorem climb_nil (leaf : List Nat) (i n : Nat) (h : 2 ≤ n) : climb leaf i n [] = (zero32, false) := by
  unfold climb; simp [climbR, show ¬ n ≤ 1 by omega]
theorem climbN_nil (leaf : List Nat) (i n : Nat) : climbN leaf i n [] = [] := by
  unfold climbN; simp [climbR]; split <;> rfl
theorem climb_lo (leaf : List Nat) (i n : Nat) (q : List (List Nat)) (last : List Nat) (h : 2 ≤ n) (hi : i < split n) :
    climb leaf i n (q ++ [last]) = (node (climb leaf i (split n) q).1 last, (climb leaf i (split n) q).2) := by
  unfold climb; simp [climbR, show ¬ n ≤ 1 by omega, hi]
theorem climbN_lo (leaf : List Nat) (i n : Nat) (q : List (List Nat)) (last : List Nat) (h : 2 ≤ n) (hi : i < split n) :
    climbN leaf i n (q ++ [last]) = climbN leaf i (split n) q ++ [1 :: ((climb leaf i (split n) q).1 ++ last)] := by
  unfold climb climbN; simp [climbR, show ¬ n ≤ 1 by omega, hi]
theorem climb_hi (leaf : List Nat) (i n : Nat) (q : List (List Nat)) (last : List Nat) (h : 2 ≤ n) (hi : ¬ i < split n) :
    climb leaf i n (q ++ [last]) = (node last (climb leaf (i - split n) (n - split n) q).1, (climb leaf (i - split n) (n - split n) q).2) := by
  unfold climb; simp [climbR, show ¬ n ≤ 1 by omega, hi]
theorem climbN_hi (leaf : List Nat) (i n : Nat) (q : List (List Nat)) (last : List Nat) (h : 2 ≤ n) (hi : ¬ i < split n) :
    climbN leaf i n (q ++ [last]) = climbN leaf (i - split n) (n - split n) q ++ [1 :: (last ++ (climb leaf (i - split n) (n - split n) q).1)] := by
  unfold climb climbN; simp [climbR, show ¬ n ≤ 1 by omega, hi]
theorem climbN_len (leaf : List Nat) (p : List (List Nat)) : ∀ i n, (climbN leaf i n p).length ≤ p.length := by
  unfold climbN
  rw [← List.length_reverse (as := p)]
  induction p.reverse with
  | nil => intro i n; simp [climbR]; split <;> simp
  | cons x q ih =>
    intro i n
    unfold climbR
    split
    · simp
    · split <;> simp
      · exact ih _ _
      · exact ih _ _
/-- The path of a leaf leads to the root. -/
theorem climb_path : ∀ (m : Nat) (l : List (List Nat)) (i : Nat) (x : List Nat), l.length ≤ m → l[i]? = some x → climb x i l.length (path l i) = (root l, true) := by
  intro m
  induction m with
  | zero => intro l i x h hx; have := (List.getElem?_eq_some_iff.1 hx).1; omega
  | succ m ih =>
    intro l i x h hx
    have hi := (List.getElem?_eq_some_iff.1 hx).1
    by_cases h1 : l.length ≤ 1
    · match l, h1, hi, hx with
      | [y], _, hi, hx =>
        obtain rfl : i = 0 := by simp at hi; exact hi
        simp at hx; subst hx
        rw [path_one, climb_one _ _ _ _ (by simp), root_one]; rfl
    have hk0 := split_pos l.length
    have hk1 := split_lt (n := l.length) (by omega)
    by_cases hik : i < split l.length
    · have e1 : (l.take (split l.length)).length = split l.length := by rw [List.length_take]; omega
      have := ih (l.take (split l.length)) i x (by omega) (by rw [List.getElem?_take, if_pos hik]; exact hx)
      rw [e1] at this
      rw [path_lo l i (by omega) hik, climb_lo _ _ _ _ _ (by omega) hik, this, root_two l (by omega)]
    · have e2 : (l.drop (split l.length)).length = l.length - split l.length := by rw [List.length_drop]
      have := ih (l.drop (split l.length)) (i - split l.length) x (by omega) (by rw [List.getElem?_drop, show split l.length + (i - split l.length) = i by omega]; exact hx)
      rw [e2] at this
      rw [path_hi l i (by omega) (by omega) hi, climb_hi _ _ _ _ _ (by omega) hik, this, root_two l (by omega)]
end Go.Proofs.YtmmijecookbajaaDoor.Sp
