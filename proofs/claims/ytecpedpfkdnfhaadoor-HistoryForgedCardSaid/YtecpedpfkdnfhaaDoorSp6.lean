/- Part Sp6 of the proofs on this seat. Conditions: none beyond those in the theorems. By an AI agent. -/
import Derived.Test.YtecpedpfkdnfhaaDoorSp5
namespace Go.Proofs.YtecpedpfkdnfhaaDoor.Sp
/-- The roots of the elder and of the younger tree, along the path turned round: both, whether the path fits, what is noted. -/
def bothR (old : List Nat) : List (List Nat) → Nat → Nat → Bool → (List Nat × List Nat × Bool) × List (List Nat)
  | [], m, n, whole => if m = n ∧ whole = true then ((old, old, true), []) else ((zero32, zero32, false), [])
  | last :: q, m, n, whole => if m = n ∧ whole = true then ((old, old, false), []) else if m = n then ((last, last, q.isEmpty), []) else
      if m ≤ split n then (let r := bothR old q m (split n) whole; ((r.1.1, node r.1.2.1 last, r.1.2.2), r.2 ++ [1 :: (r.1.2.1 ++ last)]))
      else (let r := bothR old q (m - split n) (n - split n) false; ((node last r.1.1, node last r.1.2.1, r.1.2.2), r.2 ++ [1 :: (last ++ r.1.1), 1 :: (last ++ r.1.2.1)]))
def both (old : List Nat) (p : List (List Nat)) (m n : Nat) (whole : Bool) : List Nat × List Nat × Bool := (bothR old p.reverse m n whole).1
def bothN (old : List Nat) (p : List (List Nat)) (m n : Nat) (whole : Bool) : List (List Nat) := (bothR old p.reverse m n whole).2
theorem both_whole (old : List Nat) (p : List (List Nat)) (n : Nat) : both old p n n true = (old, old, p.isEmpty) := by
  unfold both
  cases hp : p.reverse with
  | nil => rw [List.reverse_eq_nil_iff] at hp; subst hp; simp [bothR]
  | cons x q => simp [bothR]; intro e; rw [e] at hp; simp at hp
theorem bothN_whole (old : List Nat) (p : List (List Nat)) (n : Nat) : bothN old p n n true = [] := by
  unfold bothN
  cases hp : p.reverse with
  | nil => simp [bothR]
  | cons x q => simp [bothR]
theorem both_nil (old : List Nat) (m n : Nat) (whole : Bool) (h : ¬ (m = n ∧ whole = true)) : both old [] m n whole = (zero32, zero32, false) := by
  unfold both; simp only [List.reverse_nil, bothR, if_neg h]
theorem bothN_nil (old : List Nat) (m n : Nat) (whole : Bool) : bothN old [] m n whole = [] := by
  unfold bothN; simp only [List.reverse_nil, bothR]; split <;> rfl
theorem both_part (old : List Nat) (q : List (List Nat)) (last : List Nat) (n : Nat) : both old (q ++ [last]) n n false = (last, last, q.isEmpty) := by
  unfold both; simp [bothR]
theorem bothN_part (old : List Nat) (q : List (List Nat)) (last : List Nat) (n : Nat) : bothN old (q ++ [last]) n n false = [] := by
  unfold bothN; simp [bothR]
theorem both_lo (old : List Nat) (q : List (List Nat)) (last : List Nat) (m n : Nat) (whole : Bool) (h : m ≠ n) (hk : m ≤ split n) :
    both old (q ++ [last]) m n whole = ((both old q m (split n) whole).1, node (both old q m (split n) whole).2.1 last, (both old q m (split n) whole).2.2) := by
  unfold both; simp [bothR, h, hk]
theorem bothN_lo (old : List Nat) (q : List (List Nat)) (last : List Nat) (m n : Nat) (whole : Bool) (h : m ≠ n) (hk : m ≤ split n) :
    bothN old (q ++ [last]) m n whole = bothN old q m (split n) whole ++ [1 :: ((both old q m (split n) whole).2.1 ++ last)] := by
  unfold both bothN; simp [bothR, h, hk]
theorem both_hi (old : List Nat) (q : List (List Nat)) (last : List Nat) (m n : Nat) (whole : Bool) (h : m ≠ n) (hk : ¬ m ≤ split n) :
    both old (q ++ [last]) m n whole = (node last (both old q (m - split n) (n - split n) false).1, node last (both old q (m - split n) (n - split n) false).2.1, (both old q (m - split n) (n - split n) false).2.2) := by
  unfold both; simp [bothR, h, hk]
theorem bothN_hi (old : List Nat) (q : List (List Nat)) (last : List Nat) (m n : Nat) (whole : Bool) (h : m ≠ n) (hk : ¬ m ≤ split n) :
    bothN old (q ++ [last]) m n whole = bothN old q (m - split n) (n - split n) false ++ [1 :: (last ++ (both old q (m - split n) (n - split n) false).1), 1 :: (last ++ (both old q (m - split n) (n - split n) false).2.1)] := by
  unfold both bothN; simp [bothR, h, hk]
theorem bothN_len (old : List Nat) (p : List (List Nat)) : ∀ m n whole, (bothN old p m n whole).length ≤ 2 * p.length := by
  unfold bothN
  rw [← List.length_reverse (as := p)]
  induction p.reverse with
  | nil => intro m n whole; simp only [bothR]; split <;> simp
  | cons x q ih =>
    intro m n whole
    simp only [bothR]
    split
    · simp
    split
    · simp
    split
    · have := ih m (split n) whole
      simp only [List.length_append, List.length_cons, List.length_nil]; omega
    · have := ih (m - split n) (n - split n) false
      simp only [List.length_append, List.length_cons, List.length_nil]; omega
theorem split_same {n m : Nat} (h1 : split n < m) (h2 : m ≤ n) : split m = split n := by
  obtain ⟨i, hi⟩ := split_pow n
  obtain ⟨j, hj⟩ := split_pow m
  have p0 := split_pos n
  have a1 := split_ge n
  have a2 := split_ge m
  have a3 := split_lt (n := m) (by omega)
  rcases Nat.lt_trichotomy i j with h | h | h
  · have h3 : 2 ^ (i + 1) ≤ 2 ^ j := Nat.pow_le_pow_right (by decide) h
    rw [Nat.pow_succ] at h3; omega
  · rw [hi, hj, h]
  · have h3 : 2 ^ (j + 1) ≤ 2 ^ i := Nat.pow_le_pow_right (by decide) h
    rw [Nat.pow_succ] at h3; omega
/-- What Growth shows leads to both roots. -/
theorem both_growth : ∀ (k : Nat) (l : List (List Nat)) (m : Nat) (whole : Bool) (old : List Nat), l.length ≤ k → 0 < m → m ≤ l.length → (whole = true → old = root (l.take m)) →
    both old (growth whole m l) m l.length whole = (root (l.take m), root l, true) := by
  intro k
  induction k with
  | zero => intro l m whole old h h0 h1; omega
  | succ k ih =>
    intro l m whole old h h0 hm ho
    by_cases h1 : m = l.length
    · subst h1
      rw [growth_all, List.take_length]
      rw [List.take_length] at ho
      cases whole with
      | true => simp only [if_true]; rw [both_whole, ho rfl]; rfl
      | false =>
        simp only [Bool.false_eq_true, if_false]
        have := both_part old [] (root l) l.length
        simpa using this
    have hk0 := split_pos l.length
    have hk1 := split_lt (n := l.length) (by omega)
    have e1 : (l.take (split l.length)).length = split l.length := by rw [List.length_take]; omega
    have e2 : (l.drop (split l.length)).length = l.length - split l.length := by rw [List.length_drop]
    by_cases hk : m ≤ split l.length
    · have e3 : (l.take (split l.length)).take m = l.take m := by rw [List.take_take, Nat.min_eq_left hk]
      have := ih (l.take (split l.length)) m whole old (by omega) h0 (by omega) (by rw [e3]; exact ho)
      rw [e1, e3] at this
      rw [growth_lo _ _ _ h0 (by omega) hk, both_lo _ _ _ _ _ _ h1 hk, this, root_two l (by omega)]
    · have := ih (l.drop (split l.length)) (m - split l.length) false old (by omega) (by omega) (by omega) (by simp)
      rw [e2] at this
      have hs := split_same (n := l.length) (m := m) (by omega) hm
      have e4 : (l.take m).length = m := by rw [List.length_take]; omega
      have e5 : (l.take m).take (split l.length) = l.take (split l.length) := by rw [List.take_take, Nat.min_eq_left (by omega)]
      have e6 : (l.take m).drop (split l.length) = (l.drop (split l.length)).take (m - split l.length) := by rw [List.drop_take]
      rw [growth_hi _ _ _ (by omega) hk, both_hi _ _ _ _ _ _ h1 hk, this, root_two l (by omega), root_two (l.take m) (by omega), e4, hs, e5, e6]
/-- Does this show that a tree of m leaves became one of n, m no more than n? -/
def isGrown (m n : Nat) (old young : List Nat) (p : List (List Nat)) : Bool :=
  if m = n then p.isEmpty && old == young else if m = 0 then p.isEmpty && old == sha [] else
  (both old p m n true).2.2 && (both old p m n true).1 == old && (both old p m n true).2.1 == young
def isGrownN (m n : Nat) (old : List Nat) (p : List (List Nat)) : List (List Nat) :=
  if m = n then [] else if m = 0 then (if p.isEmpty then [[]] else []) else bothN old p m n true
theorem isGrownN_len (m n : Nat) (old : List Nat) (p : List (List Nat)) : (isGrownN m n old p).length ≤ 2 * p.length + 1 := by
  unfold isGrownN
  split
  · simp
  split
  · split <;> simp
  · have := bothN_len old p m n true; omega
/-- Whether a path fits goes by its length alone. -/
theorem climbR_fit {x x' : List Nat} : ∀ (q q' : List (List Nat)) (i n : Nat), q.length = q'.length → (climbR x q i n).1.2 = (climbR x' q' i n).1.2 := by
  intro q
  induction q with
  | nil =>
    intro q' i n h
    obtain rfl : q' = [] := List.eq_nil_of_length_eq_zero h.symm
    simp only [climbR]; split <;> rfl
  | cons a q ih =>
    intro q' i n h
    match q', h with
    | b :: q', h =>
      simp only [List.length_cons, Nat.succ.injEq] at h
      simp only [climbR]
      split
      · rfl
      split
      · exact ih q' _ _ h
      · exact ih q' _ _ h
theorem climb_fit (x x' : List Nat) (i n : Nat) (p p' : List (List Nat)) (h : p.length = p'.length) : (climb x i n p).2 = (climb x' i n p').2 :=
  climbR_fit _ _ i n (by simpa using h)
theorem climbR_fits {x x' : List Nat} : ∀ (q q' : List (List Nat)) (i n : Nat), (climbR x q i n).1.2 = true → (climbR x' q' i n).1.2 = true → q.length = q'.length := by
  intro q
  induction q with
  | nil =>
    intro q' i n h h'
    match q', h' with
    | [], _ => rfl
    | b :: q', h' =>
      simp only [climbR] at h h'
      split at h
      · rename_i hn; rw [if_pos hn] at h'; simp at h'
      · simp at h
  | cons a q ih =>
    intro q' i n h h'
    match q', h' with
    | [], h' =>
      simp only [climbR] at h h'
      split at h'
      · rename_i hn; rw [if_pos hn] at h; simp at h
      · simp at h'
    | b :: q', h' =>
      simp only [climbR] at h h'
      split at h
      · simp at h
      · rename_i hn
        rw [if_neg hn] at h'
        split at h
        · rename_i hi
          rw [if_pos hi] at h'
          simpa using ih q' _ _ h h'
        · rename_i hi
          rw [if_neg hi] at h'
          simpa using ih q' _ _ h h'
theorem climb_fits (x x' : List Nat) (i n : Nat) (p p' : List (List Nat)) (h : (climb x i n p).2 = true) (h' : (climb x' i n p').2 = true) : p.length = p'.length := by
  simpa using climbR_fits _ _ i n h h'
end Go.Proofs.YtecpedpfkdnfhaaDoor.Sp
