/- Growth of a tree of hashes on lists, and how long ways are. Conditions: none beyond those in the theorems. By an AI agent. -/
import Derived.Test.YtecpedpfkdnfhaaDoorSp4
namespace Go.Proofs.YtecpedpfkdnfhaaDoor.Sp
def growthF : Nat → Bool → Nat → List (List Nat) → List (List Nat)
  | 0, _, _, _ => []
  | f + 1, whole, m, l => if m = l.length then (if whole then [] else [root l]) else
      if m ≤ split l.length then growthF f whole m (l.take (split l.length)) ++ [root (l.drop (split l.length))]
      else growthF f false (m - split l.length) (l.drop (split l.length)) ++ [root (l.take (split l.length))]
/-- What shows that the first m leaves were there ahead of all of them. -/
def growth (whole : Bool) (m : Nat) (l : List (List Nat)) : List (List Nat) := growthF (l.length + 1) whole m l
theorem growthF_more : ∀ (f g : Nat) (whole : Bool) (m : Nat) (l : List (List Nat)), l.length < f → l.length < g → 0 < m → m ≤ l.length → growthF f whole m l = growthF g whole m l := by
  intro f
  induction f with
  | zero => intro g whole m l h; omega
  | succ f ih =>
    intro g whole m l hf hg hm hml
    cases g with
    | zero => omega
    | succ g =>
      unfold growthF
      by_cases h0 : m = l.length
      · rw [if_pos h0, if_pos h0]
      have hk0 := split_pos l.length
      have hk1 := split_lt (n := l.length) (by omega)
      rw [if_neg h0, if_neg h0]
      by_cases hk : m ≤ split l.length
      · rw [if_pos hk, if_pos hk, ih g whole m (l.take (split l.length)) (by rw [List.length_take]; omega) (by rw [List.length_take]; omega) hm (by rw [List.length_take]; omega)]
      · rw [if_neg hk, if_neg hk, ih g false (m - split l.length) (l.drop (split l.length)) (by rw [List.length_drop]; omega) (by rw [List.length_drop]; omega) (by omega) (by rw [List.length_drop]; omega)]
theorem growth_all (whole : Bool) (l : List (List Nat)) : growth whole l.length l = if whole then [] else [root l] := by
  unfold growth growthF; rw [if_pos rfl]
theorem growth_lo (whole : Bool) (m : Nat) (l : List (List Nat)) (h0 : 0 < m) (h1 : m < l.length) (h2 : m ≤ split l.length) : growth whole m l = growth whole m (l.take (split l.length)) ++ [root (l.drop (split l.length))] := by
  have hk0 := split_pos l.length
  have hk1 := split_lt (n := l.length) (by omega)
  have e : growth whole m l = growthF (l.length + 1) whole m l := rfl
  rw [e]
  unfold growthF
  rw [if_neg (by omega), if_pos h2]
  unfold growth
  rw [growthF_more l.length ((l.take (split l.length)).length + 1) whole m _ (by rw [List.length_take]; omega) (by omega) h0 (by rw [List.length_take]; omega)]
theorem growth_hi (whole : Bool) (m : Nat) (l : List (List Nat)) (h1 : m < l.length) (h2 : ¬ m ≤ split l.length) : growth whole m l = growth false (m - split l.length) (l.drop (split l.length)) ++ [root (l.take (split l.length))] := by
  have hk0 := split_pos l.length
  have e : growth whole m l = growthF (l.length + 1) whole m l := rfl
  rw [e]
  unfold growthF
  rw [if_neg (by omega), if_neg h2]
  unfold growth
  rw [growthF_more l.length ((l.drop (split l.length)).length + 1) false _ _ (by rw [List.length_drop]; omega) (by omega) (by omega) (by rw [List.length_drop]; omega)]
/-- Both parts of a tree of no more than 2^(s+1) leaves have no more than 2^s. -/
theorem split_half {n s : Nat} (h2 : 2 ≤ n) (h : n ≤ 2 ^ (s + 1)) : split n ≤ 2 ^ s ∧ n - split n ≤ 2 ^ s := by
  obtain ⟨j, hj⟩ := split_pow n
  have h3 := split_lt h2
  have h4 := split_ge n
  have : j ≤ s := by
    rcases Nat.lt_or_ge s j with h5 | h5
    · have : 2 ^ (s + 1) ≤ 2 ^ j := Nat.pow_le_pow_right (by decide) h5
      omega
    · exact h5
  have h6 : 2 ^ j ≤ 2 ^ s := Nat.pow_le_pow_right (by decide) this
  omega
theorem path_steps : ∀ (s : Nat) (l : List (List Nat)) (i : Nat), l.length ≤ 2 ^ s → (path l i).length ≤ s := by
  intro s
  induction s with
  | zero =>
    intro l i h
    by_cases h0 : l.length ≤ i
    · rw [path_out l i h0]; simp
    match l, h with
    | [], _ => rw [path_out _ _ (by simp)]; simp
    | [x], _ => rw [path_one]; simp
    | _ :: _ :: _, h => simp at h
  | succ s ih =>
    intro l i h
    by_cases h0 : l.length ≤ i
    · rw [path_out l i h0]; simp
    by_cases h1 : l.length ≤ 1
    · match l, h1 with
      | [], _ => rw [path_out _ _ (by simp)]; simp
      | [x], _ => rw [path_one]; simp
    have hh := split_half (by omega) h
    by_cases hi : i < split l.length
    · rw [path_lo l i (by omega) hi]
      have := ih (l.take (split l.length)) i (by rw [List.length_take]; omega)
      simp; omega
    · rw [path_hi l i (by omega) (by omega) (by omega)]
      have := ih (l.drop (split l.length)) (i - split l.length) (by rw [List.length_drop]; omega)
      simp; omega
theorem path_some (l : List (List Nat)) (i : Nat) (h : 2 ≤ l.length) (hi : i < l.length) : 0 < (path l i).length := by
  by_cases hk : i < split l.length
  · rw [path_lo l i h hk]; simp
  · rw [path_hi l i h (by omega) hi]; simp
theorem growth_steps : ∀ (s : Nat) (whole : Bool) (m : Nat) (l : List (List Nat)), l.length ≤ 2 ^ s → 0 < m → m ≤ l.length → (growth whole m l).length ≤ s + 1 := by
  intro s
  induction s with
  | zero =>
    intro whole m l h h0 hm
    have : m = l.length := by simp at h; omega
    subst this
    rw [growth_all]; split <;> simp
  | succ s ih =>
    intro whole m l h h0 hm
    by_cases h1 : m = l.length
    · subst h1; rw [growth_all]; split <;> simp
    have hk1 := split_lt (n := l.length) (by omega)
    have hh := split_half (by omega) h
    by_cases hk : m ≤ split l.length
    · rw [growth_lo _ _ _ h0 (by omega) hk]
      have := ih whole m (l.take (split l.length)) (by rw [List.length_take]; omega) h0 (by rw [List.length_take]; omega)
      simp; omega
    · rw [growth_hi _ _ _ (by omega) hk]
      have := ih false (m - split l.length) (l.drop (split l.length)) (by rw [List.length_drop]; omega) (by omega) (by rw [List.length_drop]; omega)
      simp; omega
theorem growth_len (whole : Bool) (m : Nat) (l : List (List Nat)) (h0 : 0 < m) (hm : m ≤ l.length) : (growth whole m l).length ≤ l.length + 1 :=
  growth_steps l.length whole m l (Nat.le_of_lt Nat.lt_two_pow_self) h0 hm
end Go.Proofs.YtecpedpfkdnfhaaDoor.Sp
