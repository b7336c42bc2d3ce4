/- Paths of a tree of hashes on lists. Conditions: none beyond those in the theorems. By an AI agent. -/
import Derived.Test.YtmmijecookbajaaDoorSp2
namespace Go.Proofs.YtmmijecookbajaaDoor.Sp

/-- Of few lists, and short ones. -/
def light (l : List (List Nat)) : Bool := decide (l.length ≤ 40) && l.all fun b => decide (b.length ≤ 100)
theorem light_len {l : List (List Nat)} (h : light l = true) : l.length ≤ 40 := by
  unfold light at h; simp at h; exact h.1
theorem light_each {l : List (List Nat)} (h : light l = true) : ∀ b ∈ l, b.length ≤ 100 := by
  unfold light at h; simp at h; exact h.2

def pathF : Nat → List (List Nat) → Nat → List (List Nat)
  | 0, _, _ => []
  | f + 1, l, i => if l.length ≤ i then [] else if l.length ≤ 1 then [] else
      if i < split l.length then pathF f (l.take (split l.length)) i ++ [root (l.drop (split l.length))]
      else pathF f (l.drop (split l.length)) (i - split l.length) ++ [root (l.take (split l.length))]
def path (l : List (List Nat)) (i : Nat) : List (List Nat) := pathF (l.length + 1) l i
theorem pathF_more : ∀ (f g : Nat) (l : List (List Nat)) (i : Nat), l.length < f → l.length < g → pathF f l i = pathF g l i := by
  intro f
  induction f with
  | zero => intro g l i h; omega
  | succ f ih =>
    intro g l i hf hg
    cases g with
    | zero => omega
    | succ g =>
      unfold pathF
      by_cases h0 : l.length ≤ i
      · rw [if_pos h0, if_pos h0]
      by_cases h1 : l.length ≤ 1
      · rw [if_neg h0, if_neg h0, if_pos h1, if_pos h1]
      have hk0 := split_pos l.length
      have hk1 := split_lt (n := l.length) (by omega)
      rw [if_neg h0, if_neg h0, if_neg h1, if_neg h1]
      rw [ih g (l.take (split l.length)) i (by rw [List.length_take]; omega) (by rw [List.length_take]; omega)]
      rw [ih g (l.drop (split l.length)) (i - split l.length) (by rw [List.length_drop]; omega) (by rw [List.length_drop]; omega)]
theorem path_out (l : List (List Nat)) (i : Nat) (h : l.length ≤ i) : path l i = [] := by
  unfold path pathF; rw [if_pos h]
theorem path_one (x : List Nat) (i : Nat) : path [x] i = [] := by
  unfold path pathF; simp
theorem path_lo (l : List (List Nat)) (i : Nat) (h : 2 ≤ l.length) (hi : i < split l.length) : path l i = path (l.take (split l.length)) i ++ [root (l.drop (split l.length))] := by
  have hk1 := split_lt h
  have e : path l i = pathF (l.length + 1) l i := rfl
  rw [e]
  unfold pathF
  rw [if_neg (by omega), if_neg (by omega), if_pos hi]
  unfold path
  rw [pathF_more l.length ((l.take (split l.length)).length + 1) _ i (by rw [List.length_take]; omega) (by omega)]
theorem path_hi (l : List (List Nat)) (i : Nat) (h : 2 ≤ l.length) (hi : split l.length ≤ i) (hin : i < l.length) : path l i = path (l.drop (split l.length)) (i - split l.length) ++ [root (l.take (split l.length))] := by
  have hk0 := split_pos l.length
  have e : path l i = pathF (l.length + 1) l i := rfl
  rw [e]
  unfold pathF
  rw [if_neg (by omega), if_neg (by omega), if_neg (by omega)]
  unfold path
  rw [pathF_more l.length ((l.drop (split l.length)).length + 1) _ _ (by rw [List.length_drop]; omega) (by omega)]
theorem path_len' : ∀ (m : Nat) (l : List (List Nat)) (i : Nat), l.length ≤ m → (path l i).length ≤ l.length := by
  intro m
  induction m with
  | zero => intro l i h; rw [path_out l i (by omega)]; simp
  | succ m ih =>
    intro l i h
    by_cases h0 : l.length ≤ i
    · rw [path_out l i h0]; simp
    by_cases h1 : l.length ≤ 1
    · match l, h1 with
      | [], _ => rw [path_out _ _ (by simp)]; simp
      | [x], _ => rw [path_one]; simp
    have hk0 := split_pos l.length
    have hk1 := split_lt (n := l.length) (by omega)
    by_cases hi : i < split l.length
    · rw [path_lo l i (by omega) hi]
      have := ih (l.take (split l.length)) i (by rw [List.length_take]; omega)
      rw [List.length_take] at this
      simp; omega
    · rw [path_hi l i (by omega) (by omega) (by omega)]
      have := ih (l.drop (split l.length)) (i - split l.length) (by rw [List.length_drop]; omega)
      rw [List.length_drop] at this
      simp; omega
theorem path_len (l : List (List Nat)) (i : Nat) : (path l i).length ≤ l.length := path_len' _ l i (Nat.le_refl _)
end Go.Proofs.YtmmijecookbajaaDoor.Sp
