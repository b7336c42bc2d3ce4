/- Part Coll2 of the proofs on this seat. Conditions: none beyond those in the theorems. By an AI agent. -/
import Derived.Test.YtecpedpfkdnfhaaDoorColl
import Derived.Test.YtecpedpfkdnfhaaDoorGrow
import Derived.Test.YtecpedpfkdnfhaaDoorSp6
namespace Go.Proofs.YtecpedpfkdnfhaaDoor
open Go Go.RowKit

/-- What a root is the hash of, of lists of leaves' hashes. -/
theorem pre_of (x N : List (List Nat)) (hx : ∀ e ∈ x, ∃ b, e = Sp.leaf b ∧ 0 :: b ∈ N) : ∃ p, p ∈ N ++ Sp.notes x ∧ Sp.root x = Sp.sha p ∧
    ((x = [] ∧ p = []) ∨ (∃ b, x = [Sp.leaf b] ∧ p = 0 :: b) ∨ (2 ≤ x.length ∧ p = 1 :: (Sp.root (x.take (Sp.split x.length)) ++ Sp.root (x.drop (Sp.split x.length))))) := by
  by_cases h2 : 2 ≤ x.length
  · refine ⟨_, ?_, ?_, .inr (.inr ⟨h2, rfl⟩)⟩
    · rw [Sp.notes_two x h2]; simp
    · rw [Sp.root_two x h2]; rfl
  · match x, h2, hx with
    | [], _, _ => exact ⟨[], by simp [Sp.notes_nil], rfl, .inl ⟨rfl, rfl⟩⟩
    | [e], _, hx =>
      obtain ⟨b, rfl, hb⟩ := hx e (by simp)
      exact ⟨0 :: b, by simp [hb], rfl, .inr (.inl ⟨b, rfl, rfl⟩)⟩
    | _ :: _ :: _, h2, _ => simp at h2
/-- Lists of leaves' hashes that have one root, of whatever lengths. -/
theorem roots_coll : ∀ (m : Nat) (x y N : List (List Nat)), x.length + y.length ≤ m → (∀ e ∈ x, ∃ b, e = Sp.leaf b ∧ 0 :: b ∈ N) → (∀ e ∈ y, ∃ b, e = Sp.leaf b ∧ 0 :: b ∈ N) → Sp.root x = Sp.root y → x ≠ y →
    Sp.Clash (N ++ Sp.notes x ++ Sp.notes y) := by
  intro m
  induction m with
  | zero =>
    intro x y N h _ _ _ hne
    have h1 : x = [] := List.eq_nil_of_length_eq_zero (by omega)
    have h2 : y = [] := List.eq_nil_of_length_eq_zero (by omega)
    exact absurd (h1.trans h2.symm) hne
  | succ m ih =>
    intro x y N h hx hy hr hne
    obtain ⟨p, hp, ep, cp⟩ := pre_of x N hx
    obtain ⟨q, hq, eq, cq⟩ := pre_of y N hy
    by_cases he : p = q
    · subst he
      rcases cp with ⟨rfl, c1⟩ | ⟨b, rfl, c1⟩ | ⟨l1, c1⟩ <;> rcases cq with ⟨rfl, c2⟩ | ⟨b', rfl, c2⟩ | ⟨l2, c2⟩
      · exact absurd rfl hne
      · rw [c1] at c2; cases c2
      · rw [c1] at c2; cases c2
      · rw [c1] at c2; cases c2
      · rw [c1] at c2; cases c2; exact absurd rfl hne
      · rw [c1] at c2; cases c2
      · rw [c1] at c2; cases c2
      · rw [c1] at c2; cases c2
      · rw [c1] at c2
        have ok : ∀ e ∈ x, HOk e := fun e he => by obtain ⟨b, rfl, _⟩ := hx e he; exact leaf_ok _
        have ok' : ∀ e ∈ y, HOk e := fun e he => by obtain ⟨b, rfl, _⟩ := hy e he; exact leaf_ok _
        obtain ⟨e1, e2⟩ := app32 (List.cons.inj c2).2 (by rw [(root_ok _ _ (Nat.le_refl _) fun e he => ok e (List.mem_of_mem_take he)).1, (root_ok _ _ (Nat.le_refl _) fun e he => ok' e (List.mem_of_mem_take he)).1])
        rw [Sp.notes_two x l1, Sp.notes_two y l2]
        have s1 := Sp.split_lt l1
        have s2 := Sp.split_lt l2
        have s3 := Sp.split_pos x.length
        have s4 := Sp.split_pos y.length
        by_cases ht : x.take (Sp.split x.length) = y.take (Sp.split y.length)
        · have hd : x.drop (Sp.split x.length) ≠ y.drop (Sp.split y.length) := fun hd => hne (by rw [← List.take_append_drop (Sp.split x.length) x, ht, hd, List.take_append_drop])
          refine (ih _ _ N (by rw [List.length_drop, List.length_drop]; omega) (fun e he => hx e (List.mem_of_mem_drop he)) (fun e he => hy e (List.mem_of_mem_drop he)) e2 hd).mono fun z hz => ?_
          simp only [List.mem_append] at hz ⊢
          rcases hz with (hz | hz) | hz <;> simp [hz]
        · refine (ih _ _ N (by rw [List.length_take, List.length_take]; omega) (fun e he => hx e (List.mem_of_mem_take he)) (fun e he => hy e (List.mem_of_mem_take he)) e1 ht).mono fun z hz => ?_
          simp only [List.mem_append] at hz ⊢
          rcases hz with (hz | hz) | hz <;> simp [hz]
    · refine ⟨p, ?_, q, ?_, by rw [← ep, ← eq, hr], he⟩
      · simp only [List.mem_append] at hp ⊢; exact .inl hp
      · simp only [List.mem_append] at hq ⊢; rcases hq with hq | hq <;> simp [hq]

/-- Whatever leads to a root, leads there from its leaf, by its path; or two unlike ones have one hash. -/
theorem climb_coll : ∀ (m : Nat) (l : List (List Nat)) (i : Nat) (p : List (List Nat)) (x : List Nat), l.length ≤ m → i < l.length → (∀ e ∈ l, HOk e) → HOk x → (∀ e ∈ p, HOk e) →
    Sp.climb x i l.length p = (Sp.root l, true) → (l[i]? = some x ∧ p = Sp.path l i) ∨ Sp.Clash (Sp.climbN x i l.length p ++ Sp.notes l) := by
  intro m
  induction m with
  | zero => intro l i p x h hi; omega
  | succ m ih =>
    intro l i p x h hi ok okx okp hc
    by_cases h1 : l.length ≤ 1
    · match l, h1, hi, hc with
      | [y], _, hi, hc =>
        obtain rfl : i = 0 := by simp at hi; exact hi
        rw [Sp.climb_one _ _ _ _ (by simp), Sp.root_one] at hc
        have h3 := (Prod.mk.inj hc).1
        have h2 := (Prod.mk.inj hc).2
        exact .inl ⟨by rw [h3]; rfl, by rw [Sp.path_one]; simpa using h2⟩
    have hk0 := Sp.split_pos l.length
    have hk1 := Sp.split_lt (n := l.length) (by omega)
    have o1 : ∀ e ∈ l.take (Sp.split l.length), HOk e := fun e he => ok e (List.mem_of_mem_take he)
    have o2 : ∀ e ∈ l.drop (Sp.split l.length), HOk e := fun e he => ok e (List.mem_of_mem_drop he)
    have r1 := root_ok _ _ (Nat.le_refl _) o1
    have r2 := root_ok _ _ (Nat.le_refl _) o2
    have e1 : (l.take (Sp.split l.length)).length = Sp.split l.length := by rw [List.length_take]; omega
    have e2 : (l.drop (Sp.split l.length)).length = l.length - Sp.split l.length := by rw [List.length_drop]
    rcases List.eq_nil_or_concat p with rfl | ⟨q, last, rfl⟩
    · rw [Sp.climb_nil _ _ _ (by omega)] at hc; exact absurd (Prod.mk.inj hc).2 (by decide)
    rw [List.concat_eq_append] at hc okp ⊢
    have okq : ∀ e ∈ q, HOk e := fun e he => okp e (by simp [he])
    have okl := okp last (by simp)
    by_cases hik : i < Sp.split l.length
    · rw [Sp.climb_lo _ _ _ _ _ (by omega) hik, Sp.root_two l (by omega)] at hc
      rw [Sp.climbN_lo _ _ _ _ _ (by omega) hik, Sp.notes_two l (by omega)]
      obtain ⟨c1, c2⟩ := Prod.mk.inj hc
      have okc := climb_ok x okx _ q i (Sp.split l.length) (Nat.le_refl _)
      by_cases he : 1 :: ((Sp.climb x i (Sp.split l.length) q).1 ++ last) = 1 :: (Sp.root (l.take (Sp.split l.length)) ++ Sp.root (l.drop (Sp.split l.length)))
      · obtain ⟨a1, a2⟩ := app32 (List.cons.inj he).2 (by rw [okc.1, r1.1])
        rcases ih (l.take (Sp.split l.length)) i q x (by omega) (by omega) o1 okx okq (by rw [e1]; exact Prod.ext a1 c2) with ⟨b1, b2⟩ | hcl
        · refine .inl ⟨?_, ?_⟩
          · rw [List.getElem?_take, if_pos hik] at b1; exact b1
          · rw [Sp.path_lo l i (by omega) hik, ← b2, a2]
        · rw [e1] at hcl
          refine .inr (hcl.mono fun z hz => ?_)
          simp only [List.mem_append] at hz ⊢
          rcases hz with hz | hz <;> simp [hz]
      · exact .inr ⟨_, by simp, _, by simp, c1, he⟩
    · rw [Sp.climb_hi _ _ _ _ _ (by omega) hik, Sp.root_two l (by omega)] at hc
      rw [Sp.climbN_hi _ _ _ _ _ (by omega) hik, Sp.notes_two l (by omega)]
      obtain ⟨c1, c2⟩ := Prod.mk.inj hc
      by_cases he : 1 :: (last ++ (Sp.climb x (i - Sp.split l.length) (l.length - Sp.split l.length) q).1) = 1 :: (Sp.root (l.take (Sp.split l.length)) ++ Sp.root (l.drop (Sp.split l.length)))
      · obtain ⟨a1, a2⟩ := app32 (List.cons.inj he).2 (by rw [okl.1, r1.1])
        rcases ih (l.drop (Sp.split l.length)) (i - Sp.split l.length) q x (by omega) (by omega) o2 okx okq (by rw [e2]; exact Prod.ext a2 c2) with ⟨b1, b2⟩ | hcl
        · refine .inl ⟨?_, ?_⟩
          · rw [List.getElem?_drop, show Sp.split l.length + (i - Sp.split l.length) = i by omega] at b1; exact b1
          · rw [Sp.path_hi l i (by omega) (by omega) hi, ← b2, a1]
        · rw [e2] at hcl
          refine .inr (hcl.mono fun z hz => ?_)
          simp only [List.mem_append] at hz ⊢
          rcases hz with hz | hz <;> simp [hz]
      · exact .inr ⟨_, by simp, _, by simp, c1, he⟩

theorem both_ok (old : List Nat) (ho : HOk old) : ∀ (k : Nat) (p : List (List Nat)) (m n : Nat) (whole : Bool), p.length ≤ k → (∀ e ∈ p, HOk e) → HOk (Sp.both old p m n whole).1 ∧ HOk (Sp.both old p m n whole).2.1 := by
  intro k
  induction k with
  | zero =>
    intro p m n whole h okp
    obtain rfl : p = [] := List.eq_nil_of_length_eq_zero (by omega)
    by_cases hw : m = n ∧ whole = true
    · obtain ⟨rfl, rfl⟩ := hw; rw [Sp.both_whole]; exact ⟨ho, ho⟩
    · rw [Sp.both_nil _ _ _ _ hw]; exact ⟨zero_ok, zero_ok⟩
  | succ k ih =>
    intro p m n whole h okp
    by_cases hw : m = n ∧ whole = true
    · obtain ⟨rfl, rfl⟩ := hw; rw [Sp.both_whole]; exact ⟨ho, ho⟩
    rcases List.eq_nil_or_concat p with rfl | ⟨q, last, rfl⟩
    · rw [Sp.both_nil _ _ _ _ hw]; exact ⟨zero_ok, zero_ok⟩
    rw [List.concat_eq_append] at h okp ⊢
    rw [List.length_append, List.length_singleton] at h
    have okq : ∀ e ∈ q, HOk e := fun e he => okp e (by simp [he])
    have okl := okp last (by simp)
    by_cases hmn : m = n
    · subst hmn
      obtain rfl : whole = false := by cases whole; rfl; exact absurd ⟨rfl, rfl⟩ hw
      rw [Sp.both_part]; exact ⟨okl, okl⟩
    by_cases hk : m ≤ Sp.split n
    · rw [Sp.both_lo _ _ _ _ _ _ hmn hk]
      exact ⟨(ih q m (Sp.split n) whole (by omega) okq).1, node_ok _ _⟩
    · rw [Sp.both_hi _ _ _ _ _ _ hmn hk]
      exact ⟨node_ok _ _, node_ok _ _⟩

/-- Whatever shows that one tree became another one: the one's leaves are the other's first ones, or two unlike ones have one hash. -/
theorem both_coll : ∀ (k : Nat) (x y p : List (List Nat)) (whole : Bool) (old : List Nat), y.length ≤ k → 0 < x.length → x.length ≤ y.length → (∀ e ∈ x, HOk e) → (∀ e ∈ y, HOk e) → HOk old → (∀ e ∈ p, HOk e) →
    Sp.both old p x.length y.length whole = (Sp.root x, Sp.root y, true) → x = y.take x.length ∨ Sp.Clash (Sp.bothN old p x.length y.length whole ++ Sp.notes x ++ Sp.notes y) := by
  intro k
  induction k with
  | zero => intro x y p whole old h h0 h1; omega
  | succ k ih =>
    intro x y p whole old h h0 hxy okx oky oko okp hb
    have same : Sp.root x = Sp.root y → x.length = y.length → x = y.take x.length ∨ Sp.Clash (Sp.bothN old p x.length y.length whole ++ Sp.notes x ++ Sp.notes y) := by
      intro e1 e2
      by_cases e : x = y
      · subst e; exact .inl (by simp)
      · refine .inr ((root_coll _ x y (Nat.le_refl _) e2 okx oky e1 e).mono fun z hz => ?_)
        simp only [List.mem_append] at hz ⊢
        rcases hz with hz | hz <;> simp [hz]
    by_cases hw : x.length = y.length ∧ whole = true
    · obtain ⟨e, rfl⟩ := hw
      rw [e, Sp.both_whole] at hb
      injection hb with b1 b2; injection b2 with b2 b3
      exact same (b1.symm.trans b2) e
    rcases List.eq_nil_or_concat p with rfl | ⟨q, last, rfl⟩
    · rw [Sp.both_nil _ _ _ _ hw] at hb
      injection hb with b1 b2; injection b2 with b2 b3; cases b3
    rw [List.concat_eq_append] at hb okp same ⊢
    have okq : ∀ e ∈ q, HOk e := fun e he => okp e (by simp [he])
    have okl := okp last (by simp)
    by_cases hmn : x.length = y.length
    · obtain rfl : whole = false := by cases whole; rfl; exact absurd ⟨hmn, rfl⟩ hw
      rw [hmn, Sp.both_part] at hb
      injection hb with b1 b2; injection b2 with b2 b3
      exact same (b1.symm.trans b2) hmn
    have hk0 := Sp.split_pos y.length
    have hk1 := Sp.split_lt (n := y.length) (by omega)
    have o1 : ∀ e ∈ y.take (Sp.split y.length), HOk e := fun e he => oky e (List.mem_of_mem_take he)
    have o2 : ∀ e ∈ y.drop (Sp.split y.length), HOk e := fun e he => oky e (List.mem_of_mem_drop he)
    have r1 := root_ok _ _ (Nat.le_refl _) o1
    have r2 := root_ok _ _ (Nat.le_refl _) o2
    have e1 : (y.take (Sp.split y.length)).length = Sp.split y.length := by rw [List.length_take]; omega
    have e2 : (y.drop (Sp.split y.length)).length = y.length - Sp.split y.length := by rw [List.length_drop]
    by_cases hk : x.length ≤ Sp.split y.length
    · rw [Sp.both_lo _ _ _ _ _ _ hmn hk, Sp.root_two y (by omega)] at hb
      rw [Sp.bothN_lo _ _ _ _ _ _ hmn hk, Sp.notes_two y (by omega)]
      injection hb with b1 b2; injection b2 with b2 b3
      have okb := (both_ok old oko _ q x.length (Sp.split y.length) whole (Nat.le_refl _) okq).2
      by_cases he : 1 :: ((Sp.both old q x.length (Sp.split y.length) whole).2.1 ++ last) = 1 :: (Sp.root (y.take (Sp.split y.length)) ++ Sp.root (y.drop (Sp.split y.length)))
      · obtain ⟨a1, a2⟩ := app32 (List.cons.inj he).2 (by rw [okb.1, r1.1])
        rcases ih x (y.take (Sp.split y.length)) q whole old (by omega) h0 (by omega) okx o1 oko okq (by rw [e1]; exact Prod.ext b1 (Prod.ext a1 b3)) with hl | hcl
        · rw [List.take_take, Nat.min_eq_left hk] at hl; exact .inl hl
        · rw [e1] at hcl
          refine .inr (hcl.mono fun z hz => ?_)
          simp only [List.mem_append] at hz ⊢
          rcases hz with (hz | hz) | hz <;> simp [hz]
      · exact .inr ⟨_, by simp, _, by simp, b2, he⟩
    · have hs := Sp.split_same (n := y.length) (m := x.length) (by omega) hxy
      have p1 : ∀ e ∈ x.take (Sp.split y.length), HOk e := fun e he => okx e (List.mem_of_mem_take he)
      have p2 : ∀ e ∈ x.drop (Sp.split y.length), HOk e := fun e he => okx e (List.mem_of_mem_drop he)
      have q1 := root_ok _ _ (Nat.le_refl _) p1
      have f1 : (x.take (Sp.split y.length)).length = Sp.split y.length := by rw [List.length_take]; omega
      have f2 : (x.drop (Sp.split y.length)).length = x.length - Sp.split y.length := by rw [List.length_drop]
      rw [Sp.both_hi _ _ _ _ _ _ hmn hk, Sp.root_two y (by omega), Sp.root_two x (by omega), hs] at hb
      rw [Sp.bothN_hi _ _ _ _ _ _ hmn hk, Sp.notes_two y (by omega), Sp.notes_two x (by omega), hs]
      injection hb with b1 b2; injection b2 with b2 b3
      by_cases he : 1 :: (last ++ (Sp.both old q (x.length - Sp.split y.length) (y.length - Sp.split y.length) false).1) = 1 :: (Sp.root (x.take (Sp.split y.length)) ++ Sp.root (x.drop (Sp.split y.length)))
      · by_cases he2 : 1 :: (last ++ (Sp.both old q (x.length - Sp.split y.length) (y.length - Sp.split y.length) false).2.1) = 1 :: (Sp.root (y.take (Sp.split y.length)) ++ Sp.root (y.drop (Sp.split y.length)))
        · obtain ⟨a1, a2⟩ := app32 (List.cons.inj he).2 (by rw [okl.1, q1.1])
          obtain ⟨c1, c2⟩ := app32 (List.cons.inj he2).2 (by rw [okl.1, r1.1])
          by_cases ht : x.take (Sp.split y.length) = y.take (Sp.split y.length)
          · rcases ih (x.drop (Sp.split y.length)) (y.drop (Sp.split y.length)) q false old (by omega) (by omega) (by omega) p2 o2 oko okq (by rw [f2, e2]; exact Prod.ext a2 (Prod.ext c2 b3)) with hl | hcl
            · refine .inl ?_
              rw [f2] at hl
              have h9 : y.take x.length = y.take (Sp.split y.length) ++ (y.drop (Sp.split y.length)).take (x.length - Sp.split y.length) := by
                rw [← List.take_add]; congr 1; omega
              rw [h9, ← hl, ← ht, List.take_append_drop]
            · rw [f2, e2] at hcl
              refine .inr (hcl.mono fun z hz => ?_)
              simp only [List.mem_append] at hz ⊢
              rcases hz with (hz | hz) | hz <;> simp [hz]
          · refine .inr ((root_coll _ _ _ (Nat.le_refl _) (by rw [f1, e1]) p1 o1 (a1.symm.trans c1) ht).mono fun z hz => ?_)
            simp only [List.mem_append] at hz ⊢
            rcases hz with hz | hz <;> simp [hz]
        · exact .inr ⟨_, by simp, _, by simp, b2, he2⟩
      · exact .inr ⟨_, by simp, _, by simp, b1, he⟩

/-- The true growth with another elder root. -/
theorem grown_coll : ∀ (k : Nat) (l : List (List Nat)) (m : Nat) (whole : Bool) (old : List Nat), l.length ≤ k → 0 < m → m ≤ l.length → (∀ e ∈ l, HOk e) → HOk old →
    (Sp.both old (Sp.growth whole m l) m l.length whole).2.1 = Sp.root l → (Sp.both old (Sp.growth whole m l) m l.length whole).1 = Sp.root (l.take m) ∨ Sp.Clash (Sp.bothN old (Sp.growth whole m l) m l.length whole ++ Sp.notes l) := by
  intro k
  induction k with
  | zero => intro l m whole old h h0 h1; omega
  | succ k ih =>
    intro l m whole old h h0 hm ok oko hb
    by_cases h1 : m = l.length
    · subst h1
      rw [List.take_length]
      rw [Sp.growth_all] at hb ⊢
      cases whole with
      | true => simp only [if_true] at hb ⊢; rw [Sp.both_whole] at hb ⊢; exact .inl hb
      | false =>
        simp only [Bool.false_eq_true, if_false] at hb ⊢
        have := Sp.both_part old [] (Sp.root l) l.length
        rw [List.nil_append] at this
        rw [this]; exact .inl rfl
    have hk0 := Sp.split_pos l.length
    have hk1 := Sp.split_lt (n := l.length) (by omega)
    have o1 : ∀ e ∈ l.take (Sp.split l.length), HOk e := fun e he => ok e (List.mem_of_mem_take he)
    have o2 : ∀ e ∈ l.drop (Sp.split l.length), HOk e := fun e he => ok e (List.mem_of_mem_drop he)
    have r1 := root_ok _ _ (Nat.le_refl _) o1
    have e1 : (l.take (Sp.split l.length)).length = Sp.split l.length := by rw [List.length_take]; omega
    have e2 : (l.drop (Sp.split l.length)).length = l.length - Sp.split l.length := by rw [List.length_drop]
    by_cases hk : m ≤ Sp.split l.length
    · have e3 : (l.take (Sp.split l.length)).take m = l.take m := by rw [List.take_take, Nat.min_eq_left hk]
      rw [Sp.growth_lo _ _ _ h0 (by omega) hk] at hb ⊢
      rw [Sp.both_lo _ _ _ _ _ _ h1 hk] at hb ⊢
      rw [Sp.bothN_lo _ _ _ _ _ _ h1 hk, Sp.notes_two l (by omega)]
      rw [Sp.root_two l (by omega)] at hb
      simp only at hb ⊢
      have okb := (both_ok old oko _ (Sp.growth whole m (l.take (Sp.split l.length))) m (Sp.split l.length) whole (Nat.le_refl _) (growth_ok _ _ _ _ (Nat.le_refl _) h0 (by omega) o1)).2
      by_cases he : 1 :: ((Sp.both old (Sp.growth whole m (l.take (Sp.split l.length))) m (Sp.split l.length) whole).2.1 ++ Sp.root (l.drop (Sp.split l.length))) = 1 :: (Sp.root (l.take (Sp.split l.length)) ++ Sp.root (l.drop (Sp.split l.length)))
      · obtain ⟨a1, a2⟩ := app32 (List.cons.inj he).2 (by rw [okb.1, r1.1])
        have := ih (l.take (Sp.split l.length)) m whole old (by omega) h0 (by omega) o1 oko (by rw [e1]; exact a1)
        rw [e1, e3] at this
        rcases this with hl | hcl
        · exact .inl hl
        · refine .inr (hcl.mono fun z hz => ?_)
          simp only [List.mem_append] at hz ⊢
          rcases hz with hz | hz <;> simp [hz]
      · exact .inr ⟨_, by simp, _, by simp, hb, he⟩
    · have hs := Sp.split_same (n := l.length) (m := m) (by omega) hm
      have e4 : (l.take m).length = m := by rw [List.length_take]; omega
      have e5 : (l.take m).take (Sp.split l.length) = l.take (Sp.split l.length) := by rw [List.take_take, Nat.min_eq_left (by omega)]
      have e6 : (l.take m).drop (Sp.split l.length) = (l.drop (Sp.split l.length)).take (m - Sp.split l.length) := by rw [List.drop_take]
      rw [Sp.growth_hi _ _ _ (by omega) hk] at hb ⊢
      rw [Sp.both_hi _ _ _ _ _ _ h1 hk] at hb ⊢
      rw [Sp.bothN_hi _ _ _ _ _ _ h1 hk, Sp.notes_two l (by omega), Sp.root_two (l.take m) (by omega), e4, hs, e5, e6]
      rw [Sp.root_two l (by omega)] at hb
      simp only at hb ⊢
      by_cases he : 1 :: (Sp.root (l.take (Sp.split l.length)) ++ (Sp.both old (Sp.growth false (m - Sp.split l.length) (l.drop (Sp.split l.length))) (m - Sp.split l.length) (l.length - Sp.split l.length) false).2.1) = 1 :: (Sp.root (l.take (Sp.split l.length)) ++ Sp.root (l.drop (Sp.split l.length)))
      · obtain ⟨a1, a2⟩ := app32 (List.cons.inj he).2 rfl
        have := ih (l.drop (Sp.split l.length)) (m - Sp.split l.length) false old (by omega) (by omega) (by omega) o2 oko (by rw [e2]; exact a2)
        rw [e2] at this
        rcases this with hl | hcl
        · rw [hl]; exact .inl rfl
        · refine .inr (hcl.mono fun z hz => ?_)
          simp only [List.mem_append] at hz ⊢
          rcases hz with hz | hz <;> simp [hz]
      · exact .inr ⟨_, by simp, _, by simp, hb, he⟩
end Go.Proofs.YtecpedpfkdnfhaaDoor
