/- Regions whose operations make memory and call in any order: a stretch of them at once. Conditions: none beyond those in the theorems. By an AI agent. -/
import Derived.Test.YtmmijecookbajaaDoorC3
namespace Go.Proofs.YtmmijecookbajaaDoor
open Go Go.RowKit

/-! ### A region whose operations make memory and call, in whatever order: each operation's value is told by an assertion that outlasts whatever comes. -/
def directB (ops : List Oper) (i j : Nat) : Bool := match ops[i]? with
  | some o => o.after.any (fun e => Region.binds .any e && e.on == j)
  | none => false
def reachB (ops : List Oper) : Nat → Nat → Nat → Bool
  | 0, _, _ => false
  | k + 1, f, i => (List.range ops.length).any fun j => directB ops f j && (j == i || reachB ops k j i)
def dstOf (ops : List Oper) (i : Nat) : Option Nat := (ops[i]?).bind (·.dst)

def closedOk (ops : List Oper) (l0 : Array Bool) : Bool :=
  (List.range ops.length).all fun i => !l0.getD i false || (List.range ops.length).all fun j => !directB ops i j || l0.getD j false
def monoOk (ops : List Oper) (l0 : Array Bool) (mo : List Nat) (needs : List (List Nat)) (keys : List Nat) (n : Nat) : Bool :=
  ((mo.zip needs).all fun (i, nd) => nd.all fun j => directB ops i j && mo.contains j) &&
  (mo.all fun i => Nat.blt i ops.length && ((List.range ops.length).all fun j => !directB ops i j || l0.getD j false || (Nat.blt j i && mo.contains j)) &&
    (mo.all fun k => i == k || (dstOf ops i).isNone || dstOf ops i != dstOf ops k) && (keys.all fun t => dstOf ops i != some t) && (!l0.getD i false) &&
    (match dstOf ops i with | some d => Nat.blt d n | none => true) && (match ops[i]? with | some o => o.after.all (fun e => !Region.binds .any e || l0.getD e.on false || (Nat.blt e.on i && mo.contains e.on)) | none => true)) &&
  ((List.range ops.length).all fun k => l0.getD k false || mo.contains k || mo.all fun i => reachB ops ops.length k i) && Nat.beq l0.size ops.length && closedOk ops l0

/-- An assertion that outlasts what leaves the old blocks alone. -/
structure SA where
  p : World → Value → Prop
  st : ∀ v w w', p w v → Chg w w' [] → p w' v
def SA.eq (c : Value) : SA := ⟨fun _ v => v = c, fun _ _ _ h _ => h⟩
def SA.any : SA := ⟨fun _ _ => True, fun _ _ _ h _ => h⟩
def SA.mem (lo : Nat) (cs : List Value) (t : TypeId) : SA := ⟨fun w v => ∃ b, v = .pointer (some ⟨b, 0, none⟩) ∧ lo ≤ b ∧ Blk w b cs t, fun _ _ _ ⟨b, e, l, h⟩ x => ⟨b, e, l, h.keep x (by simp)⟩⟩
def SA.lit (lo n : Nat) (cs : List Value) (t : TypeId) : SA := ⟨fun w v => ∃ b, v = .slice (some ⟨b, 0, none⟩) n n ∧ lo ≤ b ∧ Blk w b cs t, fun _ _ _ ⟨b, e, l, h⟩ x => ⟨b, e, l, h.keep x (by simp)⟩⟩

def blkOf : Value → Option Nat
  | .pointer (some p) => some p.block
  | .slice (some p) _ _ => some p.block
  | _ => none
def FreshV (w w' : World) (v : Value) : Prop := ∀ b, blkOf v = some b → w.heap.size ≤ b ∧ b < w'.heap.size

section
variable {P : Program} {n : Nat} {D : List Deferred} {ops : List Oper}

def withVals (ops : List Oper) (A : Nat → World → Value → Prop) (w : World) : List Nat → Env → (Env → Prop) → Prop
  | [], ρ, k => k ρ
  | j :: js, ρ, k => match dstOf ops j with
    | some d => ∀ v, A j w v → withVals ops A w js ((d, v) :: ρ) k
    | none => withVals ops A w js ρ k

theorem withVals_use {A : Nat → World → Value → Prop} {w : World} {k : Env → Prop} (a : Act) : ∀ (js : List Nat) (ρ : Env), withVals ops A w js ρ k → Fits n D ρ a →
    (∀ j ∈ js, ∀ d, dstOf ops j = some d → ∃ v, a.tmps[d]? = some v ∧ A j w v) → ∃ ρ', Fits n D ρ' a ∧ k ρ'
  | [], ρ, h, hf, _ => ⟨ρ, hf, h⟩
  | j :: js, ρ, h, hf, hv => by
    unfold withVals at h
    cases hd : dstOf ops j with
    | none => rw [hd] at h; exact withVals_use a js ρ h hf (fun j hj => hv j (by simp [hj]))
    | some d =>
      rw [hd] at h
      obtain ⟨v, h1, h2⟩ := hv j (by simp) d hd
      refine withVals_use a js _ (h v h2) ⟨hf.1, hf.2.1, fun t u hu => ?_⟩ (fun j hj => hv j (by simp [hj]))
      rw [get_cons] at hu
      by_cases e : d = t
      · subst e; rw [if_pos rfl] at hu; cases hu; exact h1
      · rw [if_neg e] at hu; exact hf.2.2 t u hu

theorem get_key {t : Nat} {u : Value} : ∀ {ρ : Env}, get ρ t = some u → t ∈ ρ.map (·.1)
  | [], h => by simp [get] at h
  | (s, v) :: l, h => by
    rw [get_cons] at h
    by_cases e : s = t
    · simp [e]
    · rw [if_neg e] at h
      have := get_key h
      simp only [List.map_cons, List.mem_cons]
      exact .inr this

def Obl (P : Program) (n : Nat) (ops : List Oper) (A : Nat → SA) (fr : List Nat) (w1 : World) (ρI : Env) (need : List Nat) (i : Nat) (o : Oper) : Prop :=
  ∀ w, Chg w1 w [] → withVals ops (fun i => (A i).p) w need ρI fun ρ' => wpL P n ops (fun ρ'' w' => Chg w w' [] ∧ ∀ d, o.dst = some d → ∃ v, get ρ'' d = some v ∧ (A i).p w' v ∧ (fr.contains i = true → FreshV w w' v)) [o] ρ' w
def AllObl (P : Program) (n : Nat) (ops : List Oper) (A : Nat → SA) (fr : List Nat) (w1 : World) (ρI : Env) (mo : List Nat) (ns : List (List Nat)) : Prop :=
  mo.length = ns.length ∧ ∀ (k i : Nat) (nd : List Nat) (o : Oper), mo[k]? = some i → ns[k]? = some nd → ops[i]? = some o → Obl P n ops A fr w1 ρI nd i o
theorem obl_nil {A : Nat → SA} {fr : List Nat} {w1 : World} {ρI : Env} : AllObl P n ops A fr w1 ρI [] [] := ⟨rfl, fun k i nd o h => by simp at h⟩
theorem obl_cons {A : Nat → SA} {fr : List Nat} {w1 : World} {ρI : Env} {mo nd : List Nat} {ns : List (List Nat)} {i : Nat} {o : Oper} (hi : ops[i]? = some o)
    (h : ∀ w, Chg w1 w [] → withVals ops (fun i => (A i).p) w nd ρI fun ρ' => wpL P n ops (fun ρ'' w' => Chg w w' [] ∧ ∀ d, o.dst = some d → ∃ v, get ρ'' d = some v ∧ (A i).p w' v ∧ (fr.contains i = true → FreshV w w' v)) [o] ρ' w)
    (hr : AllObl P n ops A fr w1 ρI mo ns) : AllObl P n ops A fr w1 ρI (i :: mo) (nd :: ns) := by
  refine ⟨by simp [hr.1], fun k i' nd' o' h1 h2 h3 => ?_⟩
  cases k with
  | zero =>
    simp at h1 h2
    subst h1 h2
    rw [hi] at h3
    cases h3
    exact h
  | succ k => exact hr.2 k i' nd' o' (by simpa using h1) (by simpa using h2) h3
theorem wv_nil {A : Nat → World → Value → Prop} {w : World} {ρ : Env} {k : Env → Prop} (h : k ρ) : withVals ops A w [] ρ k := h
theorem wv_cons {A : Nat → World → Value → Prop} {w : World} {ρ : Env} {k : Env → Prop} {j d : Nat} {js : List Nat} (hd : dstOf ops j = some d) (h : ∀ v, A j w v → withVals ops A w js ((d, v) :: ρ) k) : withVals ops A w (j :: js) ρ k := by
  unfold withVals; rw [hd]; exact h

/-- An operation's run leaves the frame as it was, but for its own temporary. -/
theorem wp_put {o : Oper} {a : Act} {w : World} {K : Act → World → Prop} {Q : Exit → Act → World → Prop} (hK : ∀ a' w', K a' w' → a'.defers = a.defers) (h : o.wp P a w K Q) : o.wp P a w (fun a' w' => K a' w' ∧ ∃ v, a' = a.put o.dst v) Q := by
  unfold Oper.wp at *
  generalize (execOp a.eval o).run P w = r at *
  cases r with
  | ok nx w' =>
    cases nx <;> simp only [Oper.upon] at h ⊢
    case value u => exact ⟨h, _, rfl⟩
    case skip => exact ⟨h, _, rfl⟩
    case defer d =>
      have := hK _ _ h
      cases hd : o.dst <;> simp [Act.put, hd] at this
    case enter f args => exact Calls.mono h fun e w'' he => by cases e with
      | returned u => exact ⟨he, _, rfl⟩
      | panicked c => exact he
      | outgrown => exact he
    case row row args => exact Rows.mono h fun u w'' he => ⟨he, _, rfl⟩
  | halt x w' => cases x <;> simp only [Oper.upon] at h ⊢ <;> exact h

structure MInv (n : Nat) (D : List Deferred) (ops : List Oper) (A : Nat → SA) (fr : List Nat) (w1 : World) (ρI : Env) (l0 : Array Bool) (mo : List Nat) (l : Array Bool) (a : Act) (w : World) : Prop where
  size : l.size = ops.length
  closed : ∀ i j, l.getD i false = true → directB ops i j = true → j < ops.length → l.getD j false = true
  sub : ∀ i, l.getD i false = true → i ∈ mo ∨ l0.getD i false = true
  sup : ∀ i, l0.getD i false = true → l.getD i false = true
  fits : Fits n D ρI a
  vals : ∀ i ∈ mo, l.getD i false = true → ∀ d, dstOf ops i = some d → ∃ v, a.tmps[d]? = some v ∧ (A i).p w v
  frlt : ∀ i ∈ mo, l.getD i false = true → fr.contains i = true → ∀ d v b, dstOf ops i = some d → a.tmps[d]? = some v → blkOf v = some b → b < w.heap.size
  dist : ∀ i ∈ mo, ∀ j ∈ mo, i ≠ j → l.getD i false = true → l.getD j false = true → fr.contains i = true → fr.contains j = true →
    ∀ d v b d' v' b', dstOf ops i = some d → a.tmps[d]? = some v → blkOf v = some b → dstOf ops j = some d' → a.tmps[d']? = some v' → blkOf v' = some b' → b ≠ b'
  chg : Chg w1 w []

/-- The blocks of those that were made are apart. -/
def Dist (ops : List Oper) (fr : List Nat) (ρ : Env) : Prop := ∀ i ∈ fr, ∀ j ∈ fr, i ≠ j → ∀ d v b d' v' b', dstOf ops i = some d → get ρ d = some v → blkOf v = some b → dstOf ops j = some d' → get ρ d' = some v' → blkOf v' = some b' → b ≠ b'

theorem reach_listed' {l : Array Bool} (hc : ∀ i j, l.getD i false = true → directB ops i j = true → j < ops.length → l.getD j false = true) : ∀ (k f i : Nat), l.getD f false = true → reachB ops k f i = true → l.getD i false = true
  | 0, _, _, _, h => by simp [reachB] at h
  | k + 1, f, i, hf, h => by
    simp only [reachB, List.any_eq_true, Bool.and_eq_true, Bool.or_eq_true, beq_iff_eq] at h
    obtain ⟨j, hjl, hj, h⟩ := h
    rw [List.mem_range] at hjl
    have hj' := hc f j hf hj hjl
    rcases h with rfl | h
    · exact hj'
    · exact reach_listed' hc k j i hj' h
theorem reach_listed {l : Array Bool} (hc : ∀ i j, l.getD i false = true → directB ops i j = true → j < ops.length → l.getD j false = true) : ∀ (k f i : Nat), (∀ j, directB ops f j = true → l.getD j false = true) → reachB ops k f i = true → l.getD i false = true
  | 0, _, _, _, h => by simp [reachB] at h
  | k + 1, f, i, hf, h => by
    simp only [reachB, List.any_eq_true, Bool.and_eq_true, Bool.or_eq_true, beq_iff_eq] at h
    obtain ⟨j, hjl, hj, h | h⟩ := h
    · subst h; exact hf j hj
    · rw [List.mem_range] at hjl
      exact reach_listed' hc k j i (hf j hj) h

theorem getD_set (l : Array Bool) (i j : Nat) (hi : i < l.size) : (l.setIfInBounds i true).getD j false = (decide (i = j) || l.getD j false) := by
  by_cases e : i = j
  · subst e; simp [hi]
  · simp [e, Array.getElem?_setIfInBounds_ne e]

def unl (mo : List Nat) (l : Array Bool) : Nat := (mo.filter fun i => !l.getD i false).length

theorem unl_set {mo : List Nat} {l : Array Bool} {i : Nat} (hnd : mo.Nodup) (hi : i ∈ mo) (hs : i < l.size) (hu : l.getD i false = false) : unl mo (l.setIfInBounds i true) + 1 = unl mo l := by
  unfold unl
  induction mo with
  | nil => cases hi
  | cons k mo ih =>
    have hnd' := List.nodup_cons.1 hnd
    rcases List.mem_cons.1 hi with rfl | hi'
    · have hrest : (mo.filter fun j => !(l.setIfInBounds i true).getD j false) = mo.filter fun j => !l.getD j false := by
        apply List.filter_congr
        intro j hj
        rw [getD_set l i j hs]
        have : i ≠ j := fun e => hnd'.1 (e ▸ hj)
        simp [this]
      simp only [List.filter_cons, hrest, getD_set l i i hs, hu]
      simp
    · have ih := ih hnd'.2 hi'
      have hki : i ≠ k := fun e => hnd'.1 (e ▸ hi')
      have hk2 : (l.setIfInBounds i true).getD k false = l.getD k false := by rw [getD_set l i k hs]; simp [hki]
      rw [List.filter_cons, List.filter_cons, hk2]
      split <;> (try simp only [List.length_cons]) <;> omega

theorem seg_any {A : Nat → SA} {fr fins outs : List Nat} {w1 : World} {ρI : Env} {mo : List Nat} {needs : List (List Nat)} {S : World → Prop} {N : Env → World → Prop} {l0 mask : Array Bool} {f : Nat}
    (hok : monoOk ops l0 mo needs (ρI.map (·.1)) n = true) (hnd : mo.Nodup) (hout : ∀ j ∈ outs, j ∈ mo) (hfr : ∀ j ∈ fr, j ∈ mo)
    (hmask : mask = ((List.range ops.length).map fun i => l0.getD i false || mo.contains i).toArray) (hS : ∀ w, Chg w1 w [] → S w)
    (hobl : AllObl P n ops A fr w1 ρI mo needs)
    (hend : ∀ w, Chg w1 w [] → withVals ops (fun i => (A i).p) w outs ρI fun ρ' => Dist ops fr ρ' → wpD P n ops fins S N f mask ρ' w) :
    ∀ (m : Nat) (l : Array Bool) (a : Act) (w : World), unl mo l = m → MInv n D ops A fr w1 ρI l0 mo l a w → DAny P .any ops.toArray (fun i => fins.contains i) S (Lift n D (Q1 N)) (m + f) l a w := by
  unfold monoOk at hok
  simp only [Bool.and_eq_true, List.all_eq_true, Bool.or_eq_true, List.mem_range] at hok
  obtain ⟨⟨⟨⟨hneed, hmo⟩, hfin⟩, hsz0⟩, hcl0⟩ := hok
  have hsz0 : l0.size = ops.length := Nat.eq_of_beq_eq_true hsz0
  have direct_of : ∀ {i o}, ops[i]? = some o → ∀ e ∈ o.after, Region.binds .any e = true → directB ops i e.on = true := by
    intro i o ho e he hb
    unfold directB
    rw [ho]
    simp only [Array.any_eq_true]
    obtain ⟨m, hm, rfl⟩ := Array.getElem_of_mem he
    exact ⟨m, hm, by simp [hb]⟩
  have direct_to : ∀ {i j}, directB ops i j = true → ∃ o, ops[i]? = some o ∧ ∃ e ∈ o.after, Region.binds .any e = true ∧ e.on = j := by
    intro i j h
    unfold directB at h
    cases ho : ops[i]? with
    | none => rw [ho] at h; cases h
    | some o =>
      rw [ho] at h
      simp only [Array.any_eq_true, Bool.and_eq_true, beq_iff_eq] at h
      obtain ⟨m, hm, hb, he⟩ := h
      exact ⟨o, rfl, _, Array.getElem_mem hm, hb, he⟩
  intro m
  induction m with
  | zero =>
    intro l a w hm hI
    have hall : ∀ i ∈ mo, l.getD i false = true := by
      intro i hi
      cases hl : l.getD i false with
      | true => rfl
      | false =>
        have : i ∈ mo.filter fun i => !l.getD i false := List.mem_filter.2 ⟨hi, by simp only [hl]; rfl⟩
        unfold unl at hm
        rw [List.eq_nil_of_length_eq_zero hm] at this
        cases this
    have hl : l = mask := by
      rw [hmask]
      apply Array.ext
      · simp [hI.size]
      · intro i h1 h2
        simp only [List.getElem_toArray, List.getElem_map, List.getElem_range]
        have e : l.getD i false = l[i] := by simp [h1]
        rw [← e]
        cases hc : l0.getD i false || mo.contains i with
        | true =>
          rcases Bool.or_eq_true_iff.1 hc with hc | hc
          · exact hI.sup i hc
          · exact hall i (by simpa using hc)
        | false =>
          obtain ⟨h3, h4⟩ := Bool.or_eq_false_iff.1 hc
          cases hli : l.getD i false with
          | false => rfl
          | true =>
            rcases hI.sub i hli with h | h
            · have : mo.contains i = true := by simpa using h
              rw [this] at h4; cases h4
            · rw [h] at h3; cases h3
    subst hl
    obtain ⟨ρ', hf', hw⟩ := withVals_use a outs ρI (hend w hI.chg) hI.fits (fun j hj d hd => hI.vals j (hout j hj) (hall j (hout j hj)) d hd)
    rw [Nat.zero_add]
    refine hw (fun i hi j hj hne d v b d' v' b' h1 h2 h3 h4 h5 h6 => ?_) a hf'
    exact hI.dist i (hfr i hi) j (hfr j hj) hne (hall i (hfr i hi)) (hall j (hfr j hj)) (by simpa using hi) (by simpa using hj) d v b d' v' b' h1 (hf'.2.2 d v h2) h3 h4 (hf'.2.2 d' v' h5) h6
  | succ m ih =>
    intro l a w hm hI
    rw [show m + 1 + f = (m + f) + 1 by omega]
    -- the least one that is not listed may come up
    have hex : ∃ i, i ∈ mo ∧ l.getD i false = false := by
      unfold unl at hm
      cases hf : mo.filter fun i => !l.getD i false with
      | nil => rw [hf] at hm; simp at hm
      | cons i _ =>
        have : i ∈ mo.filter fun i => !l.getD i false := by rw [hf]; simp
        obtain ⟨h1, h2⟩ := List.mem_filter.1 this
        refine ⟨i, h1, ?_⟩
        cases hl : l.getD i false with
        | true => simp only [hl] at h2; cases h2
        | false => rfl
    have hready : ∃ i, i ∈ Region.ready .any ops.toArray l := by
      obtain ⟨i, hi⟩ := hex
      induction i using Nat.strongRecOn with
      | _ i ihi =>
        obtain ⟨hi1, hi2⟩ := hi
        have hm1 := hmo i hi1
        by_cases hlow : ∃ j, j < i ∧ j ∈ mo ∧ l.getD j false = false
        · obtain ⟨j, hj, hj2⟩ := hlow; exact ihi j hj hj2
        · have hil : i < ops.length := by have := hm1.1.1.1.1.1.1; simp [Nat.blt] at this; omega
          refine ⟨i, mem_ready.2 ⟨?_, ops[i], by simp [hil], ?_⟩⟩
          · have : l[i]? = some (l[i]'(by rw [hI.size]; exact hil)) := Array.getElem?_eq_getElem (by rw [hI.size]; exact hil)
            simp [this] at hi2 ⊢
            exact hi2
          · intro e he hb
            have hh := hm1.2
            rw [List.getElem?_eq_getElem hil] at hh
            simp only [Array.all_eq_true, Bool.or_eq_true, Bool.and_eq_true] at hh
            obtain ⟨m, hm, rfl⟩ := Array.getElem_of_mem he
            rcases hh m hm with (h | h) | h
            · rw [hb] at h; cases h
            · exact hI.sup _ h
            · have hlt : (ops[i].after[m]).on < i := by have := h.1; simp [Nat.blt] at this; omega
              cases hle : l.getD (ops[i].after[m]).on false with
              | true => rfl
              | false => exact absurd ⟨_, hlt, by simpa using h.2, hle⟩ hlow
    refine ⟨fun h0 => ?_, fun i hi => ?_⟩
    · obtain ⟨i, hi⟩ := hready
      rw [h0] at hi; cases hi
    · obtain ⟨hun, o, ho, hall⟩ := mem_ready.1 hi
      have ho' : ops[i]? = some o := by simpa using ho
      have hil : i < ops.length := (List.getElem?_eq_some_iff.1 ho').1
      have hun' : l.getD i false = false := by
        have : l[i]? = some (l[i]'(by rw [hI.size]; exact hil)) := Array.getElem?_eq_getElem (by rw [hI.size]; exact hil)
        simp [this] at hun ⊢; exact hun
      have hdeps : ∀ j, directB ops i j = true → l.getD j false = true := by
        intro j hj
        obtain ⟨o2, ho2, e, he, hb, rfl⟩ := direct_to hj
        rw [ho'] at ho2
        cases ho2
        exact hall e he hb
      by_cases him : i ∈ mo
      · have hm1 := hmo i him
        obtain ⟨k, hk⟩ := List.getElem?_of_mem him
        have hkl : k < mo.length := (List.getElem?_eq_some_iff.1 hk).1
        obtain ⟨nd, hnd2⟩ : ∃ nd, needs[k]? = some nd := ⟨_, List.getElem?_eq_getElem (by rw [← hobl.1]; exact hkl)⟩
        have hob := hobl.2 k i nd o hk hnd2 ho'
        have hndm : ∀ j ∈ nd, directB ops i j = true ∧ j ∈ mo := by
          intro j hj
          have hz : (i, nd) ∈ mo.zip needs := by
            refine List.mem_of_getElem? (i := k) ?_
            rw [List.getElem?_zip_eq_some]
            exact ⟨hk, hnd2⟩
          have := hneed (i, nd) hz j hj
          exact ⟨this.1, by simpa using this.2⟩
        obtain ⟨ρ', hf', hw⟩ := withVals_use a _ ρI (hob w hI.chg) hI.fits (fun j hj d hd => hI.vals j (hndm j hj).2 (hdeps j (hndm j hj).1) d hd)
        have hwp := hw a hf'
        have hls : i < l.size := by rw [hI.size]; exact hil
        have hkeep : ∀ v x, x ∈ mo → i ≠ x → ∀ d, dstOf ops x = some d → (a.put o.dst v).tmps[d]? = a.tmps[d]? := by
          intro v x hxm hxi d hd
          cases hod : o.dst with
          | none => simp [Act.put]
          | some d' =>
            have hne : d' ≠ d := by
              rintro rfl
              have := hm1.1.1.1.1.2 x hxm
              rcases this with (h | h) | h
              · simp at h; exact hxi h
              · simp [dstOf, ho', hod] at h
              · simp only [bne_iff_ne, ne_eq] at h
                exact h (by rw [hd]; simp [dstOf, ho', hod])
            simp only [Act.put]
            rw [Array.getElem?_setIfInBounds_ne hne]
        have hown : ∀ v d, o.dst = some d → (a.put o.dst v).tmps[d]? = some v := by
          intro v d hod
          have hdn : Nat.blt d n = true := by
            have := hm1.1.2
            rw [show dstOf ops i = some d by simp [dstOf, ho', hod]] at this
            exact this
          have hdn : d < n := Nat.le_of_ble_eq_true hdn
          simp [Act.put, hod, hI.fits.2.1, hdn]
        have hput : ∀ v w', Chg w w' [] → (∀ d, o.dst = some d → (A i).p w' v ∧ (fr.contains i = true → FreshV w w' v)) → (a.put o.dst v).defers = D → MInv n D ops A fr w1 ρI l0 mo (l.setIfInBounds i true) (a.put o.dst v) w' := by
          intro v w' hc hv hdef
          refine ⟨by simp [hI.size], ?_, ?_, ?_, ?_, ?_, ?_, ?_, by simpa using hI.chg.trans hc⟩
          · intro x y hx hd hy
            rw [getD_set l i _ hls] at hx ⊢
            simp only [Bool.or_eq_true, decide_eq_true_eq] at hx ⊢
            rcases hx with rfl | hx
            · exact .inr (hdeps y hd)
            · exact .inr (hI.closed x y hx hd hy)
          · intro x hx
            rw [getD_set l i _ hls] at hx
            simp only [Bool.or_eq_true, decide_eq_true_eq] at hx
            rcases hx with rfl | hx
            · exact .inl him
            · exact hI.sub x hx
          · intro x hx
            rw [getD_set l i _ hls, hI.sup x hx, Bool.or_true]
          · refine ⟨hdef, ?_, fun t u hu => ?_⟩
            · cases hd : o.dst <;> simp [Act.put, hI.fits.2.1]
            · have ht := hI.fits.2.2 t u hu
              cases hd : o.dst with
              | none => exact ht
              | some d =>
                have hne : d ≠ t := by
                  rintro rfl
                  have hk := hm1.1.1.1.2
                  have hkey : d ∈ ρI.map (·.1) := get_key hu
                  have := hk d hkey
                  simp [dstOf, ho', hd] at this
                simp only [Act.put]
                rw [Array.getElem?_setIfInBounds_ne hne]; exact ht
          · intro x hxm hx d hd
            rw [getD_set l i _ hls] at hx
            simp only [Bool.or_eq_true, decide_eq_true_eq] at hx
            by_cases hxi : i = x
            · subst hxi
              have hod : o.dst = some d := by simpa [dstOf, ho'] using hd
              exact ⟨v, hown v d hod, (hv d hod).1⟩
            · have hx := hx.resolve_left hxi
              obtain ⟨u, h1, h2⟩ := hI.vals x hxm hx d hd
              exact ⟨u, by rw [hkeep v x hxm hxi d hd]; exact h1, (A x).st _ _ _ h2 hc⟩
          · intro x hxm hx hfx d u b hd hu hb
            rw [getD_set l i _ hls] at hx
            simp only [Bool.or_eq_true, decide_eq_true_eq] at hx
            by_cases hxi : i = x
            · subst hxi
              have hod : o.dst = some d := by simpa [dstOf, ho'] using hd
              rw [hown v d hod] at hu
              cases hu
              exact ((hv d hod).2 hfx b hb).2
            · have hx := hx.resolve_left hxi
              rw [hkeep v x hxm hxi d hd] at hu
              exact Nat.lt_of_lt_of_le (hI.frlt x hxm hx hfx d u b hd hu hb) hc.size
          · intro x hxm y hym hne hx hy hfx hfy d u b d' u' b' hd hu hb hd' hu' hb'
            rw [getD_set l i _ hls] at hx hy
            simp only [Bool.or_eq_true, decide_eq_true_eq] at hx hy
            by_cases hxi : i = x
            · subst hxi
              have hod : o.dst = some d := by simpa [dstOf, ho'] using hd
              rw [hown v d hod] at hu
              cases hu
              have h1 := ((hv d hod).2 hfx b hb).1
              have hy := hy.resolve_left hne
              rw [hkeep v y hym hne d' hd'] at hu'
              have h2 := hI.frlt y hym hy hfy d' u' b' hd' hu' hb'
              omega
            · have hx := hx.resolve_left hxi
              rw [hkeep v x hxm hxi d hd] at hu
              by_cases hyi : i = y
              · subst hyi
                have hod : o.dst = some d' := by simpa [dstOf, ho'] using hd'
                rw [hown v d' hod] at hu'
                cases hu'
                have h1 := ((hv d' hod).2 hfy b' hb').1
                have h2 := hI.frlt x hxm hx hfx d u b hd hu hb
                omega
              · have hy := hy.resolve_left hyi
                rw [hkeep v y hym hyi d' hd'] at hu'
                exact hI.dist x hxm y hym hne hx hy hfx hfy d u b d' u' b' hd hu hb hd' hu' hb'
        have hstep : ∀ a' w', wpList P ops.toArray (Lift n D (Q1 fun ρ'' w' => Chg w w' [] ∧ ∀ d, o.dst = some d → ∃ v, get ρ'' d = some v ∧ (A i).p w' v ∧ (fr.contains i = true → FreshV w w' v))) [] a' w' → (∃ v, a' = a.put o.dst v) →
            (fins.contains i = true ∨ (S w → S w')) ∧ DAny P .any ops.toArray (fun i => fins.contains i) S (Lift n D (Q1 N)) (m + f) (l.setIfInBounds i true) a' w' := by
          rintro a' w' h ⟨v, rfl⟩
          unfold wpList at h
          obtain ⟨ρ'', hf'', hc, hv⟩ := h
          refine ⟨.inr (fun _ => hS _ (by simpa using hI.chg.trans hc)), ih _ _ _ ?_ (hput v w' hc (fun d hd => ?_) hf''.1)⟩
          · have := unl_set hnd him (by rw [hI.size]; exact hil) hun'
            omega
          · obtain ⟨u, h1, h2⟩ := hv d hd
            have h3 := hf''.2.2 d u h1
            rw [hown v d hd] at h3
            cases h3
            exact h2
        unfold wpOp
        rw [ho]
        simp only
        unfold wpList at hwp
        split
        · rename_i hw2
          rw [if_pos hw2] at hwp
          rcases hwp with hwp | ⟨_, _, _, hwp⟩
          · refine .inl ?_
            have h1 := wp_put (fun a' w' h => by unfold wpList at h; obtain ⟨_, hf, _⟩ := h; exact hf.1.trans hI.fits.1.symm) hwp
            have h2 := Oper.wp_mono (fun a' w' h => hstep a' w' h.1 h.2) h1
            unfold Oper.wp at h2 ⊢
            generalize (execOp a.eval o).run P w = r at *
            cases r with
            | ok nx w2 =>
              cases nx <;> simp only [Oper.upon] at h2 ⊢ <;> first
                | exact h2
                | (refine Calls.mono h2 fun e w'' he => ?_
                   cases e with
                   | returned v => exact he
                   | panicked c => exact he.elim
                   | outgrown => obtain ⟨_, _, he⟩ := he; exact he.elim)
            | halt x w2 => cases x <;> simp only [Oper.upon] at h2 ⊢ <;> first | exact h2.elim | exact h2
          · exact hwp.elim
        · rename_i hw2
          rw [if_neg hw2] at hwp
          exact hstep _ _ hwp ⟨_, rfl⟩
      · exfalso
        obtain ⟨k, hk1, hk2⟩ := hex
        rcases hfin i hil with (h | h) | h
        · have := hI.sup i h
          rw [this] at hun'; cases hun'
        · exact him (by simpa using h)
        · have := reach_listed hI.closed _ _ _ hdeps (h k hk1)
          rw [this] at hk2; cases hk2

/-- A stretch of a drawn region: some operations that make memory or call, in whatever order. -/
theorem d_seg {fins : List Nat} {w1 : World} {ρ : Env} {S : World → Prop} {N : Env → World → Prop} {l0 : Array Bool} {F : Nat} (f : Nat) (mo : List Nat) (needs : List (List Nat)) (fr outs : List Nat) (A : Nat → SA) (mask : Array Bool)
    (hm : F = mo.length + f) (hok : monoOk ops l0 mo needs (ρ.map (·.1)) n = true) (hck : (mo.Nodup ∧ (∀ j ∈ outs, j ∈ mo) ∧ ∀ j ∈ fr, j ∈ mo))
    (hmask : mask = ((List.range ops.length).map fun i => l0.getD i false || mo.contains i).toArray) (hS : ∀ w, Chg w1 w [] → S w)
    (hobl : AllObl P n ops A fr w1 ρ mo needs)
    (hend : ∀ w, Chg w1 w [] → withVals ops (fun i => (A i).p) w outs ρ fun ρ' => Dist ops fr ρ' → wpD P n ops fins S N f mask ρ' w) : wpD P n ops fins S N F l0 ρ w1 := fun D a ha => by
  subst hm
  have hok' := hok
  unfold monoOk at hok'
  simp only [Bool.and_eq_true, List.all_eq_true, Bool.or_eq_true, List.mem_range] at hok'
  obtain ⟨⟨⟨⟨_, hmo⟩, _⟩, hsz0⟩, hcl0⟩ := hok'
  have hun : ∀ i ∈ mo, l0.getD i false = false := fun i hi => by
    have := (hmo i hi).1.1.2
    simpa using this
  refine seg_any hok hck.1 hck.2.1 hck.2.2 hmask hS hobl hend mo.length l0 a w1 ?_ ⟨Nat.eq_of_beq_eq_true hsz0, ?_, fun i h => .inr h, fun i h => h, ha, ?_, ?_, ?_, Chg.refl _ _⟩
  · unfold unl
    rw [List.filter_eq_self.2]
    intro i hi
    simp [hun i hi]
  · intro i j hi hd hj
    unfold closedOk at hcl0
    simp only [List.all_eq_true, List.mem_range, Bool.or_eq_true, Bool.not_eq_true'] at hcl0
    by_cases hil : i < ops.length
    · rcases hcl0 i hil with h | h
      · rw [hi] at h; cases h
      · rcases h j hj with h | h
        · rw [hd] at h; cases h
        · exact h
    · rw [show l0.getD i false = false by simp [show ¬ i < l0.size by rw [Nat.eq_of_beq_eq_true hsz0]; exact hil]] at hi; cases hi
  · intro i hi h; rw [hun i hi] at h; cases h
  · intro i hi h; rw [hun i hi] at h; cases h
  · intro i hi j hj _ h; rw [hun i hi] at h; cases h
/-- Two operations may come up: each is carried out first. -/
theorem d_all {fins : List Nat} {S : World → Prop} {N : Env → World → Prop} {f : Nat} {l : Array Bool} {ρ : Env} {w : World} {rs : List Nat} (hne : rs ≠ []) (hr : Region.ready .any ops.toArray l = rs)
    (kk : ∀ x ∈ rs, ∃ o, ops[x]? = some o ∧ wpL P n ops (fun ρ' w' => (fins.contains x = true ∨ S w') ∧ wpD P n ops fins S N f (l.setIfInBounds x true) ρ' w') [o] ρ w) : wpD P n ops fins S N (f + 1) l ρ w := fun D a ha => by
  refine ⟨fun h => (by rw [h] at hr; exact absurd hr.symm hne), fun x hx => ?_⟩
  rw [hr] at hx
  have key : ∀ (x : Nat) (o : Oper), ops[x]? = some o → wpL P n ops (fun ρ' w' => (fins.contains x = true ∨ S w') ∧ wpD P n ops fins S N f (l.setIfInBounds x true) ρ' w') [o] ρ w →
      wpOp P ops.toArray (Lift n D (Q1 N)) x (fun a' w' => (fins.contains x = true ∨ (S w → S w')) ∧ DAny P .any ops.toArray (fun i => fins.contains i) S (Lift n D (Q1 N)) f (l.setIfInBounds x true) a' w') a w := by
    intro x o hx k
    have h := k a ha
    unfold wpOp
    rw [show ops.toArray[x]? = some o by simpa using hx]
    simp only
    unfold wpList at h
    have key : ∀ a' w', wpList P ops.toArray (Lift n D (Q1 fun ρ' w' => (fins.contains x = true ∨ S w') ∧ wpD P n ops fins S N f (l.setIfInBounds x true) ρ' w')) [] a' w' →
        (fins.contains x = true ∨ (S w → S w')) ∧ DAny P .any ops.toArray (fun i => fins.contains i) S (Lift n D (Q1 N)) f (l.setIfInBounds x true) a' w' := by
      intro a' w' h
      unfold wpList at h
      obtain ⟨ρ', f', h1, h2⟩ := h
      exact ⟨h1.imp_right (fun h _ => h), h2 _ f'⟩
    split
    · rename_i hw
      rw [if_pos hw] at h
      rcases h with h | ⟨_, _, _, h⟩
      · refine .inl ?_
        have h' := Oper.wp_mono key h
        unfold Oper.wp at h' ⊢
        generalize (execOp a.eval o).run P w = r at *
        cases r with
        | ok nx w1 =>
          cases nx <;> simp only [Oper.upon] at h' ⊢ <;> first
            | exact h'
            | (refine Calls.mono h' fun e w'' he => ?_
               cases e with
               | returned v => exact he
               | panicked c => exact he.elim
               | outgrown => obtain ⟨_, _, he⟩ := he; exact he.elim)
        | halt x w1 => cases x <;> simp only [Oper.upon] at h' ⊢ <;> first | exact h'.elim | exact h'
      · exact h.elim
    · rename_i hw
      rw [if_neg hw] at h
      exact key _ _ h
  obtain ⟨o, ho, hk⟩ := kk x hx
  exact key _ o ho hk
theorem d_two {fins : List Nat} {S : World → Prop} {N : Env → World → Prop} {f : Nat} {l : Array Bool} {ρ : Env} {w : World} (i j : Nat) {oi oj : Oper} (hi : ops[i]? = some oi) (hj : ops[j]? = some oj) (hr : Region.ready .any ops.toArray l = [i, j])
    (ki : wpL P n ops (fun ρ' w' => (fins.contains i = true ∨ S w') ∧ wpD P n ops fins S N f (l.setIfInBounds i true) ρ' w') [oi] ρ w)
    (kj : wpL P n ops (fun ρ' w' => (fins.contains j = true ∨ S w') ∧ wpD P n ops fins S N f (l.setIfInBounds j true) ρ' w') [oj] ρ w) : wpD P n ops fins S N (f + 1) l ρ w :=
  d_all (by simp) hr fun x hx => by
    simp only [List.mem_cons, List.not_mem_nil, or_false] at hx
    rcases hx with rfl | rfl
    · exact ⟨oi, hi, ki⟩
    · exact ⟨oj, hj, kj⟩
theorem d_three {fins : List Nat} {S : World → Prop} {N : Env → World → Prop} {f : Nat} {l : Array Bool} {ρ : Env} {w : World} (i j m : Nat) {oi oj om : Oper} (hi : ops[i]? = some oi) (hj : ops[j]? = some oj) (hm : ops[m]? = some om) (hr : Region.ready .any ops.toArray l = [i, j, m])
    (ki : wpL P n ops (fun ρ' w' => (fins.contains i = true ∨ S w') ∧ wpD P n ops fins S N f (l.setIfInBounds i true) ρ' w') [oi] ρ w)
    (kj : wpL P n ops (fun ρ' w' => (fins.contains j = true ∨ S w') ∧ wpD P n ops fins S N f (l.setIfInBounds j true) ρ' w') [oj] ρ w)
    (km : wpL P n ops (fun ρ' w' => (fins.contains m = true ∨ S w') ∧ wpD P n ops fins S N f (l.setIfInBounds m true) ρ' w') [om] ρ w) : wpD P n ops fins S N (f + 1) l ρ w :=
  d_all (by simp) hr fun x hx => by
    simp only [List.mem_cons, List.not_mem_nil, or_false] at hx
    rcases hx with rfl | rfl | rfl
    · exact ⟨oi, hi, ki⟩
    · exact ⟨oj, hj, kj⟩
    · exact ⟨om, hm, km⟩
end
end Go.Proofs.YtmmijecookbajaaDoor
