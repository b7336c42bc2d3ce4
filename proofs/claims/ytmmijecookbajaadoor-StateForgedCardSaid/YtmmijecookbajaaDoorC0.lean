/- Rules for walking through a function's code with a list of known registers: sequences, choices, loops, jumps back, calls, regions in any order. Conditions: none beyond those in the theorems. By an AI agent. -/
import Derived.WalkKit
import Derived.OrdersHeld
namespace Go.Proofs.YtmmijecookbajaaDoor
open Go

abbrev Env := List (Nat × Value)
def get : Env → Nat → Option Value
  | [], _ => none
  | (s, v) :: l, t => bif Nat.beq s t then some v else get l t

def Fits (n : Nat) (D : List Deferred) (ρ : Env) (a : Act) : Prop := a.defers = D ∧ a.tmps.size = n ∧ ∀ t v, get ρ t = some v → a.tmps[t]? = some v

def ev? (ρ : Env) : Operand → Option Value
  | .tmp t => get ρ t
  | .const v => some v
  | .global g => some (.pointer (some ⟨g, 0, none⟩))
  | .func f => some (.func (.func f) #[] #[])

section
variable {P : Program} {n : Nat} {D : List Deferred} {ρ : Env} {a : Act} {x : Operand} {v : Value} {w : World}

theorem ev_of (h : Fits n D ρ a) (hx : ev? ρ x = some v) : a.eval x = v := by
  cases x with
  | tmp t =>
    have := h.2.2 t v hx
    simp [Act.eval, this]
  | _ => simpa [ev?, Act.eval] using hx

theorem get_cons (d : Nat) (v : Value) (l : Env) (t : Nat) : get ((d, v) :: l) t = if d = t then some v else get l t := by
  show (bif Nat.beq d t then some v else get l t) = _
  by_cases h : d = t
  · subst h; simp
  · have : Nat.beq d t = false := by rw [Bool.eq_false_iff]; exact fun e => h (Nat.eq_of_beq_eq_true e)
    rw [this]; simp [h]

theorem Fits.put (h : Fits n D ρ a) {d : Nat} (hd : Nat.blt d n = true) : Fits n D ((d, v) :: ρ) (a.put (some d) v) := by
  obtain ⟨h1, h2, h3⟩ := h
  have hd : d < n := by simp [Nat.blt] at hd; omega
  refine ⟨h1, by simp [Act.put, h2], fun t u hu => ?_⟩
  rw [get_cons] at hu
  simp only [Act.put]
  by_cases e : d = t
  · subst e
    simp only [if_true, Option.some.injEq] at hu
    subst hu
    simp [h2, hd]
  · rw [if_neg e] at hu
    rw [Array.getElem?_setIfInBounds_ne e]
    exact h3 t u hu

def SubL : Env → Env → Prop
  | [], _ => True
  | (t, v) :: l, ρ => get ρ t = some v ∧ SubL l ρ

theorem SubL.get {E ρ : Env} (h : SubL E ρ) {t : Nat} {v : Value} (hv : get E t = some v) : get ρ t = some v := by
  induction E with
  | nil => simp [YtmmijecookbajaaDoor.get] at hv
  | cons x l ih =>
    obtain ⟨s, u⟩ := x
    obtain ⟨h1, h2⟩ := h
    rw [get_cons] at hv
    by_cases e : s = t
    · subst e
      rw [if_pos rfl] at hv
      rw [h1]; exact hv
    · rw [if_neg e] at hv
      exact ih h2 hv

theorem Fits.sub {E : Env} (h : Fits n D ρ a) (hs : SubL E ρ) : Fits n D E a := ⟨h.1, h.2.1, fun t v hv => h.2.2 t v (hs.get hv)⟩

/-- What is to hold behind a piece of code, by the way it ends. -/
structure Post where
  nrm : Env → World → Prop
  ret : Env → World → Prop
  ext : Nat → Env → World → Prop
  gto : Nat → Env → World → Prop

def Post.setN (Q : Post) (K : Env → World → Prop) : Post := { Q with nrm := K }
def Post.blk (Q : Post) (id : Nat) : Post := { Q with ext := fun i ρ w => bif Nat.beq i id then Q.nrm ρ w else Q.ext i ρ w }
def Post.setG (Q : Post) (G : Nat → Env → World → Prop) : Post := { Q with gto := G }

def Lift (n : Nat) (D : List Deferred) (Q : Post) : Exit → Act → World → Prop
  | .normal, a, w => ∃ ρ, Fits n D ρ a ∧ Q.nrm ρ w
  | .ret, a, w => ∃ ρ, Fits n D ρ a ∧ Q.ret ρ w
  | .exit i, a, w => ∃ ρ, Fits n D ρ a ∧ Q.ext i ρ w
  | .goto i, a, w => ∃ ρ, Fits n D ρ a ∧ Q.gto i ρ w
  | _, _, _ => False

def wpC (P : Program) (n : Nat) (c : Code) (Q : Post) (ρ : Env) (w : World) : Prop := ∀ ⦃D : List Deferred⦄ (a : Act), Fits n D ρ a → c.wp P (Lift n D Q) a w

theorem c_skip {Q : Post} (h : Q.nrm ρ w) : wpC P n .skip Q ρ w := fun _ _ ha => wp_skip ⟨ρ, ha, h⟩
theorem c_ret {Q : Post} (h : Q.ret ρ w) : wpC P n .ret Q ρ w := fun _ _ ha => wp_ret ⟨ρ, ha, h⟩
theorem c_exit {Q : Post} {i : Nat} (h : Q.ext i ρ w) : wpC P n (.exit i) Q ρ w := fun _ _ ha => wp_exit ⟨ρ, ha, h⟩
theorem c_goto {Q : Post} {i : Nat} (h : Q.gto i ρ w) : wpC P n (.goto i) Q ρ w := fun _ _ ha => wp_goto ⟨ρ, ha, h⟩
theorem c_label {Q : Post} {i : Nat} (h : Q.nrm ρ w) : wpC P n (.label i) Q ρ w := fun _ _ ha => wp_label ⟨ρ, ha, h⟩

theorem c_mono {Q Q' : Post} {c : Code} (h : wpC P n c Q ρ w) (h1 : ∀ ρ w, Q.nrm ρ w → Q'.nrm ρ w) (h2 : ∀ ρ w, Q.ret ρ w → Q'.ret ρ w)
    (h3 : ∀ i ρ w, Q.ext i ρ w → Q'.ext i ρ w) (h4 : ∀ i ρ w, Q.gto i ρ w → Q'.gto i ρ w) : wpC P n c Q' ρ w := fun D a ha =>
  wp_mono (h a ha) fun e a w q => by
    cases e with
    | normal => obtain ⟨ρ, f, q⟩ := q; exact ⟨ρ, f, h1 _ _ q⟩
    | ret => obtain ⟨ρ, f, q⟩ := q; exact ⟨ρ, f, h2 _ _ q⟩
    | exit i => obtain ⟨ρ, f, q⟩ := q; exact ⟨ρ, f, h3 _ _ _ q⟩
    | goto i => obtain ⟨ρ, f, q⟩ := q; exact ⟨ρ, f, h4 _ _ _ q⟩
    | panic c => exact q
    | outgrown => exact q

/-- Less is known of the frame. -/
theorem c_sub {Q : Post} {c : Code} (E : Env) (hs : SubL E ρ) (h : wpC P n c Q E w) : wpC P n c Q ρ w := fun _ a ha => h a (ha.sub hs)

theorem c_seq {Q : Post} {x y : Code} (h : ∀ K : Env → World → Prop, (∀ ρ w, wpC P n y Q ρ w → K ρ w) → wpC P n x (Q.setN K) ρ w) : wpC P n (.seq x y) Q ρ w := fun D a ha =>
  wp_seq (wp_mono (h (fun ρ w => wpC P n y Q ρ w) (fun _ _ h => h) a ha) fun e a w q => by
    cases e with
    | normal => obtain ⟨ρ, f, q⟩ := q; exact q a f
    | ret => exact q
    | exit i => exact q
    | goto i => exact q
    | panic c => exact q
    | outgrown => exact q)

theorem c_block {Q : Post} {id : Nat} {c : Code} (h : wpC P n c (Q.blk id) ρ w) :
    wpC P n (.block id c) Q ρ w := fun D a ha =>
  wp_block (wp_mono (h a ha) fun e a w q => by
    cases e with
    | normal => exact q
    | ret => exact q
    | exit i =>
      obtain ⟨ρ, f, q⟩ := q
      simp only [Post.blk] at q
      simp only [Exit.inBlock]
      by_cases e : i = id
      · subst e
        simp at q
        rw [if_pos rfl]; exact ⟨ρ, f, q⟩
      · have : Nat.beq i id = false := by rw [Bool.eq_false_iff]; exact fun h => e (Nat.eq_of_beq_eq_true h)
        simp only [this, cond_false] at q
        rw [if_neg e]; exact ⟨ρ, f, q⟩
    | goto i => exact q
    | panic c => exact q
    | outgrown => exact q)

theorem c_if {Q : Post} {c : Operand} {x y : Code} {b : Bool} (hc : ev? ρ c = some (.bool b)) (ht : b = true → wpC P n x Q ρ w) (hf : b = false → wpC P n y Q ρ w) :
    wpC P n (.cond c x y) Q ρ w := fun _ a ha =>
  wp_cond_split (ev_of ha hc) (fun h => ht h a ha) (fun h => hf h a ha)
theorem c_true {Q : Post} {c : Operand} {x y : Code} (hc : ev? ρ c = some (.bool true)) (h : wpC P n x Q ρ w) : wpC P n (.cond c x y) Q ρ w :=
  c_if hc (fun _ => h) (fun h => by cases h)
theorem c_false {Q : Post} {c : Operand} {x y : Code} (hc : ev? ρ c = some (.bool false)) (h : wpC P n y Q ρ w) : wpC P n (.cond c x y) Q ρ w :=
  c_if hc (fun h => by cases h) (fun _ => h)
theorem c_dec {Q : Post} {c : Operand} {x y : Code} {p : Prop} [Decidable p] (hc : ev? ρ c = some (.bool (decide p))) (ht : p → wpC P n x Q ρ w) (hf : ¬ p → wpC P n y Q ρ w) :
    wpC P n (.cond c x y) Q ρ w := c_if hc (fun h => ht (of_decide_eq_true h)) (fun h => hf (of_decide_eq_false h))

theorem c_loop {Q : Post} {body : Code} {σ : Type} (E : σ → Env) (I : σ → World → Prop) (μ : σ → Nat) (s0 : σ) (h0 : SubL (E s0) ρ) (hI : I s0 w)
    (round : ∀ s w, I s w → wpC P n body (Q.setN fun ρ' w' => ∃ s', SubL (E s') ρ' ∧ I s' w' ∧ μ s' < μ s) (E s) w) : wpC P n (.loop body) Q ρ w := by
  intro D
  have key : ∀ m s w, μ s = m → I s w → ∀ a, Fits n D (E s) a → ∀ (b : Frame) (k : List Item) (cs : List Frame),
      ∃ e a' w', Lift n D Q e a' w' ∧ Arrives P (lone (b.at a (.code body :: .inLoop body :: k)) cs w) b k cs e a' w' := by
    intro m
    induction m using Nat.strongRecOn with
    | _ m ih =>
      intro s w hm hs a ha b k cs
      obtain ⟨e, a₁, w₁, hq, harr⟩ := round s w hs a ha b (.inLoop body :: k) cs
      cases e with
      | normal =>
        obtain ⟨ρ', f, s', hsub, hI', hlt⟩ := hq
        obtain ⟨e₂, a₂, w₂, hq₂, harr₂⟩ := ih (μ s') (hm ▸ hlt) s' w₁ rfl hI' a₁ (f.sub hsub) b k cs
        exact ⟨e₂, a₂, w₂, hq₂, .of_steps (Steps.trans harr (.one step_inLoop)) harr₂⟩
      | exit id => exact ⟨.exit id, a₁, w₁, hq, .pass (x := .inLoop body) rfl (fun _ _ => .inl (by simp)) harr⟩
      | goto l => exact ⟨.goto l, a₁, w₁, hq, .pass (x := .inLoop body) rfl (fun _ _ => .inl (by simp)) harr⟩
      | ret => exact ⟨.ret, a₁, w₁, hq, .pass (x := .inLoop body) rfl (fun _ _ => .inl (by simp)) harr⟩
      | panic ch => exact hq.elim
      | outgrown => exact hq.elim
  intro a ha b k cs
  obtain ⟨e, a', w', hq, harr⟩ := key _ s0 w rfl hI a (ha.sub h0) b k cs
  exact ⟨e, a', w', hq, .of_steps (.one step_loop) harr⟩

/-- A scope into which the run jumps back, to one label: what is known at the label, and a measure. -/
theorem c_scope {Q : Post} {c rest : Code} {σ : Type} (l : Nat) (E : σ → Env) (I : σ → World → Prop) (μ : σ → Nat) (hf : findLabel c l = some rest)
    (first : wpC P n c (Q.setG fun l' ρ' w' => l' = l ∧ ∃ s', SubL (E s') ρ' ∧ I s' w') ρ w)
    (pass : ∀ s w, I s w → wpC P n rest (Q.setG fun l' ρ' w' => l' = l ∧ ∃ s', SubL (E s') ρ' ∧ I s' w' ∧ μ s' < μ s) (E s) w) : wpC P n (.scope c) Q ρ w := by
  have hg : ∀ k, gotoIn l (.inScope c :: k) = some (.code rest :: .inScope c :: k) := fun k => by simp [gotoIn, hf]
  intro D
  have key : ∀ m s w, μ s = m → I s w → ∀ a, Fits n D (E s) a → ∀ (b : Frame) (k : List Item) (cs : List Frame),
      ∃ e a' w', Lift n D Q e a' w' ∧ Arrives P (lone (b.at a (.code rest :: .inScope c :: k)) cs w) b k cs e a' w' := by
    intro m
    induction m using Nat.strongRecOn with
    | _ m ih =>
      intro s w hm hs a ha b k cs
      obtain ⟨e, a₁, w₁, hq, harr⟩ := pass s w hs a ha b (.inScope c :: k) cs
      cases e with
      | normal => exact ⟨.normal, a₁, w₁, hq, Steps.trans harr (.one step_inScope)⟩
      | exit id => exact ⟨.exit id, a₁, w₁, hq, fun k' hk => harr k' (by simp [exitTo, hk])⟩
      | goto l' =>
        obtain ⟨ρ', f, rfl, s', hsub, hI', hlt⟩ := hq
        obtain ⟨e₂, a₂, w₂, hq₂, harr₂⟩ := ih (μ s') (hm ▸ hlt) s' w₁ rfl hI' a₁ (f.sub hsub) b k cs
        exact ⟨e₂, a₂, w₂, hq₂, .of_steps (harr _ (hg k)) harr₂⟩
      | ret => exact ⟨.ret, a₁, w₁, hq, harr⟩
      | panic ch => exact hq.elim
      | outgrown => exact hq.elim
  intro a ha b k cs
  obtain ⟨e, a₁, w₁, hq, harr⟩ := first a ha b (.inScope c :: k) cs
  cases e with
  | normal => exact ⟨.normal, a₁, w₁, hq, .head step_scope (Steps.trans harr (.one step_inScope))⟩
  | exit id => exact ⟨.exit id, a₁, w₁, hq, fun k' hk => .head step_scope (harr k' (by simp [exitTo, hk]))⟩
  | goto l' =>
    obtain ⟨ρ', f, rfl, s', hsub, hI'⟩ := hq
    obtain ⟨e₂, a₂, w₂, hq₂, harr₂⟩ := key _ s' w₁ rfl hI' a₁ (f.sub hsub) b k cs
    exact ⟨e₂, a₂, w₂, hq₂, .of_steps (.head step_scope (harr _ (hg k))) harr₂⟩
  | ret => exact ⟨.ret, a₁, w₁, hq, .of_steps (.one step_scope) harr⟩
  | panic ch => exact hq.elim
  | outgrown => exact hq.elim

/-! ### A call -/
/-- The call returns, and R holds of what it returns and of the world then. -/
def CallsR (P : Program) (f : FuncId) (args : Array Value) (w : World) (R : Value → World → Prop) : Prop :=
  Calls P f args w fun e w' => ∃ v, e = .returned v ∧ R v w'
theorem CallsR.mono {f : FuncId} {args : Array Value} {R R' : Value → World → Prop} (h : CallsR P f args w R) (hr : ∀ v w', R v w' → R' v w') : CallsR P f args w R' :=
  Calls.mono h fun _ _ ⟨v, e, r⟩ => ⟨v, e, hr _ _ r⟩

/-- What a result reads as. -/
def Reads (P : Program) (ρ : Env) (w : World) : ResultVar → Value → Prop
  | .tmp t, v => get ρ t = some v
  | .cell t ty, v => ∃ a, get ρ t = some (.pointer (some a)) ∧ (loadVar ty a).run P w = .ok v w

def ReadsAll (P : Program) (ρ : Env) (w : World) : List ResultVar → List Value → Prop
  | [], [] => True
  | r :: rs, v :: vs => Reads P ρ w r v ∧ ReadsAll P ρ w rs vs
  | _, _ => False

def argEnv : Nat → List Value → Env
  | _, [] => []
  | k, v :: l => (k, v) :: argEnv (k + 1) l

theorem argEnv_get (l : List Value) : ∀ k t v, get (argEnv k l) t = some v → k ≤ t ∧ l[t - k]? = some v := by
  induction l with
  | nil => intro k t v h; simp [argEnv, get] at h
  | cons x l ih =>
    intro k t v h
    rw [argEnv, get_cons] at h
    by_cases e : k = t
    · subst e; simpa using h
    · rw [if_neg e] at h
      obtain ⟨h1, h2⟩ := ih _ _ _ h
      refine ⟨by omega, ?_⟩
      rw [show t - k = (t - (k + 1)) + 1 by omega]
      simpa using h2

theorem fits_args {l : List Value} (hn : l.length ≤ n) : Fits n [] (argEnv 0 l) { tmps := l.toArray ++ Array.replicate (n - l.toArray.size) undef, defers := [] } := by
  refine ⟨rfl, by simp; omega, fun t v h => ?_⟩
  obtain ⟨_, h2⟩ := argEnv_get l 0 t v h
  simp only [Nat.sub_zero] at h2
  have : t < l.length := (List.getElem?_eq_some_iff.1 h2).1
  rw [Array.getElem?_append_left (by simpa using this)]
  simpa using h2

def rd1 (tmps : Array Value) : ResultVar → Sem Value
  | .tmp t => pure (tmps.getD t undef)
  | .cell a t => do loadVar t (← asAddr (tmps.getD a undef))
theorem results_eq (fn : Func) (tmps : Array Value) : results fn tmps = (fn.results.mapM (rd1 tmps)) >>= fun vs => pure (if h : vs.size = 1 then vs[0] else .tuple vs) := by
  unfold results
  congr 1
theorem mapM_reads {rs : List ResultVar} {vs : List Value} {ρ : Env} {a : Act} {w : World} (ha : Fits n D ρ a) (h : ReadsAll P ρ w rs vs) :
    (rs.mapM (rd1 a.tmps)).run P w = .ok vs w := by
  induction rs generalizing vs with
  | nil => cases vs with
    | nil => simp
    | cons => exact h.elim
  | cons r rs ih => cases vs with
    | nil => exact h.elim
    | cons v vs =>
      obtain ⟨hr, hrs⟩ := h
      have ih := ih hrs
      have h1 : (rd1 a.tmps r).run P w = .ok v w := by
        cases r with
        | tmp t =>
          have := ha.2.2 t v hr
          simp [rd1, this]
        | cell t ty =>
          obtain ⟨ad, h1, h2⟩ := hr
          have := ha.2.2 t _ h1
          simp [rd1, this, asAddr, h2]
      simp only [List.mapM_cons, Sem.run_bind, h1, Result.andThen_ok, ih, Sem.run_pure]

/-- Behind a body: the results. -/
def Ends (P : Program) (rs : List ResultVar) (R : Value → World → Prop) (ρ : Env) (w : World) : Prop :=
  ∃ vs, ReadsAll P ρ w rs vs ∧ R (match vs with | [v] => v | _ => .tuple vs.toArray) w

theorem f_enter {f : FuncId} {fn : Func} {c : Code} {rs : List ResultVar} {l : List Value} {R : Value → World → Prop} (hf : P.funcs[f]? = some fn) (hb : fn.body = some c)
    (hn : fn.ntmps = n) (hr : fn.results = rs.toArray) (hl : Nat.ble l.length n = true)
    (h : ∀ Q : Post, (∀ ρ w, Ends P rs R ρ w → Q.nrm ρ w) → (∀ ρ w, Ends P rs R ρ w → Q.ret ρ w) → wpC P n c Q (argEnv 0 l) w) : CallsR P f l.toArray w R := by
  replace h := h { nrm := Ends P rs R, ret := Ends P rs R, ext := fun _ _ _ => False, gto := fun _ _ _ => False } (fun _ _ h => h) (fun _ _ h => h)
  refine calls_of_wp hf hb ?_
  rw [hn]
  refine wp_mono (h _ (fits_args (by simpa using hl))) ?_
  have key : ∀ (a : Act) (w : World) (ρ : Env), Fits n [] ρ a → Ends P rs R ρ w → a.defers = [] ∧ ∃ v, (results fn a.tmps).run P w = .ok v w ∧ ∃ u, Ending.returned v = .returned u ∧ R u w := by
    intro a w ρ ha ⟨vs, h1, h2⟩
    refine ⟨ha.1, _, ?_, _, rfl, h2⟩
    have hm := mapM_reads ha h1
    rw [results_eq, hr, List.mapM_toArray]
    simp only [Sem.run_bind, Sem.run_map, hm, Result.andThen_ok, Sem.run_pure]
    match vs with
    | [] => rfl
    | [v] => rfl
    | _ :: _ :: _ => simp
  intro e a w q
  cases e with
  | normal => obtain ⟨ρ, ha, q⟩ := q; exact key a w ρ ha q
  | ret => obtain ⟨ρ, ha, q⟩ := q; exact key a w ρ ha q
  | exit i => obtain ⟨ρ, ha, q⟩ := q; exact q.elim
  | goto i => obtain ⟨ρ, ha, q⟩ := q; exact q.elim
  | panic c => exact q.elim
  | outgrown => exact q.elim

/-! ### Regions: in the order of the text -/
def wantE (ops : List Oper) (ρ : Env) : Option (Nat × Bool) → Option Bool
  | none => some true
  | some (j, b) => match (ops[j]?).bind (·.dst) with
    | none => some false
    | some d => match get ρ d with
      | some (.bool c) => some (c == b)
      | some _ => some false
      | none => none

theorem want_of {ops : List Oper} {a : Act} {o : Oper} {b : Bool} (ha : Fits n D ρ a) (h : wantE ops ρ o.guard = some b) : Region.wanted o (yielded ops.toArray a.tmps) = b := by
  unfold Region.wanted
  cases hg : o.guard with
  | none => rw [hg] at h; simpa [wantE] using h
  | some jb =>
    obtain ⟨j, want⟩ := jb
    rw [hg] at h
    simp only [wantE] at h
    simp only [yielded, List.getElem?_toArray]
    cases hd : (ops[j]?).bind (·.dst) with
    | none => rw [hd] at h; simp at h ⊢; exact h
    | some d =>
      simp only [hd] at h
      simp only [Option.bind_some]
      cases hv : get ρ d with
      | none => simp [hv] at h
      | some v =>
        simp only [hv] at h
        rw [ha.2.2 d v hv]
        cases v <;> simp at h ⊢ <;> exact h

def Q1 (N : Env → World → Prop) : Post := { nrm := N, ret := fun _ _ => False, ext := fun _ _ _ => False, gto := fun _ _ _ => False }
def wpL (P : Program) (n : Nat) (ops : List Oper) (N : Env → World → Prop) (l : List Oper) (ρ : Env) (w : World) : Prop :=
  ∀ ⦃D : List Deferred⦄ (a : Act), Fits n D ρ a → wpList P ops.toArray (Lift n D (Q1 N)) l a w

theorem lift_q1 {N : Env → World → Prop} {Q : Post} (h : ∀ ρ w, N ρ w → Q.nrm ρ w) : ∀ e a w, Lift n D (Q1 N) e a w → Lift n D Q e a w := by
  intro e a w q
  cases e with
  | normal => obtain ⟨ρ, f, q⟩ := q; exact ⟨ρ, f, h _ _ q⟩
  | ret => obtain ⟨ρ, f, q⟩ := q; exact q.elim
  | exit i => obtain ⟨ρ, f, q⟩ := q; exact q.elim
  | goto i => obtain ⟨ρ, f, q⟩ := q; exact q.elim
  | panic c => exact q.elim
  | outgrown => exact q.elim

theorem c_seqreg {Q : Post} {id : Nat} {ops : List Oper} {y : Code} (h : ∀ K : Env → World → Prop, (∀ ρ w, wpC P n y Q ρ w → K ρ w) → wpL P n ops K ops ρ w) : wpC P n (.seq (.region id ops.toArray false) y) Q ρ w :=
  c_seq fun K hK => fun _ a ha => wp_mono (wp_region_lit (h K hK a ha)) (lift_q1 fun _ _ h => h)
theorem c_reg {Q : Post} {id : Nat} {ops : List Oper} (h : wpL P n ops Q.nrm ops ρ w) : wpC P n (.region id ops.toArray false) Q ρ w := fun _ a ha =>
  wp_mono (wp_region_lit (h a ha)) (lift_q1 fun _ _ h => h)

/-- The operation yields v, and the world is w' then. -/
def Runs (P : Program) (ρ : Env) (op : Op) (ty : TypeId) (w : World) (v : Value) (w' : World) : Prop :=
  ∀ ev : Operand → Value, (∀ x u, ev? ρ x = some u → ev x = u) → (execOp ev ⟨none, op, ty, "", #[], none⟩).run P w = .ok (.value v) w'
def RunsU (P : Program) (ρ : Env) (op : Op) (ty : TypeId) (w w' : World) : Prop :=
  ∀ ev : Operand → Value, (∀ x u, ev? ρ x = some u → ev x = u) → (execOp ev ⟨none, op, ty, "", #[], none⟩).run P w = .ok .skip w'

theorem execOp_bare (ev : Operand → Value) (o : Oper) : execOp ev o = execOp ev ⟨none, o.op, o.type, "", #[], none⟩ := by
  obtain ⟨dst, op, ty, pos, after, guard⟩ := o
  cases op <;> rfl

section
variable {ops : List Oper} {N : Env → World → Prop} {rest : List Oper} {op : Op} {ty : TypeId} {pos : String} {af : Array Edge} {g : Option (Nat × Bool)} {d : Nat} {w' : World}

theorem s_nil (h : N ρ w) : wpL P n ops N [] ρ w := fun _ _ ha => wpList_nil ⟨ρ, ha, h⟩
theorem s_val (hw : wantE ops ρ g = some true) (hd : Nat.blt d n = true) (hr : Runs P ρ op ty w v w') (k : wpL P n ops N rest ((d, v) :: ρ) w') :
    wpL P n ops N (⟨some d, op, ty, pos, af, g⟩ :: rest) ρ w := fun D a ha => by
  unfold wpList
  have hwa : Region.wanted ⟨some d, op, ty, pos, af, g⟩ (yielded ops.toArray a.tmps) = true := want_of ha hw
  rw [if_pos hwa]
  refine .inl ?_
  unfold Oper.wp
  rw [execOp_bare, hr a.eval (fun x u hx => ev_of ha hx)]
  exact k _ (ha.put hd)
/-- An operation whose value nobody keeps. -/
theorem s_drop (hw : wantE ops ρ g = some true) (hr : Runs P ρ op ty w v w') (k : wpL P n ops N rest ρ w') :
    wpL P n ops N (⟨none, op, ty, pos, af, g⟩ :: rest) ρ w := fun D a ha => by
  unfold wpList
  have hwa : Region.wanted ⟨none, op, ty, pos, af, g⟩ (yielded ops.toArray a.tmps) = true := want_of ha hw
  rw [if_pos hwa]
  refine .inl ?_
  unfold Oper.wp
  rw [execOp_bare, hr a.eval (fun x u hx => ev_of ha hx)]
  exact k _ ha
theorem s_unit (hw : wantE ops ρ g = some true) (hr : RunsU P ρ op ty w w') (k : wpL P n ops N rest ρ w') :
    wpL P n ops N (⟨none, op, ty, pos, af, g⟩ :: rest) ρ w := fun D a ha => by
  unfold wpList
  have hwa : Region.wanted ⟨none, op, ty, pos, af, g⟩ (yielded ops.toArray a.tmps) = true := want_of ha hw
  rw [if_pos hwa]
  refine .inl ?_
  unfold Oper.wp
  rw [execOp_bare, hr a.eval (fun x u hx => ev_of ha hx)]
  exact k _ ha
theorem s_skip (hw : wantE ops ρ g = some false) (hd : Nat.blt d n = true) (k : wpL P n ops N rest ((d, undef) :: ρ) w) :
    wpL P n ops N (⟨some d, op, ty, pos, af, g⟩ :: rest) ρ w := fun D a ha => by
  unfold wpList
  have hwa : Region.wanted ⟨some d, op, ty, pos, af, g⟩ (yielded ops.toArray a.tmps) = false := want_of ha hw
  rw [if_neg (by rw [hwa]; simp)]
  exact k _ (ha.put hd)

/-- The operation calls a Go function. -/
def Enters (P : Program) (ρ : Env) (op : Op) (ty : TypeId) (w : World) (f : FuncId) (args : Array Value) : Prop :=
  ∀ ev : Operand → Value, (∀ x u, ev? ρ x = some u → ev x = u) → (execOp ev ⟨none, op, ty, "", #[], none⟩).run P w = .ok (.enter f args) w
theorem s_call {f : FuncId} {args : Array Value} {R : Value → World → Prop} (hw : wantE ops ρ g = some true) (hd : Nat.blt d n = true) (hr : Enters P ρ op ty w f args) (hc : CallsR P f args w R)
    (k : ∀ v w', R v w' → wpL P n ops N rest ((d, v) :: ρ) w') :
    wpL P n ops N (⟨some d, op, ty, pos, af, g⟩ :: rest) ρ w := fun D a ha => by
  unfold wpList
  have hwa : Region.wanted ⟨some d, op, ty, pos, af, g⟩ (yielded ops.toArray a.tmps) = true := want_of ha hw
  rw [if_pos hwa]
  refine .inl ?_
  unfold Oper.wp
  rw [execOp_bare, hr a.eval (fun x u hx => ev_of ha hx)]
  refine Calls.mono hc fun e w' ⟨v, he, hR⟩ => ?_
  subst he
  exact k v w' hR _ (ha.put hd)
end

/-! ### Regions in any order: what only reads is taken first; some operations ('fin') wait for all others. -/
section
variable {ops : Array Oper} {md : Region.Mode} {S : World → Prop} {fin : Nat → Bool} {Q : Exit → Act → World → Prop}
def DAny (P : Program) (md : Region.Mode) (ops : Array Oper) (fin : Nat → Bool) (S : World → Prop) (Q : Exit → Act → World → Prop) : Nat → Array Bool → Act → World → Prop
  | 0, l, a, w => Region.ready md ops l = [] ∧ Q .normal a w
  | f + 1, l, a, w => (Region.ready md ops l = [] → Q .normal a w) ∧
      ∀ i ∈ Region.ready md ops l, wpOp P ops Q i (fun a' w' => (fin i = true ∨ (S w → S w')) ∧ DAny P md ops fin S Q f (l.setIfInBounds i true) a' w') a w

theorem any_of_DAny : ∀ (f : Nat) (l : Array Bool) (a : Act) (w : World), DAny P md ops fin S Q f l a w → wpAny P md ops Q f l a w
  | 0, _, _, _, h => h
  | f + 1, _, _, _, h => ⟨h.1, fun i hi => wpOp_mono (fun a' w' h' => any_of_DAny f _ a' w' h'.2) (h.2 i hi)⟩

theorem DAny_first {i : Nat} {oi : Oper} {v : Value} (hi : ops[i]? = some oi) (hsel : ∀ (j : Nat) (o : Oper) cs b, ops[j]? = some o → o.op ≠ .select cs b)
    (hQ : ∀ c a w, Q (.panic c) (a.put oi.dst v) w → Q (.panic c) a w)
    (hfin : ∀ j oj, ops[j]? = some oj → fin j = true → ∃ e ∈ oj.after, Region.binds md e = true ∧ e.on = i) :
    ∀ (f : Nat) (l : Array Bool) (a : Act) (w : World),
      (∀ j oj, ops[j]? = some oj → j ≠ i → l.getD j true = false → (∀ e ∈ oj.after, Region.binds md e = true → e.on ≠ i) → oi.apart ops oj = true) →
      i ∈ Region.ready md ops l → YieldsIf P ops S oi v a → S w →
      DAny P md ops fin S Q f (l.setIfInBounds i true) (a.put oi.dst v) w → DAny P md ops fin S Q (f + 1) l a w := by
  intro f
  induction f with
  | zero =>
    intro l a w _ hr hy hS H
    refine ⟨fun h => (by rw [h] at hr; cases hr), fun j hj => ?_⟩
    by_cases hji : j = i
    · subst hji; exact hy.wpOp hi hS ⟨.inr id, H⟩
    · have := ready_mono hj hji
      rw [H.1] at this
      cases this
  | succ f ih =>
    intro l a w hfree hr hy hS H
    refine ⟨fun h => (by rw [h] at hr; cases hr), fun j hj => ?_⟩
    by_cases hji : j = i
    · subst hji; exact hy.wpOp hi hS ⟨.inr id, H⟩
    · have h1 := H.2 j (ready_mono hj hji)
      obtain ⟨hjun, oj, hoj, hall⟩ := mem_ready.1 hj
      have hnot : ∀ e ∈ oj.after, Region.binds md e = true → e.on ≠ i := fun e he hb heq => by
        have h1 := hall e he hb
        have h0 := (mem_ready.1 hr).1
        rw [heq] at h1
        rcases Nat.lt_or_ge i l.size with h' | h'
        · simp [h'] at h0 h1; rw [h0] at h1; cases h1
        · simp [Array.getElem?_eq_none h'] at h1
      have hnf : fin j = true → False := fun hf => by
        obtain ⟨e, he, hb, heq⟩ := hfin j oj hoj hf
        exact hnot e he hb heq
      have h2 := wpOp_putIf hoj (hfree j oj hoj hji hjun hnot) (fun cs b => hsel i oi cs b hi) (fun cs b => hsel j oj cs b hoj) hQ hy h1
      have hfree' : ∀ k ok, ops[k]? = some ok → k ≠ i → (l.setIfInBounds j true).getD k true = false →
          (∀ e ∈ ok.after, Region.binds md e = true → e.on ≠ i) → oi.apart ops ok = true := fun k ok hk hki hun hno => by
        refine hfree k ok hk hki ?_ hno
        by_cases hjk : j = k
        · subst hjk; exact hjun
        · rw [getD_set_ne true hjk] at hun; exact hun
      refine wpOp_mono (fun a' w' h3 => ?_) h2
      have hSw : S w' := h3.2.1.resolve_left (fun hf => hnf hf) hS
      refine ⟨.inr (fun _ => hSw), ih (l.setIfInBounds j true) a' w' hfree' (ready_mono hr (Ne.symm hji)) h3.1 hSw ?_⟩
      rw [Array.setIfInBounds_comm _ _ hji]
      exact h3.2.2
/-- What yields the same in every world. -/
theorem DAny_pure {i : Nat} {oi : Oper} {v : Value} (hi : ops[i]? = some oi) (hsel : ∀ (j : Nat) (o : Oper) cs b, ops[j]? = some o → o.op ≠ .select cs b)
    (hQ : ∀ c a w, Q (.panic c) (a.put oi.dst v) w → Q (.panic c) a w) :
    ∀ (f : Nat) (l : Array Bool) (a : Act) (w : World),
      (∀ j oj, ops[j]? = some oj → j ≠ i → l.getD j true = false → (∀ e ∈ oj.after, Region.binds md e = true → e.on ≠ i) → oi.apart ops oj = true) →
      i ∈ Region.ready md ops l → YieldsIf P ops (fun _ => True) oi v a →
      DAny P md ops fin S Q f (l.setIfInBounds i true) (a.put oi.dst v) w → DAny P md ops fin S Q (f + 1) l a w := by
  intro f
  induction f with
  | zero =>
    intro l a w _ hr hy H
    refine ⟨fun h => (by rw [h] at hr; cases hr), fun j hj => ?_⟩
    by_cases hji : j = i
    · subst hji; exact hy.wpOp hi trivial ⟨.inr id, H⟩
    · have := ready_mono hj hji
      rw [H.1] at this
      cases this
  | succ f ih =>
    intro l a w hfree hr hy H
    refine ⟨fun h => (by rw [h] at hr; cases hr), fun j hj => ?_⟩
    by_cases hji : j = i
    · subst hji; exact hy.wpOp hi trivial ⟨.inr id, H⟩
    · have h1 := H.2 j (ready_mono hj hji)
      obtain ⟨hjun, oj, hoj, hall⟩ := mem_ready.1 hj
      have hnot : ∀ e ∈ oj.after, Region.binds md e = true → e.on ≠ i := fun e he hb heq => by
        have h1 := hall e he hb
        have h0 := (mem_ready.1 hr).1
        rw [heq] at h1
        rcases Nat.lt_or_ge i l.size with h' | h'
        · simp [h'] at h0 h1; rw [h0] at h1; cases h1
        · simp [Array.getElem?_eq_none h'] at h1
      have h2 := wpOp_putIf hoj (hfree j oj hoj hji hjun hnot) (fun cs b => hsel i oi cs b hi) (fun cs b => hsel j oj cs b hoj) hQ hy h1
      have hfree' : ∀ k ok, ops[k]? = some ok → k ≠ i → (l.setIfInBounds j true).getD k true = false →
          (∀ e ∈ ok.after, Region.binds md e = true → e.on ≠ i) → oi.apart ops ok = true := fun k ok hk hki hun hno => by
        refine hfree k ok hk hki ?_ hno
        by_cases hjk : j = k
        · subst hjk; exact hjun
        · rw [getD_set_ne true hjk] at hun; exact hun
      refine wpOp_mono (fun a' w' h3 => ?_) h2
      refine ⟨h3.2.1, ih (l.setIfInBounds j true) a' w' hfree' (ready_mono hr (Ne.symm hji)) h3.1 ?_⟩
      rw [Array.setIfInBounds_comm _ _ hji]
      exact h3.2.2
end

/-- The operations that wait for all others (a list of numbers). -/
def finOk (ops : List Oper) (fins : List Nat) (i : Nat) : Bool :=
  (!fins.contains i) && fins.all fun j => match ops[j]? with | some oj => oj.after.any (fun e => Region.binds .any e && e.on == i) | none => true

def wpD (P : Program) (n : Nat) (ops : List Oper) (fins : List Nat) (S : World → Prop) (N : Env → World → Prop) (f : Nat) (l : Array Bool) (ρ : Env) (w : World) : Prop :=
  ∀ ⦃D : List Deferred⦄ (a : Act), Fits n D ρ a → DAny P .any ops.toArray (fun i => fins.contains i) S (Lift n D (Q1 N)) f l a w

section
variable {ops : List Oper} {fins : List Nat} {S : World → Prop} {N : Env → World → Prop} {f : Nat} {l : Array Bool}
theorem c_draw {Q : Post} {id : Nat} (fins : List Nat) (S : World → Prop) (hm : P.follows .mixedOrders = true)
    (h : ∀ w', w' = w.drew → wpD P n ops fins S Q.nrm ops.length (Array.replicate ops.length false) ρ w') : wpC P n (.region id ops.toArray true) Q ρ w := fun D a ha =>
  wp_mono (wp_region_any hm (by simpa using any_of_DAny _ _ _ _ (h _ rfl a ha))) (lift_q1 fun _ _ h => h)

theorem d_done (hr : Region.ready .any ops.toArray l = []) (h : N ρ w) : wpD P n ops fins S N f l ρ w := fun D a ha => by
  cases f with
  | zero => exact ⟨hr, ρ, ha, h⟩
  | succ f => exact ⟨fun _ => ⟨ρ, ha, h⟩, by rw [hr]; simp⟩

/-- What is yielded in every world of the class. -/
def RunsIn (P : Program) (S : World → Prop) (ρ : Env) (op : Op) (ty : TypeId) (v : Value) : Prop := ∀ w, S w → Runs P ρ op ty w v w

theorem d_take (i d : Nat) {op : Op} {ty : TypeId} {pos : String} {af : Array Edge} {g : Option (Nat × Bool)} (hi : ops[i]? = some ⟨some d, op, ty, pos, af, g⟩)
    (hb : (Region.noSelect ops.toArray && Region.free .any ops.toArray l i && (Region.ready .any ops.toArray l).contains i && finOk ops fins i && Nat.blt d n) = true)
    (hw : wantE ops ρ g = some true) (hS : S w) (hy : RunsIn P S ρ op ty v)
    (k : wpD P n ops fins S N f (l.setIfInBounds i true) ((d, v) :: ρ) w) : wpD P n ops fins S N (f + 1) l ρ w := fun D a ha => by
  simp only [Bool.and_eq_true] at hb
  obtain ⟨⟨⟨⟨h1, h2⟩, h3⟩, h4⟩, h5⟩ := hb
  refine DAny_first (oi := ⟨some d, op, ty, pos, af, g⟩) (v := v) (by simpa using hi) (Region.noSelect_spec h1) (fun _ _ _ h => h) ?_ f l a w
    (Region.free_spec (by simpa using hi) h2) (by simpa using h3) (.inl ⟨want_of ha hw, fun w' hw' => by rw [execOp_bare]; exact hy w' hw' a.eval (fun x u hx => ev_of ha hx)⟩) hS (k _ (ha.put h5))
  intro j oj hj hf
  unfold finOk at h4
  simp only [Bool.and_eq_true, List.all_eq_true] at h4
  have := h4.2 j (by simpa using hf)
  rw [show ops[j]? = some oj by simpa using hj] at this
  simp only [Array.any_eq_true] at this
  obtain ⟨m, hm, he⟩ := this
  simp only [Bool.and_eq_true, beq_iff_eq] at he
  exact ⟨_, Array.getElem_mem hm, he.1, he.2⟩

/-- What is yielded in every world: it may be taken whatever waits. -/
theorem d_pure (i d : Nat) {op : Op} {ty : TypeId} {pos : String} {af : Array Edge} {g : Option (Nat × Bool)} (hi : ops[i]? = some ⟨some d, op, ty, pos, af, g⟩)
    (hb : (Region.noSelect ops.toArray && Region.free .any ops.toArray l i && (Region.ready .any ops.toArray l).contains i && Nat.blt d n) = true)
    (hw : wantE ops ρ g = some true) (hy : RunsIn P (fun _ => True) ρ op ty v)
    (k : wpD P n ops fins S N f (l.setIfInBounds i true) ((d, v) :: ρ) w) : wpD P n ops fins S N (f + 1) l ρ w := fun D a ha => by
  simp only [Bool.and_eq_true] at hb
  obtain ⟨⟨⟨h1, h2⟩, h3⟩, h5⟩ := hb
  exact DAny_pure (oi := ⟨some d, op, ty, pos, af, g⟩) (v := v) (by simpa using hi) (Region.noSelect_spec h1) (fun _ _ _ h => h) f l a w
    (Region.free_spec (by simpa using hi) h2) (by simpa using h3) (.inl ⟨want_of ha hw, fun w' hw' => by rw [execOp_bare]; exact hy w' hw' a.eval (fun x u hx => ev_of ha hx)⟩) (k _ (ha.put h5))

theorem d_takeskip (i d : Nat) {op : Op} {ty : TypeId} {pos : String} {af : Array Edge} {g : Option (Nat × Bool)} (hi : ops[i]? = some ⟨some d, op, ty, pos, af, g⟩)
    (hb : (Region.noSelect ops.toArray && Region.free .any ops.toArray l i && (Region.ready .any ops.toArray l).contains i && finOk ops fins i && Nat.blt d n) = true)
    (hw : wantE ops ρ g = some false) (hS : S w)
    (k : wpD P n ops fins S N f (l.setIfInBounds i true) ((d, undef) :: ρ) w) : wpD P n ops fins S N (f + 1) l ρ w := fun D a ha => by
  simp only [Bool.and_eq_true] at hb
  obtain ⟨⟨⟨⟨h1, h2⟩, h3⟩, h4⟩, h5⟩ := hb
  refine DAny_first (oi := ⟨some d, op, ty, pos, af, g⟩) (v := undef) (by simpa using hi) (Region.noSelect_spec h1) (fun _ _ _ h => h) ?_ f l a w
    (Region.free_spec (by simpa using hi) h2) (by simpa using h3) (.inr ⟨want_of ha hw, rfl⟩) hS (k _ (ha.put h5))
  intro j oj hj hf
  unfold finOk at h4
  simp only [Bool.and_eq_true, List.all_eq_true] at h4
  have := h4.2 j (by simpa using hf)
  rw [show ops[j]? = some oj by simpa using hj] at this
  simp only [Array.any_eq_true] at this
  obtain ⟨m, hm, he⟩ := this
  simp only [Bool.and_eq_true, beq_iff_eq] at he
  exact ⟨_, Array.getElem_mem hm, he.1, he.2⟩

/-- One operation alone may come up: it is carried out as in the order of the text. 'hS': the class holds behind it, if it is not one of those that wait for all others. -/
theorem d_only (i : Nat) {o : Oper} (hi : ops[i]? = some o) (hr : Region.ready .any ops.toArray l = [i])
    (k : wpL P n ops (fun ρ' w' => (fins.contains i = true ∨ S w') ∧ wpD P n ops fins S N f (l.setIfInBounds i true) ρ' w') [o] ρ w) : wpD P n ops fins S N (f + 1) l ρ w := fun D a ha => by
  refine ⟨fun h => (by rw [h] at hr; cases hr), fun j hj => ?_⟩
  rw [hr] at hj
  obtain rfl : j = i := by simpa using hj
  have h := k a ha
  unfold wpOp
  rw [show ops.toArray[j]? = some o by simpa using hi]
  simp only
  unfold wpList at h
  have key : ∀ a' w', wpList P ops.toArray (Lift n D (Q1 fun ρ' w' => (fins.contains j = true ∨ S w') ∧ wpD P n ops fins S N f (l.setIfInBounds j true) ρ' w')) [] a' w' →
      (fins.contains j = true ∨ (S w → S w')) ∧ DAny P .any ops.toArray (fun i => fins.contains i) S (Lift n D (Q1 N)) f (l.setIfInBounds j true) a' w' := by
    intro a' w' h
    unfold wpList at h
    obtain ⟨ρ', f', h1, h2⟩ := h
    exact ⟨h1.imp_right (fun h _ => h), h2 _ f'⟩
  split
  · rename_i hw
    rw [if_pos hw] at h
    rcases h with h | ⟨_, _, _, h⟩
    · refine .inl ?_
      have h' := Oper.wp_mono key h
      unfold Oper.wp at h' ⊢
      generalize (execOp a.eval o).run P w = r at *
      cases r with
      | ok nx w1 =>
        cases nx <;> simp only [Oper.upon] at h' ⊢ <;> first
          | exact h'
          | (refine Calls.mono h' fun e w'' he => ?_
             cases e with
             | returned v => exact he
             | panicked c => exact he.elim
             | outgrown => obtain ⟨_, _, he⟩ := he; exact he.elim)
      | halt x w1 => cases x <;> simp only [Oper.upon] at h' ⊢ <;> first | exact h'.elim | exact h'
    · exact h.elim
  · rename_i hw
    rw [if_neg hw] at h
    exact key _ _ h
end
end
end Go.Proofs.YtmmijecookbajaaDoor
