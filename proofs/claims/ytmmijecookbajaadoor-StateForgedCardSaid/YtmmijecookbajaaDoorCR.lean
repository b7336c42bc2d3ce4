/- Part CR of the proofs on this seat. Conditions: none beyond those in the theorems. By an AI agent. -/
import Derived.Test.YtmmijecookbajaaDoorC4
import Derived.RangeFuncLeaves
import Derived.TacticsIn
import Derived.RangeFuncRecord
namespace Go.Proofs.YtmmijecookbajaaDoor
open Go Go.RowKit

/-! ### Code in a round of a range over a function -/
def noDefer (l : List Oper) : Bool := l.all fun o => match o.op with | .defer _ => false | _ => true
theorem letsOut_lift {n : Nat} {D : List Deferred} {Q : Post} : ¬ LetsOut (Lift n D Q) := fun ⟨_, _, h⟩ => h
abbrev inR (l : Nat) : Fence := Fence.wide.inRound l
theorem fenced_inR (l : Nat) (P : Program) : Machine.fenced P (inR l) = Machine.fenced P Fence.wide := rfl
section
variable {P : Program} {n : Nat} {D : List Deferred} {ρ : Env} {a : Act} {w : World} {Q : Post} {l : Nat}

theorem op_in {o : Oper} {next : Act → World → Prop} {Q : Exit → Act → World → Prop} (hd : ∀ c, o.op ≠ .defer c) (h : o.wp P a w next Q) : o.wpIn (inR l) 0 P a w next Q := by
  refine ⟨fun _ _ => trivial, ?_⟩
  rw [Oper.semAt_eq _ _ _ hd]
  unfold Oper.wp at h
  generalize (execOp a.eval o).run P w = r at *
  cases r with
  | ok nx w' =>
    cases nx <;> simp only [Oper.upon] at h <;> first
      | exact h
      | exact ⟨fun h => by simp [inR, Fence.wide] at h, callsIn_wide.2 h⟩
      | (refine ⟨fun h => by simp [inR, Fence.wide] at h, fun c cs _ => ?_⟩
         obtain ⟨v, w'', r, s⟩ := h c cs
         exact ⟨v, w'', r, stepsIn_wide.2 s⟩)
  | halt x w' => cases x <;> simp only [Oper.upon] at h <;> first | exact h | exact h.elim
theorem list_in {ops : Array Oper} {Q : Exit → Act → World → Prop} (hq : ¬ LetsOut Q) : ∀ (os : List Oper) (a : Act) (w : World), noDefer os = true → wpList P ops Q os a w → wpListIn (inR l) 0 P ops Q os a w := by
  intro os
  induction os with
  | nil => intro a w _ h; exact h
  | cons o os ih =>
    intro a w hn h
    simp only [noDefer, List.all_cons, Bool.and_eq_true] at hn
    have hd : ∀ c, o.op ≠ .defer c := fun c e => by rw [e] at hn; cases hn.1
    unfold wpList at h
    unfold wpListIn
    split
    · rename_i hw
      rw [if_pos hw] at h
      rcases h with h | h
      · exact op_in hd (Oper.wp_mono (fun a' w' h' => ih a' w' hn.2 h') h)
      · exact absurd h.2 hq
    · rename_i hw
      rw [if_neg hw] at h
      exact ⟨fun _ _ => trivial, ih _ _ hn.2 h⟩

def wpR (l : Nat) (P : Program) (n : Nat) (c : Code) (Q : Post) (ρ : Env) (w : World) : Prop := ∀ ⦃D : List Deferred⦄ (a : Act), Fits n D ρ a → c.wpIn (inR l) 0 P (Lift n D Q) a w

theorem r_skip (h : Q.nrm ρ w) : wpR l P n .skip Q ρ w := fun _ _ ha => wpIn_skip ⟨ρ, ha, h⟩
theorem r_ret (h : Q.ret ρ w) : wpR l P n .ret Q ρ w := fun _ _ ha => wpIn_ret ⟨ρ, ha, h⟩
theorem r_exit {i : Nat} (h : Q.ext i ρ w) : wpR l P n (.exit i) Q ρ w := fun _ _ ha => wpIn_exit ⟨ρ, ha, h⟩
theorem r_seq {x y : Code} (h : ∀ K : Env → World → Prop, (∀ ρ w, wpR l P n y Q ρ w → K ρ w) → wpR l P n x (Q.setN K) ρ w) : wpR l P n (.seq x y) Q ρ w := fun D a ha =>
  wpIn_seq (wpIn_mono (h (fun ρ w => wpR l P n y Q ρ w) (fun _ _ h => h) a ha) fun e a w q => by
    cases e with
    | normal => obtain ⟨ρ, f, q⟩ := q; exact q a f
    | ret => exact q
    | exit i => exact q
    | goto i => exact q
    | panic c => exact q
    | outgrown => exact q)
theorem r_block {id : Nat} {c : Code} (h : wpR l P n c (Q.blk id) ρ w) : wpR l P n (.block id c) Q ρ w := fun D a ha =>
  wpIn_block (wpIn_mono (h a ha) fun e a w q => by
    cases e with
    | normal => exact q
    | ret => exact q
    | exit i =>
      obtain ⟨ρ, f, q⟩ := q
      simp only [Post.blk] at q
      simp only [Exit.inBlock]
      by_cases e : i = id
      · subst e
        simp at q
        rw [if_pos rfl]; exact ⟨ρ, f, q⟩
      · have : Nat.beq i id = false := by rw [Bool.eq_false_iff]; exact fun h => e (Nat.eq_of_beq_eq_true h)
        simp only [this, cond_false] at q
        rw [if_neg e]; exact ⟨ρ, f, q⟩
    | goto i => exact q
    | panic c => exact q
    | outgrown => exact q)
theorem r_if {c : Operand} {x y : Code} {b : Bool} (hc : ev? ρ c = some (.bool b)) (ht : b = true → wpR l P n x Q ρ w) (hf : b = false → wpR l P n y Q ρ w) : wpR l P n (.cond c x y) Q ρ w := fun _ a ha =>
  wpIn_cond_split (ev_of ha hc) (fun h => ht h a ha) (fun h => hf h a ha)
theorem r_true {c : Operand} {x y : Code} (hc : ev? ρ c = some (.bool true)) (h : wpR l P n x Q ρ w) : wpR l P n (.cond c x y) Q ρ w := r_if hc (fun _ => h) (fun h => by cases h)
theorem r_false {c : Operand} {x y : Code} (hc : ev? ρ c = some (.bool false)) (h : wpR l P n y Q ρ w) : wpR l P n (.cond c x y) Q ρ w := r_if hc (fun h => by cases h) (fun _ => h)
theorem r_dec {c : Operand} {x y : Code} {p : Prop} [Decidable p] (hc : ev? ρ c = some (.bool (decide p))) (ht : p → wpR l P n x Q ρ w) (hf : ¬ p → wpR l P n y Q ρ w) :
    wpR l P n (.cond c x y) Q ρ w := r_if hc (fun h => ht (of_decide_eq_true h)) (fun h => hf (of_decide_eq_false h))
theorem r_reg {id : Nat} {ops : List Oper} (hn : noDefer ops = true) (h : wpL P n ops Q.nrm ops ρ w) : wpR l P n (.region id ops.toArray false) Q ρ w := fun _ a ha =>
  wpIn_mono (wpIn_region_lit (list_in letsOut_lift _ _ _ hn (h a ha))) (lift_q1 fun _ _ h => h)
theorem r_seqreg {id : Nat} {ops : List Oper} {y : Code} (hn : noDefer ops = true) (h : ∀ K : Env → World → Prop, (∀ ρ w, wpR l P n y Q ρ w → K ρ w) → wpL P n ops K ops ρ w) : wpR l P n (.seq (.region id ops.toArray false) y) Q ρ w :=
  r_seq fun K hK => fun _ a ha => wpIn_mono (wpIn_region_lit (list_in letsOut_lift _ _ _ hn (h K hK a ha))) (lift_q1 fun _ _ h => h)

/-! ### yield -/
/-- A round: it comes back with R. -/
abbrev Rnd (P : Program) (l : Nat) (f : FuncId) (tmps : Array Value) (assign body : Code) (w : World) (R : Bool → World → Prop) : Prop :=
  RoundIn Fence.wide 0 P l f tmps assign body w fun e w' => ∃ b, e = .returned (.bool b) ∧ R b w'

/-- As wpL, and a yield may stand among the operations. -/
def wpY (P : Program) (n : Nat) (ops : List Oper) (N : Env → World → Prop) (os : List Oper) (ρ : Env) (w : World) : Prop :=
  ∀ ⦃D : List Deferred⦄ (a : Act), Fits n D ρ a → wpListIn Fence.wide 0 P ops.toArray (Lift n D (Q1 N)) os a w
section
variable {ops : List Oper} {N : Env → World → Prop} {rest : List Oper} {op : Op} {ty : TypeId} {pos : String} {af : Array Edge} {g : Option (Nat × Bool)} {d : Nat} {w' : World} {v : Value}
theorem y_nil (h : N ρ w) : wpY P n ops N [] ρ w := fun _ _ ha => wpListIn_nil ⟨ρ, ha, h⟩
theorem y_val (hw : wantE ops ρ g = some true) (hd : Nat.blt d n = true) (hr : Runs P ρ op ty w v w') (k : wpY P n ops N rest ((d, v) :: ρ) w') :
    wpY P n ops N (⟨some d, op, ty, pos, af, g⟩ :: rest) ρ w := fun D a ha => by
  unfold wpListIn
  have hwa : Region.wanted ⟨some d, op, ty, pos, af, g⟩ (yielded ops.toArray a.tmps) = true := want_of ha hw
  rw [if_pos hwa]
  refine ⟨fun _ _ => trivial, ?_⟩
  show Oper.uponIn _ _ _ _ _ _ _ ((Oper.semAt none a.eval _).run P w)
  rw [Oper.semAt_none]
  rw [execOp_bare, hr a.eval (fun x u hx => ev_of ha hx)]
  exact k _ (ha.put hd)
/-- yield is called. -/
theorem y_call {f : Operand} {x : Operand} {tys : Array TypeId} {u : Value} {r : Loop} (hw : wantE ops ρ g = some true) (hd : Nat.blt d n = true) (hf : ev? ρ f = some (.func (.yield l) #[] #[])) (hx : ev? ρ x = some u)
    (hl : w.heap[l]? = some (.loop r)) (hp : r.params.size = 1)
    (hr : Rnd P l r.fn ((r.params.zip #[u]).foldl (fun tmps (t, a) => tmps.setIfInBounds t a) r.tmps) r.assign r.body w fun b w' => wpY P n ops N rest ((d, .bool b) :: ρ) w') :
    wpY P n ops N (⟨some d, .call { callee := .value f, args := #[x], argTypes := tys }, ty, pos, af, g⟩ :: rest) ρ w := fun D a ha => by
  unfold wpListIn
  have hwa : Region.wanted ⟨some d, .call { callee := .value f, args := #[x], argTypes := tys }, ty, pos, af, g⟩ (yielded ops.toArray a.tmps) = true := want_of ha hw
  rw [if_pos hwa]
  refine ⟨fun _ _ => trivial, ?_⟩
  show Oper.uponIn _ _ _ _ _ _ _ ((Oper.semAt none a.eval _).run P w)
  rw [Oper.semAt_none]
  have h1 := ev_of ha hf
  have h2 := ev_of ha hx
  have hy := run_yield (P := P) (args := #[u]) hl (by simp [hp])
  have e : (execOp a.eval ⟨some d, .call { callee := .value f, args := #[x], argTypes := tys }, ty, pos, af, g⟩).run P w = .ok (.round l r.fn ((r.params.zip #[u]).foldl (fun tmps (t, a) => tmps.setIfInBounds t a) r.tmps) r.assign r.body) w := by
    rw [← hy]
    simp [execOp, resolve, Deferred.ofValue, h1, h2, invoke]
  rw [e]
  refine ⟨fun h => by simp [Fence.wide] at h, ?_⟩
  refine RoundIn.mono hr fun e w' ⟨b, he, hk⟩ => ?_
  subst he
  exact hk _ (ha.put hd)
theorem c_yreg {id : Nat} (h : wpY P n ops Q.nrm ops ρ w) : wpC P n (.region id ops.toArray false) Q ρ w := fun _ a ha =>
  wpIn_wide.1 (wpIn_mono (wpIn_region_lit (h a ha)) (lift_q1 fun _ _ h => h))
theorem c_seqyield {id : Nat} {y : Code} (h : ∀ K : Env → World → Prop, (∀ ρ w, wpC P n y Q ρ w → K ρ w) → wpY P n ops K ops ρ w) : wpC P n (.seq (.region id ops.toArray false) y) Q ρ w :=
  c_seq fun K hK => fun _ a ha => wpIn_wide.1 (wpIn_mono (wpIn_region_lit (h K hK a ha)) (lift_q1 fun _ _ h => h))
end

/-- What is known when a round's body ends: the record is taken up again. -/
def RB (l : Nat) (r : Loop) (R : Bool → World → Prop) : Post :=
  { nrm := fun _ W => W.heap[l]? = some (.loop { r with state := .busy }) ∧ ∀ W', W'.heap[l]? = some (.loop { r with state := .ready, pending := none }) → Chg W W' [l] → R true W'
    ret := fun _ W => W.heap[l]? = some (.loop { r with state := .busy }) ∧ ∀ W', W'.heap[l]? = some (.loop { r with state := .done, pending := some .ret }) → Chg W W' [l] → R false W'
    ext := fun _ _ _ => False, gto := fun _ _ _ => False }
theorem chg_putObj {w : World} {b : Nat} (o : Obj) : Chg w (w.putObj b o) [b] :=
  ⟨rfl, rfl, rfl, by simp [World.putObj], fun k _ hk => World.putObj_heap_other (fun e => hk (by simp [e]))⟩
theorem rnd_of {W : World} {r : Loop} {p : Nat} {u : Value} {R : Bool → World → Prop} (hl : W.heap[l]? = some (.loop r)) (hr : r.state = .ready) (hp : r.params = #[p]) (hfit : Fits n [] ρ { tmps := r.tmps, defers := [] }) (hpn : Nat.blt p n = true)
    (h : wpR l P n r.assign (Q1 fun ρ1 W1 => W1 = W ∧ ∀ W2, W2.heap[l]? = some (.loop { r with state := .busy }) → Chg W W2 [l] → wpR l P n r.body (RB l r R) ρ1 W2) ((p, u) :: ρ) W) :
    Rnd P l r.fn ((r.params.zip #[u]).foldl (fun tmps (t, a) => tmps.setIfInBounds t a) r.tmps) r.assign r.body W R := by
  have hf2 : Fits n [] ((p, u) :: ρ) { tmps := (r.params.zip #[u]).foldl (fun tmps (t, a) => tmps.setIfInBounds t a) r.tmps, defers := [] } := by
    have := hfit.put (v := u) hpn
    simpa [hp, Act.put] using this
  refine roundIn_of_wpIn (F := Fence.wide) trivial (wpIn_mono (h _ hf2) ?_)
  intro e a1 W1 q
  cases e with
  | normal =>
    obtain ⟨ρ1, hf1, rfl, hb⟩ := q
    have hlt : l < W1.heap.size := (Array.getElem?_eq_some_iff.1 hl).1
    refine ⟨_, run_beginRound hl hr, ?_⟩
    refine wpIn_mono (hb _ (World.putObj_heap_same hlt) (chg_putObj _) a1 hf1) ?_
    intro e a3 W3 q
    cases e with
    | normal =>
      obtain ⟨_, _, h1, h2⟩ := q
      have hlt3 : l < W3.heap.size := (Array.getElem?_eq_some_iff.1 h1).1
      exact ⟨_, _, run_endRound none h1, _, rfl, h2 _ (World.putObj_heap_same hlt3) (chg_putObj _)⟩
    | ret =>
      obtain ⟨_, _, h1, h2⟩ := q
      have hlt3 : l < W3.heap.size := (Array.getElem?_eq_some_iff.1 h1).1
      exact ⟨_, _, run_endRound (some .ret) h1, _, rfl, h2 _ (World.putObj_heap_same hlt3) (chg_putObj _)⟩
    | exit i => obtain ⟨_, _, q⟩ := q; exact q.elim
    | goto i => obtain ⟨_, _, q⟩ := q; exact q.elim
    | panic c => exact q.elim
    | outgrown => exact q.elim
  | ret => obtain ⟨_, _, q⟩ := q; exact q.elim
  | exit i => obtain ⟨_, _, q⟩ := q; exact q.elim
  | goto i => obtain ⟨_, _, q⟩ := q; exact q.elim
  | panic c => exact q.elim
  | outgrown => exact q.elim

/-- The loop's record. -/
abbrev recOf (w : World) (fn : FuncId) (tmps : Array Value) (p : Nat) (assign body : Code) : Loop := { state := .ready, pending := none, fn, tmps, params := #[p], assign, body, defers := w.heap.size }
abbrev markOf (w : World) : Deferred := { target := .collected w.heap.size, args := #[] }
/-- The statement: the record is laid, the iterator is called; it ends, or a round has left by 'return'. -/
theorem range_wp {g : Operand} {p : Nat} {assign body : Code} {a : Act} {w : World} {gf : FuncId} {fnn : Func} {cc : Code} {tv : Value} {R1 R2 : World → Prop} (hg : a.eval g = .func (.func gf) #[tv] #[]) (hf : P.funcs[gf]? = some fnn) (hb : fnn.body = some cc) (hn : (fnn.name == "runtime.NumGoroutine") = false)
    (h : ∀ fn W1 rc, rc = recOf w fn a.tmps p assign body → W1.heap[w.heap.size + 1]? = some (.loop rc) → W1.heap[w.heap.size]? = some (.deferred (some [])) → Chg w W1 [] → W1.heap.size = w.heap.size + 2 →
      CallsR P gf #[tv, .func (.yield (w.heap.size + 1)) #[] #[]] W1 fun _ W2 => (W2.heap[w.heap.size + 1]? = some (.loop rc) ∧ R1 W2) ∨
        (W2.heap[w.heap.size + 1]? = some (.loop { rc with state := .done, pending := some .ret }) ∧ R2 W2)) :
    (Code.rangeFunc g #[p] assign body).wp P (fun e a' w' => a' = { a with defers := markOf w :: a.defers } ∧ ((e = .normal ∧ ∃ W2, R1 W2 ∧ Chg W2 w' [w.heap.size + 1]) ∨ (e = .ret ∧ ∃ W2, R2 W2 ∧ Chg W2 w' [w.heap.size + 1]))) a w := by
  refine (wpIn_wide (n := 0)).1 (wpIn_rangeFunc fun fn _ => ?_)
  obtain ⟨W1, hW1⟩ : ∃ W1, (w.alloc (.deferred (some []))).alloc (.loop (recOf w fn a.tmps p assign body)) = W1 := ⟨_, rfl⟩
  have hL1 : W1.heap[w.heap.size + 1]? = some (.loop (recOf w fn a.tmps p assign body)) := by
    rw [← hW1]; have := World.alloc_heap_new (w.alloc (.deferred (some []))) (.loop (recOf w fn a.tmps p assign body)); rwa [World.size_alloc] at this
  have hK1 : W1.heap[w.heap.size]? = some (.deferred (some [])) := by
    rw [← hW1]; exact (Below.heap_alloc _ _ _ (by simp)).trans (World.alloc_heap_new w _)
  have hX1 : Chg w W1 [] := by rw [← hW1]; exact ((chg_alloc w _).trans (chg_alloc _ _))
  have hs1 : W1.heap.size = w.heap.size + 2 := by rw [← hW1]; simp
  refine ⟨w.heap.size + 1, [markOf w], W1, { target := .fn (.func gf) #[], args := #[tv, .func (.yield (w.heap.size + 1)) #[] #[]] }, W1, gf, #[tv, .func (.yield (w.heap.size + 1)) #[] #[]], W1, ?_, ?_, fun _ _ => trivial, ?_, fun h => by simp [Fence.wide] at h, ?_⟩
  · rw [← hW1]; exact run_enterLoop_outer _ _ _ _ _
  · simp [resolve, hg, Deferred.ofValue]
    rfl
  · simp only [beq_eq_false_iff_ne] at hn
    simp [invoke, callFunc, hf, hb, hn]
  · refine callsIn_wide.2 (Calls.mono (h fn W1 _ rfl hL1 hK1 hX1 hs1) ?_)
    rintro e W2 ⟨v, rfl, h2⟩
    rcases h2 with ⟨hl, hr⟩ | ⟨hl, hr⟩
    · exact ⟨none, _, run_endLoop hl (by simp), rfl, .inl ⟨rfl, W2, hr, chg_putObj _⟩⟩
    · exact ⟨some .ret, _, run_endLoop hl (by simp), wpIn_ret ⟨rfl, .inr ⟨rfl, W2, hr, chg_putObj _⟩⟩⟩

/-- A first piece of code, walked by the rules. -/
theorem wp_pre {x y : Code} {K : Env → World → Prop} {Q : Exit → Act → World → Prop} (ha : Fits n D ρ a) (hx : wpC P n x (Q1 K) ρ w) (hy : ∀ ρ' w', K ρ' w' → ∀ a', Fits n D ρ' a' → y.wp P Q a' w') : (Code.seq x y).wp P Q a w :=
  wp_seq (wp_mono (hx a ha) fun e a' w' q => by
    cases e with
    | normal => obtain ⟨ρ', f, k⟩ := q; exact hy ρ' w' k a' f
    | ret => obtain ⟨_, _, q⟩ := q; exact q.elim
    | exit i => obtain ⟨_, _, q⟩ := q; exact q.elim
    | goto i => obtain ⟨_, _, q⟩ := q; exact q.elim
    | panic c => exact q.elim
    | outgrown => exact q.elim)
/-- A function whose body holds one range over a function. -/
theorem f_marks {f : FuncId} {fn : Func} {c : Code} {rs : List ResultVar} {args : List Value} {R : Value → World → Prop} (hf : P.funcs[f]? = some fn) (hb : fn.body = some c) (hn : fn.ntmps = n) (hr : fn.results = rs.toArray) (hl : Nat.ble args.length n = true)
    (h : ∀ (Q : Exit → Act → World → Prop) (a : Act), Fits n [] (argEnv 0 args) a →
      (∀ e a' w' ρ w0, (e = .normal ∨ e = .ret) → Fits n [markOf w0] ρ a' → w'.heap[w0.heap.size]? = some (.deferred (some [])) → (∀ w'', Chg w' w'' [w0.heap.size] → Ends P rs R ρ w'') → Q e a' w') → c.wp P Q a w) : CallsR P f args.toArray w R := by
  refine (callsIn_wide (n := 0)).1 (callsIn_of_wp_marks hf hb trivial ((wpIn_wide (n := 0)).2 ?_))
  rw [hn]
  refine h _ _ (fits_args (by simpa using hl)) ?_
  intro e a' w' ρ w0 he ha hD hE
  have key : LeavesInM Fence.wide 0 P fn a'.tmps (fun e w' => ∃ v, e = .returned v ∧ R v w') a'.defers .returning w' := by
    rw [ha.1]
    refine ⟨by simp, .inl ⟨w0.heap.size, _, rfl, run_takeDeferred hD, ?_⟩⟩
    obtain ⟨vs, h1, h2⟩ := hE _ (chg_putObj (.deferred none))
    refine ⟨_, ?_, _, rfl, h2⟩
    have hm := mapM_reads ha h1
    rw [results_eq, hr, List.mapM_toArray]
    simp only [Sem.run_bind, Sem.run_map, hm, Result.andThen_ok, Sem.run_pure]
    match vs with
    | [] => rfl
    | [v] => rfl
    | _ :: _ :: _ => simp
  rcases he with rfl | rfl
  · exact key
  · exact key
/-! ### A function that holds one range over a function, walked by the rules -/
/-- Behind a body that has left a mark. -/
def EndsM (P : Program) (w0 : World) (rs : List ResultVar) (R : Value → World → Prop) (ρ : Env) (w' : World) : Prop :=
  w'.heap[w0.heap.size]? = some (.deferred (some [])) ∧ ∀ w'', Chg w' w'' [w0.heap.size] → Ends P rs R ρ w''
structure Tail (P : Program) (n : Nat) (rs : List ResultVar) (R : Value → World → Prop) (Q : Exit → Act → World → Prop) : Prop where
  q0 : ∀ e a' w' ρ, (e = .normal ∨ e = .ret) → Fits n [] ρ a' → Ends P rs R ρ w' → Q e a' w'
  q1 : ∀ e a' w' ρ w0, (e = .normal ∨ e = .ret) → Fits n [markOf w0] ρ a' → EndsM P w0 rs R ρ w' → Q e a' w'
def wpT (P : Program) (n : Nat) (c : Code) (rs : List ResultVar) (R : Value → World → Prop) (ρ : Env) (w : World) : Prop := ∀ Q, Tail P n rs R Q → ∀ a, Fits n [] ρ a → c.wp P Q a w
def endP (P : Program) (rs : List ResultVar) (R : Value → World → Prop) (K : Env → World → Prop) : Post := { nrm := K, ret := Ends P rs R, ext := fun _ _ _ => False, gto := fun _ _ _ => False }
def endM (P : Program) (w0 : World) (rs : List ResultVar) (R : Value → World → Prop) : Post := { nrm := EndsM P w0 rs R, ret := EndsM P w0 rs R, ext := fun _ _ _ => False, gto := fun _ _ _ => False }
theorem t_seq {x y : Code} {rs : List ResultVar} {R : Value → World → Prop} (h : ∀ K : Env → World → Prop, (∀ ρ w, wpT P n y rs R ρ w → K ρ w) → wpC P n x (endP P rs R K) ρ w) : wpT P n (.seq x y) rs R ρ w := fun Q hQ a ha =>
  wp_seq (wp_mono (h (fun ρ w => wpT P n y rs R ρ w) (fun _ _ h => h) a ha) fun e a' w' q => by
    cases e with
    | normal => obtain ⟨ρ', f, k⟩ := q; exact k Q hQ a' f
    | ret => obtain ⟨ρ', f, q⟩ := q; exact hQ.q0 _ _ _ _ (.inr rfl) f q
    | exit i => obtain ⟨_, _, q⟩ := q; exact q.elim
    | goto i => obtain ⟨_, _, q⟩ := q; exact q.elim
    | panic c => exact q.elim
    | outgrown => exact q.elim)
/-- y within, z behind it. -/
def wpT2 (P : Program) (n : Nat) (y z : Code) (rs : List ResultVar) (R : Value → World → Prop) (ρ : Env) (w : World) : Prop := ∀ Q, Tail P n rs R Q → ∀ a, Fits n [] ρ a → y.wp P (Exit.then (z.wp P Q) Q) a w
theorem t_of2 {y z : Code} {rs : List ResultVar} {R : Value → World → Prop} (h : wpT2 P n y z rs R ρ w) : wpT P n (.seq y z) rs R ρ w := fun Q hQ a ha => wp_seq (h Q hQ a ha)
theorem t_seq2 {x y z : Code} {rs : List ResultVar} {R : Value → World → Prop} (h : ∀ K : Env → World → Prop, (∀ ρ w, wpT2 P n y z rs R ρ w → K ρ w) → wpC P n x (endP P rs R K) ρ w) : wpT P n (.seq (.seq x y) z) rs R ρ w := fun Q hQ a ha =>
  wp_seq (wp_seq (wp_mono (h (fun ρ w => wpT2 P n y z rs R ρ w) (fun _ _ h => h) a ha) fun e a' w' q => by
    cases e with
    | normal => obtain ⟨ρ', f, k⟩ := q; exact k Q hQ a' f
    | ret => obtain ⟨ρ', f, q⟩ := q; exact hQ.q0 _ _ _ _ (.inr rfl) f q
    | exit i => obtain ⟨_, _, q⟩ := q; exact q.elim
    | goto i => obtain ⟨_, _, q⟩ := q; exact q.elim
    | panic c => exact q.elim
    | outgrown => exact q.elim))
/-- The range: no round leaves it. -/
theorem t_range {g : Operand} {p id : Nat} {assign body y : Code} {gf : FuncId} {fnn : Func} {cc : Code} {tv : Value} {R1 : World → Prop} {rs : List ResultVar} {R : Value → World → Prop} (hg : ev? ρ g = some (.func (.func gf) #[tv] #[])) (hf : P.funcs[gf]? = some fnn) (hb : fnn.body = some cc) (hn : (fnn.name == "runtime.NumGoroutine") = false)
    (h : ∀ W1 rc fn tmps, Fits n [] ρ { tmps := tmps, defers := [] } → rc = recOf w fn tmps p assign body → W1.heap[w.heap.size + 1]? = some (.loop rc) → W1.heap[w.heap.size]? = some (.deferred (some [])) → Chg w W1 [] → W1.heap.size = w.heap.size + 2 →
      CallsR P gf #[tv, .func (.yield (w.heap.size + 1)) #[] #[]] W1 fun _ W2 => W2.heap[w.heap.size + 1]? = some (.loop rc) ∧ R1 W2)
    (k : ∀ W2 w', R1 W2 → Chg W2 w' [w.heap.size + 1] → wpC P n y (endM P w rs R) ρ w') : wpT2 P n (.block id (.rangeFunc g #[p] assign body)) y rs R ρ w := fun Q hQ a ha => by
  refine (wp_block (wp_mono (range_wp (R1 := R1) (R2 := fun _ => False) (ev_of ha hg) hf hb hn ?_) ?_))
  · intro fn W1 rc hrc hl hD X hs
    exact (h W1 _ _ _ ⟨rfl, ha.2⟩ hrc hl hD X hs).mono fun _ _ h => .inl h
  · rintro e a' w' ⟨rfl, ⟨rfl, W2, hR, Y⟩ | ⟨_, W2, hR, _⟩⟩
    · simp only [Exit.inBlock]
      refine wp_mono (k W2 w' hR Y _ ⟨by rw [ha.1], ha.2.1, ha.2.2⟩) ?_
      intro e a2 w2 q
      cases e with
      | normal => obtain ⟨ρ', f, q⟩ := q; exact hQ.q1 _ _ _ _ _ (.inl rfl) f q
      | ret => obtain ⟨ρ', f, q⟩ := q; exact hQ.q1 _ _ _ _ _ (.inr rfl) f q
      | exit i => obtain ⟨_, _, q⟩ := q; exact q.elim
      | goto i => obtain ⟨_, _, q⟩ := q; exact q.elim
      | panic c => exact q.elim
      | outgrown => exact q.elim
    · exact hR.elim
theorem f_tail {f : FuncId} {fn : Func} {c : Code} {rs : List ResultVar} {args : List Value} {R : Value → World → Prop} (hf : P.funcs[f]? = some fn) (hb : fn.body = some c) (hn : fn.ntmps = n) (hr : fn.results = rs.toArray) (hl : Nat.ble args.length n = true)
    (h : wpT P n c rs R (argEnv 0 args) w) : CallsR P f args.toArray w R := by
  refine (callsIn_wide (n := 0)).1 (callsIn_of_wp_marks hf hb trivial ((wpIn_wide (n := 0)).2 ?_))
  rw [hn]
  have fin : ∀ (a' : Act) (ρ : Env) (D : List Deferred) (w2 : World), Fits n D ρ a' → Ends P rs R ρ w2 → LeavesIn Fence.wide 0 P fn a'.tmps (fun e w' => ∃ v, e = .returned v ∧ R v w') [] .returning w2 := by
    intro a' ρ D w2 ha hE
    obtain ⟨vs, h1, h2⟩ := hE
    refine ⟨_, ?_, _, rfl, h2⟩
    have hm := mapM_reads ha h1
    rw [results_eq, hr, List.mapM_toArray]
    simp only [Sem.run_bind, Sem.run_map, hm, Result.andThen_ok, Sem.run_pure]
    match vs with
    | [] => rfl
    | [v] => rfl
    | _ :: _ :: _ => simp
  refine h _ ⟨?_, ?_⟩ _ (fits_args (by simpa using hl))
  · intro e a' w' ρ he ha hE
    have key : LeavesInM Fence.wide 0 P fn a'.tmps (fun e w' => ∃ v, e = .returned v ∧ R v w') a'.defers .returning w' := by
      rw [ha.1]
      exact fin a' ρ _ w' ha hE
    rcases he with rfl | rfl
    · exact key
    · exact key
  · intro e a' w' ρ w0 he ha hE
    have key : LeavesInM Fence.wide 0 P fn a'.tmps (fun e w' => ∃ v, e = .returned v ∧ R v w') a'.defers .returning w' := by
      rw [ha.1]
      refine ⟨by simp, .inl ⟨w0.heap.size, _, rfl, run_takeDeferred hE.1, ?_⟩⟩
      exact fin a' ρ _ _ ha (hE.2 _ (chg_putObj (.deferred none)))
    rcases he with rfl | rfl
    · exact key
    · exact key
end
end Go.Proofs.YtmmijecookbajaaDoor
