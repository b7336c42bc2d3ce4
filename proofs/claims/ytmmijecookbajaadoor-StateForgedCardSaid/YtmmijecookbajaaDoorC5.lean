/- Part C5 of the proofs on this seat. Conditions: none beyond those in the theorems. By an AI agent. -/
import Derived.Test.YtmmijecookbajaaDoorC6
import Derived.Laws.StructEq
import Derived.Laws.MakeOwn
namespace Go.Proofs.YtmmijecookbajaaDoor
open Go Go.RowKit

/-! ### Structs -/
section
variable {P : Program} {ρ : Env} {w : World} {ty t : TypeId} {x : Operand} {u v : Value}
theorem runs_fieldv {i : Nat} (hx : ev? ρ x = some u) (hr : (Instr.field t u i).run P w = .ok v w) : Runs P ρ (.field t x i) ty w v w := fun ev h => by
  simp only [execOp, h _ _ hx, Sem.run_bind, hr, Result.andThen_ok, Sem.run_pure]
theorem runs_buildv {parts : Array (Nat × Operand)} (pv : List (Nat × Value)) (hpv : parts.toList.map (fun p => (p.1, ev? ρ p.2)) = pv.map (fun p => (p.1, some p.2))) (hr : (Instr.build t pv.toArray).run P w = .ok v w) : Runs P ρ (.build t parts) ty w v w := fun ev h => by
  have e : ∀ (l : List (Nat × Operand)) (pv : List (Nat × Value)), l.map (fun p => (p.1, ev? ρ p.2)) = pv.map (fun p => (p.1, some p.2)) → l.map (fun p => (p.1, ev p.2)) = pv := by
    intro l
    induction l with
    | nil => intro pv h; cases pv with
      | nil => rfl
      | cons => simp at h
    | cons a l ih =>
      intro pv hp
      cases pv with
      | nil => simp at hp
      | cons b pv =>
        simp only [List.map_cons, List.cons.injEq, Prod.mk.injEq] at hp ⊢
        refine ⟨?_, ih pv hp.2⟩
        rw [h _ _ hp.1.2, hp.1.1]
  have e2 : (parts.map fun p => (p.1, ev p.2)) = pv.toArray := by
    rw [← Array.toList_inj, Array.toList_map]; exact e _ _ hpv
  simp only [execOp, e2, Sem.run_bind, hr, Result.andThen_ok, Sem.run_pure]
theorem part1 {bytes : Nat} {z : Value} (T : TI P t false 1 bytes z) {xs : List Value} {i : Nat} (h : xs[i]? = some v) : (part t xs.toArray i).run P w = .ok v w := by
  have hI := T.run_isAgg w
  simp [part, hI, h]
theorem partA {size bytes : Nat} {z : Value} (T : TI P t true size bytes z) {xs : List Value} {i : Nat} : (part t xs.toArray i).run P w = .ok (.agg ((xs.drop i).take size).toArray) w := by
  have hI := T.run_isAgg w
  obtain ⟨_, inf, hinf, hsz, _, _⟩ := T
  simp [part, hI, sizeOf, typeInfo, hinf, hsz]
theorem eqF_nil {d : Nat} {xs ys : Array Value} : (Op.eqFields d xs ys []).run P w = .ok true w := by simp [Op.eqFields]
theorem eqF_cons {d : Nat} {xs ys : Array Value} {f : Field} {fs : List Field} {a b : Value} {e r : Bool} (hn : (f.name == "_") = false) (ha : (part f.type xs f.offset).run P w = .ok a w) (hb : (part f.type ys f.offset).run P w = .ok b w)
    (he : (Op.equalIn d f.type a b).run P w = .ok e w) (hr : (Op.eqFields d xs ys fs).run P w = .ok r w) : (Op.eqFields d xs ys (f :: fs)).run P w = .ok (e && r) w := by
  have hn' : f.name ≠ "_" := by simpa using hn
  unfold Op.eqFields
  rw [if_pos hn']
  simp only [Sem.run_bind, ha, hb, he, Result.andThen_ok]
  cases e
  · simp
  · simp [hr]
theorem eq_agg {d : Nat} {fs : List Field} {xs ys : Array Value} {r : Bool} (hu : P.underlying t = some (.struct fs.toArray)) (hp : P.stoodInHeld t = false) (h : (Op.eqFields d xs ys fs).run P w = .ok r w) : (Op.equalIn (d + 1) t (.agg xs) (.agg ys)).run P w = .ok r w := by
  have hf : P.fieldsOf t = fs.toArray := by simp [Program.fieldsOf, hu]
  rw [run_equalIn_struct w d t xs ys (by rw [hf]; exact hu) hp, hf]
  exact h
theorem runs_agg_eq {tx tyy : TypeId} {y : Operand} {xs ys : Array Value} {r : Bool} (hg : P.eqGuardType P.depth tx = false) (hx : ev? ρ x = some (.agg xs)) (hy : ev? ρ y = some (.agg ys)) (h : (Op.equalIn 10000 tx (.agg xs) (.agg ys)).run P w = .ok r w) :
    Runs P ρ (.binOp .eql tx x y tyy) ty w (.bool r) w := fun ev he => by
  have h1 := run_eqGuard_agg (P := P) w .eql tx x y xs ys hg
  simp only [execOp, he _ _ hx, he _ _ hy, Sem.run_bind, h1, Result.andThen_ok, run_eql_struct, h, Sem.run_pure]
theorem runs_agg_ne {tx tyy : TypeId} {y : Operand} {xs ys : Array Value} {r : Bool} (hg : P.eqGuardType P.depth tx = false) (hx : ev? ρ x = some (.agg xs)) (hy : ev? ρ y = some (.agg ys)) (h : (Op.equalIn 10000 tx (.agg xs) (.agg ys)).run P w = .ok r w) :
    Runs P ρ (.binOp .neq tx x y tyy) ty w (.bool (!r)) w := fun ev he => by
  have h1 := run_eqGuard_agg (P := P) w .neq tx x y xs ys hg
  simp only [execOp, he _ _ hx, he _ _ hy, Sem.run_bind, h1, Result.andThen_ok, run_neq_struct, h, Sem.run_pure]
end
/-! ### make with no elements -/
section
variable {P : Program} {n : Nat} {ρ : Env} {w : World} {ops : List Oper} {N : Env → World → Prop} {rest : List Oper} {ty : TypeId} {pos : String} {af : Array Edge} {g : Option (Nat × Bool)} {d : Nat}
theorem s_make0 {t e : TypeId} {size bytes c : Nat} {ag : Bool} {z : Value} {x y : Operand} {kl kc : IntKind} (B : Nat) (hu : P.underlying t = some (.slice e)) (T : TI P e ag size bytes z) (hw : wantE ops ρ g = some true) (hd : Nat.blt d n = true)
    (hx : ev? ρ x = some (.int kl 0)) (hy : ev? ρ y = some (.int kc (c : Int))) (hb : bytes * c ≤ 281474976710656) (hc : c ≤ maxLen) (hB : B ≤ w.heap.size)
    (k : ∀ v w', w'.ownsRow B e size v 0 [] → Chg w w' [] → (∀ b, v.ownBlock = some b → w.heap.size ≤ b) → wpL P n ops N rest ((d, v) :: ρ) w') :
    wpL P n ops N (⟨some d, .makeSlice t x y, ty, pos, af, g⟩ :: rest) ρ w := by
  obtain ⟨_, inf, hinf, hs, hby, hz⟩ := T
  obtain ⟨w', hr, ho, hg⟩ := run_make_own (P := P) (w := w) B t e inf z size hu hinf hz hs kl kc c (by rw [hby]; exact hb) hc hB
  refine s_val hw hd (fun ev h => ?_) (k _ w' ho (Chg.of_grown hg) (fun b hb => by simp [Value.ownBlock] at hb; omega))
  simp only [execOp, h _ _ hx, h _ _ hy, Sem.run_bind, hr, Result.andThen_ok, Sem.run_pure]
/-- A call of which nothing is kept. -/
theorem s_callu {f : FuncId} {fn : Func} {c : Code} {xs : List Operand} {tys : Array TypeId} {vs : List Value} {R : Value → World → Prop} (hw : wantE ops ρ g = some true)
    (hf : P.funcs[f]? = some fn) (hb : fn.body = some c) (hn : (fn.name == "runtime.NumGoroutine") = false) (hx : evs? ρ xs = some vs) (hc : CallsR P f vs.toArray w R)
    (k : ∀ v w', R v w' → wpL P n ops N rest ρ w') :
    wpL P n ops N (⟨none, .call { callee := .value (.func f), args := xs.toArray, argTypes := tys }, ty, pos, af, g⟩ :: rest) ρ w := fun D a ha => by
  unfold wpList
  have hwa : Region.wanted ⟨none, .call { callee := .value (.func f), args := xs.toArray, argTypes := tys }, ty, pos, af, g⟩ (yielded ops.toArray a.tmps) = true := want_of ha hw
  rw [if_pos hwa]
  refine .inl ?_
  unfold Oper.wp
  have h1 := evs_map hx (fun x u hx => ev_of ha hx)
  have h0 := ev_of ha (show ev? ρ (.func f) = _ from rfl)
  simp only [beq_eq_false_iff_ne] at hn
  have e : (execOp a.eval ⟨none, .call { callee := .value (.func f), args := xs.toArray, argTypes := tys }, ty, pos, af, g⟩).run P w = .ok (.enter f vs.toArray) w := by
    simp [execOp, resolve, Deferred.ofValue, h0, invoke, callFunc, hf, hb, hn, h1]
  rw [e]
  refine Calls.mono hc fun e w' ⟨v, he, hR⟩ => ?_
  subst he
  exact k v w' hR _ ha
/-- A cell within a block. -/
theorem Blk.cell {w : World} {b o : Nat} {cs : List Value} {t : TypeId} {v : Value} (h : Blk w b cs t) (hv : cs[o]? = some v) : w.cell? ⟨b, 0 + o, none⟩ = some v := h.at o v hv
end
end Go.Proofs.YtmmijecookbajaaDoor
