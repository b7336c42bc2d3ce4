/- Rules for calls by name, slice literals, append, equality of arrays, cutting slices. Conditions: none beyond those in the theorems. By an AI agent. -/
import Derived.Test.YtmmijecookbajaaDoorC1
namespace Go.Proofs.YtmmijecookbajaaDoor
open Go Go.RowKit

section
variable {P : Program} {n : Nat} {ρ : Env} {w : World} {ops : List Oper} {N : Env → World → Prop} {rest : List Oper} {ty : TypeId} {pos : String} {af : Array Edge} {g : Option (Nat × Bool)} {d : Nat}

/-! ### A call of a Go function by its name -/
def evs? (ρ : Env) : List Operand → Option (List Value)
  | [] => some []
  | x :: l => match ev? ρ x, evs? ρ l with
    | some v, some vs => some (v :: vs)
    | _, _ => none
theorem evs_map {ρ : Env} {l : List Operand} {vs : List Value} (h : evs? ρ l = some vs) {ev : Operand → Value} (he : ∀ x u, ev? ρ x = some u → ev x = u) : l.map ev = vs := by
  induction l generalizing vs with
  | nil => simpa [evs?] using h
  | cons x l ih =>
    simp only [evs?] at h
    cases h1 : ev? ρ x with
    | none => rw [h1] at h; cases h
    | some v =>
      cases h2 : evs? ρ l with
      | none => rw [h1, h2] at h; cases h
      | some us =>
        rw [h1, h2] at h
        simp at h
        subst h
        simp [he x v h1, ih h2]

theorem s_callf {f : FuncId} {fn : Func} {c : Code} {xs : List Operand} {tys : Array TypeId} {vs : List Value} {R : Value → World → Prop} (hw : wantE ops ρ g = some true) (hd : Nat.blt d n = true)
    (hf : P.funcs[f]? = some fn) (hb : fn.body = some c) (hn : (fn.name == "runtime.NumGoroutine") = false) (hx : evs? ρ xs = some vs) (hc : CallsR P f vs.toArray w R)
    (k : ∀ v w', R v w' → wpL P n ops N rest ((d, v) :: ρ) w') :
    wpL P n ops N (⟨some d, .call { callee := .value (.func f), args := xs.toArray, argTypes := tys }, ty, pos, af, g⟩ :: rest) ρ w := by
  refine s_call hw hd (fun ev h => ?_) hc k
  have h1 := evs_map hx h
  have h0 := h (.func f) _ rfl
  simp only [beq_eq_false_iff_ne] at hn
  simp [execOp, resolve, Deferred.ofValue, h0, invoke, callFunc, hf, hb, hn, h1]

theorem runs_extract {x : Operand} {vs : List Value} {i : Nat} {v : Value} (hx : ev? ρ x = some (.tuple vs.toArray)) (hi : vs[i]? = some v) : Runs P ρ (.extract x i) ty w v w := fun ev h => by
  simp [execOp, h _ _ hx, Instr.extract, hi]

/-! ### A slice literal -/
theorem foldl_set (l : List Value) : ∀ (off j : Nat) (cs : List Value), off + j + l.length ≤ cs.length →
    (l.zipIdx j).foldl (fun (cs : Array Value) (p : Value × Nat) => cs.setIfInBounds (off + p.2) p.1) cs.toArray = (cs.take (off + j) ++ l ++ cs.drop (off + j + l.length)).toArray := by
  induction l with
  | nil => intro off j cs _; simp
  | cons v l ih =>
    intro off j cs h
    simp only [List.length_cons] at h
    simp only [List.zipIdx_cons, List.foldl_cons, List.setIfInBounds_toArray]
    rw [ih off (j + 1) _ (by simp; omega)]
    congr 1
    rw [List.set_eq_take_append_cons_drop, if_pos (by omega)]
    have e1 : (cs.take (off + j) ++ v :: cs.drop (off + j + 1)).take (off + (j + 1)) = cs.take (off + j) ++ [v] := by
      rw [List.take_append, List.take_of_length_le (by simp; omega)]
      have : off + (j + 1) - (cs.take (off + j)).length = 1 := by simp; omega
      rw [this]; simp
    have e2 : (cs.take (off + j) ++ v :: cs.drop (off + j + 1)).drop (off + (j + 1) + l.length) = cs.drop (off + j + (l.length + 1)) := by
      rw [List.drop_append, List.drop_eq_nil_of_le (by simp; omega)]
      have : off + (j + 1) + l.length - (cs.take (off + j)).length = l.length + 1 := by simp; omega
      rw [this]; simp; congr 1; omega
    rw [e1, e2]; simp

def flatC (vs : List Value) : List Value := vs.flatMap fun v => v.cells.toList
theorem fill_list (size : Nat) : ∀ (vs : List Value) (k : Nat) (cs : List Value), (∀ v ∈ vs, v.cells.size = size) → (k + vs.length) * size ≤ cs.length →
    Instr.fill (fun i => some (i * size, size)) cs.toArray ((vs.zipIdx k).map fun p => (p.2, p.1)) = some (cs.take (k * size) ++ flatC vs ++ cs.drop ((k + vs.length) * size)).toArray := by
  intro vs
  induction vs with
  | nil => intro k cs _ _; simp [Instr.fill, flatC]
  | cons v vs ih =>
    intro k cs hs hl
    have hv : v.cells.size = size := hs v (by simp)
    have hmul : (k + (v :: vs).length) * size = k * size + (size + vs.length * size) := by simp only [List.length_cons]; rw [Nat.add_mul, Nat.add_mul]; omega
    rw [hmul] at hl
    have hvl : v.cells.toList.length = size := by simpa using hv
    simp only [List.zipIdx_cons, List.map_cons, Instr.fill]
    rw [if_neg (by simp [hv]; omega)]
    have hf := foldl_set v.cells.toList (k * size) 0 cs (by rw [hvl]; omega)
    have hz : v.cells.zipIdx.foldl (fun (cs : Array Value) (x : Value × Nat) => match x with | (c, j) => cs.setIfInBounds (k * size + j) c) cs.toArray
        = (v.cells.toList.zipIdx 0).foldl (fun (cs : Array Value) (p : Value × Nat) => cs.setIfInBounds (k * size + p.2) p.1) cs.toArray := by
      rw [← Array.foldl_toList]; simp
    rw [hz, hf]
    simp only [Nat.add_zero]
    rw [ih (k + 1) _ (fun u hu => hs u (by simp [hu])) (by
      simp only [List.length_append, List.length_take, List.length_drop, hvl]
      have : (k + 1 + vs.length) * size = k * size + (size + vs.length * size) := by rw [Nat.add_mul, Nat.add_mul]; omega
      omega)]
    congr 2
    have hkl : (cs.take (k * size)).length = k * size := by simp; omega
    have e1 : (cs.take (k * size) ++ v.cells.toList ++ cs.drop (k * size + v.cells.toList.length)).take ((k + 1) * size) = cs.take (k * size) ++ v.cells.toList := by
      rw [List.take_append, List.take_of_length_le (by simp [hvl]; rw [Nat.add_mul]; omega)]
      have : (k + 1) * size - (cs.take (k * size) ++ v.cells.toList).length = 0 := by simp only [List.length_append, hkl, hvl]; rw [Nat.add_mul]; omega
      rw [this]; simp
    have e2 : (cs.take (k * size) ++ v.cells.toList ++ cs.drop (k * size + v.cells.toList.length)).drop ((k + 1 + vs.length) * size) = cs.drop ((k + (v :: vs).length) * size) := by
      have e0 : (k + 1 + vs.length) * size = k * size + size + vs.length * size := by rw [Nat.add_mul, Nat.add_mul]; omega
      rw [List.drop_append, List.drop_eq_nil_of_le (by simp only [List.length_append, hkl, hvl]; omega)]
      have : (k + 1 + vs.length) * size - (cs.take (k * size) ++ v.cells.toList).length = vs.length * size := by simp only [List.length_append, hkl, hvl]; omega
      rw [this, List.drop_drop, hvl, hmul]; simp; congr 1; omega
    rw [e1, e2]
    simp [flatC]

theorem flatC_length {size : Nat} {vs : List Value} (h : ∀ v ∈ vs, v.cells.size = size) : (flatC vs).length = vs.length * size := by
  induction vs with
  | nil => simp [flatC]
  | cons v vs ih =>
    simp only [flatC, List.flatMap_cons, List.length_append, List.length_cons]
    rw [show (List.flatMap (fun v => v.cells.toList) vs).length = vs.length * size from ih (fun u hu => h u (by simp [hu]))]
    have := h v (by simp)
    rw [Array.length_toList, this, Nat.add_mul]; omega

theorem s_lit {t e : TypeId} {m size bytes : Nat} {ag : Bool} {z : Value} {xs : List Operand} {parts : Array (Nat × Operand)} {vs : List Value} (hu : P.underlying t = some (.slice e)) (T : TI P e ag size bytes z)
    (hw : wantE ops ρ g = some true) (hd : Nat.blt d n = true) (hp : parts = (xs.zipIdx.map fun p => (p.2, p.1)).toArray) (hm : xs.length = m) (hx : evs? ρ xs = some vs) (hs : ∀ v ∈ vs, v.cells.size = size) (hbig : m * size ≤ 16777216) (hpos : 0 < m * size)
    (k : ∀ b w', b = w.heap.size → w'.heap.size = b + 1 → Blk w' b (flatC vs) e → Chg w w' [] → wpL P n ops N rest ((d, .slice (some ⟨b, 0, none⟩) m m) :: ρ) w') :
    wpL P n ops N (⟨some d, .buildSlice t m parts, ty, pos, af, g⟩ :: rest) ρ w := by
  refine s_val hw hd (w' := w.alloc (.cells (flatC vs).toArray e)) (fun ev h => ?_) (k _ _ rfl (by simp) (by unfold Blk; rw [heap_alloc_new]) (chg_alloc w _))
  have hvs := evs_map hx h
  have hlen : vs.length = m := by rw [← hvs, List.length_map, hm]
  obtain ⟨_, inf, hinf, hsz, _, hz⟩ := T
  have hfill := fill_list size vs 0 ((List.range (m * size)).map fun i => z.cells[i % z.cells.size]!) hs (by simp [hlen])
  simp only [Nat.zero_mul, List.take_zero, List.nil_append, Nat.zero_add] at hfill
  rw [List.drop_eq_nil_of_le (by simp [hlen]), List.append_nil] at hfill
  have hparts : (parts.map fun p => (p.1, ev p.2)).toList = (vs.zipIdx 0).map fun p => (p.2, p.1) := by
    rw [hp, ← hvs]
    simp [List.zipIdx_map, List.map_map, Function.comp_def]
  have harr : ((Array.range (m * size)).map fun i => z.cells[i % z.cells.size]!) = ((List.range (m * size)).map fun i => z.cells[i % z.cells.size]!).toArray := by
    rw [← Array.toList_inj]; simp [Array.toList_range]
  simp only [execOp, Instr.buildSlice, Sem.run_bind, run_underlying hu, Result.andThen_ok, sizeOf, typeInfo, run_program, hinf, Sem.run_pure, hsz]
  rw [if_neg (by omega), if_neg (by omega)]
  simp only [Sem.run_bind, zeroValue, typeInfo, run_program, hinf, hz, Result.andThen_ok, Sem.run_pure, harr, hparts, hfill]
  simp [newRow]

/-! ### append -/
/-- A slice that the call owns: kit's 'ownsRow', its block numbered base or above. -/
theorem own_fresh {w' : World} {B : Nat} {e : TypeId} {size n' : Nat} {v' : Value} {xs' : List Value} (h : w'.ownsRow B e size v' n' xs') : ∀ k, v'.ownBlock = some k → B ≤ k ∧ k < w'.heap.size := h.lt

theorem s_append {t e : TypeId} {size bytes : Nat} {ag : Bool} {z v : Value} {x y : Operand} {B m c n0 : Nat} {xs news : List Value} {a : Option Addr} (hu : P.underlying t = some (.slice e)) (T : TI P e ag size bytes z) (hzs : z.cells.size = size) (hsz : 0 < size)
    (hw : wantE ops ρ g = some true) (hd : Nat.blt d n = true) (hx : ev? ρ x = some v) (hown : w.ownsRow B e size v n0 xs) (hy : ev? ρ y = some (.slice a m c)) (hr : SlR w size a m c news) (h1 : ∀ u ∈ news, u.oneCell' = true)
    (h63 : n0 + m ≤ maxLen) (hbytes : (n0 + m) * bytes ≤ 140737488355328) (hB : B ≤ w.heap.size)
    (k : ∀ v' w', w'.ownsRow B e size v' (n0 + m) (xs ++ news) → Chg w w' v.ownBlock.toList → (∀ b, v'.ownBlock = some b → v.ownBlock = some b ∨ w.heap.size ≤ b) → wpL P n ops N rest ((d, v') :: ρ) w') :
    wpL P n ops N (⟨some d, .call { callee := .builtin .append, args := #[x, y], argTypes := #[t, t] }, ty, pos, af, g⟩ :: rest) ρ w := by
  obtain ⟨_, inf, hinf, hs, hby, hz⟩ := T
  cases a with
  | some p =>
    have hadd : ∀ j u, news[j]? = some u → w.cell? (p.add j) = some u := by
      obtain ⟨bl, off, spot⟩ := p
      obtain ⟨hsp, hat⟩ := hr.cells _ rfl
      simp only at hsp hat
      intro j u hu
      rcases hsp with rfl | hc
      · rw [add_lit]; exact hat j u hu
      · have hm : m = 0 := by have := hr.le; omega
        have := hr.len
        rw [hm, Nat.zero_mul] at this
        rw [List.eq_nil_of_length_eq_zero this] at hu
        simp at hu
    -- in one place the block may be known better
    have hcase : ∃ v' w', (Builtin.append_ #[t, t] ty #[v, .slice (some p) m c]).run P w = .ok v' w' ∧ w'.ownsRow B e size v' (n0 + m) (xs ++ news) ∧ w.grownBy w' v.ownBlock ∧
        (∀ b, v'.ownBlock = some b → v.ownBlock = some b ∨ w.heap.size ≤ b) := by
      by_cases hv : ∃ b, v.ownBlock = some b ∧ b < w.heap.size
      · obtain ⟨b0, hb0, hlt⟩ := hv
        obtain ⟨v', w', h1', h2', h3', _⟩ := run_append_own (P := P) w B t ty e inf z size bytes hu hinf hz hs hby hzs hsz v n0 xs hown p m c news hr.len hadd h1 h63 hbytes hB
        refine ⟨v', w', h1', h2', h3', ?_⟩
        intro b hb
        -- the row lies where it lay, or in a new block: else a block that was there would have turned
        rcases hown.2 with ⟨rfl, _⟩ | ⟨g0, cap, cur, rfl, hbg, hg, hnc, hcm, hcs, htake⟩
        · simp [Value.ownBlock] at hb0
        · by_cases hroom : n0 + m ≤ cap
          · have hfit : n0 * inf.size + news.length ≤ cur.size := by rw [hr.len, hcs, hs, ← Nat.add_mul]; exact Nat.mul_le_mul_right _ hroom
            have hr2 := run_append_room (P := P) w t ty e inf hu hinf g0 n0 cap cur hg p m c news (by rw [hs]; exact hr.len) hadd h1 hroom hfit
            rw [hr2] at h1'
            cases h1'
            exact .inl hb
          · have holds : ∀ j u, xs[j]? = some u → w.cell? ((⟨g0, 0, none⟩ : Addr).add j) = some u := hown.cells (g := g0) rfl
            have hmx : maxLen = 9223372036854775807 := rfl
            have hr2 := run_append_grow (P := P) w t ty e inf z hu hinf hz ⟨g0, 0, none⟩ n0 cap xs (by rw [hs]; exact hown.1) holds p m c news (by rw [hs]; exact hr.len) hadd (by omega) (by omega) (growslice_fits (by omega) (by rw [hby]; exact hbytes))
            rw [hr2] at h1'
            cases h1'
            simp only [Value.ownBlock, Option.some.injEq] at hb
            exact .inr (by omega)
      · obtain ⟨v', w', h1', h2', h3', h4'⟩ := run_append_own (P := P) w B t ty e inf z size bytes hu hinf hz hs hby hzs hsz v n0 xs hown p m c news hr.len hadd h1 h63 hbytes hB
        refine ⟨v', w', h1', h2', h3', ?_⟩
        intro b hb
        rcases hown.2 with ⟨rfl, rfl⟩ | ⟨g0, cap, cur, rfl, hbg, hg, _⟩
        · by_cases hm : m = 0
          · have := h4'.2 ⟨rfl, hm⟩
            rw [this] at hb
            simp [Value.ownBlock] at hb
          · have hmx : maxLen = 9223372036854775807 := rfl
            have hr2 := run_append_nil (P := P) w t ty e inf z hu hinf hz p m c news (by rw [hs]; exact hr.len) hadd (by omega) (by omega) (by rw [hby]; have hb' := hbytes; simp only [Nat.zero_add] at hb'; omega)
            rw [hr2] at h1'
            cases h1'
            simp only [Value.ownBlock, Option.some.injEq] at hb
            exact .inr (by omega)
        · exact absurd ⟨g0, rfl, (Array.getElem?_eq_some_iff.1 hg).1⟩ hv
    obtain ⟨v', w', hrun, h2, h3, h4⟩ := hcase
    refine s_val hw hd (fun ev h => ?_) (k v' w' h2 (Chg.of_grown h3) h4)
    simp [execOp, resolve, invoke, builtin, h _ _ hx, h _ _ hy, hrun]
  | none =>
    obtain ⟨rfl, rfl⟩ := hr.nil rfl
    have hnews : news = [] := List.eq_nil_of_length_eq_zero (by simpa using hr.len)
    subst hnews
    have hrun := run_append_owned_none (P := P) w B t ty e inf size hu hinf v n0 xs hown
    refine s_val hw hd (w' := w) (fun ev h => ?_) (k v w (by simpa using hown) (Chg.refl w _) (fun b hb => .inl hb))
    simp [execOp, resolve, invoke, builtin, h _ _ hx, h _ _ hy, hrun]
end

/-! ### Arrays of integers: == -/
def intsC (k : IntKind) (xs : List Int) : List Value := xs.map (Value.int k)
section
variable {P : Program} {ρ : Env} {w : World} {ty : TypeId} {x y : Operand}
theorem run_equalIn_ints {t e : TypeId} {m : Nat} {k : IntKind} {bytes : Nat} {z : Value} (dp : Nat) (hu : P.underlying t = some (.array m e)) (he : P.underlying e = some (.int k)) (T : TI P e false 1 bytes z)
    (xs ys : List Int) (hx : xs.length = m) (hy : ys.length = m) (w : World) :
    (Op.equalIn (dp + 2) t (.agg (intsC k xs).toArray) (.agg (intsC k ys).toArray)).run P w = .ok (xs == ys) w := by
  have hI := T.run_isAgg w
  obtain ⟨_, inf, hinf, hs, _, _⟩ := T
  unfold Op.equalIn
  simp only [Sem.run_bind, run_underlying hu, Result.andThen_ok, sizeOf, typeInfo, run_program, hinf, Sem.run_pure, hs]
  rw [Std.Legacy.Range.forIn_eq_forIn_range']
  have hsz : ([:m] : Std.Legacy.Range).size = m := by simp [Std.Legacy.Range.size]
  simp only [hsz]
  have part1 : ∀ (zs : List Int) (i : Nat) (v : Int), zs[i]? = some v → (part e (intsC k zs).toArray (i * 1)).run P w = .ok (.int k v) w := by
    intro zs i v hv
    simp [part, hI, intsC, hv]
  have key : ∀ (l : Nat) (i : Nat), i + l = m →
      ∀ (f : Nat → Option Bool × Unit → Sem (ForInStep (Option Bool × Unit))),
      (∀ j a b, xs[j]? = some a → ys[j]? = some b → (f j (none, ())).run P w = .ok (if a == b then .yield (none, ()) else .done (some false, ())) w) →
      (forIn (List.range' i l 1) ((none, ()) : Option Bool × Unit) f).run P w = .ok (if xs.drop i == ys.drop i then none else some false, ()) w := by
    intro l
    induction l with
    | zero =>
      intro i hi f _
      rw [List.drop_eq_nil_of_le (by omega), List.drop_eq_nil_of_le (by omega)]
      simp
    | succ l ih =>
      intro i hi f hf
      have hxi : xs[i]? = some xs[i] := List.getElem?_eq_getElem (by omega)
      have hyi : ys[i]? = some ys[i] := List.getElem?_eq_getElem (by omega)
      rw [List.range'_succ, List.forIn_cons]
      simp only [Sem.run_bind, hf i _ _ hxi hyi, Result.andThen_ok]
      rw [List.drop_eq_getElem_cons (show i < xs.length by omega), List.drop_eq_getElem_cons (show i < ys.length by omega)]
      by_cases hab : xs[i] = ys[i]
      · rw [if_pos (by simpa using hab)]
        simp only
        rw [ih (i + 1) (by omega) f hf, List.cons_beq_cons, hab, beq_self_eq_true, Bool.true_and]
      · rw [if_neg (by simpa using hab), List.cons_beq_cons, show (xs[i] == ys[i]) = false by simpa using hab, Bool.false_and]
        rfl
  rw [key m 0 (by omega) _ ?_]
  · by_cases h : xs = ys
    · subst h; simp
    · simp [h]
  · intro j a b ha hb
    simp only [Sem.run_bind, part1 xs j a ha, part1 ys j b hb, Result.andThen_ok, run_equalIn_int w dp e k k a b he]
    by_cases hab : a = b
    · subst hab; simp
    · simp [hab]

theorem runs_arr_eq {t e tyy : TypeId} {m : Nat} {k : IntKind} {bytes : Nat} {z : Value} (hu : P.underlying t = some (.array m e)) (he : P.underlying e = some (.int k)) (T : TI P e false 1 bytes z) (hg : P.eqGuardType P.depth t = false)
    {xs ys : List Int} (hxl : xs.length = m) (hyl : ys.length = m) (hx : ev? ρ x = some (.agg (intsC k xs).toArray)) (hy : ev? ρ y = some (.agg (intsC k ys).toArray)) :
    Runs P ρ (.binOp .eql t x y tyy) ty w (.bool (xs == ys)) w := fun ev h => by
  have h1 := run_eqGuard_agg (P := P) w .eql t x y (intsC k xs).toArray (intsC k ys).toArray hg
  have h2 := run_equalIn_ints (P := P) 9998 hu he T xs ys hxl hyl w
  simp only [execOp, h _ _ hx, h _ _ hy, Sem.run_bind, h1, Result.andThen_ok, run_eql_struct, h2, Sem.run_pure]
theorem runs_arr_ne {t e tyy : TypeId} {m : Nat} {k : IntKind} {bytes : Nat} {z : Value} (hu : P.underlying t = some (.array m e)) (he : P.underlying e = some (.int k)) (T : TI P e false 1 bytes z) (hg : P.eqGuardType P.depth t = false)
    {xs ys : List Int} (hxl : xs.length = m) (hyl : ys.length = m) (hx : ev? ρ x = some (.agg (intsC k xs).toArray)) (hy : ev? ρ y = some (.agg (intsC k ys).toArray)) :
    Runs P ρ (.binOp .neq t x y tyy) ty w (.bool (!(xs == ys))) w := fun ev h => by
  have h1 := run_eqGuard_agg (P := P) w .neq t x y (intsC k xs).toArray (intsC k ys).toArray hg
  have h2 := run_equalIn_ints (P := P) 9998 hu he T xs ys hxl hyl w
  simp only [execOp, h _ _ hx, h _ _ hy, Sem.run_bind, h1, Result.andThen_ok, run_neq_struct, h2, Sem.run_pure]

/-! ### Cutting a slice -/
def cutA (a : Option Addr) (c l size : Nat) : Option Addr := if c = l then a else a.map (·.add (l * size))
theorem runs_slice {t e : TypeId} {size bytes : Nat} {ag : Bool} {z : Value} {a : Option Addr} {m c : Nat} {lo hi : Operand} {k1 k2 : IntKind} {lz hz : Int} (l h n' : Nat) (hu : P.underlying t = some (.slice e)) (T : TI P e ag size bytes z)
    (hx : ev? ρ x = some (.slice a m c)) (hl : ev? ρ lo = some (.int k1 lz)) (hh : ev? ρ hi = some (.int k2 hz)) (el : lz = (l : Int)) (eh : hz = (h : Int)) (h1 : l ≤ h) (h2 : h ≤ c) (en : h - l = n') :
    Runs P ρ (.slice t x (some lo) (some hi) none) ty w (.slice (cutA a c l size) n' (c - l)) w := fun ev he => by
  obtain ⟨_, inf, hinf, hsz, _, _⟩ := T
  subst el eh en
  simp [execOp, he _ _ hx, he _ _ hl, he _ _ hh, Instr.sliceAt, run_underlying hu, Instr.slice, Instr.sliceBounds, Instr.sliceBound, asIntOf, h1, h2, sizeOf, typeInfo, hinf, hsz, cutA]
theorem cutA_lt {b o c l size : Nat} (h : l < c) : cutA (some ⟨b, o, none⟩) c l size = some ⟨b, o + l * size, none⟩ := by
  unfold cutA; rw [if_neg (by omega)]; simp [add_lit]
theorem runs_slice_in {t e : TypeId} {size bytes : Nat} {ag : Bool} {z : Value} {b o : Nat} {m c : Nat} {lo hi : Operand} {k1 k2 : IntKind} {lz hz : Int} (l h n' : Nat) (hu : P.underlying t = some (.slice e)) (T : TI P e ag size bytes z)
    (hx : ev? ρ x = some (.slice (some ⟨b, o, none⟩) m c)) (hl : ev? ρ lo = some (.int k1 lz)) (hh : ev? ρ hi = some (.int k2 hz)) (el : lz = (l : Int)) (eh : hz = (h : Int)) (h1 : l ≤ h) (h2 : h ≤ c) (en : h - l = n') (h3 : l < c) :
    Runs P ρ (.slice t x (some lo) (some hi) none) ty w (.slice (some ⟨b, o + l * size, none⟩) n' (c - l)) w :=
  runs_as (runs_slice l h n' hu T hx hl hh el eh h1 h2 en) (by rw [cutA_lt h3])
theorem runs_slice_to {t e : TypeId} {size bytes : Nat} {ag : Bool} {z : Value} {a : Option Addr} {m c : Nat} {hi : Operand} {k2 : IntKind} {hz : Int} (h : Nat) (hu : P.underlying t = some (.slice e)) (T : TI P e ag size bytes z)
    (hx : ev? ρ x = some (.slice a m c)) (hh : ev? ρ hi = some (.int k2 hz)) (eh : hz = (h : Int)) (h2 : h ≤ c) :
    Runs P ρ (.slice t x none (some hi) none) ty w (.slice a h c) w := fun ev he => by
  obtain ⟨_, inf, hinf, hsz, _, _⟩ := T
  subst eh
  have e3 : (fun x : Addr => x.add 0) = id := by funext x; simp [Addr.add]
  simp [execOp, he _ _ hx, he _ _ hh, Instr.sliceAt, run_underlying hu, Instr.slice, Instr.sliceBounds, Instr.sliceBound, asIntOf, h2, sizeOf, typeInfo, hinf, e3]
theorem runs_slice_from {t e : TypeId} {size bytes : Nat} {ag : Bool} {z : Value} {a : Option Addr} {m c : Nat} {lo : Operand} {k1 : IntKind} {lz : Int} (l : Nat) (hu : P.underlying t = some (.slice e)) (T : TI P e ag size bytes z)
    (hx : ev? ρ x = some (.slice a m c)) (hl : ev? ρ lo = some (.int k1 lz)) (el : lz = (l : Int)) (h1 : l ≤ m) :
    Runs P ρ (.slice t x (some lo) none none) ty w (.slice (cutA a c l size) (m - l) (c - l)) w := fun ev he => by
  obtain ⟨_, inf, hinf, hsz, _, _⟩ := T
  subst el
  simp [execOp, he _ _ hx, he _ _ hl, Instr.sliceAt, run_underlying hu, Instr.slice, Instr.sliceBounds, Instr.sliceBound, asIntOf, h1, sizeOf, typeInfo, hinf, hsz, cutA]

theorem SlR.cut {size : Nat} {a : Option Addr} {m c : Nat} {xs : List Value} (h : SlR w size a m c xs) (l r : Nat) (h1 : l ≤ r) (h2 : r ≤ m) :
    SlR w size (cutA a c l size) (r - l) (c - l) ((xs.drop (l * size)).take ((r - l) * size)) := by
  have hlen := h.len
  have hle := h.le
  have hmul : r * size ≤ m * size := Nat.mul_le_mul_right _ h2
  have hmul2 : (r - l) * size + l * size = r * size := by rw [← Nat.add_mul]; congr 1; omega
  refine ⟨by simp [List.length_take, List.length_drop]; omega, by omega, by have := h.mx; omega, ?_, ?_⟩
  · intro p hp
    unfold cutA at hp
    by_cases e : c = l
    · rw [if_pos e] at hp
      refine ⟨(h.cells p hp).1.imp_right (fun _ => by omega), ?_⟩
      have : (r - l) * size = 0 := by rw [show r - l = 0 by omega]; simp
      rw [this]; intro j v hv; simp at hv
    · rw [if_neg e] at hp
      cases a with
      | none => simp at hp
      | some q =>
        simp at hp
        subst hp
        obtain ⟨hq1, hq2⟩ := h.cells q rfl
        obtain ⟨qb, qo, qs⟩ := q
        simp only at hq1 hq2
        rcases hq1 with rfl | hq1
        · rw [add_lit]
          exact ⟨.inl rfl, hq2.sub _ _⟩
        · refine ⟨.inr (by omega), ?_⟩
          have : (r - l) * size = 0 := by rw [show r - l = 0 by omega]; simp
          rw [this]; intro j v hv; simp at hv
  · intro hn
    unfold cutA at hn
    have : a = none := by
      by_cases e : c = l
      · rw [if_pos e] at hn; exact hn
      · rw [if_neg e] at hn; simpa using hn
    obtain ⟨e1, e2⟩ := h.nil this
    omega
theorem SlR.to_ {size : Nat} {a : Option Addr} {m c : Nat} {xs : List Value} (h : SlR w size a m c xs) (r : Nat) (h2 : r ≤ m) : SlR w size a r c (xs.take (r * size)) := by
  have := h.cut 0 r (Nat.zero_le _) h2
  simp only [Nat.zero_mul, List.drop_zero, Nat.sub_zero] at this
  have e : cutA a c 0 size = a := by
    unfold cutA
    split
    · rfl
    · cases a <;> simp [Addr.add]
  rwa [e] at this
theorem SlR.from_ {size : Nat} {a : Option Addr} {m c : Nat} {xs : List Value} (h : SlR w size a m c xs) (l : Nat) (h2 : l ≤ m) : SlR w size (cutA a c l size) (m - l) (c - l) (xs.drop (l * size)) := by
  have := h.cut l m h2 (Nat.le_refl _)
  have hl : (xs.drop (l * size)).length ≤ (m - l) * size := by rw [List.length_drop, h.len, Nat.sub_mul]; omega
  rwa [List.take_of_length_le hl] at this
/-- An element's cells. -/
theorem SlR.elem {size : Nat} {b o : Nat} {m c : Nat} {xs : List Value} (h : SlR w size (some ⟨b, o, none⟩) m c xs) (i : Nat) : At w b (o + i * size) ((xs.drop (i * size)).take size) :=
  (h.cells _ rfl).2.sub _ _
theorem SlR.elem1 {b o : Nat} {m c : Nat} {xs : List Value} (h : SlR w 1 (some ⟨b, o, none⟩) m c xs) {i : Nat} {v : Value} (hv : xs[i]? = some v) : w.cell? ⟨b, o + i * 1, none⟩ = some v := by
  rw [Nat.mul_one]; exact (h.cells _ rfl).2 i v hv
theorem SlR.some_ {size : Nat} {a : Option Addr} {m c : Nat} {xs : List Value} (h : SlR w size a m c xs) (hm : 0 < m) : ∃ b o, a = some ⟨b, o, none⟩ := by
  cases a with
  | none => have := (h.nil rfl).1; omega
  | some p => obtain ⟨b, o, s⟩ := p; have := (h.cells _ rfl).1.resolve_right (by have := h.le; omega); simp only at this; subst this; exact ⟨b, o, rfl⟩
/-- What is owned can be read. -/
theorem own_reads {B : Nat} {e : TypeId} {size m : Nat} {v : Value} {xs : List Value} (h : w.ownsRow B e size v m xs) : ∃ a c, v = .slice a m c ∧ SlR w size a m c xs ∧ v.ownBlock = a.map (·.block) := by
  have hown := h
  rcases h.2 with ⟨rfl, rfl⟩ | ⟨g0, cap, cur, rfl, hbg, hg, hnc, hcm, hcs, htake⟩
  · have hx : xs = [] := List.eq_nil_of_length_eq_zero (by simpa using h.1)
    subst hx
    exact ⟨none, 0, rfl, SlR.nil_ _ _, rfl⟩
  · refine ⟨_, _, rfl, ⟨h.1, hnc, hcm, fun p hp => ?_, fun h => by cases h⟩, rfl⟩
    cases hp
    refine ⟨.inl rfl, fun j v hv => ?_⟩
    have := hown.cells (g := g0) rfl j v hv
    rwa [add_lit] at this

/-! ### An array literal -/
theorem runs_build_zero {t e : TypeId} {m size size' bytes bytes' : Nat} {ag ag' : Bool} {z z' : Value} {cs : Array Value} (hu : P.underlying t = some (.array m e)) (T : TI P e ag size bytes z) (T' : TI P t ag' size' bytes' z') (hz : z' = .agg cs) :
    Runs P ρ (.build t #[]) ty w (.agg cs) w := fun ev h => by
  obtain ⟨_, inf, hinf, hsz, _, _⟩ := T
  obtain ⟨_, inf', hinf', hsz', _, hz'⟩ := T'
  subst hz
  simp [execOp, Instr.build, run_underlying hu, sizeOf, typeInfo, hinf, zeroValue, hinf', hz', Instr.fill, Value.cells]
theorem runs_build_arr {t e : TypeId} {m size bytes bytes' : Nat} {ag : Bool} {z z' : Value} {xs : List Operand} {parts : Array (Nat × Operand)} {vs : List Value} (hu : P.underlying t = some (.array m e)) (T : TI P e ag size bytes z) (T' : TI P t true (m * size) bytes' z') (hz : z'.cells.size = m * size)
    (hp : parts = (xs.zipIdx.map fun p => (p.2, p.1)).toArray) (hm : xs.length = m) (hx : evs? ρ xs = some vs) (hs : ∀ v ∈ vs, v.cells.size = size) :
    Runs P ρ (.build t parts) ty w (.agg (flatC vs).toArray) w := fun ev h => by
  have hvs := evs_map hx h
  have hlen : vs.length = m := by rw [← hvs, List.length_map, hm]
  obtain ⟨_, inf, hinf, hsz, _, _⟩ := T
  obtain ⟨_, inf', hinf', hsz', _, hz'⟩ := T'
  have hfill := fill_list size vs 0 z'.cells.toList hs (by simp [hlen, hz])
  simp only [Nat.zero_mul, List.take_zero, List.nil_append, Nat.zero_add] at hfill
  rw [List.drop_eq_nil_of_le (by simp [hlen, hz]), List.append_nil, Array.toArray_toList] at hfill
  have hparts : (parts.map fun p => (p.1, ev p.2)).toList = (vs.zipIdx 0).map fun p => (p.2, p.1) := by
    rw [hp, ← hvs]
    simp [List.zipIdx_map, List.map_map, Function.comp_def]
  simp only [execOp, Instr.build, Sem.run_bind, run_underlying hu, Result.andThen_ok, sizeOf, typeInfo, run_program, hinf, Sem.run_pure, hsz, zeroValue, hinf', hz', hparts, hfill]

/-! ### Fields -/
theorem runs_fieldAddr {s : TypeId} {fs : Array Field} {i : Nat} {f : Field} {b o size bytes : Nat} {ag : Bool} {z : Value} (hu : P.underlying s = some (.struct fs)) (hf : fs[i]? = some f) (T : TI P f.type ag size bytes z) (hs : size ≠ 0)
    (hx : ev? ρ x = some (.pointer (some ⟨b, o, none⟩))) : Runs P ρ (.fieldAddr s x i) ty w (.pointer (some ⟨b, o + f.offset, none⟩)) w := fun ev h => by
  obtain ⟨_, inf, hinf, hsz, _, _⟩ := T
  simp [execOp, h _ _ hx, Instr.fieldAt, run_underlying hu, hf, Instr.sureAddr, fieldPlace, sizeOf, typeInfo, hinf, hsz, hs, add_lit]
end
end Go.Proofs.YtmmijecookbajaaDoor
