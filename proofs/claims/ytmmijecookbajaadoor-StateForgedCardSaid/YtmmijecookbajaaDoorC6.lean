/- Part C6 of the proofs on this seat. Conditions: none beyond those in the theorems. By an AI agent. -/
import Derived.Test.YtmmijecookbajaaDoorC4
namespace Go.Proofs.YtmmijecookbajaaDoor
open Go Go.RowKit

/-! ### A stretch of a drawn region in which some operations turn memory one behind the other (a chain), and others make memory in between, in whatever order. -/
section
variable {P : Program} {n : Nat} {D : List Deferred} {ops : List Oper}
/-- An assertion that outlasts what a relation of worlds lets happen. -/
structure SV (Rel : World → World → Prop) where
  p : World → Value → Prop
  st : ∀ v w w', p w v → Rel w w' → p w' v
def SV.any (Rel : World → World → Prop) : SV Rel := ⟨fun _ _ => True, fun _ _ _ h _ => h⟩
def SV.eq (Rel : World → World → Prop) (c : Value) : SV Rel := ⟨fun _ v => v = c, fun _ _ _ h _ => h⟩
def cnt (ch : List Nat) (l : Array Bool) : Nat := (ch.filter fun i => l.getD i false).length
def linked (ops : List Oper) : List Nat → Bool
  | x :: y :: r => directB ops y x && linked ops (y :: r)
  | _ => true
theorem chain_off {l : Array Bool} (hc : ∀ i j, l.getD i false = true → directB ops i j = true → l.getD j false = true) : ∀ (ch : List Nat) (x : Nat), linked ops (x :: ch) = true → l.getD x false = false → ∀ y ∈ x :: ch, l.getD y false = false := by
  intro ch
  induction ch with
  | nil => intro x _ hx y hy; simp at hy; subst hy; exact hx
  | cons z ch ih =>
    intro x hl hx y hy
    simp only [linked, Bool.and_eq_true] at hl
    have hz : l.getD z false = false := by
      cases h : l.getD z false with
      | false => rfl
      | true => rw [hc z x h hl.1] at hx; cases hx
    rcases List.mem_cons.1 hy with rfl | hy
    · exact hx
    · exact ih z hl.2 hz y hy
theorem chain_on {l : Array Bool} (hc : ∀ i j, l.getD i false = true → directB ops i j = true → l.getD j false = true) {i : Nat} (hd : ∀ j, directB ops i j = true → l.getD j false = true) : ∀ (ch : List Nat) (x : Nat), linked ops (x :: ch) = true → i ∈ ch → l.getD x false = true := by
  intro ch
  induction ch with
  | nil => intro x _ h; cases h
  | cons z ch ih =>
    intro x hl hi
    simp only [linked, Bool.and_eq_true] at hl
    rcases List.mem_cons.1 hi with rfl | hi
    · exact hd x hl.1
    · exact hc z x (ih z hl.2 hi) hl.1
theorem chain_pos {l : Array Bool} (hc : ∀ i j, l.getD i false = true → directB ops i j = true → l.getD j false = true) {i : Nat} (hu : l.getD i false = false) (hd : ∀ j, directB ops i j = true → l.getD j false = true) : ∀ {ch : List Nat}, linked ops ch = true → i ∈ ch → ch[cnt ch l]? = some i := by
  intro ch
  induction ch with
  | nil => intro _ h; cases h
  | cons x ch ih =>
    intro hl hi
    rcases List.mem_cons.1 hi with rfl | hi'
    · have hoff := chain_off hc ch i hl hu
      have : cnt (i :: ch) l = 0 := by
        unfold cnt
        rw [List.filter_eq_nil_iff.2]
        · rfl
        · intro y hy; rw [hoff y hy]; decide
      rw [this]; rfl
    · have hx := chain_on hc hd ch x hl hi'
      have : cnt (x :: ch) l = cnt ch l + 1 := by unfold cnt; rw [List.filter_cons, if_pos hx]; rfl
      rw [this]
      have hl' : linked ops ch = true := by
        cases ch with
        | nil => rfl
        | cons y r => simp only [linked, Bool.and_eq_true] at hl; exact hl.2
      exact ih hl' hi'
theorem cnt_set {ch : List Nat} {l : Array Bool} {i : Nat} (hn : ch.Nodup) (hs : i < l.size) (hu : l.getD i false = false) : cnt ch (l.setIfInBounds i true) = if i ∈ ch then cnt ch l + 1 else cnt ch l := by
  unfold cnt
  induction ch with
  | nil => simp
  | cons x ch ih =>
    have hn' := List.nodup_cons.1 hn
    have ih := ih hn'.2
    by_cases hxi : i = x
    · subst hxi
      rw [if_neg hn'.1] at ih
      rw [if_pos (by simp), List.filter_cons, List.filter_cons, if_pos (by rw [getD_set l i i hs]; simp), if_neg (by rw [hu]; decide)]
      simp only [List.length_cons, ih]
    · have hx : (l.setIfInBounds i true).getD x false = l.getD x false := by rw [getD_set l i x hs]; simp [hxi]
      have hm : (i ∈ x :: ch) = (i ∈ ch) := by simp [hxi]
      rw [List.filter_cons, List.filter_cons, hx]
      simp only [hm]
      split
      · simp only [List.length_cons, ih]; split <;> rfl
      · exact ih

def CObl (P : Program) (n : Nat) (ops : List Oper) {Rel : World → World → Prop} (A : Nat → SV Rel) (St : Nat → World → Prop) (ch : List Nat) (w1 : World) (ρI : Env) (mo : List Nat) (ns : List (List Nat)) : Prop :=
  mo.length = ns.length ∧ ∀ (k i : Nat) (nd : List Nat) (o : Oper), mo[k]? = some i → ns[k]? = some nd → ops[i]? = some o → ∀ (c : Nat) (w : World), Rel w1 w → St c w → (i ∈ ch → ch[c]? = some i) →
    withVals ops (fun i => (A i).p) w nd ρI fun ρ' => wpL P n ops (fun ρ'' w' => Rel w w' ∧ St (if i ∈ ch then c + 1 else c) w' ∧ ∀ d, o.dst = some d → ∃ v, get ρ'' d = some v ∧ (A i).p w' v) [o] ρ' w
theorem cobl_nil {Rel : World → World → Prop} {A : Nat → SV Rel} {St : Nat → World → Prop} {ch : List Nat} {w1 : World} {ρI : Env} : CObl P n ops A St ch w1 ρI [] [] := ⟨rfl, fun k i nd o h => by simp at h⟩
theorem cobl_cons {Rel : World → World → Prop} {A : Nat → SV Rel} {St : Nat → World → Prop} {ch : List Nat} {w1 : World} {ρI : Env} {mo nd : List Nat} {ns : List (List Nat)} {i : Nat} {o : Oper} (hi : ops[i]? = some o)
    (h : ∀ (c : Nat) (w : World), Rel w1 w → St c w → (i ∈ ch → ch[c]? = some i) → withVals ops (fun i => (A i).p) w nd ρI fun ρ' => wpL P n ops (fun ρ'' w' => Rel w w' ∧ St (if i ∈ ch then c + 1 else c) w' ∧ ∀ d, o.dst = some d → ∃ v, get ρ'' d = some v ∧ (A i).p w' v) [o] ρ' w)
    (hr : CObl P n ops A St ch w1 ρI mo ns) : CObl P n ops A St ch w1 ρI (i :: mo) (nd :: ns) := by
  refine ⟨by simp [hr.1], fun k i' nd' o' h1 h2 h3 => ?_⟩
  cases k with
  | zero =>
    simp at h1 h2
    subst h1 h2
    rw [hi] at h3
    cases h3
    exact h
  | succ k => exact hr.2 k i' nd' o' (by simpa using h1) (by simpa using h2) h3

structure CInv (n : Nat) (D : List Deferred) (ops : List Oper) {Rel : World → World → Prop} (A : Nat → SV Rel) (St : Nat → World → Prop) (ch : List Nat) (w1 : World) (ρI : Env) (l0 : Array Bool) (mo : List Nat) (l : Array Bool) (a : Act) (w : World) : Prop where
  size : l.size = ops.length
  closed : ∀ i j, l.getD i false = true → directB ops i j = true → j < ops.length → l.getD j false = true
  sub : ∀ i, l.getD i false = true → i ∈ mo ∨ l0.getD i false = true
  sup : ∀ i, l0.getD i false = true → l.getD i false = true
  fits : Fits n D ρI a
  vals : ∀ i ∈ mo, l.getD i false = true → ∀ d, dstOf ops i = some d → ∃ v, a.tmps[d]? = some v ∧ (A i).p w v
  chg : Rel w1 w
  st : St (cnt ch l) w
/-- All edges lead to operations that are there. -/
def edgesIn (ops : List Oper) : Bool := ops.all fun o => o.after.all fun e => !Region.binds .any e || Nat.blt e.on ops.length
theorem edges_in (h : edgesIn ops = true) {i j : Nat} (hd : directB ops i j = true) : j < ops.length := by
  unfold directB at hd
  cases ho : ops[i]? with
  | none => rw [ho] at hd; cases hd
  | some o =>
    rw [ho] at hd
    simp only [Array.any_eq_true, Bool.and_eq_true, beq_iff_eq] at hd
    obtain ⟨m, hm, hb, he⟩ := hd
    unfold edgesIn at h
    have := List.all_eq_true.1 h o (List.mem_of_getElem? ho)
    rw [Array.all_eq_true] at this
    have := this m hm
    rw [hb, he] at this
    simp [Nat.blt] at this; omega
def chainOk (ops : List Oper) (mo ch : List Nat) : Bool := linked ops ch && ch.all (fun i => mo.contains i) && edgesIn ops

theorem chain_any {Rel : World → World → Prop} {A : Nat → SV Rel} {St : Nat → World → Prop} {fins outs ch : List Nat} {w1 : World} {ρI : Env} {mo : List Nat} {needs : List (List Nat)} {S : World → Prop} {N : Env → World → Prop} {l0 mask : Array Bool} {f : Nat}
    (htr : ∀ a b c, Rel a b → Rel b c → Rel a c)
    (hok : monoOk ops l0 mo needs (ρI.map (·.1)) n = true) (hnd : mo.Nodup) (hout : ∀ j ∈ outs, j ∈ mo) (hcn : ch.Nodup) (hch : chainOk ops mo ch = true)
    (hmask : mask = ((List.range ops.length).map fun i => l0.getD i false || mo.contains i).toArray) (hS : ∀ w, Rel w1 w → S w)
    (hobl : CObl P n ops A St ch w1 ρI mo needs)
    (hend : ∀ w, Rel w1 w → St ch.length w → withVals ops (fun i => (A i).p) w outs ρI fun ρ' => wpD P n ops fins S N f mask ρ' w) :
    ∀ (m : Nat) (l : Array Bool) (a : Act) (w : World), unl mo l = m → CInv n D ops A St ch w1 ρI l0 mo l a w → DAny P .any ops.toArray (fun i => fins.contains i) S (Lift n D (Q1 N)) (m + f) l a w := by
  unfold chainOk at hch
  simp only [Bool.and_eq_true, List.all_eq_true, List.contains_iff_mem] at hch
  obtain ⟨⟨hcd, hchm⟩, hed⟩ := hch
  have hchm : ∀ x ∈ ch, x ∈ mo := fun x hx => by simpa using hchm x hx
  unfold monoOk at hok
  simp only [Bool.and_eq_true, List.all_eq_true, Bool.or_eq_true, List.mem_range] at hok
  obtain ⟨⟨⟨⟨hneed, hmo⟩, hfin⟩, hsz0⟩, hcl0⟩ := hok
  have hsz0 : l0.size = ops.length := Nat.eq_of_beq_eq_true hsz0
  have direct_of : ∀ {i o}, ops[i]? = some o → ∀ e ∈ o.after, Region.binds .any e = true → directB ops i e.on = true := by
    intro i o ho e he hb
    unfold directB
    rw [ho]
    simp only [Array.any_eq_true]
    obtain ⟨m, hm, rfl⟩ := Array.getElem_of_mem he
    exact ⟨m, hm, by simp [hb]⟩
  have direct_to : ∀ {i j}, directB ops i j = true → ∃ o, ops[i]? = some o ∧ ∃ e ∈ o.after, Region.binds .any e = true ∧ e.on = j := by
    intro i j h
    unfold directB at h
    cases ho : ops[i]? with
    | none => rw [ho] at h; cases h
    | some o =>
      rw [ho] at h
      simp only [Array.any_eq_true, Bool.and_eq_true, beq_iff_eq] at h
      obtain ⟨m, hm, hb, he⟩ := h
      exact ⟨o, rfl, _, Array.getElem_mem hm, hb, he⟩
  intro m
  induction m with
  | zero =>
    intro l a w hm hI
    have hall : ∀ i ∈ mo, l.getD i false = true := by
      intro i hi
      cases hl : l.getD i false with
      | true => rfl
      | false =>
        have : i ∈ mo.filter fun i => !l.getD i false := List.mem_filter.2 ⟨hi, by simp only [hl]; rfl⟩
        unfold unl at hm
        rw [List.eq_nil_of_length_eq_zero hm] at this
        cases this
    have hl : l = mask := by
      rw [hmask]
      apply Array.ext
      · simp [hI.size]
      · intro i h1 h2
        simp only [List.getElem_toArray, List.getElem_map, List.getElem_range]
        have e : l.getD i false = l[i] := by simp [h1]
        rw [← e]
        cases hc : l0.getD i false || mo.contains i with
        | true =>
          rcases Bool.or_eq_true_iff.1 hc with hc | hc
          · exact hI.sup i hc
          · exact hall i (by simpa using hc)
        | false =>
          obtain ⟨h3, h4⟩ := Bool.or_eq_false_iff.1 hc
          cases hli : l.getD i false with
          | false => rfl
          | true =>
            rcases hI.sub i hli with h | h
            · have : mo.contains i = true := by simpa using h
              rw [this] at h4; cases h4
            · rw [h] at h3; cases h3
    subst hl
    have hcnt : cnt ch l = ch.length := by
      unfold cnt
      rw [List.filter_eq_self.2]
      intro x hx
      exact hall x (hchm x hx)
    obtain ⟨ρ', hf', hw⟩ := withVals_use a outs ρI (hend w hI.chg (hcnt ▸ hI.st)) hI.fits (fun j hj d hd => hI.vals j (hout j hj) (hall j (hout j hj)) d hd)
    rw [Nat.zero_add]
    exact hw a hf'
  | succ m ih =>
    intro l a w hm hI
    rw [show m + 1 + f = (m + f) + 1 by omega]
    -- the least one that is not listed may come up
    have hex : ∃ i, i ∈ mo ∧ l.getD i false = false := by
      unfold unl at hm
      cases hf : mo.filter fun i => !l.getD i false with
      | nil => rw [hf] at hm; simp at hm
      | cons i _ =>
        have : i ∈ mo.filter fun i => !l.getD i false := by rw [hf]; simp
        obtain ⟨h1, h2⟩ := List.mem_filter.1 this
        refine ⟨i, h1, ?_⟩
        cases hl : l.getD i false with
        | true => simp only [hl] at h2; cases h2
        | false => rfl
    have hready : ∃ i, i ∈ Region.ready .any ops.toArray l := by
      obtain ⟨i, hi⟩ := hex
      induction i using Nat.strongRecOn with
      | _ i ihi =>
        obtain ⟨hi1, hi2⟩ := hi
        have hm1 := hmo i hi1
        by_cases hlow : ∃ j, j < i ∧ j ∈ mo ∧ l.getD j false = false
        · obtain ⟨j, hj, hj2⟩ := hlow; exact ihi j hj hj2
        · have hil : i < ops.length := by have := hm1.1.1.1.1.1.1; simp [Nat.blt] at this; omega
          refine ⟨i, mem_ready.2 ⟨?_, ops[i], by simp [hil], ?_⟩⟩
          · have : l[i]? = some (l[i]'(by rw [hI.size]; exact hil)) := Array.getElem?_eq_getElem (by rw [hI.size]; exact hil)
            simp [this] at hi2 ⊢
            exact hi2
          · intro e he hb
            have hh := hm1.2
            rw [List.getElem?_eq_getElem hil] at hh
            simp only [Array.all_eq_true, Bool.or_eq_true, Bool.and_eq_true] at hh
            obtain ⟨m, hm, rfl⟩ := Array.getElem_of_mem he
            rcases hh m hm with (h | h) | h
            · rw [hb] at h; cases h
            · exact hI.sup _ h
            · have hlt : (ops[i].after[m]).on < i := by have := h.1; simp [Nat.blt] at this; omega
              cases hle : l.getD (ops[i].after[m]).on false with
              | true => rfl
              | false => exact absurd ⟨_, hlt, by simpa using h.2, hle⟩ hlow
    refine ⟨fun h0 => ?_, fun i hi => ?_⟩
    · obtain ⟨i, hi⟩ := hready
      rw [h0] at hi; cases hi
    · obtain ⟨hun, o, ho, hall⟩ := mem_ready.1 hi
      have ho' : ops[i]? = some o := by simpa using ho
      have hil : i < ops.length := (List.getElem?_eq_some_iff.1 ho').1
      have hun' : l.getD i false = false := by
        have : l[i]? = some (l[i]'(by rw [hI.size]; exact hil)) := Array.getElem?_eq_getElem (by rw [hI.size]; exact hil)
        simp [this] at hun ⊢; exact hun
      have hdeps : ∀ j, directB ops i j = true → l.getD j false = true := by
        intro j hj
        obtain ⟨o2, ho2, e, he, hb, rfl⟩ := direct_to hj
        rw [ho'] at ho2
        cases ho2
        exact hall e he hb
      by_cases him : i ∈ mo
      · have hm1 := hmo i him
        obtain ⟨k, hk⟩ := List.getElem?_of_mem him
        have hkl : k < mo.length := (List.getElem?_eq_some_iff.1 hk).1
        obtain ⟨nd, hnd2⟩ : ∃ nd, needs[k]? = some nd := ⟨_, List.getElem?_eq_getElem (by rw [← hobl.1]; exact hkl)⟩
        have hob := hobl.2 k i nd o hk hnd2 ho'
        have hndm : ∀ j ∈ nd, directB ops i j = true ∧ j ∈ mo := by
          intro j hj
          have hz : (i, nd) ∈ mo.zip needs := by
            refine List.mem_of_getElem? (i := k) ?_
            rw [List.getElem?_zip_eq_some]
            exact ⟨hk, hnd2⟩
          have := hneed (i, nd) hz j hj
          exact ⟨this.1, by simpa using this.2⟩
        obtain ⟨ρ', hf', hw⟩ := withVals_use a _ ρI (hob (cnt ch l) w hI.chg hI.st (fun hic => chain_pos (fun x y hx hd => hI.closed x y hx hd (edges_in hed hd)) hun' hdeps hcd hic)) hI.fits (fun j hj d hd => hI.vals j (hndm j hj).2 (hdeps j (hndm j hj).1) d hd)
        have hwp := hw a hf'
        have hls : i < l.size := by rw [hI.size]; exact hil
        have hkeep : ∀ v x, x ∈ mo → i ≠ x → ∀ d, dstOf ops x = some d → (a.put o.dst v).tmps[d]? = a.tmps[d]? := by
          intro v x hxm hxi d hd
          cases hod : o.dst with
          | none => simp [Act.put]
          | some d' =>
            have hne : d' ≠ d := by
              rintro rfl
              have := hm1.1.1.1.1.2 x hxm
              rcases this with (h | h) | h
              · simp at h; exact hxi h
              · simp [dstOf, ho', hod] at h
              · simp only [bne_iff_ne, ne_eq] at h
                exact h (by rw [hd]; simp [dstOf, ho', hod])
            simp only [Act.put]
            rw [Array.getElem?_setIfInBounds_ne hne]
        have hown : ∀ v d, o.dst = some d → (a.put o.dst v).tmps[d]? = some v := by
          intro v d hod
          have hdn : Nat.blt d n = true := by
            have := hm1.1.2
            rw [show dstOf ops i = some d by simp [dstOf, ho', hod]] at this
            exact this
          have hdn : d < n := Nat.le_of_ble_eq_true hdn
          simp [Act.put, hod, hI.fits.2.1, hdn]
        have hput : ∀ v w', Rel w w' → St (if i ∈ ch then cnt ch l + 1 else cnt ch l) w' → (∀ d, o.dst = some d → (A i).p w' v) → (a.put o.dst v).defers = D → CInv n D ops A St ch w1 ρI l0 mo (l.setIfInBounds i true) (a.put o.dst v) w' := by
          intro v w' hc hs hv hdef
          refine ⟨by simp [hI.size], ?_, ?_, ?_, ?_, ?_, htr _ _ _ hI.chg hc, ?_⟩
          · intro x y hx hd hy
            rw [getD_set l i _ hls] at hx ⊢
            simp only [Bool.or_eq_true, decide_eq_true_eq] at hx ⊢
            rcases hx with rfl | hx
            · exact .inr (hdeps y hd)
            · exact .inr (hI.closed x y hx hd hy)
          · intro x hx
            rw [getD_set l i _ hls] at hx
            simp only [Bool.or_eq_true, decide_eq_true_eq] at hx
            rcases hx with rfl | hx
            · exact .inl him
            · exact hI.sub x hx
          · intro x hx
            rw [getD_set l i _ hls, hI.sup x hx, Bool.or_true]
          · refine ⟨hdef, ?_, fun t u hu => ?_⟩
            · cases hd : o.dst <;> simp [Act.put, hI.fits.2.1]
            · have ht := hI.fits.2.2 t u hu
              cases hd : o.dst with
              | none => exact ht
              | some d =>
                have hne : d ≠ t := by
                  rintro rfl
                  have hk := hm1.1.1.1.2
                  have hkey : d ∈ ρI.map (·.1) := get_key hu
                  have := hk d hkey
                  simp [dstOf, ho', hd] at this
                simp only [Act.put]
                rw [Array.getElem?_setIfInBounds_ne hne]; exact ht
          · intro x hxm hx d hd
            rw [getD_set l i _ hls] at hx
            simp only [Bool.or_eq_true, decide_eq_true_eq] at hx
            by_cases hxi : i = x
            · subst hxi
              have hod : o.dst = some d := by simpa [dstOf, ho'] using hd
              exact ⟨v, hown v d hod, hv d hod⟩
            · have hx := hx.resolve_left hxi
              obtain ⟨u, h1, h2⟩ := hI.vals x hxm hx d hd
              exact ⟨u, by rw [hkeep v x hxm hxi d hd]; exact h1, (A x).st _ _ _ h2 hc⟩
          · rw [cnt_set hcn hls hun']; exact hs
        have hstep : ∀ a' w', wpList P ops.toArray (Lift n D (Q1 fun ρ'' w' => Rel w w' ∧ St (if i ∈ ch then cnt ch l + 1 else cnt ch l) w' ∧ ∀ d, o.dst = some d → ∃ v, get ρ'' d = some v ∧ (A i).p w' v)) [] a' w' → (∃ v, a' = a.put o.dst v) →
            (fins.contains i = true ∨ (S w → S w')) ∧ DAny P .any ops.toArray (fun i => fins.contains i) S (Lift n D (Q1 N)) (m + f) (l.setIfInBounds i true) a' w' := by
          rintro a' w' h ⟨v, rfl⟩
          unfold wpList at h
          obtain ⟨ρ'', hf'', hc, hs, hv⟩ := h
          refine ⟨.inr (fun _ => hS _ (htr _ _ _ hI.chg hc)), ih _ _ _ ?_ (hput v w' hc hs (fun d hd => ?_) hf''.1)⟩
          · have := unl_set hnd him (by rw [hI.size]; exact hil) hun'
            omega
          · obtain ⟨u, h1, h2⟩ := hv d hd
            have h3 := hf''.2.2 d u h1
            rw [hown v d hd] at h3
            cases h3
            exact h2
        unfold wpOp
        rw [ho]
        simp only
        unfold wpList at hwp
        split
        · rename_i hw2
          rw [if_pos hw2] at hwp
          rcases hwp with hwp | ⟨_, _, _, hwp⟩
          · refine .inl ?_
            have h1 := wp_put (fun a' w' h => by unfold wpList at h; obtain ⟨_, hf, _⟩ := h; exact hf.1.trans hI.fits.1.symm) hwp
            have h2 := Oper.wp_mono (fun a' w' h => hstep a' w' h.1 h.2) h1
            unfold Oper.wp at h2 ⊢
            generalize (execOp a.eval o).run P w = r at *
            cases r with
            | ok nx w2 =>
              cases nx <;> simp only [Oper.upon] at h2 ⊢ <;> first
                | exact h2
                | (refine Calls.mono h2 fun e w'' he => ?_
                   cases e with
                   | returned v => exact he
                   | panicked c => exact he.elim
                   | outgrown => obtain ⟨_, _, he⟩ := he; exact he.elim)
            | halt x w2 => cases x <;> simp only [Oper.upon] at h2 ⊢ <;> first | exact h2.elim | exact h2
          · exact hwp.elim
        · rename_i hw2
          rw [if_neg hw2] at hwp
          exact hstep _ _ hwp ⟨_, rfl⟩
      · exfalso
        obtain ⟨k, hk1, hk2⟩ := hex
        rcases hfin i hil with (h | h) | h
        · have := hI.sup i h
          rw [this] at hun'; cases hun'
        · exact him (by simpa using h)
        · have := reach_listed hI.closed _ _ _ hdeps (h k hk1)
          rw [this] at hk2; cases hk2


/-- A chain, and what makes memory beside it. -/
theorem d_chain {fins : List Nat} {w1 : World} {ρ : Env} {S : World → Prop} {N : Env → World → Prop} {l0 : Array Bool} {F : Nat} (f : Nat) (Rel : World → World → Prop) (mo : List Nat) (needs : List (List Nat)) (ch outs : List Nat) (A : Nat → SV Rel) (St : Nat → World → Prop) (mask : Array Bool)
    (hrf : Rel w1 w1) (htr : ∀ a b c, Rel a b → Rel b c → Rel a c) (h0 : St 0 w1)
    (hm : F = mo.length + f) (hok : monoOk ops l0 mo needs (ρ.map (·.1)) n = true) (hck : (mo.Nodup ∧ (∀ j ∈ outs, j ∈ mo) ∧ ch.Nodup)) (hch : chainOk ops mo ch = true)
    (hmask : mask = ((List.range ops.length).map fun i => l0.getD i false || mo.contains i).toArray) (hS : ∀ w, Rel w1 w → S w)
    (hobl : CObl P n ops A St ch w1 ρ mo needs)
    (hend : ∀ w, Rel w1 w → St ch.length w → withVals ops (fun i => (A i).p) w outs ρ fun ρ' => wpD P n ops fins S N f mask ρ' w) : wpD P n ops fins S N F l0 ρ w1 := fun D a ha => by
  subst hm
  have hok' := hok
  unfold monoOk at hok'
  simp only [Bool.and_eq_true, List.all_eq_true, Bool.or_eq_true, List.mem_range] at hok'
  obtain ⟨⟨⟨⟨_, hmo⟩, _⟩, hsz0⟩, hcl0⟩ := hok'
  have hun : ∀ i ∈ mo, l0.getD i false = false := fun i hi => by
    have := (hmo i hi).1.1.2
    simpa using this
  have hcm : ∀ x ∈ ch, x ∈ mo := fun x hx => by
    unfold chainOk at hch
    simp only [Bool.and_eq_true, List.all_eq_true] at hch
    simpa using hch.1.2 x hx
  refine chain_any htr hok hck.1 hck.2.1 hck.2.2 hch hmask hS hobl hend mo.length l0 a w1 ?_ ⟨Nat.eq_of_beq_eq_true hsz0, ?_, fun i h => .inr h, fun i h => h, ha, ?_, hrf, ?_⟩
  · unfold unl
    rw [List.filter_eq_self.2]
    intro i hi
    simp [hun i hi]
  · intro i j hi hd hj
    unfold closedOk at hcl0
    simp only [List.all_eq_true, List.mem_range, Bool.or_eq_true, Bool.not_eq_true'] at hcl0
    by_cases hil : i < ops.length
    · rcases hcl0 i hil with h | h
      · rw [hi] at h; cases h
      · rcases h j hj with h | h
        · rw [hd] at h; cases h
        · exact h
    · rw [show l0.getD i false = false by simp [show ¬ i < l0.size by rw [Nat.eq_of_beq_eq_true hsz0]; exact hil]] at hi; cases hi
  · intro i hi h; rw [hun i hi] at h; cases h
  · have : cnt ch l0 = 0 := by
      unfold cnt
      rw [List.filter_eq_nil_iff.2]
      · rfl
      · intro x hx; rw [hun x (hcm x hx)]; decide
    rw [this]; exact h0
end

/-! ### What is taken first, where an operation that waits comes behind it by way of others -/
section
variable {P : Program} {n : Nat} {ρ : Env} {w : World} {ops : List Oper} {S : World → Prop} {fin : Nat → Bool} {Q : Exit → Act → World → Prop}
theorem directB_to {i j : Nat} (h : directB ops i j = true) : ∃ o, ops[i]? = some o ∧ ∃ e ∈ o.after, Region.binds .any e = true ∧ e.on = j := by
  unfold directB at h
  cases ho : ops[i]? with
  | none => rw [ho] at h; cases h
  | some o =>
    rw [ho] at h
    simp only [Array.any_eq_true, Bool.and_eq_true, beq_iff_eq] at h
    obtain ⟨m, hm, hb, he⟩ := h
    exact ⟨o, rfl, _, Array.getElem_mem hm, hb, he⟩
theorem DAny_firstR {i : Nat} {oi : Oper} {v : Value} (hi : ops[i]? = some oi) (hsel : ∀ (j : Nat) (o : Oper) cs b, ops.toArray[j]? = some o → o.op ≠ .select cs b)
    (hQ : ∀ c a w, Q (.panic c) (a.put oi.dst v) w → Q (.panic c) a w)
    (hfin : ∀ j, fin j = true → reachB ops ops.length j i = true) :
    ∀ (f : Nat) (l : Array Bool) (a : Act) (w : World), l.size = ops.length → (∀ x y, l.getD x false = true → directB ops x y = true → y < ops.length → l.getD y false = true) →
      (∀ j oj, ops.toArray[j]? = some oj → j ≠ i → l.getD j true = false → (∀ e ∈ oj.after, Region.binds .any e = true → e.on ≠ i) → oi.apart ops.toArray oj = true) →
      i ∈ Region.ready .any ops.toArray l → YieldsIf P ops.toArray S oi v a → S w →
      DAny P .any ops.toArray fin S Q f (l.setIfInBounds i true) (a.put oi.dst v) w → DAny P .any ops.toArray fin S Q (f + 1) l a w := by
  intro f
  have hi' : ops.toArray[i]? = some oi := by simpa using hi
  induction f with
  | zero =>
    intro l a w _ _ _ hr hy hS H
    refine ⟨fun h => (by rw [h] at hr; cases hr), fun j hj => ?_⟩
    by_cases hji : j = i
    · subst hji; exact hy.wpOp hi' hS ⟨.inr id, H⟩
    · have := ready_mono hj hji
      rw [H.1] at this
      cases this
  | succ f ih =>
    intro l a w hsz hcl hfree hr hy hS H
    refine ⟨fun h => (by rw [h] at hr; cases hr), fun j hj => ?_⟩
    by_cases hji : j = i
    · subst hji; exact hy.wpOp hi' hS ⟨.inr id, H⟩
    · have h1 := H.2 j (ready_mono hj hji)
      obtain ⟨hjun, oj, hoj, hall⟩ := mem_ready.1 hj
      have hilt : i < ops.length := (List.getElem?_eq_some_iff.1 hi).1
      have hiun : l.getD i false = false := by
        have h0 := (mem_ready.1 hr).1
        have : i < l.size := by omega
        simp [this] at h0 ⊢; exact h0
      have hdeps : ∀ y, directB ops j y = true → l.getD y false = true := by
        intro y hd
        obtain ⟨o2, ho2, e, he, hb, rfl⟩ := directB_to hd
        have : oj = o2 := by have := hoj.symm.trans (show ops.toArray[j]? = some o2 by simpa using ho2); simpa using this
        subst this
        exact hall e he hb
      have hnot : ∀ e ∈ oj.after, Region.binds .any e = true → e.on ≠ i := fun e he hb heq => by
        have h1 := hall e he hb
        rw [heq, hiun] at h1; cases h1
      have hnf : fin j = true → False := fun hf => by
        have h3 := reach_listed hcl _ _ _ hdeps (hfin j hf)
        rw [hiun] at h3; cases h3
      have h2 := wpOp_putIf hoj (hfree j oj hoj hji hjun hnot) (fun cs b => hsel i oi cs b hi') (fun cs b => hsel j oj cs b hoj) hQ hy h1
      have hjl : j < l.size := by rw [hsz]; have := (Array.getElem?_eq_some_iff.1 hoj).1; simpa using this
      have hfree' : ∀ k ok, ops.toArray[k]? = some ok → k ≠ i → (l.setIfInBounds j true).getD k true = false →
          (∀ e ∈ ok.after, Region.binds .any e = true → e.on ≠ i) → oi.apart ops.toArray ok = true := fun k ok hk hki hun hno => by
        refine hfree k ok hk hki ?_ hno
        by_cases hjk : j = k
        · subst hjk; exact hjun
        · rw [getD_set_ne true hjk] at hun; exact hun
      refine wpOp_mono (fun a' w' h3 => ?_) h2
      have hSw : S w' := h3.2.1.resolve_left (fun hf => hnf hf) hS
      refine ⟨.inr (fun _ => hSw), ih (l.setIfInBounds j true) a' w' (by simp [hsz]) ?_ hfree' (ready_mono hr (Ne.symm hji)) h3.1 hSw ?_⟩
      · intro x y hx hd hy
        rw [getD_set l j _ hjl] at hx ⊢
        simp only [Bool.or_eq_true, decide_eq_true_eq] at hx ⊢
        rcases hx with rfl | hx
        · exact .inr (hdeps y hd)
        · exact .inr (hcl x y hx hd hy)
      · rw [Array.setIfInBounds_comm _ _ hji]
        exact h3.2.2
def finOkR (ops : List Oper) (fins : List Nat) (l : Array Bool) (i : Nat) : Bool := (fins.all fun j => reachB ops ops.length j i) && closedOk ops l && Nat.beq l.size ops.length
theorem closed_of {l : Array Bool} (h : closedOk ops l = true) (hs : l.size = ops.length) : ∀ x y, l.getD x false = true → directB ops x y = true → y < ops.length → l.getD y false = true := by
  intro i j hi hd hj
  unfold closedOk at h
  simp only [List.all_eq_true, List.mem_range, Bool.or_eq_true, Bool.not_eq_true'] at h
  by_cases hil : i < ops.length
  · rcases h i hil with h | h
    · rw [hi] at h; cases h
    · rcases h j hj with h | h
      · rw [hd] at h; cases h
      · exact h
  · rw [show l.getD i false = false by simp [show ¬ i < l.size by rw [hs]; exact hil]] at hi; cases hi
theorem d_takeR {fins : List Nat} {N : Env → World → Prop} {f : Nat} {l : Array Bool} {v : Value} (i d : Nat) {op : Op} {ty : TypeId} {pos : String} {af : Array Edge} {g : Option (Nat × Bool)} (hi : ops[i]? = some ⟨some d, op, ty, pos, af, g⟩)
    (hb : (Region.noSelect ops.toArray && Region.free .any ops.toArray l i && (Region.ready .any ops.toArray l).contains i && finOkR ops fins l i && Nat.blt d n) = true)
    (hw : wantE ops ρ g = some true) (hS : S w) (hy : RunsIn P S ρ op ty v)
    (k : wpD P n ops fins S N f (l.setIfInBounds i true) ((d, v) :: ρ) w) : wpD P n ops fins S N (f + 1) l ρ w := fun D a ha => by
  simp only [Bool.and_eq_true] at hb
  obtain ⟨⟨⟨⟨h1, h2⟩, h3⟩, h4⟩, h5⟩ := hb
  unfold finOkR at h4
  simp only [Bool.and_eq_true, List.all_eq_true] at h4
  have hs : l.size = ops.length := Nat.eq_of_beq_eq_true h4.2
  exact DAny_firstR (oi := ⟨some d, op, ty, pos, af, g⟩) (v := v) hi (Region.noSelect_spec h1) (fun _ _ _ h => h) (fun j hj => h4.1.1 j (by simpa using hj)) f l a w hs (closed_of h4.1.2 hs)
    (Region.free_spec (by simpa using hi) h2) (by simpa using h3) (.inl ⟨want_of ha hw, fun w' hw' => by rw [execOp_bare]; exact hy w' hw' a.eval (fun x u hx => ev_of ha hx)⟩) hS (k _ (ha.put h5))
end

/-- What may happen beside a chain that owns the blocks M and whatever new blocks have one of these types. -/
structure RT (w0 : World) (M : List Nat) (tys : List TypeId) (w w' : World) : Prop where
  os : w'.os = w.os
  tape : w'.tape = w.tape
  output : w'.output = w.output
  size : w.heap.size ≤ w'.heap.size
  old : ∀ k, k < w0.heap.size → k ∉ M → w'.heap[k]? = w.heap[k]?
  typ : ∀ b cs t, t ∉ tys → Blk w b cs t → Blk w' b cs t
theorem RT.refl (w0 : World) (M : List Nat) (tys : List TypeId) (w : World) : RT w0 M tys w w := ⟨rfl, rfl, rfl, Nat.le_refl _, fun _ _ _ => rfl, fun _ _ _ _ h => h⟩
theorem RT.trans {w0 a b c : World} {M : List Nat} {tys : List TypeId} (h : RT w0 M tys a b) (k : RT w0 M tys b c) : RT w0 M tys a c :=
  ⟨k.os.trans h.os, k.tape.trans h.tape, k.output.trans h.output, Nat.le_trans h.size k.size, fun i hi hn => (k.old i hi hn).trans (h.old i hi hn), fun b cs t ht hb => k.typ b cs t ht (h.typ b cs t ht hb)⟩
theorem RT.chg {w0 w : World} {M : List Nat} {tys : List TypeId} (h : RT w0 M tys w0 w) : Chg w0 w M := ⟨h.os, h.tape, h.output, h.size, h.old⟩
theorem RT.of {w0 w w' : World} {M N : List Nat} {tys : List TypeId} (h : Chg w w' N) (hs : w0.heap.size ≤ w.heap.size) (hN : ∀ k ∈ N, (k ∈ M ∨ w0.heap.size ≤ k) ∧ ∀ cs t, Blk w k cs t → t ∈ tys) : RT w0 M tys w w' :=
  ⟨h.os, h.tape, h.output, h.size, fun k hk hn => h.block k (by omega) (fun hm => by rcases (hN k hm).1 with h1 | h1; exact hn h1; omega), fun b cs t ht hb => hb.keep h (fun hm => ht ((hN b hm).2 cs t hb))⟩
theorem RT.of0 {w0 w w' : World} {M : List Nat} {tys : List TypeId} (h : Chg w w' []) (hs : w0.heap.size ≤ w.heap.size) : RT w0 M tys w w' := RT.of h hs (by simp)
/-- A literal beside the chain. -/
def SV.lit (w0 : World) (M : List Nat) (tys : List TypeId) (n : Nat) (cs : List Value) (t : TypeId) (ht : t ∉ tys) : SV (RT w0 M tys) :=
  ⟨fun w v => ∃ b, v = .slice (some ⟨b, 0, none⟩) n n ∧ Blk w b cs t, fun _ _ _ ⟨b, e, h⟩ x => ⟨b, e, x.typ b cs t ht h⟩⟩
end Go.Proofs.YtmmijecookbajaaDoor
