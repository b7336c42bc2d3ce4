/- Part CM of the proofs on this seat. Conditions: none beyond those in the theorems. By an AI agent. -/
import Derived.Test.YtmmijecookbajaaDoorFit
import Derived.WideKeyArr
import Derived.Laws.IdiomStrings
import Derived.WideKeyMaps
import Derived.Laws.IdiomMaps
import Derived.WideKeyElems
namespace Go.Proofs.YtmmijecookbajaaDoor
open Go Go.RowKit

theorem mapM_some {α β : Type} (f : α → Option β) : ∀ (l : List α), (∀ x ∈ l, ∃ y, f x = some y) → ∃ ys, l.mapM f = some ys
  | [], _ => ⟨[], rfl⟩
  | x :: l, h => by
    obtain ⟨y, hy⟩ := h x (by simp)
    obtain ⟨ys, hys⟩ := mapM_some f l (fun z hz => h z (by simp [hz]))
    exact ⟨y :: ys, by rw [List.mapM_cons, hy, hys]; rfl⟩
theorem types_size : Tryd.prog.types.size = Tryd.prog.types.size - 1 + 1 := by
  have : (0 : Nat) < Tryd.prog.types.size := of_decide_eq_true (by kernel_rfl)
  omega
theorem hash_key : WideMaps.ArrKey Tryd.prog 26 5 32 := ⟨Tryd.underlying26, by kernel_rfl, by kernel_rfl, by kernel_rfl⟩
/-- Hashes are keys. -/
theorem hash_law : WideMaps.KeyLaw Tryd.prog 26 := hash_key.law
theorem hash_keyOf {h : List Nat} (ok : HOk h) : ∃ kl, keyOf Tryd.prog 26 (hv h) = some kl := by
  have hk : Tryd.prog.keyType 26 = true := hash_key.keyType ⟨_, types_size⟩
  have hf : (hv h).formed Tryd.prog 26 = true := by
    unfold Value.formed
    simp only [Tryd.underlying26, hash_key.size, beq_iff_eq, List.size_toArray, natsC_length, ok.1]
  have hl : ∃ ls, Tryd.prog.keyLits (Tryd.prog.types.size + 1) 26 (hv h).cells.toList = some ls := by
    unfold Program.keyLits
    rw [Tryd.underlying26]
    have hc : (hv h).cells.toList = natsC .u8 h := rfl
    rw [hc]
    simp only [hash_key.size, natsC_length, ok.1, if_true, hash_key.one, Nat.mul_one]
    obtain ⟨ys, hys⟩ := mapM_some (fun i => Tryd.prog.keyLits Tryd.prog.types.size 5 (((natsC .u8 h).drop i).take 1)) (List.range 32) (fun i hi => by
      rw [List.mem_range] at hi
      obtain ⟨x, hx⟩ : ∃ x, h[i]? = some x := ⟨_, List.getElem?_eq_getElem (by rw [ok.1]; exact hi)⟩
      have hlt := ok.2 x (List.mem_of_getElem? hx)
      have e : ((natsC .u8 h).drop i).take 1 = [.int .u8 (x : Int)] := by
        rw [List.drop_eq_getElem_cons (by rw [natsC_length, ok.1]; exact hi)]
        have := natsC_get (k := .u8) hx
        rw [List.getElem?_eq_getElem (by rw [natsC_length, ok.1]; exact hi)] at this
        simp [Option.some.inj this]
      rw [e, types_size]
      unfold Program.keyLits
      rw [Tryd.underlying5]
      have hwf : (Lit.int .u8 (x : Int)).wf = true := by
        simp [Lit.wf, IntKind.min, IntKind.max, IntKind.bits, IntKind.signed]; omega
      simp [hwf])
    exact ⟨ys.flatten, by rw [hys]; rfl⟩
  obtain ⟨ls, hls⟩ := hl
  unfold keyOf
  rw [Tryd.underlying26]
  simp only [hk, hf, Bool.and_self, if_true, hls, Option.map_some]
  exact ⟨_, rfl⟩

/-- A map of hashes to strings: its entries. -/
structure MapH (w : World) (b : Nat) (ps : List (List Nat × ByteArray)) : Prop where
  rd : ∃ es clock, w.heap[b]? = some (.map es clock) ∧ es.toList.map (fun e => (e.key, e.val)) = ps.map (fun p => (hv p.1, Value.string p.2))
  ok : ∀ p ∈ ps, HOk p.1
theorem MapH.lt {w : World} {b : Nat} {ps : List (List Nat × ByteArray)} (h : MapH w b ps) : b < w.heap.size := by
  obtain ⟨es, c, h1, _⟩ := h.rd
  exact (Array.getElem?_eq_some_iff.1 h1).1
theorem MapH.keep {w w' : World} {b : Nat} {ps : List (List Nat × ByteArray)} {M : List Nat} (h : MapH w b ps) (x : Chg w w' M) (hn : b ∉ M) : MapH w' b ps := by
  obtain ⟨es, c, h1, h2⟩ := h.rd
  exact ⟨⟨es, c, (x.block b h.lt hn).trans h1, h2⟩, h.ok⟩
theorem hv_inj {x y : List Nat} (h : hv x = hv y) : x = y := by
  have h1 : natsC .u8 x = natsC .u8 y := by simpa [hv] using h
  unfold natsC at h1
  induction x generalizing y with
  | nil => cases y with
    | nil => rfl
    | cons => simp at h1
  | cons a x ih => cases y with
    | nil => simp at h1
    | cons b y =>
      simp only [List.map_cons, List.cons.injEq, Value.int.injEq, true_and] at h1
      rw [ih (by simp only [hv]; rw [show natsC .u8 x = natsC .u8 y from h1.2]) h1.2]
      have := h1.1
      rw [show a = b by omega]

theorem entry_of {es : Array MapEntry} {ps : List (List Nat × ByteArray)} (h : es.toList.map (fun e => (e.key, e.val)) = ps.map (fun p => (hv p.1, Value.string p.2))) {j : Nat} {e : MapEntry} (he : es.toList[j]? = some e) : ∃ p, ps[j]? = some p ∧ e.key = hv p.1 ∧ e.val = .string p.2 := by
  have h1 : (es.toList.map (fun e => (e.key, e.val)))[j]? = some (e.key, e.val) := by rw [List.getElem?_map, he]; rfl
  rw [h, List.getElem?_map] at h1
  cases hp : ps[j]? with
  | none => rw [hp] at h1; simp at h1
  | some p =>
    rw [hp] at h1
    simp only [Option.map_some, Option.some.injEq, Prod.mk.injEq] at h1
    exact ⟨p, rfl, h1.1.symm, h1.2.symm⟩
theorem entry_keys {es : Array MapEntry} {ps : List (List Nat × ByteArray)} (h : es.toList.map (fun e => (e.key, e.val)) = ps.map (fun p => (hv p.1, Value.string p.2))) (ok : ∀ p ∈ ps, HOk p.1) : ∀ e ∈ es.toList, ∃ l, keyOf Tryd.prog 26 e.key = some l := by
  intro e he
  obtain ⟨j, hj⟩ := List.getElem?_of_mem he
  obtain ⟨p, h1, h2, _⟩ := entry_of h hj
  rw [h2]
  exact hash_keyOf (ok p (List.mem_of_getElem? h1))


/-- What a look-up finds. -/
theorem run_lookup {w : World} {b : Nat} {ps : List (List Nat × ByteArray)} (M : MapH w b ps) {h : List Nat} (ok : HOk h) :
    ((∀ p ∈ ps, p.1 ≠ h) ∧ (Instr.lookup 67 (.map (some b)) (hv h) true).run Tryd.prog w = .ok (.tuple #[.string .empty, .bool false]) w) ∨
    ∃ s, (h, s) ∈ ps ∧ (Instr.lookup 67 (.map (some b)) (hv h) true).run Tryd.prog w = .ok (.tuple #[.string s, .bool true]) w := by
  obtain ⟨es, c, hb, hes⟩ := M.rd
  obtain ⟨kl, hkl⟩ := hash_keyOf ok
  rcases hash_law.find w hkl es.toList (entry_keys hes M.ok) with ⟨h1, h2⟩ | ⟨j, e, h1, h2, h3⟩
  · refine .inl ⟨fun p hp e => ?_, ?_⟩
    · obtain ⟨j, hj⟩ := List.getElem?_of_mem hp
      have hje : ∃ e, es.toList[j]? = some e := by
        have hl : es.toList.length = ps.length := by have := congrArg List.length hes; simpa using this
        exact ⟨_, List.getElem?_eq_getElem (by rw [hl]; exact (List.getElem?_eq_some_iff.1 hj).1)⟩
      obtain ⟨en, hen⟩ := hje
      obtain ⟨p', q1, q2, _⟩ := entry_of hes hen
      rw [hj] at q1
      cases q1
      exact h2 en (List.mem_of_getElem? hen) (by rw [q2, e])
    · skip
      simp [Instr.lookup, run_underlying Tryd.underlying67, MapKept.run_getObj_map hb, hash_law.check w _ hkl, h1, Result.andThen]
      rfl
  · obtain ⟨p, q1, q2, q3⟩ := entry_of hes h2
    have : p.1 = h := hv_inj (q2.symm.trans h3)
    subst this
    refine .inr ⟨p.2, List.mem_of_getElem? q1, ?_⟩
    rw [q3] at h1
    simp [Instr.lookup, run_underlying Tryd.underlying67, MapKept.run_getObj_map hb, hash_law.check w _ hkl, h1, Result.andThen]
def setB (w : World) (b : Nat) (o : Obj) : World := { w with heap := w.heap.setIfInBounds b o }
theorem chg_setB {w : World} {b : Nat} (o : Obj) : Chg w (setB w b o) [b] :=
  ⟨rfl, rfl, rfl, by simp [setB], fun k _ hk => by
    have : b ≠ k := fun e => hk (by simp [e])
    simp [setB, Array.getElem?_setIfInBounds_ne this]⟩
/-- An entry is written: one more, or the one that was there. -/
theorem run_update {w : World} {b : Nat} {ps : List (List Nat × ByteArray)} (M : MapH w b ps) {h : List Nat} (ok : HOk h) (s : ByteArray) (hsame : ∀ p ∈ ps, p.1 = h → p.2 = s) :
    ∃ w', (Instr.mapUpdate 67 (.map (some b)) (hv h) (.string s)).run Tryd.prog w = .ok () w' ∧ Chg w w' [b] ∧ ∃ ps', MapH w' b ps' ∧ ∀ p, p ∈ ps' ↔ p ∈ ps ∨ p = (h, s) := by
  obtain ⟨es, c, hb, hes⟩ := M.rd
  have hlt := M.lt
  obtain ⟨kl, hkl⟩ := hash_keyOf ok
  rcases hash_law.find w hkl es.toList (entry_keys hes M.ok) with ⟨h1, h2⟩ | ⟨j, e, h1, h2, h3⟩
  · refine ⟨setB w b (.map (es.push ⟨hv h, .string s, c⟩) (c + 1)), by simp [Instr.mapUpdate, run_underlying Tryd.underlying67, MapKept.run_getObj_map hb, hash_law.check w false hkl, h1, MapKept.run_setObj_map _ hb, Result.andThen, setB], chg_setB _, ps ++ [(h, s)],
      ⟨⟨es.push ⟨hv h, .string s, c⟩, c + 1, by simp [setB, hlt], by simp [hes]⟩, fun p hp => ?_⟩, fun p => by simp⟩
    rcases List.mem_append.1 hp with hp | hp
    · exact M.ok p hp
    · simp at hp; subst hp; exact ok
  · have hj : es[j]? = some e := by simpa using h2
    obtain ⟨p, q1, q2, q3⟩ := entry_of hes h2
    have hp1 : p.1 = h := hv_inj (q2.symm.trans h3)
    have hp2 : p.2 = s := hsame p (List.mem_of_getElem? q1) hp1
    have hjl : j < es.toList.length := (List.getElem?_eq_some_iff.1 h2).1
    refine ⟨setB w b (.map (es.modify j (fun e' => { e' with key := hv h, val := .string s })) c), by simp [Instr.mapUpdate, run_underlying Tryd.underlying67, MapKept.run_getObj_map hb, hash_law.check w false hkl, h1, hj, h3, hash_law.stays w hkl, MapKept.run_setObj_map _ hb, Result.andThen, setB], chg_setB _, ps,
      ⟨⟨es.modify j (fun e' => { e' with key := hv h, val := .string s }), c, by simp [setB, hlt], ?_⟩, M.ok⟩, fun q => ⟨.inl, fun hq => hq.elim id (fun e => by
        subst e
        have : p = (h, s) := by rw [← hp1, ← hp2]
        rw [← this]; exact List.mem_of_getElem? q1)⟩⟩
    rw [← hes]
    refine List.ext_getElem? fun i => ?_
    simp only [Array.toList_modify, List.getElem?_map, List.getElem?_modify]
    by_cases e2 : j = i
    · subst e2
      rw [h2]
      simp [q2, q3, hp1, hp2]
    · simp [e2]
end Go.Proofs.YtmmijecookbajaaDoor
