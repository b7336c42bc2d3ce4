/- Part St25 of the proofs on this seat. Conditions: none beyond those in the theorems. By an AI agent. -/
import Derived.Test.YtmmijecookbajaaDoorSt24
import Derived.Test.YtmmijecookbajaaDoorBump
namespace Go.Proofs.YtmmijecookbajaaDoor
open Go Go.RowKit

/-- What a way starts from, and the text whose hash it is. -/
def Sp.ctx (th : Bool) (r : Ac) : List Nat := if th then 2 :: Sp.acB r else [4]
def Sp.chd (th : Bool) (r : Ac) : List Nat := if th then Sp.aleaf r else Sp.anone
theorem chd_sha (th : Bool) (r : Ac) : Sp.chd th r = Sp.sha (Sp.ctx th r) := by cases th <;> rfl
theorem chd_ok (th : Bool) (r : Ac) : HOk (Sp.chd th r) := by rw [chd_sha]; exact sha_ok _
theorem climb_fine {id : Nm} {th : Bool} {r : Ac} {path : List (List Nat)} (h : (Sp.aclimbR id th r path).2 = true) :
    path.length ≤ 128 ∧ (th = false → r = Sp.zeroA) ∧ (Sp.aclimbR id th r path).1 = Sp.aclimb id 0 path (Sp.chd th r) ∧ (∀ z, z = Sp.ctx th r ∨ z ∈ Sp.aclimbN id 0 path (Sp.chd th r) → z ∈ Sp.aclimbRN id th r path) := by
  unfold Sp.aclimbR at h ⊢
  unfold Sp.aclimbRN
  by_cases h1 : 128 < path.length
  · rw [if_pos h1] at h; simp at h
  rw [if_neg h1] at h
  rw [if_neg h1, if_neg h1]
  cases th with
  | true =>
    rw [if_pos rfl] at h
    rw [if_pos rfl, if_pos rfl]
    by_cases h2 : Sp.stray r.id id path.length = true
    · rw [if_pos h2] at h; simp at h
    · rw [if_neg h2, if_neg h2]
      exact ⟨by omega, fun e => (by cases e), rfl, fun z hz => by rcases hz with rfl | hz <;> simp_all [Sp.ctx, Sp.chd]⟩
  | false =>
    have hff : ¬ ((false : Bool) = true) := by decide
    rw [if_neg hff] at h
    rw [if_neg hff, if_neg hff]
    by_cases h2 : r ≠ Sp.zeroA
    · rw [if_pos h2] at h; simp at h
    · rw [if_neg h2, if_neg h2]
      exact ⟨by omega, fun _ => by simpa using h2, rfl, fun z hz => by rcases hz with rfl | hz <;> simp_all [Sp.ctx, Sp.chd]⟩
/-- What stands where a way ends, as a text. -/
def Sp.ttop (A : List Ac) : List Nat := match A with
  | [] => [4]
  | a :: _ => 2 :: Sp.acB a
theorem atop_sha (A : List Ac) : Sp.atop A = Sp.sha (Sp.ttop A) := by cases A <;> rfl
theorem atop_ok (A : List Ac) : HOk (Sp.atop A) := by rw [atop_sha]; exact sha_ok _
/-- What would be noted on the way up of a proof is noted for the root. -/
theorem climb_noted (id : Nm) : ∀ (m k : Nat) (l : List Ac), 128 - k < m → Wf k l → (∀ z ∈ Sp.aclimbN id k (Sp.apath id k l) (Sp.atop (Sp.aend id k l)), z ∈ Sp.anotes k l) ∧ Sp.ttop (Sp.aend id k l) ∈ Sp.anotes k l := by
  intro m
  induction m with
  | zero => intro k l h; omega
  | succ m ih =>
    intro k l hm h
    by_cases h2 : l.length ≤ 1
    · rw [apath_few h2, aend_few h2]
      refine ⟨fun z hz => by simp [Sp.aclimbN] at hz, ?_⟩
      match l, h, h2 with
      | [], h, _ => rw [anotes_nil h.k_le]; simp [Sp.ttop]
      | [a], h, _ => rw [anotes_one h.k_le]; simp [Sp.ttop]
      | _ :: _ :: _, _, h2 => simp at h2
    · have hk := h.lt (by omega)
      have hb := bit_lt id k
      obtain ⟨h3, h4⟩ := ih (k + 1) (Sp.side l k (Sp.bit id k)) (by omega) (h.side hk)
      have hc := (climb_prove id m (k + 1) (Sp.side l k (Sp.bit id k)) (by omega) (h.side hk)).1
      have hs : ∀ z ∈ Sp.anotes (k + 1) (Sp.side l k (Sp.bit id k)), z ∈ Sp.anotes k l := by
        intro z hz
        rw [anotes_two hk (by omega)]
        unfold Sp.side at hz
        simp only [List.mem_append]
        split at hz <;> simp [hz]
      rw [apath_two hk (by omega), aend_two hk (by omega)]
      refine ⟨fun z hz => ?_, hs _ h4⟩
      rw [Sp.aclimbN, hc] at hz
      rcases List.mem_append.1 hz with hz | hz
      · exact hs z (h3 z hz)
      · simp only [List.mem_singleton] at hz
        rw [hz, anotes_two hk (by omega)]
        by_cases hb1 : Sp.bit id k = 1
        · simp [hb1, Sp.side]
        · simp [show Sp.bit id k = 0 by omega, Sp.side]
theorem aclimbN_snoc (id : Nm) (p h : List Nat) : ∀ (ps : List (List Nat)) (k : Nat), Sp.aclimbN id k (ps ++ [p]) h = [3 :: (if Sp.bit id (k + ps.length) = 1 then p ++ h else h ++ p)] ++ Sp.aclimbN id k ps (if Sp.bit id (k + ps.length) = 1 then Sp.fork p h else Sp.fork h p) := by
  intro ps
  induction ps with
  | nil => intro k; simp [Sp.aclimbN, Sp.aclimb]
  | cons q ps ih => intro k; simp only [List.cons_append, Sp.aclimbN, ih (k + 1), aclimb_snoc, List.length_cons, show k + 1 + ps.length = k + (ps.length + 1) by omega, List.append_assoc]
/-- A way as long as the true one that leads to the root: it is the true one, or there is a clash. -/
theorem forged_way {l : List Ac} {id : Nm} {h' : List Nat} {P' : List (List Nat)} {L : List (List Nat)} (hw : Wf 0 l) (hl : P'.length = (Sp.apath id 0 l).length) (okP : ∀ x ∈ P', HOk x) (okh : HOk h') (he : Sp.aclimb id 0 P' h' = Sp.aroot 0 l)
    (hL : ∀ z, z ∈ Sp.anotes 0 l ∨ z ∈ Sp.aclimbN id 0 P' h' → z ∈ L) : (P' = Sp.apath id 0 l ∧ h' = Sp.atop (Sp.aend id 0 l)) ∨ Sp.Clash L := by
  have hc := (climb_prove id 129 0 l (by omega) hw).1
  have hn := (climb_noted id 129 0 l (by omega) hw).1
  rcases aclimb_coll id okh (atop_ok _) P' (Sp.apath id 0 l) 0 hl okP (apath_ok id 129 0 l (by omega) hw) (he.trans hc.symm) with h | h
  · exact .inl h
  · refine .inr (h.mono fun z hz => hL z ?_)
    rcases List.mem_append.1 hz with hz | hz
    · exact .inr hz
    · exact .inl (hn z hz)
theorem forged_same {l : List Ac} {id : Nm} {th : Bool} {r : Ac} {P' : List (List Nat)} {L : List (List Nat)} (hw : Wf 0 l) (hl : P'.length = (Sp.apath id 0 l).length) (okP : ∀ x ∈ P', HOk x) (hf : (Sp.aclimbR id th r P').2 = true) (he : (Sp.aclimbR id th r P').1 = Sp.aroot 0 l)
    (hne : P' ≠ Sp.apath id 0 l ∨ ((th = false → r = Sp.zeroA) → Sp.ctx th r ≠ Sp.ttop (Sp.aend id 0 l))) (hL : ∀ z, z ∈ Sp.anotes 0 l ∨ z ∈ Sp.aclimbRN id th r P' → z ∈ L) : Sp.Clash L := by
  obtain ⟨_, h2, h3, h4⟩ := climb_fine hf
  rw [h3] at he
  rcases forged_way hw hl okP (chd_ok th r) he (fun z hz => hL z (hz.imp (fun h => h) (fun h => h4 z (.inr h)))) with ⟨e1, e2⟩ | h
  · rcases hne with hne | hne
    · exact absurd e1 hne
    · exact ⟨_, hL _ (.inr (h4 _ (.inl rfl))), _, hL _ (.inl (climb_noted id 129 0 l (by omega) hw).2), by rw [← chd_sha, ← atop_sha, e2], hne h2⟩
  · exact h
theorem acB_rows {a b : Ac} (h : Sp.acB a = Sp.acB b) : Sp.intB 6 a.rows = Sp.intB 6 b.rows := by
  unfold Sp.acB at h
  simp only [List.flatMap_cons, List.flatMap_nil, List.append_nil] at h
  obtain ⟨h, _⟩ := List.append_inj h (by simp [numB_len, intB_len])
  obtain ⟨_, h8⟩ := List.append_inj h (by simp [numB_len, intB_len])
  exact (List.append_inj h8 (by simp [intB_len])).2
theorem rows_ne {x : Int} : Sp.intB 6 (x + 1) ≠ Sp.intB 6 x := fun h => by
  simp [Sp.intB, List.range_succ] at h
  omega
/-- An account, one row more. -/
def Sp.rows1 (r : Ac) : Ac := { r with rows := r.rows + 1 }
theorem rows1_num {r : Ac} (h : r.Num) : (Sp.rows1 r).Num := ⟨h.id, h.dp, h.dq, h.cp, h.cq, h.root⟩
theorem forged0 {l : List Ac} {id : Nm} (hw : Wf 0 l) : Sp.ctx (!decide (Sp.aend id 0 l ≠ [])) Sp.zeroA ≠ Sp.ttop (Sp.aend id 0 l) := by
  rcases aend_cases id hw with h | ⟨y, h, _⟩
  · rw [h]; simp [Sp.ctx, Sp.ttop]
  · rw [h]; simp [Sp.ctx, Sp.ttop]
theorem forged1 {l : List Ac} {id : Nm} (hw : Wf 0 l) : (decide (Sp.aend id 0 l ≠ []) = false → Sp.rows1 (Sp.topA (Sp.aend id 0 l)) = Sp.zeroA) → Sp.ctx (decide (Sp.aend id 0 l ≠ [])) (Sp.rows1 (Sp.topA (Sp.aend id 0 l))) ≠ Sp.ttop (Sp.aend id 0 l) := by
  intro hz
  rcases aend_cases id hw with h | ⟨y, h, hy⟩
  · rw [h] at hz
    have := congrArg Ac.rows (hz (by simp))
    simp [Sp.rows1, Sp.topA, Sp.zeroA] at this
  · rw [h]
    intro e
    have e1 : Sp.acB (Sp.rows1 y) = Sp.acB y := by simpa [Sp.ctx, Sp.ttop, Sp.topA] using e
    exact rows_ne (acB_rows e1)
/-- One hash more. -/
theorem forged3 {l : List Ac} {id : Nm} {x : List Nat} {L : List (List Nat)} (hw : Wf 0 l)
    (hf : (Sp.aclimbR id (decide (Sp.aend id 0 l ≠ [])) (Sp.topA (Sp.aend id 0 l)) (Sp.apath id 0 l ++ [x])).2 = true) (he : (Sp.aclimbR id (decide (Sp.aend id 0 l ≠ [])) (Sp.topA (Sp.aend id 0 l)) (Sp.apath id 0 l ++ [x])).1 = Sp.aroot 0 l)
    (hL : ∀ z, z ∈ Sp.anotes 0 l ∨ z ∈ Sp.aclimbRN id (decide (Sp.aend id 0 l ≠ [])) (Sp.topA (Sp.aend id 0 l)) (Sp.apath id 0 l ++ [x]) → z ∈ L) : Sp.Clash L := by
  obtain ⟨_, _, h3, h4⟩ := climb_fine hf
  have hct : Sp.chd (decide (Sp.aend id 0 l ≠ [])) (Sp.topA (Sp.aend id 0 l)) = Sp.atop (Sp.aend id 0 l) := by
    rcases aend_cases id hw with h | ⟨y, h, _⟩ <;> rw [h] <;> simp [Sp.chd, Sp.atop, Sp.topA]
  rw [hct] at h3 h4
  rw [h3, aclimb_snoc, Nat.zero_add] at he
  rw [aclimbN_snoc, Nat.zero_add] at h4
  have ok1 := atop_ok (Sp.aend id 0 l)
  obtain ⟨g, hg⟩ : ∃ g, g = (if Sp.bit id (Sp.apath id 0 l).length = 1 then Sp.fork x (Sp.atop (Sp.aend id 0 l)) else Sp.fork (Sp.atop (Sp.aend id 0 l)) x) := ⟨_, rfl⟩
  obtain ⟨tx, htx⟩ : ∃ tx, tx = 3 :: (if Sp.bit id (Sp.apath id 0 l).length = 1 then x ++ Sp.atop (Sp.aend id 0 l) else Sp.atop (Sp.aend id 0 l) ++ x) := ⟨_, rfl⟩
  have hgt : g = Sp.sha tx := by rw [hg, htx]; split <;> rfl
  rw [← hg] at he h4
  rw [← htx] at h4
  have okg : HOk g := by rw [hgt]; exact sha_ok _
  rcases forged_way hw rfl (apath_ok id 129 0 l (by omega) hw) okg he (fun z hz => hL z (hz.imp (fun h => h) (fun h => h4 z (.inr (by simp [h]))))) with ⟨_, e2⟩ | h
  · refine ⟨tx, hL _ (.inr (h4 _ (.inr (by simp)))), _, hL _ (.inl (climb_noted id 129 0 l (by omega) hw).2), by rw [← hgt, ← atop_sha, e2], fun e => ?_⟩
    rw [htx] at e
    rcases aend_cases id hw with h | ⟨y, h, _⟩ <;> rw [h] at e <;> simp [Sp.ttop] at e
  · exact h
theorem aclimbN_short (id : Nm) (h : List Nat) (ok : HOk h) : ∀ (ps : List (List Nat)) (k : Nat), (∀ x ∈ ps, HOk x) → ∀ z ∈ Sp.aclimbN id k ps h, z.length ≤ 131 := by
  intro ps
  induction ps with
  | nil => intro k _ z hz; simp [Sp.aclimbN] at hz
  | cons p ps ih =>
    intro k okp z hz
    rw [Sp.aclimbN] at hz
    rcases List.mem_append.1 hz with hz | hz
    · exact ih (k + 1) (fun x hx => okp x (by simp [hx])) z hz
    · simp only [List.mem_singleton] at hz
      subst hz
      have h1 := (okp p (by simp)).1
      have h2 := (aclimb_ok id h ok ps (k + 1)).1
      split <;> simp [h1, h2]
theorem aclimbRN_short {id : Nm} {th : Bool} {r : Ac} {path : List (List Nat)} (hr : r.Num) (okp : ∀ x ∈ path, HOk x) : ∀ z ∈ Sp.aclimbRN id th r path, z.length ≤ 131 := by
  intro z hz
  have h1 : (2 :: Sp.acB r).length = 131 := by simp [acB_len hr]
  have h2 := aclimbN_short id _ (aleaf_ok r) path 0 okp z
  have h3 := aclimbN_short id _ anone_ok path 0 okp z
  unfold Sp.aclimbRN at hz
  split at hz
  · simp at hz
  · split at hz
    · split at hz
      · simp at hz; rcases hz with rfl | rfl <;> simp_all
      · simp at hz; rcases hz with rfl | rfl | hz <;> simp_all
    · split at hz
      · simp at hz; subst hz; simp
      · simp at hz; rcases hz with rfl | hz <;> simp_all
end Go.Proofs.YtmmijecookbajaaDoor
