/- Part GlueR of the proofs on this seat. Conditions: none beyond those in the theorems. By an AI agent. -/
import Derived.Test.YtlkeofjgmegcfaaDoorGlueB
import Derived.Test.YtlkeofjgmegcfaaDoorRow3
namespace Go.Proofs.YtlkeofjgmegcfaaDoor
open Go Go.RowKit Go.ChangeShapes Go.WideShapes Go.ChangeAt

section
variable {H : Type} {enc : TypeId × Value → H} {w : World} {base : Nat} {sp : Nat → Bool} {held : Bool}
/-- One int. -/
theorem lit_of {k : IntKind} {t fuel : Nat} {cs : List Value} {x} {xs : List (DataW H × List MemPlace)} {i : Nat} (ht : Tryd.prog.underlying t = some (.int k)) (hx : i < xs.length) (h : DataW.trod enc Tryd.prog w base sp held fuel t ((cs.drop x).take 1) = xs[i]?) : ∃ z : Int, cs[x]? = some (.int k z) ∧ k.min ≤ z ∧ z ≤ k.max := by
  rw [List.getElem?_eq_getElem hx] at h
  obtain ⟨z, e1, _, hw⟩ := DataW.trod_int ht h
  refine ⟨z, ?_, ?_⟩
  · have : ((cs.drop x).take 1)[0]? = some (.int k z) := by rw [e1]; rfl
    simpa using this
  · simpa [Lit.wf] using hw
theorem num_of {fuel : Nat} {cs : List Value} {x} (h : DataW.trod enc Tryd.prog w base sp held fuel 32 cs = some x) : ∃ m : Nm, NOk m ∧ cs = numC m := by
  obtain ⟨xs, n, _, _, hl, hn, he⟩ := DataW.trod_struct Tryd.underlying32 h
  have hl2 : cs.length = 2 := hl.trans (by kernel_rfl)
  have hn2 : xs.length = 2 := hn
  have h0 : DataW.trod enc Tryd.prog w base sp held n 30 ((cs.drop 0).take 1) = xs[0]? := (show Tryd.prog.cellsOf 30 = 1 by kernel_rfl) ▸ he 0 _ rfl
  have h1 : DataW.trod enc Tryd.prog w base sp held n 30 ((cs.drop 1).take 1) = xs[1]? := (show Tryd.prog.cellsOf 30 = 1 by kernel_rfl) ▸ he 1 _ rfl
  obtain ⟨z0, e0, l0, u0⟩ := lit_of Tryd.underlying30 (by omega) h0
  obtain ⟨z1, e1, l1, u1⟩ := lit_of Tryd.underlying30 (by omega) h1
  simp [IntKind.min, IntKind.max, IntKind.bits, IntKind.signed] at l0 u0 l1 u1
  refine ⟨(z0.toNat, z1.toNat), ⟨by simp only; omega, by simp only; omega⟩, ?_⟩
  match cs, hl2 with
  | [a, b], _ =>
    simp at e0 e1
    subst e0 e1
    simp only [numC]
    rw [Int.toNat_of_nonneg l0, Int.toNat_of_nonneg l1]
theorem num_at {fuel : Nat} {cs : List Value} {x} {xs : List (DataW H × List MemPlace)} {i : Nat} (hx : i < xs.length) (h : DataW.trod enc Tryd.prog w base sp held fuel 32 ((cs.drop x).take 2) = xs[i]?) : ∃ m : Nm, NOk m ∧ (cs.drop x).take 2 = numC m := by
  rw [List.getElem?_eq_getElem hx] at h
  exact num_of h
theorem row_of {fuel : Nat} {cs : List Value} {x} (h : DataW.trod enc Tryd.prog w base sp held fuel 34 cs = some x) : ∃ r : Rw, r.Num ∧ cs = r.C ∧ (-9223372036854775808 ≤ r.time ∧ r.time ≤ 9223372036854775807) ∧ (-9223372036854775808 ≤ r.event ∧ r.event ≤ 9223372036854775807) := by
  obtain ⟨xs, n, _, _, hl, hn, he⟩ := DataW.trod_struct Tryd.underlying34 h
  have hl2 : cs.length = 14 := hl.trans (by kernel_rfl)
  have hn2 : xs.length = 8 := hn
  have h0 : DataW.trod enc Tryd.prog w base sp held n 32 ((cs.drop 0).take 2) = xs[0]? := (show Tryd.prog.cellsOf 32 = 2 by kernel_rfl) ▸ he 0 _ rfl
  have h1 : DataW.trod enc Tryd.prog w base sp held n 3 ((cs.drop 2).take 1) = xs[1]? := (show Tryd.prog.cellsOf 3 = 1 by kernel_rfl) ▸ he 1 _ rfl
  have h2 : DataW.trod enc Tryd.prog w base sp held n 3 ((cs.drop 3).take 1) = xs[2]? := (show Tryd.prog.cellsOf 3 = 1 by kernel_rfl) ▸ he 2 _ rfl
  have h3 : DataW.trod enc Tryd.prog w base sp held n 32 ((cs.drop 4).take 2) = xs[3]? := (show Tryd.prog.cellsOf 32 = 2 by kernel_rfl) ▸ he 3 _ rfl
  have h4 : DataW.trod enc Tryd.prog w base sp held n 32 ((cs.drop 6).take 2) = xs[4]? := (show Tryd.prog.cellsOf 32 = 2 by kernel_rfl) ▸ he 4 _ rfl
  have h5 : DataW.trod enc Tryd.prog w base sp held n 32 ((cs.drop 8).take 2) = xs[5]? := (show Tryd.prog.cellsOf 32 = 2 by kernel_rfl) ▸ he 5 _ rfl
  have h6 : DataW.trod enc Tryd.prog w base sp held n 32 ((cs.drop 10).take 2) = xs[6]? := (show Tryd.prog.cellsOf 32 = 2 by kernel_rfl) ▸ he 6 _ rfl
  have h7 : DataW.trod enc Tryd.prog w base sp held n 32 ((cs.drop 12).take 2) = xs[7]? := (show Tryd.prog.cellsOf 32 = 2 by kernel_rfl) ▸ he 7 _ rfl
  obtain ⟨z1, e1, l1, u1⟩ := lit_of Tryd.underlying3 (by omega) h1
  obtain ⟨z2, e2, l2, u2⟩ := lit_of Tryd.underlying3 (by omega) h2
  simp [IntKind.min, IntKind.max, IntKind.bits, IntKind.signed] at l1 u1 l2 u2
  obtain ⟨m0, k0, e0⟩ := num_at (by omega) h0
  obtain ⟨m3, k3, e3⟩ := num_at (by omega) h3
  obtain ⟨m4, k4, e4⟩ := num_at (by omega) h4
  obtain ⟨m5, k5, e5⟩ := num_at (by omega) h5
  obtain ⟨m6, k6, e6⟩ := num_at (by omega) h6
  obtain ⟨m7, k7, e7⟩ := num_at (by omega) h7
  refine ⟨⟨m0, z1, z2, m3, m4, m5, m6, m7⟩, ⟨k0, k3, k4, k5, k6, k7⟩, ?_, ⟨l1, u1⟩, ⟨l2, u2⟩⟩
  clear h0 h1 h2 h3 h4 h5 h6 h7 h he
  match cs, hl2 with
  | [a0, a1, a2, a3, a4, a5, a6, a7, a8, a9, a10, a11, a12, a13], _ =>
    simp [numC] at e0 e1 e2 e3 e4 e5 e6 e7
    obtain ⟨rfl, rfl⟩ := e0
    obtain ⟨rfl, rfl⟩ := e3
    obtain ⟨rfl, rfl⟩ := e4
    obtain ⟨rfl, rfl⟩ := e5
    obtain ⟨rfl, rfl⟩ := e6
    obtain ⟨rfl, rfl⟩ := e7
    subst e1 e2
    rfl
/-- A row that came in. -/
theorem row_in {b0 : Nat} {v : Value} {d : DataW H} {p : List MemPlace} (hval : Value.okWide Tryd.prog w .any b0 34 v) (h : DataW.Trod enc Tryd.prog w base sp held 34 v d p) : ∃ r : Rw, v = rv r ∧ r.Num ∧ (-9223372036854775808 ≤ r.time ∧ r.time ≤ 9223372036854775807) ∧ (-9223372036854775808 ≤ r.event ∧ r.event ≤ 9223372036854775807) := by
  obtain ⟨cs, rfl⟩ : ∃ cs, v = .agg cs := by
    unfold Value.okWide at hval
    rw [Tryd.underlying34] at hval
    obtain ⟨cs, e, _⟩ := hval
    exact ⟨cs, e⟩
  obtain ⟨fuel, hf⟩ := h
  obtain ⟨r, h1, h2, h3, h4⟩ := row_of hf
  refine ⟨r, ?_, h1, h3, h4⟩
  simp only [Value.cells] at h2
  rw [rv, ← h2]
/-- Rows that came in. -/
theorem rows_in {b0 : Nat} {v : Value} {d : DataW H} {p : List MemPlace} (hval : Value.okWide Tryd.prog w .any b0 22 v) (h : DataW.Trod enc Tryd.prog w base (fun _ => true) held 22 v d p) : ∃ a n c ls, v = .slice a n c ∧ RowsR w a n c ls := by
  obtain ⟨a1, len1, cap1, rfl⟩ := okWide_slice Tryd.underlying22 hval
  obtain ⟨fuel, hf⟩ := h
  rcases DataW.trod_slice Tryd.underlying22 hf with ⟨hcs, _⟩ | ⟨a, len, cap, elems, rest, n, _, hcs, _, _, hl, hm, hen, hel, hrs, _⟩
  · simp [Value.cells] at hcs
    obtain ⟨rfl, rfl, rfl⟩ := hcs
    exact ⟨none, 0, 0, [], rfl, ⟨SlR.nil_ _ _, rfl, by simp⟩⟩
  · simp [Value.cells] at hcs
    obtain ⟨rfl, rfl, rfl⟩ := hcs
    have he : ∀ i, i < len1 → ∃ r : Rw, r.Num ∧ ∀ j v, r.C[j]? = some v → w.cell? ((a.add (i * 14)).add j) = some v := by
      intro i hi
      have h1 := hel i hi
      rw [List.getElem?_eq_getElem (show i < elems.length by omega), show Tryd.prog.cellsOf 34 = 14 by kernel_rfl] at h1
      obtain ⟨cs, hc, ht⟩ := Option.bind_eq_some_iff.1 h1
      obtain ⟨r, hr, rfl, _⟩ := row_of ht
      obtain ⟨_, _, hcell⟩ := World.cells?_some hc
      refine ⟨r, hr, fun j v hv => ?_⟩
      have hj : j < 14 := by have := (List.getElem?_eq_some_iff.1 hv).1; rwa [r.len] at this
      have := hcell j hj
      rw [hv] at this
      exact this
    obtain ⟨f, hf⟩ : ∃ f : Nat → Rw, ∀ i, i < len1 → (f i).Num ∧ ∀ j v, (f i).C[j]? = some v → w.cell? ((a.add (i * 14)).add j) = some v := by
      refine ⟨fun i => if h : i < len1 then (he i h).choose else ⟨(0, 0), 0, 0, (0, 0), (0, 0), (0, 0), (0, 0), (0, 0)⟩, fun i hi => ?_⟩
      simp only [dif_pos hi]
      exact (he i hi).choose_spec
    have hfl : ∀ l : List Nat, ((l.map f).flatMap Rw.C).length = l.length * 14 := fun l => by
      induction l with
      | nil => rfl
      | cons x l ih => simp only [List.map_cons, List.flatMap_cons, List.length_append, ih, Rw.len, List.length_cons]; omega
    refine ⟨some a, len1, cap1, (List.range len1).map f, rfl, ⟨⟨?_, hl, hm, fun p hp => ?_, fun h => by cases h⟩, by simp, ?_⟩⟩
    · rw [hfl]; simp
    · cases hp
      obtain ⟨ab, ao, spot⟩ := a
      by_cases hc : cap1 = 0
      · refine ⟨.inr hc, fun j v hv => ?_⟩
        rw [show len1 = 0 by omega] at hv
        simp at hv
      · refine ⟨.inl ?_, fun j v hv => ?_⟩
        · by_cases h0 : len1 = 0
          · obtain ⟨hrl, hrc⟩ := hrs rfl
            have h1 := hrc 0 (by omega)
            rw [List.getElem?_eq_getElem (show 0 < rest.length by omega), show Tryd.prog.cellsOf 34 = 14 by kernel_rfl] at h1
            obtain ⟨cs, hc, ht⟩ := Option.bind_eq_some_iff.1 h1
            obtain ⟨r, hr, rfl, _⟩ := row_of ht
            obtain ⟨_, _, hcell⟩ := World.cells?_some hc
            have := hcell 0 (by omega)
            rw [h0] at this
            simpa [Addr.add] using World.cell?_spot (this.trans rfl)
          · have := (hf 0 (by omega)).2 0 _ rfl
            simpa [Addr.add] using World.cell?_spot this
        · have hj : j < len1 * 14 := by have := (List.getElem?_eq_some_iff.1 hv).1; rw [hfl] at this; simpa using this
          have hi : j / 14 < len1 := by omega
          have hsp : spot = none := by
            have := (hf 0 (by omega)).2 0 _ rfl
            simpa [Addr.add] using World.cell?_spot this
          subst hsp
          have e1 : ((List.range len1).map f)[j / 14]? = some (f (j / 14)) := by rw [List.getElem?_map, List.getElem?_range hi]; rfl
          have e2 := rows_at _ _ _ e1
          have e3 : (f (j / 14)).C[j % 14]? = some v := by
            rw [← e2, List.getElem?_take, if_pos (Nat.mod_lt _ (by decide)), List.getElem?_drop, show j / 14 * 14 + j % 14 = j by omega]
            exact hv
          have := (hf _ hi).2 _ _ e3
          rw [add_lit, add_lit] at this
          rwa [show ao + j / 14 * 14 + j % 14 = ao + j by omega] at this
    · intro r hr
      obtain ⟨i, hi, rfl⟩ := List.mem_map.1 hr
      exact (hf i (List.mem_range.1 hi)).1
end
end Go.Proofs.YtlkeofjgmegcfaaDoor
