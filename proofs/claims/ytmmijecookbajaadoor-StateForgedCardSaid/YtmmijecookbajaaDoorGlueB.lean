/- Part GlueB of the proofs on this seat. Conditions: none beyond those in the theorems. By an AI agent. -/
import Derived.Test.YtmmijecookbajaaDoorGlue
namespace Go.Proofs.YtmmijecookbajaaDoor
open Go Go.RowKit Go.ChangeShapes Go.WideShapes Go.ChangeAt

section
variable {H : Type} {enc : TypeId × Value → H} {P : Program} {w : World} {base : Nat} {held : Bool}
/-- A slice of bytes that came in. -/
theorem bytes_in {t q : TypeId} {b0 : Nat} {v : Value} {d : DataW H} {p : List MemPlace} (ht : P.underlying t = some (.slice q)) (hq : P.underlying q = some (.int .u8)) (cq : P.cellsOf q = 1)
    (hval : Value.okWide P w .any b0 t v) (h : DataW.Trod enc P w base (fun _ => true) held t v d p) : ∃ a n c bs, v = .slice a n c ∧ Bytes w a n c bs ∧ ∀ x ∈ bs, x < 256 := by
  obtain ⟨a1, len1, cap1, rfl⟩ := okWide_slice ht hval
  obtain ⟨fuel, hf⟩ := h
  rcases open_ints ht hq cq hf with ⟨hcs, _⟩ | ⟨a, len, cap, zs, hcs, _, hl, hm, hz, _, hcell, hw⟩
  · simp [Value.cells] at hcs
    obtain ⟨rfl, rfl, rfl⟩ := hcs
    exact ⟨none, 0, 0, [], rfl, SlR.nil_ _ _, by simp⟩
  · simp [Value.cells] at hcs
    obtain ⟨rfl, rfl, rfl⟩ := hcs
    simp only [if_true] at hz
    have hrange : ∀ z ∈ zs, 0 ≤ z ∧ z < 256 := fun z hz => by
      have := hw z hz
      simp [Lit.wf, IntKind.min, IntKind.max, IntKind.bits, IntKind.signed] at this
      omega
    have hbl : ((zs.take len1).map Int.toNat).length = len1 := by simp; omega
    refine ⟨some a, len1, cap1, (zs.take len1).map Int.toNat, rfl, ⟨by simp [natsC_length]; omega, hl, hm, fun p hp => ?_, fun h => by cases h⟩, ?_⟩
    · cases hp
      obtain ⟨pb, po, spot⟩ := a
      by_cases hc : cap1 = 0
      · refine ⟨.inr hc, fun j v hv => ?_⟩
        have := (List.getElem?_eq_some_iff.1 hv).1
        rw [natsC_length, hbl] at this
        omega
      · have h0 := hcell 0 (by omega)
        have hs : spot = none := by simpa [Addr.add] using World.cell?_spot h0
        subst hs
        refine ⟨.inl rfl, fun j v hv => ?_⟩
        have hj : j < len1 := by have := (List.getElem?_eq_some_iff.1 hv).1; rw [natsC_length, hbl] at this; exact this
        have h1 := hcell j (by omega)
        rw [add_lit] at h1
        rw [h1]
        have hzj : zs[j]? = some (zs[j]'(by omega)) := List.getElem?_eq_getElem (by omega)
        have e1 : ((zs.take len1).map Int.toNat)[j]? = some (zs[j]'(by omega)).toNat := by
          rw [List.getElem?_map, List.getElem?_take, if_pos hj, hzj]; rfl
        rw [natsC_get e1] at hv
        cases hv
        have := (hrange _ (List.getElem_mem (show j < zs.length by omega))).1
        rw [List.getD_eq_getElem?_getD, hzj]
        simp only [Option.getD_some]
        congr 2
        omega
    · intro x hx
      obtain ⟨z, hz, rfl⟩ := List.mem_map.1 hx
      have := hrange z (List.mem_of_mem_take hz)
      omega
/-- An array of ints that came in. -/
theorem ints_in {t e n : Nat} {b0 : Nat} {v : Value} {d : DataW H} {p : List MemPlace} (ht : P.underlying t = some (.array n e)) (he : P.underlying e = some (.int .i64)) (ce : P.cellsOf e = 1) (ct : P.cellsOf t = n)
    (hval : Value.okWide P w .any b0 t v) (h : DataW.Trod enc P w base (fun _ => true) held t v d p) : ∃ zs : List Int, zs.length = n ∧ v = .agg (intsC .i64 zs).toArray ∧ ∀ z ∈ zs, -9223372036854775808 ≤ z ∧ z ≤ 9223372036854775807 := by
  obtain ⟨cs, rfl, hsz⟩ : ∃ cs, v = .agg cs ∧ cs.size = P.cellsOf t := by
    unfold Value.okWide at hval
    rw [ht] at hval
    obtain ⟨cs, e, hs, _⟩ := hval
    exact ⟨cs, e, hs⟩
  rw [ct] at hsz
  obtain ⟨fuel, hf⟩ := h
  obtain ⟨xs, m, rfl, hx, hlen, hn, hel⟩ := DataW.trod_array ht hf
  simp only [Value.cells] at hlen hel
  have each : ∀ i, i < n → ∃ z : Int, cs.toList[i]? = some (.int .i64 z) ∧ -9223372036854775808 ≤ z ∧ z ≤ 9223372036854775807 := by
    intro i hi
    have h1 := hel i hi
    rw [ce, Nat.mul_one] at h1
    have hxi : xs[i]? = some xs[i] := List.getElem?_eq_getElem (by omega)
    rw [hxi] at h1
    obtain ⟨z, e1, _, hw⟩ := DataW.trod_int he h1
    refine ⟨z, ?_, ?_⟩
    · have : ((cs.toList.drop i).take 1)[0]? = some (.int .i64 z) := by rw [e1]; rfl
      simpa using this
    · simp [Lit.wf, IntKind.min, IntKind.max, IntKind.bits, IntKind.signed] at hw
      omega
  let f : Value → Int := fun | .int _ z => z | _ => 0
  refine ⟨cs.toList.map f, by simp [hsz], ?_, ?_⟩
  · congr 1
    rw [← Array.toList_inj]
    simp only [intsC, List.map_map]
    refine List.ext_getElem? fun i => ?_
    by_cases hi : i < n
    · obtain ⟨z, hz, _⟩ := each i hi
      rw [List.getElem?_map, hz]; rfl
    · rw [List.getElem?_eq_none (by simp [hsz]; omega), List.getElem?_eq_none (by simp [hsz]; omega)]
  · intro z hz
    obtain ⟨u, hu, rfl⟩ := List.mem_map.1 hz
    obtain ⟨i, hi⟩ := List.getElem?_of_mem hu
    have hin : i < n := by have := (List.getElem?_eq_some_iff.1 hi).1; simp [hsz] at this; exact this
    obtain ⟨z, hz, hr⟩ := each i hin
    rw [hz] at hi; cases hi
    exact hr
end
end Go.Proofs.YtmmijecookbajaaDoor
