/- Part GlueS of the proofs on this seat. Conditions: none beyond those in the theorems. By an AI agent. -/
import Derived.SizedLaws
import Derived.Test.YtmmijecookbajaaDoorGlueB
import Derived.Test.YtmmijecookbajaaDoorStA
namespace Go.Proofs.YtmmijecookbajaaDoor
open Go Go.RowKit Go.ChangeShapes Go.WideShapes Go.ChangeAt

section
variable {H : Type} {enc : TypeId × Value → H} {w : World} {base : Nat} {sp : Nat → Bool} {held : Bool}
/-- One int. -/
theorem lit_of {k : IntKind} {t fuel : Nat} {cs : List Value} {x} {xs : List (DataW H × List MemPlace)} {i : Nat} (ht : Tryd.prog.underlying t = some (.int k)) (hx : i < xs.length) (h : DataW.trod enc Tryd.prog w base sp held fuel t ((cs.drop x).take 1) = xs[i]?) : ∃ z : Int, cs[x]? = some (.int k z) ∧ k.min ≤ z ∧ z ≤ k.max := by
  rw [List.getElem?_eq_getElem hx] at h
  obtain ⟨z, e1, _, hw⟩ := DataW.trod_int ht h
  refine ⟨z, ?_, ?_⟩
  · have : ((cs.drop x).take 1)[0]? = some (.int k z) := by rw [e1]; rfl
    simpa using this
  · simpa [Lit.wf] using hw
theorem num_of {fuel : Nat} {cs : List Value} {x} (h : DataW.trod enc Tryd.prog w base sp held fuel 24 cs = some x) : ∃ m : Nm, NOk m ∧ cs = numC m := by
  obtain ⟨xs, n, _, _, hl, hn, he⟩ := DataW.trod_struct Tryd.underlying24 h
  have hl2 : cs.length = 2 := hl.trans (by kernel_rfl)
  have hn2 : xs.length = 2 := hn
  have h0 : DataW.trod enc Tryd.prog w base sp held n 22 ((cs.drop 0).take 1) = xs[0]? := (show Tryd.prog.cellsOf 22 = 1 by kernel_rfl) ▸ he 0 _ rfl
  have h1 : DataW.trod enc Tryd.prog w base sp held n 22 ((cs.drop 1).take 1) = xs[1]? := (show Tryd.prog.cellsOf 22 = 1 by kernel_rfl) ▸ he 1 _ rfl
  obtain ⟨z0, e0, l0, u0⟩ := lit_of Tryd.underlying22 (by omega) h0
  obtain ⟨z1, e1, l1, u1⟩ := lit_of Tryd.underlying22 (by omega) h1
  simp [IntKind.min, IntKind.max, IntKind.bits, IntKind.signed] at l0 u0 l1 u1
  refine ⟨(z0.toNat, z1.toNat), ⟨by simp only; omega, by simp only; omega⟩, ?_⟩
  match cs, hl2 with
  | [a, b], _ =>
    simp at e0 e1
    subst e0 e1
    simp only [numC]
    rw [Int.toNat_of_nonneg l0, Int.toNat_of_nonneg l1]
theorem num_at {fuel : Nat} {cs : List Value} {x} {xs : List (DataW H × List MemPlace)} {i : Nat} (hx : i < xs.length) (h : DataW.trod enc Tryd.prog w base sp held fuel 24 ((cs.drop x).take 2) = xs[i]?) : ∃ m : Nm, NOk m ∧ (cs.drop x).take 2 = numC m := by
  rw [List.getElem?_eq_getElem hx] at h
  exact num_of h
theorem hash_at {fuel : Nat} {cs : List Value} {x} {xs : List (DataW H × List MemPlace)} {i : Nat} (hx : i < xs.length) (h : DataW.trod enc Tryd.prog w base sp held fuel 26 ((cs.drop x).take 32) = xs[i]?) : ∃ m : List Nat, HOk m ∧ (cs.drop x).take 32 = natsC .u8 m := by
  rw [List.getElem?_eq_getElem hx] at h
  generalize (cs.drop x).take 32 = cs at h
  obtain ⟨ys, m, _, _, hlen, hn, hel⟩ := DataW.trod_array Tryd.underlying26 h
  have hl : cs.length = 32 := hlen.trans (by kernel_rfl)
  have each : ∀ i, i < 32 → ∃ z : Int, cs[i]? = some (.int .u8 z) ∧ 0 ≤ z ∧ z < 256 := by
    intro i hi
    have h1 := hel i hi
    rw [show Tryd.prog.cellsOf 5 = 1 by kernel_rfl, Nat.mul_one] at h1
    obtain ⟨z, e, l, u⟩ := lit_of Tryd.underlying5 (by omega) h1
    simp [IntKind.min, IntKind.max, IntKind.bits, IntKind.signed] at l u
    exact ⟨z, e, l, by omega⟩
  let f : Value → Nat := fun | .int _ z => z.toNat | _ => 0
  refine ⟨cs.map f, ⟨by simp [hl], fun v hv => ?_⟩, ?_⟩
  · obtain ⟨u, hu, rfl⟩ := List.mem_map.1 hv
    obtain ⟨i, hi⟩ := List.getElem?_of_mem hu
    obtain ⟨z, hz, h0, h1⟩ := each i (by have := (List.getElem?_eq_some_iff.1 hi).1; omega)
    rw [hz] at hi; cases hi
    show z.toNat < 256
    omega
  · refine List.ext_getElem? fun i => ?_
    by_cases hi : i < 32
    · obtain ⟨z, hz, h0, h1⟩ := each i hi
      have e : (cs.map f)[i]? = some z.toNat := by rw [List.getElem?_map, hz]; rfl
      rw [hz, natsC_get e, Int.toNat_of_nonneg h0]
    · rw [List.getElem?_eq_none (by omega), List.getElem?_eq_none (by rw [natsC_length, List.length_map]; omega)]
theorem acc_of {fuel : Nat} {cs : List Value} {x} (h : DataW.trod enc Tryd.prog w base sp held fuel 28 cs = some x) : ∃ r : Ac, r.Num ∧ cs = r.C := by
  obtain ⟨xs, n, _, _, hl, hn, he⟩ := DataW.trod_struct Tryd.underlying28 h
  have hl2 : cs.length = 46 := hl.trans (by kernel_rfl)
  have hn2 : xs.length = 10 := hn
  have h0 : DataW.trod enc Tryd.prog w base sp held n 24 ((cs.drop 0).take 2) = xs[0]? := (show Tryd.prog.cellsOf 24 = 2 by kernel_rfl) ▸ he 0 _ rfl
  have h1 : DataW.trod enc Tryd.prog w base sp held n 3 ((cs.drop 2).take 1) = xs[1]? := (show Tryd.prog.cellsOf 3 = 1 by kernel_rfl) ▸ he 1 _ rfl
  have h2 : DataW.trod enc Tryd.prog w base sp held n 3 ((cs.drop 3).take 1) = xs[2]? := (show Tryd.prog.cellsOf 3 = 1 by kernel_rfl) ▸ he 2 _ rfl
  have h3 : DataW.trod enc Tryd.prog w base sp held n 24 ((cs.drop 4).take 2) = xs[3]? := (show Tryd.prog.cellsOf 24 = 2 by kernel_rfl) ▸ he 3 _ rfl
  have h4 : DataW.trod enc Tryd.prog w base sp held n 24 ((cs.drop 6).take 2) = xs[4]? := (show Tryd.prog.cellsOf 24 = 2 by kernel_rfl) ▸ he 4 _ rfl
  have h5 : DataW.trod enc Tryd.prog w base sp held n 24 ((cs.drop 8).take 2) = xs[5]? := (show Tryd.prog.cellsOf 24 = 2 by kernel_rfl) ▸ he 5 _ rfl
  have h6 : DataW.trod enc Tryd.prog w base sp held n 24 ((cs.drop 10).take 2) = xs[6]? := (show Tryd.prog.cellsOf 24 = 2 by kernel_rfl) ▸ he 6 _ rfl
  have h7 : DataW.trod enc Tryd.prog w base sp held n 3 ((cs.drop 12).take 1) = xs[7]? := (show Tryd.prog.cellsOf 3 = 1 by kernel_rfl) ▸ he 7 _ rfl
  have h8 : DataW.trod enc Tryd.prog w base sp held n 3 ((cs.drop 13).take 1) = xs[8]? := (show Tryd.prog.cellsOf 3 = 1 by kernel_rfl) ▸ he 8 _ rfl
  have h9 : DataW.trod enc Tryd.prog w base sp held n 26 ((cs.drop 14).take 32) = xs[9]? := (show Tryd.prog.cellsOf 26 = 32 by kernel_rfl) ▸ he 9 _ rfl
  obtain ⟨m0, k0, e0⟩ := num_at (by omega) h0
  obtain ⟨z1, e1, _, _⟩ := lit_of Tryd.underlying3 (by omega) h1
  obtain ⟨z2, e2, _, _⟩ := lit_of Tryd.underlying3 (by omega) h2
  obtain ⟨m3, k3, e3⟩ := num_at (by omega) h3
  obtain ⟨m4, k4, e4⟩ := num_at (by omega) h4
  obtain ⟨m5, k5, e5⟩ := num_at (by omega) h5
  obtain ⟨m6, k6, e6⟩ := num_at (by omega) h6
  obtain ⟨z7, e7, _, _⟩ := lit_of Tryd.underlying3 (by omega) h7
  obtain ⟨z8, e8, _, _⟩ := lit_of Tryd.underlying3 (by omega) h8
  obtain ⟨m9, k9, e9⟩ := hash_at (by omega) h9
  refine ⟨⟨m0, z1, z2, m3, m4, m5, m6, z7, z8, m9⟩, ⟨k0, k3, k4, k5, k6, k9⟩, ?_⟩
  clear h0 h1 h2 h3 h4 h5 h6 h7 h8 h9 h he
  match cs, hl2 with
  | a0 :: a1 :: a2 :: a3 :: a4 :: a5 :: a6 :: a7 :: a8 :: a9 :: a10 :: a11 :: a12 :: a13 :: rest, hl2 =>
    have hr : rest.length = 32 := by simpa using hl2
    have e9' : rest = natsC .u8 m9 := by
      rw [← e9]; simp [List.take_of_length_le (Nat.le_of_eq hr)]
    simp [numC] at e0 e1 e2 e3 e4 e5 e6 e7 e8
    obtain ⟨rfl, rfl⟩ := e0
    obtain ⟨rfl, rfl⟩ := e3
    obtain ⟨rfl, rfl⟩ := e4
    obtain ⟨rfl, rfl⟩ := e5
    obtain ⟨rfl, rfl⟩ := e6
    subst e1 e2 e7 e8 e9'
    rfl
/-- A number that came in. -/
theorem num_in {b0 : Nat} {v : Value} {d : DataW H} {p : List MemPlace} (hval : Value.okWide Tryd.prog w .any b0 24 v) (h : DataW.Trod enc Tryd.prog w base sp held 24 v d p) : ∃ x : Nm, v = nv x ∧ NOk x := by
  obtain ⟨cs, rfl⟩ : ∃ cs, v = .agg cs := by
    unfold Value.okWide at hval
    rw [Tryd.underlying24] at hval
    obtain ⟨cs, e, _⟩ := hval
    exact ⟨cs, e⟩
  obtain ⟨fuel, hf⟩ := h
  obtain ⟨r, h1, h2⟩ := num_of hf
  refine ⟨r, ?_, h1⟩
  simp only [Value.cells] at h2
  rw [nv, ← h2]
/-- An account that came in. -/
theorem acc_in {b0 : Nat} {v : Value} {d : DataW H} {p : List MemPlace} (hval : Value.okWide Tryd.prog w .any b0 28 v) (h : DataW.Trod enc Tryd.prog w base sp held 28 v d p) : ∃ r : Ac, v = av r ∧ r.Num := by
  obtain ⟨cs, rfl⟩ : ∃ cs, v = .agg cs := by
    unfold Value.okWide at hval
    rw [Tryd.underlying28] at hval
    obtain ⟨cs, e, _⟩ := hval
    exact ⟨cs, e⟩
  obtain ⟨fuel, hf⟩ := h
  obtain ⟨r, h1, h2⟩ := acc_of hf
  refine ⟨r, ?_, h1⟩
  simp only [Value.cells] at h2
  rw [av, ← h2]
theorem acs_at {l : List Ac} (h : ∀ r ∈ l, r.Num) {i : Nat} {x : Ac} (hx : l[i]? = some x) : ((l.flatMap Ac.C).drop (i * 46)).take 46 = x.C := by
  have hi : i < l.length := (List.getElem?_eq_some_iff.1 hx).1
  have hxe : l[i] = x := by rw [List.getElem?_eq_getElem hi] at hx; exact Option.some.inj hx
  have hxl := Ac.len (h x (List.mem_of_getElem? hx))
  rw [acs_drop h, List.drop_eq_getElem_cons hi, List.flatMap_cons, hxe, List.take_append, List.take_of_length_le (by omega), show 46 - x.C.length = 0 by omega, List.take_zero, List.append_nil]
/-- Accounts that came in. -/
theorem accs_in {b0 : Nat} {v : Value} {d : DataW H} {p : List MemPlace} (hval : Value.okWide Tryd.prog w .any b0 38 v) (h : DataW.Trod enc Tryd.prog w base (fun _ => true) held 38 v d p) : ∃ a n c ls, v = .slice a n c ∧ AcR w a n c ls ∧ (n = 0 ∨ ∃ e s, d = .slice e s ∧ e.length = n) := by
  obtain ⟨a1, len1, cap1, rfl⟩ := okWide_slice Tryd.underlying38 hval
  obtain ⟨fuel, hf⟩ := h
  rcases DataW.trod_slice Tryd.underlying38 hf with ⟨hcs, _⟩ | ⟨a, len, cap, elems, rest, n, _, hcs, hdx, _, hl, hm, hen, hel, hrs, _⟩
  · simp [Value.cells] at hcs
    obtain ⟨rfl, rfl, rfl⟩ := hcs
    exact ⟨none, 0, 0, [], rfl, ⟨SlR.nil_ _ _, rfl, by simp⟩, .inl rfl⟩
  · simp [Value.cells] at hcs
    obtain ⟨rfl, rfl, rfl⟩ := hcs
    have he : ∀ i, i < len1 → ∃ r : Ac, r.Num ∧ ∀ j v, r.C[j]? = some v → w.cell? ((a.add (i * 46)).add j) = some v := by
      intro i hi
      have h1 := hel i hi
      rw [List.getElem?_eq_getElem (show i < elems.length by omega), show Tryd.prog.cellsOf 28 = 46 by kernel_rfl] at h1
      obtain ⟨cs, hc, ht⟩ := Option.bind_eq_some_iff.1 h1
      obtain ⟨r, hr, rfl⟩ := acc_of ht
      obtain ⟨_, _, hcell⟩ := World.cells?_some hc
      refine ⟨r, hr, fun j v hv => ?_⟩
      have hj : j < 46 := by have := (List.getElem?_eq_some_iff.1 hv).1; rwa [Ac.len hr] at this
      have := hcell j hj
      rw [hv] at this
      exact this
    obtain ⟨f, hnum, hf⟩ : ∃ f : Nat → Ac, (∀ i, (f i).Num) ∧ ∀ i, i < len1 → (f i).Num ∧ ∀ j v, (f i).C[j]? = some v → w.cell? ((a.add (i * 46)).add j) = some v := by
      have z : NOk (0, 0) := by unfold NOk; simp
      refine ⟨fun i => if h : i < len1 then (he i h).choose else ⟨(0, 0), 0, 0, (0, 0), (0, 0), (0, 0), (0, 0), 0, 0, List.replicate 32 0⟩, fun i => ?_, fun i hi => ?_⟩
      · by_cases hi : i < len1
        · simp only [dif_pos hi]
          exact (he i hi).choose_spec.1
        · simp only [dif_neg hi]
          exact ⟨z, z, z, z, z, by simp, fun x hx => by simp at hx; omega⟩
      · simp only [dif_pos hi]
        exact (he i hi).choose_spec
    have hmn : ∀ l : List Nat, ∀ r ∈ l.map f, r.Num := fun l r hr => by
      obtain ⟨i, _, rfl⟩ := List.mem_map.1 hr
      exact hnum i
    have hfl : ∀ l : List Nat, ((l.map f).flatMap Ac.C).length = l.length * 46 := fun l => by rw [acs_len (hmn l)]; simp
    refine ⟨some a, len1, cap1, (List.range len1).map f, rfl, ⟨⟨?_, hl, hm, fun p hp => ?_, fun h => by cases h⟩, by simp, ?_⟩, .inr ⟨_, _, congrArg Prod.fst hdx, by rw [List.length_map]; exact hen⟩⟩
    · rw [hfl]; simp
    · cases hp
      obtain ⟨ab, ao, spot⟩ := a
      by_cases hc : cap1 = 0
      · refine ⟨.inr hc, fun j v hv => ?_⟩
        rw [show len1 = 0 by omega] at hv
        simp at hv
      · refine ⟨.inl ?_, fun j v hv => ?_⟩
        · by_cases h0 : len1 = 0
          · obtain ⟨hrl, hrc⟩ := hrs rfl
            have h1 := hrc 0 (by omega)
            rw [List.getElem?_eq_getElem (show 0 < rest.length by omega), show Tryd.prog.cellsOf 28 = 46 by kernel_rfl] at h1
            obtain ⟨cs, hc, ht⟩ := Option.bind_eq_some_iff.1 h1
            obtain ⟨r, hr, rfl⟩ := acc_of ht
            obtain ⟨_, _, hcell⟩ := World.cells?_some hc
            have := hcell 0 (by omega)
            rw [h0] at this
            simpa [Addr.add] using World.cell?_spot (this.trans rfl)
          · have := (hf 0 (by omega)).2 0 _ rfl
            simpa [Addr.add] using World.cell?_spot this
        · have hj : j < len1 * 46 := by have := (List.getElem?_eq_some_iff.1 hv).1; rw [hfl] at this; simpa using this
          have hi : j / 46 < len1 := by omega
          have hsp : spot = none := by
            have := (hf 0 (by omega)).2 0 _ rfl
            simpa [Addr.add] using World.cell?_spot this
          subst hsp
          have e1 : ((List.range len1).map f)[j / 46]? = some (f (j / 46)) := by rw [List.getElem?_map, List.getElem?_range hi]; rfl
          have e2 := acs_at (hmn _) e1
          have e3 : (f (j / 46)).C[j % 46]? = some v := by
            rw [← e2, List.getElem?_take, if_pos (Nat.mod_lt _ (by decide)), List.getElem?_drop, show j / 46 * 46 + j % 46 = j by omega]
            exact hv
          have := (hf _ hi).2 _ _ e3
          rw [add_lit, add_lit] at this
          rwa [show ao + j / 46 * 46 + j % 46 = ao + j by omega] at this
    · intro r hr
      obtain ⟨i, hi, rfl⟩ := List.mem_map.1 hr
      exact (hf i (List.mem_range.1 hi)).1
end
end Go.Proofs.YtmmijecookbajaaDoor
