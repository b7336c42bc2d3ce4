/- The listed variables and slices of slices of bytes that came in, opened for the walks. Conditions: none beyond those in the theorems. By an AI agent. -/
import Derived.Test.YtmmijecookbajaaDoorHist
import Derived.Test.YtmmijecookbajaaDoorRows
import Derived.ProofKit
import Derived.LaidMore
import Derived.OpenShut
import Derived.Stop.Joined
import Derived.Deep.Matrix
import Derived.Carry
namespace Go.Proofs.YtmmijecookbajaaDoor
open Go Go.RowKit Go.ChangeShapes Go.WideShapes Go.ChangeAt

section
variable {H : Type} {enc : TypeId × Value → H} {P : Program} {w : World} {base : Nat} {sp : Nat → Bool} {held : Bool}
/-- An array of numbers that is known whole. -/
theorem laid_arr {t e n fuel : Nat} {k : IntKind} {cs : List Value} {p : List MemPlace} {l : List Nat} (ht : P.underlying t = some (.array n e)) (he : P.underlying e = some (.int k)) (ce : P.cellsOf e = 1) (ct : P.cellsOf t = n) (hl : l.length = n)
    (h : DataW.trod enc P w base sp held fuel t cs = some (.agg (l.map fun (z : Nat) => .lit (.int k (z : Int))), p)) : cs = natsC k l := by
  obtain ⟨xs, m, rfl, hx, hlen, hn, hel⟩ := DataW.trod_array ht h
  simp only [Prod.mk.injEq, DataW.agg.injEq] at hx
  rw [ct] at hlen
  refine List.ext_getElem? fun i => ?_
  by_cases hi : i < n
  · have h1 := hel i hi
    rw [ce, Nat.mul_one] at h1
    have hxi : xs[i]? = some xs[i] := List.getElem?_eq_getElem (by omega)
    rw [hxi] at h1
    obtain ⟨z, e1, e2, _⟩ := DataW.trod_int he h1
    have e3 : cs[i]? = some (.int k z) := by
      have : ((cs.drop i).take 1)[0]? = some (.int k z) := by rw [e1]; rfl
      simpa using this
    have e4 : (xs.map (·.1))[i]? = some (.lit (.int k z)) := by rw [List.getElem?_map, hxi, e2]; rfl
    rw [← hx.1, List.getElem?_map, List.getElem?_eq_getElem (show i < l.length by omega)] at e4
    simp at e4
    rw [e3, natsC_get (List.getElem?_eq_getElem (show i < l.length by omega)), ← e4]
  · rw [List.getElem?_eq_none (by omega), List.getElem?_eq_none (by rw [natsC_length]; omega)]
/-- A slice of one number. -/
theorem laid_one {t e fuel x : Nat} {k : IntKind} {cs : List Value} {p : List MemPlace} (ht : P.underlying t = some (.slice e)) (he : P.underlying e = some (.int k)) (ce : P.cellsOf e = 1)
    (h : DataW.trod enc P w base (fun _ => true) held fuel t cs = some (.slice [.lit (.int k (x : Int))] [], p)) : ∃ b o, cs = [.slice (some ⟨b, o, none⟩) 1 1] ∧ SlR w 1 (some ⟨b, o, none⟩) 1 1 (natsC k [x]) := by
  rcases open_ints ht he ce h with ⟨_, hx⟩ | ⟨a, len, cap, zs, rfl, _, hl, hm, hz, hx, hcell, _⟩
  · simp at hx
  simp only [if_true] at hz
  simp only [Prod.mk.injEq, DataW.slice.injEq] at hx
  obtain ⟨⟨h1, h2⟩, _⟩ := hx
  have e1 : zs.take len = [(x : Int)] := by
    unfold lits at h1
    cases hzz : zs.take len with
    | nil => rw [hzz] at h1; simp at h1
    | cons y ys =>
      rw [hzz] at h1
      cases ys with
      | nil => simp at h1; rw [← h1]
      | cons => simp at h1
  have e2 : zs.drop len = [] := by simpa [lits] using h2.symm
  have e3 : zs = [(x : Int)] := by rw [← List.take_append_drop len zs, e1, e2]; rfl
  subst e3
  have hc1 : cap = 1 := by simpa using hz.symm
  subst hc1
  have hl1 : len = 1 := by
    have := congrArg List.length e2
    simp at this
    omega
  subst hl1
  have h0 := hcell 0 (by simp)
  obtain ⟨ab, ao, spot⟩ := a
  have hs : spot = none := by simpa [Addr.add] using World.cell?_spot h0
  subst hs
  refine ⟨ab, ao, rfl, by simp [natsC], Nat.le_refl _, hm, fun q hq => ?_, fun h => by cases h⟩
  cases hq
  refine ⟨.inl rfl, fun j v hv => ?_⟩
  match j, hv with
  | 0, hv =>
    simp [natsC] at hv
    subst hv
    simpa [Addr.add] using h0
  | j + 1, hv => simp [natsC] at hv
/-- Slices of bytes that came in. -/
theorem parts_in {t e q : TypeId} {b0 : Nat} {v : Value} {d : DataW H} {p : List MemPlace} (ht : P.underlying t = some (.slice e)) (he : P.underlying e = some (.slice q)) (hq : P.underlying q = some (.int .u8)) (ce : P.cellsOf e = 1) (cq : P.cellsOf q = 1)
    (hval : Value.okWide P w .any b0 t v) (h : DataW.Trod enc P w base (fun _ => true) held t v d p) : ∃ a n c bss, v = .slice a n c ∧ Parts w a n c bss := by
  obtain ⟨a1, len1, cap1, rfl⟩ := okWide_slice ht hval
  obtain ⟨fuel, hf⟩ := h
  rcases Deep.open_int_rows ht he hq ce cq hf with ⟨hcs, _⟩ | ⟨a, len, cap, A, L, C, Z, hcs, _, hl, hm, _, hr⟩
  · simp [Value.cells] at hcs
    obtain ⟨rfl, rfl, rfl⟩ := hcs
    exact ⟨none, 0, 0, [], rfl, ⟨⟨[], SlR.nil_ _ _, rfl, fun i v bs hv => by simp at hv⟩⟩⟩
  · simp [Value.cells] at hcs
    obtain ⟨rfl, rfl, rfl⟩ := hcs
    refine ⟨some a, len1, cap1, (List.range len1).map fun r => ((Z r).take (L r)).map Int.toNat, rfl, ⟨⟨(List.range len1).map fun r => .slice (A r) (L r) (C r), ⟨by simp, hl, hm, fun p hp => ?_, fun h => by cases h⟩, by simp, ?_⟩⟩⟩
    · cases hp
      obtain ⟨ab, ao, spot⟩ := a
      by_cases hc : cap1 = 0
      · refine ⟨.inr hc, fun j v hv => ?_⟩
        rw [show len1 = 0 by omega] at hv
        simp at hv
      · have h0 := (hr 0 (by omega)).1
        have hs : spot = none := by simpa [Addr.add] using World.cell?_spot h0
        subst hs
        refine ⟨.inl rfl, fun j v hv => ?_⟩
        have hj : j < len1 := by have := (List.getElem?_eq_some_iff.1 hv).1; simpa using this
        rw [List.getElem?_map, List.getElem?_range hj] at hv
        simp at hv
        subst hv
        have := (hr j (by omega)).1
        rwa [add_lit] at this
    · intro i v bs hv hbs
      have hi : i < len1 := by have := (List.getElem?_eq_some_iff.1 hv).1; simpa using this
      rw [List.getElem?_map, List.getElem?_range hi] at hv hbs
      simp only [Option.map_some, Option.some.injEq] at hv hbs
      subst hv hbs
      obtain ⟨_, hLC, hCm, hZ, hw, hn, hcell⟩ := hr i (by omega)
      have hbl : (((Z i).take (L i)).map Int.toNat).length = L i := by simp; omega
      have hrange : ∀ z ∈ Z i, 0 ≤ z ∧ z < 256 := fun z hz => by
        have := hw z hz
        simp [Lit.wf, IntKind.min, IntKind.max, IntKind.bits, IntKind.signed] at this
        omega
      refine ⟨⟨A i, C i, by rw [hbl], ⟨by simp [natsC_length], by omega, hCm, fun p hp => ?_, fun h => by have := hn h; omega⟩⟩, ?_⟩
      · obtain ⟨_, hcc⟩ := hcell p hp
        obtain ⟨pb, po, spot⟩ := p
        by_cases hc : C i = 0
        · refine ⟨.inr hc, fun j v hv => ?_⟩
          have := (List.getElem?_eq_some_iff.1 hv).1
          rw [natsC_length, hbl] at this
          omega
        · have h0 := hcc 0 (by omega)
          have hs : spot = none := by simpa [Addr.add] using World.cell?_spot h0
          subst hs
          refine ⟨.inl rfl, fun j v hv => ?_⟩
          have hj : j < L i := by have := (List.getElem?_eq_some_iff.1 hv).1; rw [natsC_length, hbl] at this; exact this
          have h1 := hcc j (by omega)
          rw [add_lit] at h1
          rw [h1]
          have hzj : (Z i)[j]? = some ((Z i)[j]'(by omega)) := List.getElem?_eq_getElem (by omega)
          have e1 : (((Z i).take (L i)).map Int.toNat)[j]? = some ((Z i)[j]'(by omega)).toNat := by
            rw [List.getElem?_map, List.getElem?_take, if_pos hj, hzj]; rfl
          rw [natsC_get e1] at hv
          cases hv
          have := (hrange _ (List.getElem_mem (show j < (Z i).length by omega))).1
          rw [List.getD_eq_getElem?_getD, hzj]
          simp only [Option.getD_some]
          congr 2
          omega
      · intro x hx
        obtain ⟨z, hz, rfl⟩ := List.mem_map.1 hx
        have := hrange z (List.mem_of_mem_take hz)
        omega
end

/-- What the listed variables give. -/
theorem of_laid {W : World} (h : laidMetH Tryd.prog [("pacioli/sha.rounds", Rows.laid_pacioli_sha_rounds), ("pacioli/sha.start", Rows.laid_pacioli_sha_start), ("pacioli/state.leafMark", Rows.laid_pacioli_state_leafMark), ("pacioli/state.forkMark", Rows.laid_pacioli_state_forkMark), ("pacioli/state.noneMark", Rows.laid_pacioli_state_noneMark)] W) : GH W.heap.size W := by
  rw [MakeChecks.laidMetH_plain _ _ _ (by kernel_rfl)] at h
  obtain ⟨ps, ⟨g0, t0, cs0, f0, p0, q0, hg0, ht0, hv0, hd0, ⟨g1, t1, cs1, f1, p1, q1, hg1, ht1, hv1, hd1, ⟨g2, t2, cs2, f2, p2, q2, hg2, ht2, hv2, hd2, ⟨g3, t3, cs3, f3, p3, q3, hg3, ht3, hv3, hd3, ⟨g4, t4, cs4, f4, p4, q4, hg4, ht4, hv4, hd4, _, _⟩, _⟩, _⟩, _⟩, _⟩, _, _⟩ := h
  obtain rfl := Option.some.inj ((show Tryd.prog.globalNamed "pacioli/sha.rounds" = some 4 by kernel_rfl).symm.trans hg0)
  obtain rfl := Option.some.inj ((show Tryd.prog.globalNamed "pacioli/sha.start" = some 3 by kernel_rfl).symm.trans hg1)
  obtain rfl := Option.some.inj ((show Tryd.prog.globalNamed "pacioli/state.leafMark" = some 2 by kernel_rfl).symm.trans hg2)
  obtain rfl := Option.some.inj ((show Tryd.prog.globalNamed "pacioli/state.forkMark" = some 0 by kernel_rfl).symm.trans hg3)
  obtain rfl := Option.some.inj ((show Tryd.prog.globalNamed "pacioli/state.noneMark" = some 1 by kernel_rfl).symm.trans hg4)
  obtain rfl := Option.some.inj ((show (Tryd.prog.globals[4]?).map (·.type) = some 83 by kernel_rfl).symm.trans ht0)
  obtain rfl := Option.some.inj ((show (Tryd.prog.globals[3]?).map (·.type) = some 73 by kernel_rfl).symm.trans ht1)
  obtain rfl := Option.some.inj ((show (Tryd.prog.globals[2]?).map (·.type) = some 47 by kernel_rfl).symm.trans ht2)
  obtain rfl := Option.some.inj ((show (Tryd.prog.globals[0]?).map (·.type) = some 47 by kernel_rfl).symm.trans ht3)
  obtain rfl := Option.some.inj ((show (Tryd.prog.globals[1]?).map (·.type) = some 47 by kernel_rfl).symm.trans ht4)
  have e0 : cs0.toList = natsC .u32 Sp.ks := laid_arr (n := 64) Tryd.underlying83 Tryd.underlying72 (by kernel_rfl) (by kernel_rfl) (by decide) hd0
  have e1 : cs1.toList = natsC .u32 Sp.h0 := laid_arr (n := 8) Tryd.underlying73 Tryd.underlying72 (by kernel_rfl) (by kernel_rfl) (by decide) hd1
  obtain ⟨b2, o2, e2, r2⟩ := laid_one (x := 2) Tryd.underlying47 Tryd.underlying5 (by kernel_rfl) hd2
  obtain ⟨b3, o3, e3, r3⟩ := laid_one (x := 3) Tryd.underlying47 Tryd.underlying5 (by kernel_rfl) hd3
  obtain ⟨b4, o4, e4, r4⟩ := laid_one (x := 4) Tryd.underlying47 Tryd.underlying5 (by kernel_rfl) hd4
  have c0 : At W 4 0 (natsC .u32 Sp.ks) := fun j v hv => by
    rw [← e0] at hv; rw [Nat.zero_add, World.var?_cell hg0 hv0 j]; simpa using hv
  have c1 : At W 3 0 (natsC .u32 Sp.h0) := fun j v hv => by
    rw [← e1] at hv; rw [Nat.zero_add, World.var?_cell hg1 hv1 j]; simpa using hv
  have c2 : W.cell? ⟨2, 0, none⟩ = some (.slice (some ⟨b2, o2, none⟩) 1 1) := by rw [World.var?_cell hg2 hv2 0, Array.eq_one_of_toList e2]; rfl
  have c3 : W.cell? ⟨0, 0, none⟩ = some (.slice (some ⟨b3, o3, none⟩) 1 1) := by rw [World.var?_cell hg3 hv3 0, Array.eq_one_of_toList e3]; rfl
  have c4 : W.cell? ⟨1, 0, none⟩ = some (.slice (some ⟨b4, o4, none⟩) 1 1) := by rw [World.var?_cell hg4 hv4 0, Array.eq_one_of_toList e4]; rfl
  have lt1 : ∀ {b o : Nat} {x : Nat}, SlR W 1 (some ⟨b, o, none⟩) 1 1 (natsC .u8 [x]) → b < W.heap.size := fun {b o x} r => World.block_lt_of_cell? W _ (r.elem1 (i := 0) rfl)
  have mk : ∀ {g b o x : Nat}, W.cell? ⟨g, 0, none⟩ = some (.slice (some ⟨b, o, none⟩) 1 1) → SlR W 1 (some ⟨b, o, none⟩) 1 1 (natsC .u8 [x]) → Mark W.heap.size W g x := fun {g b o x} c r => ⟨⟨_, _, c, r, fun p hp => by cases hp; exact lt1 r⟩, World.block_lt_of_cell? W _ c⟩
  exact ⟨⟨c1, c0, World.block_lt_of_cell? W _ (c1 0 _ rfl), World.block_lt_of_cell? W _ (c0 0 _ rfl)⟩, mk c2 r2, mk c3 r3, mk c4 r4⟩
end Go.Proofs.YtmmijecookbajaaDoor
