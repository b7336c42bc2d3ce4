/- Part ForgedSCard of the proofs on this seat. Conditions: none beyond those in the theorems. By an AI agent. -/
import Derived.Test.YtmmijecookbajaaDoorSt26
import Derived.Test.YtmmijecookbajaaDoorGlueS
import Derived.Test.YtmmijecookbajaaDoorCardKit
namespace Go.Proofs.YtmmijecookbajaaDoor
open Go Go.RowKit Go.ChangeShapes Go.WideShapes Go.ChangeAt

set_option maxRecDepth 100000 in
theorem stateForged_lifted (os : Os) (started : os.Started) (H : Type) (enc : TypeId × Value → H) :
    ReturnsInHanded {} Tryd.checked os 7 .any (fun w args => (Rows.stateForgedSpec.pre enc Tryd.prog Tryd.f7 [] false w args ∧ laidMetH Tryd.prog laidL w) ∧ sizedMet enc Tryd.prog Tryd.f7 (OpenSpec.ofChange Rows.stateForgedSpec) false w args)
      (Rows.stateForgedSpec.post enc Tryd.prog Tryd.f7 false true false false) := by
  refine returnsInHanded_of_change_and (C := Tryd.checked) (X := fun w _ => laidMetH Tryd.prog laidL w) (fun _ _ _ hh h => h.of_heap hh) own started (by kernel_rfl) Tryd.func7
    (ChangeSpec.witness_shaped (enc := enc) (C := Tryd.checked) (os := os) (X := fun w _ => laidMetH Tryd.prog laidL w) false (World.doorLaid Tryd.prog 400 os) #[.slice none 0 0, .agg #[.int .u64 0, .int .u64 0], .agg #[.int .i64 0, .int .i64 0]] 8 rfl (World.shaped_of_RefB (by kernel_rfl) (by kernel_rfl)) (by kernel_rfl) (by kernel_rfl) (by kernel_rfl) (door_met os _)) ?_
  intro W base args ds gs before hval0 hW _ hz hL _
  have hval : ∀ (j : Nat) t v, Tryd.f7.params[j]? = some t → args[j]? = some v → Value.okWide Tryd.prog W .any base t v := hval0
  have hW' := hW
  have hlt := hW'.lt
  obtain ⟨p, q, hA0, hV, rfl, hfz, hnd⟩ := hW
  have hA : DataW.TrodAll enc Tryd.prog W 0 (fun _ => true) true Tryd.f7.params.toList args.toList ds p := hA0
  rw [Tryd.params7] at hA hval hz
  obtain ⟨v0, v1, v2, d0, d1, d2, p0, p1, p2, rfl, rfl, rfl, h0, h1, h2⟩ := trodAll_three hA
  obtain ⟨rfl, rfl⟩ := trodVars_none hV
  obtain ⟨a0, n0, c0, ls0, rfl, hR0, hS0⟩ := accs_in (hval 0 38 v0 rfl rfl) h0
  have hn0 : n0 * 144 ≤ 140737488355328 := by
    rcases hS0 with rfl | ⟨e, s, rfl, rfl⟩
    · omega
    · have h1 : (e.length + s.length) * Tryd.prog.bytesOf 28 ≤ reachBytes := sized_slice hz (j := 0) (t := 38) rfl rfl Tryd.underlying38
      rw [show Tryd.prog.bytesOf 28 = 144 by kernel_rfl] at h1
      have h2 := reachBytes_lt
      omega
  obtain ⟨r1, rfl, hN1⟩ := num_in (hval 1 24 v1 rfl rfl) h1
  obtain ⟨zs2, hz2, rfl, hw2⟩ := ints_in Tryd.underlying49 Tryd.underlying3 (by kernel_rfl) (by kernel_rfl) (hval 2 49 v2 rfl rfl) h2
  refine Calls.mono (forgedS_calls W.heap.size ls0 a0 n0 c0 r1 zs2 W (of_laid hL) (Nat.le_refl _) hR0 hn0 hN1 hz2 hw2) fun e W' ⟨v, he, hv, hX⟩ => ⟨v, he, ?_⟩
  subst hv
  have hb := hX.below
  exact ⟨_, [], _, [], _, [], hW', trodAll_mk1 (shut_bool Tryd.underlying4 _), trodAll_mk3 (Below.trod laid_out (by kernel_rfl) (of_decide_eq_true (by kernel_rfl)) h0 hb (fun x hx => hlt x (by simp [hx]))) (Below.trod laid_out (by kernel_rfl) (of_decide_eq_true (by kernel_rfl)) h1 hb (fun x hx => hlt x (by simp [hx]))) (Below.trod laid_out (by kernel_rfl) (of_decide_eq_true (by kernel_rfl)) h2 hb (fun x hx => hlt x (by simp [hx]))), hV, hb.frame _, fun h => by cases h⟩
theorem stateForged_holds : Rows.StateForgedSaid :=
  OpenClaim.holds_of_wide 7 Tryd.f7 rfl rfl rfl rfl rfl rfl rfl ⟨rfl, rfl, rfl, rfl, rfl⟩ rfl rfl rfl rfl rfl (by kernel_rfl) Tryd.func7 (by kernel_rfl)
    (of_decide_eq_true (by kernel_rfl)) (by unfold Func.isWrapper; first | (rw [if_pos (by decide +kernel)]; kernel_rfl) | (rw [if_neg (by decide +kernel)]; exact ⟨rfl, rfl⟩))
    (fun os started H enc _ => stateForged_lifted os started H enc)
theorem stateForged_card : Rows.StateForgedCardSaid :=
  Claim7.holds_tied_plain_at .later [] [.data, .data, .widerDeep, .widerDeep, .widerDeep] true (true, "a32ee5d1c437a893414afafa3b0a785b340599c2843adc1becb3563f8b9d6b5b") false
    stateForged_holds (fun _ h => by cases h) (by kernel_rfl) (fun _ h => by cases h) stateForged_row_tie rfl ⟨rfl, rfl⟩ (by kernel_rfl) rfl
    (fun f fn hf hfn => by
      obtain rfl : f = 7 := Option.some.inj ((show Tryd.prog.funcNamed "pacioli/paciolilaw07.StateForged" = some 7 by kernel_rfl).symm.trans hf) |>.symm
      obtain rfl : fn = Tryd.f7 := (Option.some.inj (Tryd.func7.symm.trans hfn)).symm
      exact ⟨by kernel_rfl, fun j t ht => by
        rw [Tryd.params7] at ht
        have hm : t ∈ [38, 24, 49] := by simpa using Array.mem_of_getElem? ht
        have hall : ([38, 24, 49].all fun u => !Tryd.prog.wantsStandIn u) = true := by kernel_rfl
        exact (show Tryd.prog.wantsStandIn t = false by simpa using List.all_eq_true.1 hall t hm)⟩)
    (by kernel_rfl)
#print axioms stateForged_card
end Go.Proofs.YtmmijecookbajaaDoor
