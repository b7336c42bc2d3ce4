/- Part CM2 of the proofs on this seat. Conditions: none beyond those in the theorems. By an AI agent. -/
import Derived.Test.YtmmijecookbajaaDoorCM
import Derived.Carry
namespace Go.Proofs.YtmmijecookbajaaDoor
open Go Go.RowKit

/-- Bytes as a string. -/
def bstr (bs : List Nat) : ByteArray := ⟨(bs.map UInt8.ofNat).toArray⟩
theorem bstr_inj {x y : List Nat} (hx : ∀ v ∈ x, v < 256) (hy : ∀ v ∈ y, v < 256) (h : bstr x = bstr y) : x = y := by
  have h1 : x.map UInt8.ofNat = y.map UInt8.ofNat := by
    unfold bstr at h
    simpa using h
  have h2 : (x.map UInt8.ofNat).map UInt8.toNat = (y.map UInt8.ofNat).map UInt8.toNat := by rw [h1]
  have key : ∀ z : List Nat, (∀ v ∈ z, v < 256) → (z.map UInt8.ofNat).map UInt8.toNat = z := by
    intro z hz
    rw [List.map_map]
    conv => rhs; rw [← List.map_id z]
    refine List.map_congr_left fun v hv => ?_
    have := hz v hv
    simp [UInt8.toNat_ofNat']; omega
  rwa [key x hx, key y hy] at h2

section
variable {n : Nat} {ρ : Env} {w : World} {ops : List Oper} {N : Env → World → Prop} {rest : List Oper} {ty : TypeId} {pos : String} {af : Array Edge} {g : Option (Nat × Bool)} {d : Nat} {x y z : Operand}
theorem s_makeMap (hw : wantE ops ρ g = some true) (hd : Nat.blt d n = true) (k : ∀ b w', b = w.heap.size → w'.heap.size = b + 1 → MapH w' b [] → Chg w w' [] → wpL Tryd.prog n ops N rest ((d, .map (some b)) :: ρ) w') :
    wpL Tryd.prog n ops N (⟨some d, .makeMap 67 none, ty, pos, af, g⟩ :: rest) ρ w := by
  refine s_val hw hd (w' := w.alloc (.map #[] 0)) (fun ev h => ?_) (k _ _ rfl (by simp) ⟨⟨#[], 0, by rw [heap_alloc_new], rfl⟩, by simp⟩ (chg_alloc w _))
  have := run_makeMap (P := Tryd.prog) 67 w
  simp [execOp, this]
theorem runs_lookup {v : Value} {b : Nat} {h : List Nat} (hx : ev? ρ x = some (.map (some b))) (hy : ev? ρ y = some (hv h)) (hr : (Instr.lookup 67 (.map (some b)) (hv h) true).run Tryd.prog w = .ok v w) :
    Runs Tryd.prog ρ (.lookup 67 x y true) ty w v w := fun ev he => by
  simp only [execOp, he _ _ hx, he _ _ hy, Sem.run_bind, hr, Result.andThen_ok, Sem.run_pure]
theorem s_mapUpdate {b : Nat} {ps : List (List Nat × ByteArray)} {h : List Nat} {s : ByteArray} (hw : wantE ops ρ g = some true) (hx : ev? ρ x = some (.map (some b))) (hy : ev? ρ y = some (hv h)) (hz : ev? ρ z = some (.string s)) (M : MapH w b ps) (ok : HOk h) (hsame : ∀ p ∈ ps, p.1 = h → p.2 = s)
    (k : ∀ w' ps', Chg w w' [b] → MapH w' b ps' → (∀ p, p ∈ ps' ↔ p ∈ ps ∨ p = (h, s)) → wpL Tryd.prog n ops N rest ρ w') :
    wpL Tryd.prog n ops N (⟨none, .mapUpdate 67 x y z, ty, pos, af, g⟩ :: rest) ρ w := by
  obtain ⟨w', hr, hX, ps', hM, hp⟩ := run_update M ok s hsame
  refine s_unit hw (fun ev he => ?_) (k w' ps' hX hM hp)
  simp [execOp, he _ _ hx, he _ _ hy, he _ _ hz, hr]
theorem runs_str {a : Option Addr} {m c : Nat} {bs : List Nat} (hx : ev? ρ x = some (.slice a m c)) (hb : Bytes w a m c bs) (hl : ∀ v ∈ bs, v < 256) : Runs Tryd.prog ρ (.convert 47 9 x) ty w (.string (bstr bs)) w := fun ev he => by
  have hlen := hb.length
  have hr : (convert 47 9 (.slice a m c)).run Tryd.prog w = .ok (.string (bstr bs)) w := by
    cases a with
    | none =>
      obtain ⟨rfl, rfl⟩ := hb.nil rfl
      rw [List.eq_nil_of_length_eq_zero hlen, run_convert_bytes_string w 47 9 5 none 0 0 Tryd.underlying47 Tryd.underlying5 Tryd.underlying9]; rfl
    | some p =>
      have h := run_convert_bytes_back (P := Tryd.prog) w 47 9 5 p c (bs.map UInt8.ofNat) Tryd.underlying47 Tryd.underlying5 Tryd.underlying9 (fun j hj => by
        obtain ⟨hs, hat⟩ := hb.cells p rfl
        simp only [List.length_map] at hj
        have hcpos : c ≠ 0 := by have := hb.le; omega
        obtain ⟨pb, po, ps⟩ := p
        have hs := hs.resolve_right hcpos
        simp only at hs hat
        subst hs
        rw [add_lit]
        have hj2 : bs[j]? = some bs[j] := List.getElem?_eq_getElem hj
        rw [hat j _ (natsC_get hj2)]
        have := hl bs[j] (List.getElem_mem hj)
        simp [UInt8.toNat_ofNat']; omega)
      rw [List.length_map, hlen] at h
      exact h
  simp [execOp, he _ _ hx, hr]
theorem str_beq (s t : ByteArray) : (s.toList == t.toList) = decide (s = t) := by
  rw [Bool.eq_iff_iff]
  simp only [beq_iff_eq, decide_eq_true_eq]
  refine ⟨fun h => ?_, fun h => by rw [h]⟩
  rw [ByteArray.toList_eq, ByteArray.toList_eq] at h
  exact WideShapes.bytes_inj h
theorem runs_strne {s t : ByteArray} {tx tyy : TypeId} (hx : ev? ρ x = some (.string s)) (hy : ev? ρ y = some (.string t)) : Runs Tryd.prog ρ (.binOp .neq tx x y tyy) ty w (.bool (decide (s ≠ t))) w := fun ev he => by
  simp [execOp, he _ _ hx, he _ _ hy, eqGuard, binOp_string_neq, str_beq]
theorem runs_streq {s t : ByteArray} {tx tyy : TypeId} (hx : ev? ρ x = some (.string s)) (hy : ev? ρ y = some (.string t)) : Runs Tryd.prog ρ (.binOp .eql tx x y tyy) ty w (.bool (decide (s = t))) w := fun ev he => by
  simp [execOp, he _ _ hx, he _ _ hy, eqGuard, binOp_string_eql, str_beq]
end
end Go.Proofs.YtmmijecookbajaaDoor
