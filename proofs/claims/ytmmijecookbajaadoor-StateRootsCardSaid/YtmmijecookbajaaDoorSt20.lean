/- Part St20 of the proofs on this seat. Conditions: none beyond those in the theorems. By an AI agent. -/
import Derived.Test.YtmmijecookbajaaDoorSt19
import Derived.Laws.OwnMore
namespace Go.Proofs.YtmmijecookbajaaDoor
open Go Go.RowKit

/-! make with elements, min, a proof built -/
section
variable {P : Program} {n : Nat} {ρ : Env} {w : World} {ops : List Oper} {N : Env → World → Prop} {rest : List Oper} {ty : TypeId} {pos : String} {af : Array Edge} {g : Option (Nat × Bool)} {d : Nat}
theorem s_makeF {t e : TypeId} {size bytes : Nat} {ag : Bool} {z : Value} {x y : Operand} {kl kc : IntKind} (m : Nat) (hu : P.underlying t = some (.slice e)) (T : TI P e ag size bytes z) (hw : wantE ops ρ g = some true) (hd : Nat.blt d n = true)
    (hx : ev? ρ x = some (.int kl (m : Int))) (hy : ev? ρ y = some (.int kc (m : Int))) (hb : bytes * m ≤ 281474976710656) (hc : m ≤ maxLen)
    (k : ∀ b w', b = w.heap.size → w'.heap.size = b + 1 → Blk w' b (madeCells z.cells (m * size)).toList e → Chg w w' [] → wpL P n ops N rest ((d, .slice (some ⟨b, 0, none⟩) m m) :: ρ) w') :
    wpL P n ops N (⟨some d, .makeSlice t x y, ty, pos, af, g⟩ :: rest) ρ w := by
  obtain ⟨_, inf, hinf, hs, hby, hz⟩ := T
  have hc' : (m : Int) ≤ 9223372036854775807 := by simp [maxLen] at hc; omega
  have hb' : (inf.bytes : Int) * (m : Int) ≤ 281474976710656 := by
    rw [hby]
    have h : ((bytes * m : Nat) : Int) ≤ 281474976710656 := by omega
    rwa [Int.natCast_mul] at h
  have hr := run_make (P := P) w t e inf z hu hinf hz kl kc m m (by omega) (Int.le_refl _) hb' hc'
  simp only [Int.toNat_natCast, hs] at hr
  refine s_val hw hd (w' := w.alloc (.cells (madeCells z.cells (m * size)) e)) (fun ev h => ?_) (k _ _ rfl (by simp) (by unfold Blk; rw [heap_alloc_new]) (chg_alloc w _))
  simp only [execOp, h _ _ hx, h _ _ hy, Sem.run_bind, hr, Result.andThen_ok, Sem.run_pure]
theorem runs_min {x y : Operand} {t1 t2 tyy : TypeId} {k k' : IntKind} {a b : Int} (hx : ev? ρ x = some (.int k a)) (hy : ev? ρ y = some (.int k' b)) :
    Runs P ρ (.call { callee := .builtin .min, args := #[x, y], argTypes := #[t1, t2] }) tyy w (.int k (if b < a then b else a)) w := fun ev h => by
  simp [execOp, resolve, invoke, builtin, h _ _ hx, h _ _ hy, Builtin.min_, Builtin.min2]
end
theorem made_zero (m : Nat) : (madeCells (Value.agg (Array.replicate 32 (.int .u8 0))).cells (m * 32)).toList = natsC .u8 (List.replicate m Sp.zero32).flatten := by
  apply List.ext_getElem?
  intro j
  have hl : (natsC .u8 (List.replicate m Sp.zero32).flatten).length = m * 32 := by rw [natsC_length, flat32 (fun x hx => by rw [List.eq_of_mem_replicate hx]; exact zero_ok), List.length_replicate]
  by_cases hj : j < m * 32
  · have h0 : ∀ x ∈ natsC .u8 (List.replicate m Sp.zero32).flatten, x = .int .u8 0 := by
      intro x hx
      simp only [natsC, List.mem_map, List.mem_flatten] at hx
      obtain ⟨y, ⟨z, hz, hy⟩, rfl⟩ := hx
      rw [List.eq_of_mem_replicate hz] at hy
      simp [Sp.zero32] at hy
      rw [hy]; rfl
    have e2 : (natsC .u8 (List.replicate m Sp.zero32).flatten)[j]? = some (.int .u8 0) := by rw [List.getElem?_eq_getElem (by rw [hl]; exact hj), h0 _ (List.getElem_mem _)]
    rw [e2]
    simp [madeCells, hj, Value.cells]
    rw [Array.getElem!_eq_getD, Array.getD_eq_getD_getElem?]
    simp [Nat.mod_lt]
  · have e2 : (natsC .u8 (List.replicate m Sp.zero32).flatten)[j]? = none := List.getElem?_eq_none (by rw [hl]; omega)
    rw [e2]
    exact List.getElem?_eq_none (by rw [Array.length_toList, size_madeCells]; omega)
theorem zeros_ok (m : Nat) : ∀ x ∈ List.replicate m Sp.zero32, HOk x := fun x hx => by rw [List.eq_of_mem_replicate hx]; exact zero_ok
theorem made_hs {w : World} {b m : Nat} {t : TypeId} (h : Blk w b (madeCells (Value.agg (Array.replicate 32 (.int .u8 0))).cells (m * 32)).toList t) (hm : m ≤ maxLen) : HsR w (some ⟨b, 0, none⟩) m m (List.replicate m Sp.zero32) := by
  rw [made_zero] at h
  exact ⟨lit_reads h (by rw [natsC_length, flat32 (zeros_ok m), List.length_replicate]) hm, List.length_replicate, zeros_ok m⟩
theorem build_pf_aux {w : World} {th : Bool} {a : Option Addr} {n c : Nat} (i1 i2 d1 d2 d3 d4 d5 d6 d7 d8 x0 x1 x2 x3 x4 x5 x6 x7 x8 x9 x10 x11 x12 x13 x14 x15 x16 x17 x18 x19 x20 x21 x22 x23 x24 x25 x26 x27 x28 x29 x30 x31 : Nat) (l f t rw : Int) : (Instr.build 33 #[(0, .bool th), (1, av ⟨(i1, i2), l, f, (d1, d2), (d3, d4), (d5, d6), (d7, d8), t, rw, [x0, x1, x2, x3, x4, x5, x6, x7, x8, x9, x10, x11, x12, x13, x14, x15, x16, x17, x18, x19, x20, x21, x22, x23, x24, x25, x26, x27, x28, x29, x30, x31]⟩), (2, .slice a n c)]).run Tryd.prog w = .ok (pfv th ⟨(i1, i2), l, f, (d1, d2), (d3, d4), (d5, d6), (d7, d8), t, rw, [x0, x1, x2, x3, x4, x5, x6, x7, x8, x9, x10, x11, x12, x13, x14, x15, x16, x17, x18, x19, x20, x21, x22, x23, x24, x25, x26, x27, x28, x29, x30, x31]⟩ (.slice a n c)) w := by
  kernel_rfl
theorem build_pf {w : World} {th : Bool} {r : Ac} {a : Option Addr} {n c : Nat} (h : r.Num) : (Instr.build 33 #[(0, .bool th), (1, av r), (2, .slice a n c)]).run Tryd.prog w = .ok (pfv th r (.slice a n c)) w := by
  obtain ⟨⟨i1, i2⟩, l, f, ⟨d1, d2⟩, ⟨d3, d4⟩, ⟨d5, d6⟩, ⟨d7, d8⟩, t, rw, root⟩ := r
  have hl : root.length = 32 := h.root.1
  clear h
  match root, hl with
  | [x0, x1, x2, x3, x4, x5, x6, x7, x8, x9, x10, x11, x12, x13, x14, x15, x16, x17, x18, x19, x20, x21, x22, x23, x24, x25, x26, x27, x28, x29, x30, x31], _ => exact build_pf_aux (th := th) i1 i2 d1 d2 d3 d4 d5 d6 d7 d8 x0 x1 x2 x3 x4 x5 x6 x7 x8 x9 x10 x11 x12 x13 x14 x15 x16 x17 x18 x19 x20 x21 x22 x23 x24 x25 x26 x27 x28 x29 x30 x31 l f t rw
theorem build_pf0_aux {w : World} {a : Option Addr} {n c : Nat} (i1 i2 d1 d2 d3 d4 d5 d6 d7 d8 x0 x1 x2 x3 x4 x5 x6 x7 x8 x9 x10 x11 x12 x13 x14 x15 x16 x17 x18 x19 x20 x21 x22 x23 x24 x25 x26 x27 x28 x29 x30 x31 : Nat) (l f t rw : Int) : (Instr.build 33 #[(1, av ⟨(i1, i2), l, f, (d1, d2), (d3, d4), (d5, d6), (d7, d8), t, rw, [x0, x1, x2, x3, x4, x5, x6, x7, x8, x9, x10, x11, x12, x13, x14, x15, x16, x17, x18, x19, x20, x21, x22, x23, x24, x25, x26, x27, x28, x29, x30, x31]⟩), (2, .slice a n c)]).run Tryd.prog w = .ok (pfv false ⟨(i1, i2), l, f, (d1, d2), (d3, d4), (d5, d6), (d7, d8), t, rw, [x0, x1, x2, x3, x4, x5, x6, x7, x8, x9, x10, x11, x12, x13, x14, x15, x16, x17, x18, x19, x20, x21, x22, x23, x24, x25, x26, x27, x28, x29, x30, x31]⟩ (.slice a n c)) w := by
  kernel_rfl
theorem build_pf0 {w : World} {r : Ac} {a : Option Addr} {n c : Nat} (h : r.Num) : (Instr.build 33 #[(1, av r), (2, .slice a n c)]).run Tryd.prog w = .ok (pfv false r (.slice a n c)) w := by
  obtain ⟨⟨i1, i2⟩, l, f, ⟨d1, d2⟩, ⟨d3, d4⟩, ⟨d5, d6⟩, ⟨d7, d8⟩, t, rw, root⟩ := r
  have hl : root.length = 32 := h.root.1
  clear h
  match root, hl with
  | [x0, x1, x2, x3, x4, x5, x6, x7, x8, x9, x10, x11, x12, x13, x14, x15, x16, x17, x18, x19, x20, x21, x22, x23, x24, x25, x26, x27, x28, x29, x30, x31], _ => exact build_pf0_aux  i1 i2 d1 d2 d3 d4 d5 d6 d7 d8 x0 x1 x2 x3 x4 x5 x6 x7 x8 x9 x10 x11 x12 x13 x14 x15 x16 x17 x18 x19 x20 x21 x22 x23 x24 x25 x26 x27 x28 x29 x30 x31 l f t rw
end Go.Proofs.YtmmijecookbajaaDoor
