/- Part StE of the proofs on this seat. Conditions: none beyond those in the theorems. By an AI agent. -/
import Derived.Test.YtmmijecookbajaaDoorSt19
import Derived.Laws.OwnMore
namespace Go.Proofs.YtmmijecookbajaaDoor
open Go Go.RowKit

/-! make with elements, min, a proof built -/
section
variable {P : Program} {n : Nat} {ρ : Env} {w : World} {ops : List Oper} {N : Env → World → Prop} {rest : List Oper} {ty : TypeId} {pos : String} {af : Array Edge} {g : Option (Nat × Bool)} {d : Nat}
theorem s_makeF {t e : TypeId} {size bytes : Nat} {ag : Bool} {z : Value} {x y : Operand} {kl kc : IntKind} (m : Nat) (hu : P.underlying t = some (.slice e)) (T : TI P e ag size bytes z) (hw : wantE ops ρ g = some true) (hd : Nat.blt d n = true)
    (hx : ev? ρ x = some (.int kl (m : Int))) (hy : ev? ρ y = some (.int kc (m : Int))) (hb : bytes * m ≤ 281474976710656) (hc : m ≤ maxLen)
    (k : ∀ b w', b = w.heap.size → w'.heap.size = b + 1 → Blk w' b (madeCells z.cells (m * size)).toList e → Chg w w' [] → wpL P n ops N rest ((d, .slice (some ⟨b, 0, none⟩) m m) :: ρ) w') :
    wpL P n ops N (⟨some d, .makeSlice t x y, ty, pos, af, g⟩ :: rest) ρ w := by
  obtain ⟨_, inf, hinf, hs, hby, hz⟩ := T
  have hc' : (m : Int) ≤ 9223372036854775807 := by simp [maxLen] at hc; omega
  have hb' : (inf.bytes : Int) * (m : Int) ≤ 281474976710656 := by
    rw [hby]
    have h : ((bytes * m : Nat) : Int) ≤ 281474976710656 := by omega
    rwa [Int.natCast_mul] at h
  have hr := run_make (P := P) w t e inf z hu hinf hz kl kc m m (by omega) (Int.le_refl _) hb' hc'
  simp only [Int.toNat_natCast, hs] at hr
  refine s_val hw hd (w' := w.alloc (.cells (madeCells z.cells (m * size)) e)) (fun ev h => ?_) (k _ _ rfl (by simp) (by unfold Blk; rw [heap_alloc_new]) (chg_alloc w _))
  simp only [execOp, h _ _ hx, h _ _ hy, Sem.run_bind, hr, Result.andThen_ok, Sem.run_pure]
theorem runs_min {x y : Operand} {t1 t2 tyy : TypeId} {k k' : IntKind} {a b : Int} (hx : ev? ρ x = some (.int k a)) (hy : ev? ρ y = some (.int k' b)) :
    Runs P ρ (.call { callee := .builtin .min, args := #[x, y], argTypes := #[t1, t2] }) tyy w (.int k (if b < a then b else a)) w := fun ev h => by
  simp [execOp, resolve, invoke, builtin, h _ _ hx, h _ _ hy, Builtin.min_, Builtin.min2]
end
theorem made_zero (m : Nat) : (madeCells (Value.agg (Array.replicate 32 (.int .u8 0))).cells (m * 32)).toList = natsC .u8 (List.replicate m Sp.zero32).flatten := by
  apply List.ext_getElem?
  intro j
  have hl : (natsC .u8 (List.replicate m Sp.zero32).flatten).length = m * 32 := by rw [natsC_length, flat32 (fun x hx => by rw [List.eq_of_mem_replicate hx]; exact zero_ok), List.length_replicate]
  by_cases hj : j < m * 32
  · have h0 : ∀ x ∈ natsC .u8 (List.replicate m Sp.zero32).flatten, x = .int .u8 0 := by
      intro x hx
      simp only [natsC, List.mem_map, List.mem_flatten] at hx
      obtain ⟨y, ⟨z, hz, hy⟩, rfl⟩ := hx
      rw [List.eq_of_mem_replicate hz] at hy
      simp [Sp.zero32] at hy
      rw [hy]; rfl
    have e2 : (natsC .u8 (List.replicate m Sp.zero32).flatten)[j]? = some (.int .u8 0) := by rw [List.getElem?_eq_getElem (by rw [hl]; exact hj), h0 _ (List.getElem_mem _)]
    rw [e2]
    simp [madeCells, hj, Value.cells]
    rw [Array.getElem!_eq_getD, Array.getD_eq_getD_getElem?]
    simp [Nat.mod_lt]
  · have e2 : (natsC .u8 (List.replicate m Sp.zero32).flatten)[j]? = none := List.getElem?_eq_none (by rw [hl]; omega)
    rw [e2]
    exact List.getElem?_eq_none (by rw [Array.length_toList, size_madeCells]; omega)
theorem zeros_ok (m : Nat) : ∀ x ∈ List.replicate m Sp.zero32, HOk x := fun x hx => by rw [List.eq_of_mem_replicate hx]; exact zero_ok
theorem made_hs {w : World} {b m : Nat} {t : TypeId} (h : Blk w b (madeCells (Value.agg (Array.replicate 32 (.int .u8 0))).cells (m * 32)).toList t) (hm : m ≤ maxLen) : HsR w (some ⟨b, 0, none⟩) m m (List.replicate m Sp.zero32) := by
  rw [made_zero] at h
  exact ⟨lit_reads h (by rw [natsC_length, flat32 (zeros_ok m), List.length_replicate]) hm, List.length_replicate, zeros_ok m⟩
theorem build_pf_aux {w : World} {th : Bool} {a : Option Addr} {n c : Nat} (i1 i2 d1 d2 d3 d4 d5 d6 d7 d8 x0 x1 x2 x3 x4 x5 x6 x7 x8 x9 x10 x11 x12 x13 x14 x15 x16 x17 x18 x19 x20 x21 x22 x23 x24 x25 x26 x27 x28 x29 x30 x31 : Nat) (l f t rw : Int) : (Instr.build 33 #[(0, .bool th), (1, av ⟨(i1, i2), l, f, (d1, d2), (d3, d4), (d5, d6), (d7, d8), t, rw, [x0, x1, x2, x3, x4, x5, x6, x7, x8, x9, x10, x11, x12, x13, x14, x15, x16, x17, x18, x19, x20, x21, x22, x23, x24, x25, x26, x27, x28, x29, x30, x31]⟩), (2, .slice a n c)]).run Tryd.prog w = .ok (pfv th ⟨(i1, i2), l, f, (d1, d2), (d3, d4), (d5, d6), (d7, d8), t, rw, [x0, x1, x2, x3, x4, x5, x6, x7, x8, x9, x10, x11, x12, x13, x14, x15, x16, x17, x18, x19, x20, x21, x22, x23, x24, x25, x26, x27, x28, x29, x30, x31]⟩ (.slice a n c)) w := by
  kernel_rfl
theorem build_pf {w : World} {th : Bool} {r : Ac} {a : Option Addr} {n c : Nat} (h : r.Num) : (Instr.build 33 #[(0, .bool th), (1, av r), (2, .slice a n c)]).run Tryd.prog w = .ok (pfv th r (.slice a n c)) w := by
  obtain ⟨⟨i1, i2⟩, l, f, ⟨d1, d2⟩, ⟨d3, d4⟩, ⟨d5, d6⟩, ⟨d7, d8⟩, t, rw, root⟩ := r
  have hl : root.length = 32 := h.root.1
  clear h
  match root, hl with
  | [x0, x1, x2, x3, x4, x5, x6, x7, x8, x9, x10, x11, x12, x13, x14, x15, x16, x17, x18, x19, x20, x21, x22, x23, x24, x25, x26, x27, x28, x29, x30, x31], _ => exact build_pf_aux (th := th) i1 i2 d1 d2 d3 d4 d5 d6 d7 d8 x0 x1 x2 x3 x4 x5 x6 x7 x8 x9 x10 x11 x12 x13 x14 x15 x16 x17 x18 x19 x20 x21 x22 x23 x24 x25 x26 x27 x28 x29 x30 x31 l f t rw
theorem build_pf0_aux {w : World} {a : Option Addr} {n c : Nat} (i1 i2 d1 d2 d3 d4 d5 d6 d7 d8 x0 x1 x2 x3 x4 x5 x6 x7 x8 x9 x10 x11 x12 x13 x14 x15 x16 x17 x18 x19 x20 x21 x22 x23 x24 x25 x26 x27 x28 x29 x30 x31 : Nat) (l f t rw : Int) : (Instr.build 33 #[(1, av ⟨(i1, i2), l, f, (d1, d2), (d3, d4), (d5, d6), (d7, d8), t, rw, [x0, x1, x2, x3, x4, x5, x6, x7, x8, x9, x10, x11, x12, x13, x14, x15, x16, x17, x18, x19, x20, x21, x22, x23, x24, x25, x26, x27, x28, x29, x30, x31]⟩), (2, .slice a n c)]).run Tryd.prog w = .ok (pfv false ⟨(i1, i2), l, f, (d1, d2), (d3, d4), (d5, d6), (d7, d8), t, rw, [x0, x1, x2, x3, x4, x5, x6, x7, x8, x9, x10, x11, x12, x13, x14, x15, x16, x17, x18, x19, x20, x21, x22, x23, x24, x25, x26, x27, x28, x29, x30, x31]⟩ (.slice a n c)) w := by
  kernel_rfl
theorem build_pf0 {w : World} {r : Ac} {a : Option Addr} {n c : Nat} (h : r.Num) : (Instr.build 33 #[(1, av r), (2, .slice a n c)]).run Tryd.prog w = .ok (pfv false r (.slice a n c)) w := by
  obtain ⟨⟨i1, i2⟩, l, f, ⟨d1, d2⟩, ⟨d3, d4⟩, ⟨d5, d6⟩, ⟨d7, d8⟩, t, rw, root⟩ := r
  have hl : root.length = 32 := h.root.1
  clear h
  match root, hl with
  | [x0, x1, x2, x3, x4, x5, x6, x7, x8, x9, x10, x11, x12, x13, x14, x15, x16, x17, x18, x19, x20, x21, x22, x23, x24, x25, x26, x27, x28, x29, x30, x31], _ => exact build_pf0_aux  i1 i2 d1 d2 d3 d4 d5 d6 d7 d8 x0 x1 x2 x3 x4 x5 x6 x7 x8 x9 x10 x11 x12 x13 x14 x15 x16 x17 x18 x19 x20 x21 x22 x23 x24 x25 x26 x27 x28 x29 x30 x31 l f t rw
end Go.Proofs.YtmmijecookbajaaDoor
namespace Go.Proofs.YtmmijecookbajaaDoor
open Go Go.RowKit

theorem stray_succ (x y : Nm) (i : Nat) : Sp.stray x y (i + 1) = (Sp.stray x y i || decide (Sp.bit x i ≠ Sp.bit y i)) := by
  unfold Sp.stray
  rw [List.range_succ, List.any_append]; simp
theorem long_ok {id : Nm} {r : Ac} {m : Nat} : (Sp.aclimbR id true r (List.replicate m Sp.zero32)).2 = (decide (m ≤ 128) && !Sp.stray r.id id m) := by
  unfold Sp.aclimbR
  rw [List.length_replicate]
  by_cases h : 128 < m
  · rw [if_pos h]; simp; omega
  · rw [if_neg h, if_pos rfl]
    cases hs : Sp.stray r.id id m
    · simp; omega
    · simp
theorem long_is {id : Nm} {r : Ac} {m : Nat} : (Sp.aclimbR id false r (List.replicate m Sp.zero32)).2 = (decide (m ≤ 128) && decide (r = Sp.zeroA)) := by
  unfold Sp.aclimbR
  rw [List.length_replicate]
  by_cases h : 128 < m
  · rw [if_pos h]; simp; omega
  · rw [if_neg h, if_neg (by decide)]
    by_cases hz : r = Sp.zeroA
    · rw [if_neg (fun h => h hz)]; simp [hz]; omega
    · rw [if_pos hz]; simp [hz]
theorem aclimbR_ok {id : Nm} {th : Bool} {r : Ac} {path : List (List Nat)} : HOk (Sp.aclimbR id th r path).1 := by
  unfold Sp.aclimbR
  split
  · exact zero_ok
  · split
    · split
      · exact zero_ok
      · exact aclimb_ok id _ (aleaf_ok r) _ _
    · split
      · exact zero_ok
      · exact aclimb_ok id _ anone_ok _ _
set_option maxHeartbeats 4000000 in
theorem long_calls (B : Nat) (x : Ac) (id : Nm) (nz : Int) (w : World) (hG0 : GH B w) (hBw : B ≤ w.heap.size) (hx : x.Num) (hid : NOk id) :
    CallsR Tryd.prog 3 #[av x, nv id, .int .i64 nz] w fun v w' => v = .bool true ∧ Chg w w' [] := by
  have hX : Chg w w [] := Chg.refl _ _
  have hG := hG0
  obtain ⟨m, hm⟩ : ∃ m, m = land64 nz 255 % 140 + 1 := ⟨_, rfl⟩
  have hm140 : m ≤ 140 := by rw [hm]; omega
  have hrn := tameA_num hx
  obtain ⟨r, hr⟩ : ∃ r, r = Sp.tameA x := ⟨_, rfl⟩
  rw [← hr] at hrn
  refine f_enter (l := [av x, nv id, .int .i64 nz]) Tryd.func3 rfl rfl rfl rfl ?_
  intro Qf hnrm hret
  refine c_seqreg (fun K1 hK1 => ?_)
  refine s_box rfl rfl rfl ?_
  intro b3 w00 e0_0 z0_0 hb3 X0_0
  have s0_0_hX := hX.size
  replace hG := hG.keep X0_0 (by simp)
  replace hX : Chg w _ [] := (hX.trans X0_0).mono (by intro k hk hlt; simp at hk ⊢ <;> first | omega | grind)
  replace hb3 : Blk w00 b3 (x.C) 28 := hb3
  refine s_box rfl rfl rfl ?_
  intro b4 w01 e0_1 z0_1 hb4 X0_1
  have s0_1_hX := hX.size
  have s0_1_hb3 := hb3.lt
  replace hG := hG.keep X0_1 (by simp)
  replace hX : Chg w _ [] := (hX.trans X0_1).mono (by intro k hk hlt; simp at hk ⊢ <;> first | omega | grind)
  replace hb3 := hb3.keep X0_1 (by simp)
  replace hb4 : Blk w01 b4 (numC id) 24 := hb4
  refine s_val rfl rfl (runs_assign rfl) ?_
  refine s_nil ?_
  have hl3 := hb3.lt
  have hl4 := hb4.lt
  refine hK1 _ _ ?_
  refine c_seq (fun K4 hK4 => ?_)
  refine c_seqreg (fun K5 hK5 => ?_)
  refine s_callf (xs := []) rfl rfl Tryd.func10 rfl (by kernel_rfl) rfl (fit_calls B _ hG (by omega)) ?_
  rintro _ w1 ⟨rfl, X1_0⟩
  replace hG := hG.keep X1_0 (by simp)
  replace hX : Chg w _ [] := (hX.trans X1_0).mono (by intro k hk hlt; simp at hk ⊢ <;> first | omega | grind)
  replace hb3 := hb3.keep X1_0 (by simp)
  replace hb4 := hb4.keep X1_0 (by simp)
  have zs1_0 := X1_0.size
  refine s_val rfl rfl (runs_not rfl) ?_
  refine s_nil ?_
  refine hK5 _ _ ?_
  refine c_false rfl ?_
  refine c_skip ?_
  refine hK4 _ _ ?_
  refine c_seqreg (fun K7 hK7 => ?_)
  refine s_val rfl rfl (runs_loadAgg ty28 rfl hb3.at (Ac.len hx)) ?_
  refine s_callf (xs := [.tmp 16]) rfl rfl Tryd.func11 rfl (by kernel_rfl) rfl (tame_calls x _ hx) ?_
  rintro _ w31 ⟨rfl, X3_1⟩
  replace hG := hG.keep X3_1 (by simp)
  replace hX : Chg w _ [] := (hX.trans X3_1).mono (by intro k hk hlt; simp at hk ⊢ <;> first | omega | grind)
  replace hb3 := hb3.keep X3_1 (by simp)
  replace hb4 := hb4.keep X3_1 (by simp)
  have zs3_1 := X3_1.size
  rw [← hr]
  refine s_storeAll ty28 rfl rfl rfl hb3 (Ac.len hrn) (Ac.len hx) (Ac.one _) ?_
  intro w32 z3_2 h3_2 X3_2
  replace hG := hG.keep X3_2 (by simp; omega)
  replace hX : Chg w _ [] := (hX.trans X3_2).mono (by intro k hk hlt; simp at hk ⊢ <;> first | omega | grind)
  replace hb4 := hb4.keep X3_2 (by simp; omega)
  replace hb3 := h3_2
  refine s_nil ?_
  have hzX3 := hX.size
  refine hK7 _ _ ?_
  refine c_seqreg (fun K10 hK10 => ?_)
  refine s_val rfl rfl (runs_move rfl) ?_
  refine s_val rfl rfl (runs_and64 255 rfl (by decide)) ?_
  refine s_val rfl rfl (runs_as (v' := .int .i64 ((land64 nz 255 % 140 : Nat) : Int)) (runs_rem64 rfl rfl (by omega) (by omega)) (congrArg (Value.int .i64) (by simp))) ?_
  refine s_val rfl rfl (runs_as (v' := .int .i64 (m : Int)) (runs_add64 rfl rfl (by omega)) (congrArg (Value.int .i64) (by omega))) ?_
  refine s_val rfl rfl (runs_assign rfl) ?_
  refine s_nil ?_
  refine hK10 _ _ ?_
  refine c_seq (fun K11 hK11 => ?_)
  have hJ11 : ∀ (b7 : Nat) (b24 : Nat) (W : World), (GH B W ∧ Chg w W [] ∧ Blk W b3 r.C 28 ∧ Blk W b4 (numC id) 24 ∧ Blk W b7 (pfC true r (.slice (some ⟨b24, 0, none⟩) m m)) 33 ∧ HsR W (some ⟨b24, 0, none⟩) m m (List.replicate m Sp.zero32) ∧ b24 < W.heap.size) → ∀ ρ : Env, SubL ([(7, (.pointer (some ⟨b7, 0, none⟩))), (2, .int .i64 (m : Int)), (3, (.pointer (some ⟨b3, 0, none⟩))), (4, (.pointer (some ⟨b4, 0, none⟩)))]) ρ → K11 ρ W := by
    intro b7 b24 W hI ρ hρ
    refine hK11 _ _ (c_sub _ hρ ?_)
    clear hρ
    obtain ⟨hG, hX, hb3, hb4, hb7, hH, h24⟩ := hI
    have hzX5 := hX.size
    have hl3 := hb3.lt
    have hl4 := hb4.lt
    refine c_seqreg (fun K12 hK12 => ?_)
    refine s_val rfl rfl (runs_loadAgg ty24 rfl hb4.at (numC_len _)) ?_
    refine s_val rfl rfl (runs_loadAgg ty33 rfl hb7.at (pfC_len hrn)) ?_
    refine s_callf (xs := [.const (.pointer none), .tmp 27, .tmp 28]) rfl rfl Tryd.func12 rfl (by kernel_rfl) rfl (climbS0 hG (by omega) hid hrn hH (fun p hp => by cases hp; exact h24) (by omega)) ?_
    rintro _ w62 ⟨rfl, X6_2⟩
    replace hG := hG.keep X6_2 (by simp)
    replace hX : Chg w _ [] := (hX.trans X6_2).mono (by intro k hk hlt; simp at hk ⊢ <;> first | omega | grind)
    replace hb3 := hb3.keep X6_2 (by simp)
    replace hb4 := hb4.keep X6_2 (by simp)
    have zs6_2 := X6_2.size
    obtain ⟨okv, hokv⟩ : ∃ b, b = (Sp.aclimbR id true r (List.replicate m Sp.zero32)).2 := ⟨_, rfl⟩
    obtain ⟨hv1, hhv1⟩ : ∃ h, h = (Sp.aclimbR id true r (List.replicate m Sp.zero32)).1 := ⟨_, rfl⟩
    have okh1 : HOk hv1 := by rw [hhv1]; exact aclimbR_ok
    rw [← hokv, ← hhv1]
    rw [long_ok] at hokv
    refine s_val rfl rfl (runs_move rfl) ?_
    refine s_val rfl rfl (runs_extract rfl rfl) ?_
    refine s_val rfl rfl (runs_extract rfl rfl) ?_
    refine s_alloc ty26 rfl rfl ?_
    intro b8 w66 e6_6 z6_6 hb8 X6_6
    have s6_6_hX := hX.size
    have s6_6_hb3 := hb3.lt
    have s6_6_hb4 := hb4.lt
    replace hG := hG.keep X6_6 (by simp)
    replace hX : Chg w _ [] := (hX.trans X6_6).mono (by intro k hk hlt; simp at hk ⊢ <;> first | omega | grind)
    replace hb3 := hb3.keep X6_6 (by simp)
    replace hb4 := hb4.keep X6_6 (by simp)
    refine s_storeAll ty26 rfl rfl rfl hb8 (by rw [natsC_length, okh1.1]) rfl (natsC_one _ _) ?_
    intro w67 z6_7 h6_7 X6_7
    replace hG := hG.keep X6_7 (by simp; omega)
    replace hX : Chg w _ [] := (hX.trans X6_7).mono (by intro k hk hlt; simp at hk ⊢ <;> first | omega | grind)
    replace hb3 := hb3.keep X6_7 (by simp; omega)
    replace hb4 := hb4.keep X6_7 (by simp; omega)
    replace hb8 := h6_7
    refine s_val rfl rfl (runs_assign rfl) ?_
    refine s_nil ?_
    have hzX6 := hX.size
    refine hK12 _ _ ?_
    refine c_seqreg (fun K16 hK16 => ?_)
    refine s_val rfl rfl (runs_assign rfl) ?_
    refine s_nil ?_
    refine hK16 _ _ ?_
    refine c_seq (fun K17 hK17 => ?_)
    refine c_seqreg (fun K18 hK18 => ?_)
    refine s_val rfl rfl (runs_move rfl) ?_
    refine s_val rfl rfl (runs_as (v' := .int .i64 ((min m 128 : Nat) : Int)) (runs_min rfl rfl) (congrArg (Value.int .i64) (by split <;> omega))) ?_
    refine s_val rfl rfl (runs_move rfl) ?_
    refine s_nil ?_
    obtain ⟨mm, hmm⟩ : ∃ k, k = min m 128 := ⟨_, rfl⟩
    rw [← hmm]
    have hmm1 : mm ≤ 128 := by omega
    obtain ⟨w8, hw8⟩ : ∃ W : World, W = w67 := ⟨_, rfl⟩
    rw [← hw8] at hX hG hb3 hb4 hzX6 ⊢
    have X8 : Chg w8 w8 [] := Chg.refl _ _
    refine hK18 _ _ ?_
    refine c_block ?_
    refine c_loop (σ := Nat × Bool) (fun s => [(34, .int .i64 (s.1 : Int)), (33, .int .i64 (mm : Int)), (10, .bool s.2), (9, .bool okv), (2, .int .i64 (m : Int)), (3, (.pointer (some ⟨b3, 0, none⟩))), (4, (.pointer (some ⟨b4, 0, none⟩)))]) (fun s W => s.1 ≤ mm ∧ s.2 = Sp.stray r.id id s.1 ∧ Chg w8 W []) (fun s => mm - s.1) (0, false) ⟨rfl, rfl, rfl, rfl, rfl, rfl, rfl, trivial⟩ ⟨Nat.zero_le _, rfl, X8⟩ ?_
    rintro ⟨i, tb⟩ wi ⟨hi, htb, X8⟩
    dsimp only at hi htb ⊢
    have hzX8 := X8.size
    refine c_seqreg (fun K19 hK19 => ?_)
    refine s_val rfl rfl (runs_lt rfl rfl) ?_
    refine s_nil ?_
    refine hK19 _ _ ?_
    refine c_seq (fun K20 hK20 => ?_)
    refine c_dec rfl (fun him => ?_) (fun him => ?_)
    · refine c_skip ?_
      refine hK20 _ _ ?_
      refine c_seq (fun K21 hK21 => ?_)
      refine c_block ?_
      refine c_seqreg (fun K22 hK22 => ?_)
      refine s_val rfl rfl (runs_move rfl) ?_
      refine s_val rfl rfl (runs_assign rfl) ?_
      refine s_nil ?_
      refine hK22 _ _ ?_
      have hnx0 := stray_succ r.id id i
      rw [← htb] at hnx0
      cases tb with
      | true => ?_
      | false => ?_
      · refine c_drawX [] ([]) (by kernel_rfl) ?_
        intro wd11 Xd11 hS11
        replace X8 : Chg w8 _ [] := (X8.trans Xd11).mono (by intro k hk hlt; simp at hk ⊢ <;> first | omega | grind)
        have zd11 := Xd11.size
        refine d_take 0 37 rfl (by kernel_rfl) rfl hS11 (fun wS hS => runs_move rfl) ?_
        refine d_take 1 38 rfl (by kernel_rfl) rfl hS11 (fun wS hS => runs_move rfl) ?_
        refine d_takeskip 2 39 rfl (by kernel_rfl) rfl hS11 ?_
        refine d_takeskip 3 40 rfl (by kernel_rfl) rfl hS11 ?_
        refine d_takeskip 4 41 rfl (by kernel_rfl) rfl hS11 ?_
        refine d_takeskip 5 42 rfl (by kernel_rfl) rfl hS11 ?_
        refine d_takeskip 6 43 rfl (by kernel_rfl) rfl hS11 ?_
        refine d_takeskip 7 44 rfl (by kernel_rfl) rfl hS11 ?_
        refine d_takeskip 8 45 rfl (by kernel_rfl) rfl hS11 ?_
        refine d_takeskip 9 46 rfl (by kernel_rfl) rfl hS11 ?_
        refine d_take 10 47 rfl (by kernel_rfl) rfl hS11 (fun wS hS => runs_pickt rfl rfl) ?_
        refine d_take 11 10 rfl (by kernel_rfl) rfl hS11 (fun wS hS => runs_assign rfl) ?_
        refine d_done (by kernel_rfl) ?_
        replace X8 : Chg w8 _ [] := (X8.trans hS11).mono (by intro k hk hlt; simp at hk ⊢ <;> first | omega | grind)
        have hnx : true = Sp.stray r.id id (i + 1) := by rw [hnx0]; rfl
        refine hK21 _ _ ?_
        refine c_reg ?_
        refine s_val rfl rfl (runs_add64 rfl rfl (by omega)) ?_
        refine s_val rfl rfl (runs_move rfl) ?_
        refine s_nil ?_
        dsimp only [Post.setN]
        exact ⟨(i + 1, _), ⟨rfl, rfl, rfl, rfl, rfl, rfl, rfl, trivial⟩, ⟨by dsimp only; omega, hnx, X8⟩, by dsimp only; omega⟩
      · refine c_drawX [] ([]) (by kernel_rfl) ?_
        intro wd11 Xd11 hS11
        replace X8 : Chg w8 _ [] := (X8.trans Xd11).mono (by intro k hk hlt; simp at hk ⊢ <;> first | omega | grind)
        have zd11 := Xd11.size
        refine d_take 0 37 rfl (by kernel_rfl) rfl hS11 (fun wS hS => runs_move rfl) ?_
        refine d_take 1 38 rfl (by kernel_rfl) rfl hS11 (fun wS hS => runs_move rfl) ?_
        refine d_take 2 39 rfl (by kernel_rfl) rfl hS11 (fun wS hS => runs_fieldAddr Tryd.underlying28 rfl ty24 (by decide) rfl) ?_
        refine d_take 3 40 rfl (by kernel_rfl) rfl hS11 (fun wS hS => runs_loadAgg ty24 rfl (((hb3.keep X8 (by simp)).keep hS (by simp)).at.sub 0 2) (by rfl)) ?_
        refine d_take 4 41 rfl (by kernel_rfl) rfl hS11 (fun wS hS => runs_move rfl) ?_
        refine d_take 6 43 rfl (by kernel_rfl) rfl hS11 (fun wS hS => runs_loadAgg ty24 rfl ((hb4.keep X8 (by simp)).keep hS (by simp)).at (numC_len _)) ?_
        refine d_take 7 44 rfl (by kernel_rfl) rfl hS11 (fun wS hS => runs_move rfl) ?_
        refine d_only 5 rfl (by kernel_rfl) ?_
        refine s_callf (xs := [.tmp 40, .tmp 41]) rfl rfl Tryd.func13 rfl (by kernel_rfl) rfl (bit_calls r.id i _ hrn.id (by omega)) ?_
        rintro _ w115 ⟨rfl, X11_5⟩
        have zs11_5 := X11_5.size
        replace hS11 : Chg wd11 _ [] := hS11.trans X11_5
        refine s_nil ⟨.inr hS11, ?_⟩
        refine d_only 8 rfl (by kernel_rfl) ?_
        refine s_callf (xs := [.tmp 43, .tmp 44]) rfl rfl Tryd.func13 rfl (by kernel_rfl) rfl (bit_calls id i _ hid (by omega)) ?_
        rintro _ w118 ⟨rfl, X11_8⟩
        have zs11_8 := X11_8.size
        replace hS11 : Chg wd11 _ [] := hS11.trans X11_8
        refine s_nil ⟨.inr hS11, ?_⟩
        refine d_take 9 46 rfl (by kernel_rfl) rfl hS11 (fun wS hS => runs_ned rfl rfl) ?_
        refine d_take 10 47 rfl (by kernel_rfl) rfl hS11 (fun wS hS => runs_pickf rfl rfl) ?_
        refine d_take 11 10 rfl (by kernel_rfl) rfl hS11 (fun wS hS => runs_assign rfl) ?_
        refine d_done (by kernel_rfl) ?_
        replace X8 : Chg w8 _ [] := (X8.trans hS11).mono (by intro k hk hlt; simp at hk ⊢ <;> first | omega | grind)
        have hnx : decide ((Sp.bit r.id i : Int) ≠ (Sp.bit id i : Int)) = Sp.stray r.id id (i + 1) := by rw [hnx0, Bool.false_or]; exact decide_eq_decide.2 (by omega)
        refine hK21 _ _ ?_
        refine c_reg ?_
        refine s_val rfl rfl (runs_add64 rfl rfl (by omega)) ?_
        refine s_val rfl rfl (runs_move rfl) ?_
        refine s_nil ?_
        dsimp only [Post.setN]
        exact ⟨(i + 1, _), ⟨rfl, rfl, rfl, rfl, rfl, rfl, rfl, trivial⟩, ⟨by dsimp only; omega, hnx, X8⟩, by dsimp only; omega⟩
    · obtain rfl : mm = i := by omega
      replace hX := hX.trans X8
      replace hG := hG.keep X8 (by simp)
      replace hb3 := hb3.keep X8 (by simp)
      replace hb4 := hb4.keep X8 (by simp)
      replace hX : Chg w wi [] := hX.mono (by simp)
      refine c_exit ?_
      refine hK17 _ _ ?_
      refine c_seq (fun K25 hK25 => ?_)
      have hJ25 : ∀ (isv : Bool) (W : World), (isv = (decide (m ≤ 128) && decide (r = Sp.zeroA)) ∧ Chg w W [] ∧ Blk W b3 r.C 28) → ∀ ρ : Env, SubL ([(13, .bool isv), (9, .bool okv), (10, .bool tb), (2, .int .i64 (m : Int)), (3, (.pointer (some ⟨b3, 0, none⟩)))]) ρ → K25 ρ W := by
        intro isv W hI ρ hρ
        refine hK25 _ _ (c_sub _ hρ ?_)
        clear hρ
        obtain ⟨his, hX, hb3⟩ := hI
        rcases Decidable.em (m ≤ 128) with hm8 | hm8
        · refine c_seqreg (fun K26 hK26 => ?_)
          refine s_val rfl rfl (runs_move rfl) ?_
          refine s_val rfl rfl (runs_move rfl) ?_
          refine s_val rfl rfl (runs_dt (runs_le rfl rfl) (by omega)) ?_
          refine s_val rfl rfl (runs_move rfl) ?_
          refine s_val rfl rfl (runs_move rfl) ?_
          refine s_val rfl rfl (runs_not rfl) ?_
          refine s_val rfl rfl (runs_pickt rfl rfl) ?_
          refine s_val rfl rfl (runs_dt (runs_bool_eq Tryd.underlying4 rfl rfl) (by rw [hokv, htb, decide_eq_true hm8, Bool.true_and]; congr 2; omega)) ?_
          refine s_val rfl rfl (runs_move rfl) ?_
          refine s_val rfl rfl (runs_move rfl) ?_
          refine s_val rfl rfl (runs_move rfl) ?_
          refine s_val rfl rfl (runs_dt (runs_le rfl rfl) (by omega)) ?_
          refine s_val rfl rfl (runs_move rfl) ?_
          refine s_val rfl rfl (runs_loadAgg ty28 rfl hb3.at (Ac.len hrn)) ?_
          refine s_val rfl rfl (runs_buildv (v := av Sp.zeroA) [] rfl (by kernel_rfl)) ?_
          refine s_val rfl rfl (runs_acc_eq rfl rfl hrn zeroA_num) ?_
          refine s_val rfl rfl (runs_pickt rfl rfl) ?_
          refine s_val rfl rfl (runs_dt (runs_bool_eq Tryd.underlying4 rfl rfl) (by rw [his, decide_eq_true hm8, Bool.true_and])) ?_
          refine s_val rfl rfl (runs_pickt rfl rfl) ?_
          refine s_val rfl rfl (runs_assign rfl) ?_
          refine s_nil ?_
          refine hK26 _ _ ?_
          refine c_ret ?_
          refine hret _ _ ?_
          exact ends1 (reads_tmp rfl) ⟨rfl, hX⟩
        · refine c_seqreg (fun K26 hK26 => ?_)
          refine s_val rfl rfl (runs_move rfl) ?_
          refine s_val rfl rfl (runs_move rfl) ?_
          refine s_val rfl rfl (runs_df (runs_le rfl rfl) (by omega)) ?_
          refine s_val rfl rfl (runs_move rfl) ?_
          refine s_skip rfl rfl ?_
          refine s_skip rfl rfl ?_
          refine s_val rfl rfl (runs_pickf rfl rfl) ?_
          refine s_val rfl rfl (runs_dt (runs_bool_eq Tryd.underlying4 rfl rfl) (by rw [hokv, decide_eq_false hm8]; rfl)) ?_
          refine s_val rfl rfl (runs_move rfl) ?_
          refine s_val rfl rfl (runs_move rfl) ?_
          refine s_val rfl rfl (runs_move rfl) ?_
          refine s_val rfl rfl (runs_df (runs_le rfl rfl) (by omega)) ?_
          refine s_val rfl rfl (runs_move rfl) ?_
          refine s_skip rfl rfl ?_
          refine s_skip rfl rfl ?_
          refine s_skip rfl rfl ?_
          refine s_val rfl rfl (runs_pickf rfl rfl) ?_
          refine s_val rfl rfl (runs_dt (runs_bool_eq Tryd.underlying4 rfl rfl) (by rw [his, decide_eq_false hm8]; rfl)) ?_
          refine s_val rfl rfl (runs_pickt rfl rfl) ?_
          refine s_val rfl rfl (runs_assign rfl) ?_
          refine s_nil ?_
          refine hK26 _ _ ?_
          refine c_ret ?_
          refine hret _ _ ?_
          exact ends1 (reads_tmp rfl) ⟨rfl, hX⟩
      refine c_drawX [] ([]) (by kernel_rfl) ?_
      intro wd13 Xd13 hS13
      replace hG := hG.keep Xd13 (by simp)
      replace hX : Chg w _ [] := (hX.trans Xd13).mono (by intro k hk hlt; simp at hk ⊢ <;> first | omega | grind)
      replace hb3 := hb3.keep Xd13 (by simp)
      replace hb4 := hb4.keep Xd13 (by simp)
      have zd13 := Xd13.size
      refine d_take 0 50 rfl (by kernel_rfl) rfl hS13 (fun wS hS => runs_loadAgg ty24 rfl ((hb4.keep hS (by simp)).at) (numC_len _)) ?_
      refine d_take 1 51 rfl (by kernel_rfl) rfl hS13 (fun wS hS => runs_loadAgg ty28 rfl ((hb3.keep hS (by simp)).at) (Ac.len hrn)) ?_
      refine d_take 2 52 rfl (by kernel_rfl) rfl hS13 (fun wS hS => runs_move rfl) ?_
      refine d_two 3 9 rfl rfl (by kernel_rfl) ?_ ?_
      · refine s_makeF m Tryd.underlying31 ty26 rfl rfl rfl rfl (by omega) (by simp only [maxLen]; omega) ?_
        intro b53 w133 e13_3 z13_3 hb53 X13_3
        have hHb53 := made_hs hb53 (by simp only [maxLen]; omega)
        try replace hb7 := hb7.keep X13_3 (by simp)
        try replace hb12 := hb12.keep X13_3 (by simp)
        replace hS13 : Chg wd13 _ [] := hS13.trans X13_3
        refine s_nil ⟨.inr hS13, ?_⟩
        refine d_take 4 54 rfl (by kernel_rfl) rfl hS13 (fun wS hS => runs_buildv (v := pfv false r (.slice (some ⟨b53, 0, none⟩) m m)) [(1, av r), (2, .slice (some ⟨b53, 0, none⟩) m m)] rfl (build_pf0 hrn)) ?_
        refine d_two 5 9 rfl rfl (by kernel_rfl) ?_ ?_
        · refine s_callf (xs := [.const (.pointer none), .tmp 50, .tmp 54]) rfl rfl Tryd.func12 rfl (by kernel_rfl) rfl (climbS0 (hG.keep hS13 (by simp)) (by have := hS13.size; omega) hid hrn hHb53 (fun p hp => by cases hp; simp only; omega) (by omega)) ?_
          rintro _ w135 ⟨rfl, X13_5⟩
          have zs13_5 := X13_5.size
          obtain ⟨isv, hisv⟩ : ∃ b, b = (Sp.aclimbR id false r (List.replicate m Sp.zero32)).2 := ⟨_, rfl⟩
          obtain ⟨hv2, hhv2⟩ : ∃ h, h = (Sp.aclimbR id false r (List.replicate m Sp.zero32)).1 := ⟨_, rfl⟩
          have okh2 : HOk hv2 := by rw [hhv2]; exact aclimbR_ok
          rw [← hisv, ← hhv2]
          rw [long_is] at hisv
          replace hS13 : Chg wd13 _ [] := hS13.trans X13_5
          refine s_nil ⟨.inr hS13, ?_⟩
          refine d_take 6 49 rfl (by kernel_rfl) rfl hS13 (fun wS hS => runs_move rfl) ?_
          refine d_take 7 56 rfl (by kernel_rfl) rfl hS13 (fun wS hS => runs_extract rfl rfl) ?_
          refine d_take 8 57 rfl (by kernel_rfl) rfl hS13 (fun wS hS => runs_extract rfl rfl) ?_
          refine d_only 9 rfl (by kernel_rfl) ?_
          refine s_alloc ty26 rfl rfl ?_
          intro b12 w139 e13_9 z13_9 hb12 X13_9
          replace hS13 : Chg wd13 _ [] := hS13.trans X13_9
          refine s_nil ⟨.inr hS13, ?_⟩
          refine d_only 10 rfl (by kernel_rfl) ?_
          refine s_storeAll ty26 rfl rfl rfl hb12 (by rw [natsC_length, okh2.1]) rfl (natsC_one _ _) ?_
          intro w1310 z13_10 h13_10 X13_10
          replace hb12 := h13_10
          replace hS13 : Chg wd13 _ [] := (hS13.trans X13_10).mono (by intro k hk hlt; simp at hk; omega)
          refine s_nil ⟨.inr hS13, ?_⟩
          refine d_take 11 13 rfl (by kernel_rfl) rfl hS13 (fun wS hS => runs_assign rfl) ?_
          refine d_done (by kernel_rfl) ?_
          replace hG := hG.keep hS13 (by simp)
          replace hX : Chg w _ [] := (hX.trans hS13).mono (by intro k hk hlt; simp at hk ⊢ <;> first | omega | grind)
          replace hb3 := hb3.keep hS13 (by simp)
          replace hb4 := hb4.keep hS13 (by simp)
          exact hJ25 isv _ ⟨hisv, hX, hb3⟩ _ ⟨rfl, rfl, rfl, rfl, rfl, trivial⟩
        · refine s_alloc ty26 rfl rfl ?_
          intro b12 w139 e13_9 z13_9 hb12 X13_9
          replace hHb53 := hHb53.keep0 X13_9
          replace hS13 : Chg wd13 _ [] := hS13.trans X13_9
          refine s_nil ⟨.inr hS13, ?_⟩
          refine d_only 5 rfl (by kernel_rfl) ?_
          refine s_callf (xs := [.const (.pointer none), .tmp 50, .tmp 54]) rfl rfl Tryd.func12 rfl (by kernel_rfl) rfl (climbS0 (hG.keep hS13 (by simp)) (by have := hS13.size; omega) hid hrn hHb53 (fun p hp => by cases hp; simp only; omega) (by omega)) ?_
          rintro _ w135 ⟨rfl, X13_5⟩
          replace hb12 := hb12.keep X13_5 (by simp)
          have zs13_5 := X13_5.size
          obtain ⟨isv, hisv⟩ : ∃ b, b = (Sp.aclimbR id false r (List.replicate m Sp.zero32)).2 := ⟨_, rfl⟩
          obtain ⟨hv2, hhv2⟩ : ∃ h, h = (Sp.aclimbR id false r (List.replicate m Sp.zero32)).1 := ⟨_, rfl⟩
          have okh2 : HOk hv2 := by rw [hhv2]; exact aclimbR_ok
          rw [← hisv, ← hhv2]
          rw [long_is] at hisv
          replace hS13 : Chg wd13 _ [] := hS13.trans X13_5
          refine s_nil ⟨.inr hS13, ?_⟩
          refine d_take 6 49 rfl (by kernel_rfl) rfl hS13 (fun wS hS => runs_move rfl) ?_
          refine d_take 7 56 rfl (by kernel_rfl) rfl hS13 (fun wS hS => runs_extract rfl rfl) ?_
          refine d_take 8 57 rfl (by kernel_rfl) rfl hS13 (fun wS hS => runs_extract rfl rfl) ?_
          refine d_only 10 rfl (by kernel_rfl) ?_
          refine s_storeAll ty26 rfl rfl rfl hb12 (by rw [natsC_length, okh2.1]) rfl (natsC_one _ _) ?_
          intro w1310 z13_10 h13_10 X13_10
          replace hb12 := h13_10
          replace hS13 : Chg wd13 _ [] := (hS13.trans X13_10).mono (by intro k hk hlt; simp at hk; omega)
          refine s_nil ⟨.inr hS13, ?_⟩
          refine d_take 11 13 rfl (by kernel_rfl) rfl hS13 (fun wS hS => runs_assign rfl) ?_
          refine d_done (by kernel_rfl) ?_
          replace hG := hG.keep hS13 (by simp)
          replace hX : Chg w _ [] := (hX.trans hS13).mono (by intro k hk hlt; simp at hk ⊢ <;> first | omega | grind)
          replace hb3 := hb3.keep hS13 (by simp)
          replace hb4 := hb4.keep hS13 (by simp)
          exact hJ25 isv _ ⟨hisv, hX, hb3⟩ _ ⟨rfl, rfl, rfl, rfl, rfl, trivial⟩
      · refine s_alloc ty26 rfl rfl ?_
        intro b12 w139 e13_9 z13_9 hb12 X13_9
        replace hS13 : Chg wd13 _ [] := hS13.trans X13_9
        refine s_nil ⟨.inr hS13, ?_⟩
        refine d_only 3 rfl (by kernel_rfl) ?_
        refine s_makeF m Tryd.underlying31 ty26 rfl rfl rfl rfl (by omega) (by simp only [maxLen]; omega) ?_
        intro b53 w133 e13_3 z13_3 hb53 X13_3
        have hHb53 := made_hs hb53 (by simp only [maxLen]; omega)
        try replace hb7 := hb7.keep X13_3 (by simp)
        try replace hb12 := hb12.keep X13_3 (by simp)
        replace hS13 : Chg wd13 _ [] := hS13.trans X13_3
        refine s_nil ⟨.inr hS13, ?_⟩
        refine d_take 4 54 rfl (by kernel_rfl) rfl hS13 (fun wS hS => runs_buildv (v := pfv false r (.slice (some ⟨b53, 0, none⟩) m m)) [(1, av r), (2, .slice (some ⟨b53, 0, none⟩) m m)] rfl (build_pf0 hrn)) ?_
        refine d_only 5 rfl (by kernel_rfl) ?_
        refine s_callf (xs := [.const (.pointer none), .tmp 50, .tmp 54]) rfl rfl Tryd.func12 rfl (by kernel_rfl) rfl (climbS0 (hG.keep hS13 (by simp)) (by have := hS13.size; omega) hid hrn hHb53 (fun p hp => by cases hp; simp only; omega) (by omega)) ?_
        rintro _ w135 ⟨rfl, X13_5⟩
        replace hb12 := hb12.keep X13_5 (by simp)
        have zs13_5 := X13_5.size
        obtain ⟨isv, hisv⟩ : ∃ b, b = (Sp.aclimbR id false r (List.replicate m Sp.zero32)).2 := ⟨_, rfl⟩
        obtain ⟨hv2, hhv2⟩ : ∃ h, h = (Sp.aclimbR id false r (List.replicate m Sp.zero32)).1 := ⟨_, rfl⟩
        have okh2 : HOk hv2 := by rw [hhv2]; exact aclimbR_ok
        rw [← hisv, ← hhv2]
        rw [long_is] at hisv
        replace hS13 : Chg wd13 _ [] := hS13.trans X13_5
        refine s_nil ⟨.inr hS13, ?_⟩
        refine d_take 6 49 rfl (by kernel_rfl) rfl hS13 (fun wS hS => runs_move rfl) ?_
        refine d_take 7 56 rfl (by kernel_rfl) rfl hS13 (fun wS hS => runs_extract rfl rfl) ?_
        refine d_take 8 57 rfl (by kernel_rfl) rfl hS13 (fun wS hS => runs_extract rfl rfl) ?_
        refine d_only 10 rfl (by kernel_rfl) ?_
        refine s_storeAll ty26 rfl rfl rfl hb12 (by rw [natsC_length, okh2.1]) rfl (natsC_one _ _) ?_
        intro w1310 z13_10 h13_10 X13_10
        replace hb12 := h13_10
        replace hS13 : Chg wd13 _ [] := (hS13.trans X13_10).mono (by intro k hk hlt; simp at hk; omega)
        refine s_nil ⟨.inr hS13, ?_⟩
        refine d_take 11 13 rfl (by kernel_rfl) rfl hS13 (fun wS hS => runs_assign rfl) ?_
        refine d_done (by kernel_rfl) ?_
        replace hG := hG.keep hS13 (by simp)
        replace hX : Chg w _ [] := (hX.trans hS13).mono (by intro k hk hlt; simp at hk ⊢ <;> first | omega | grind)
        replace hb3 := hb3.keep hS13 (by simp)
        replace hb4 := hb4.keep hS13 (by simp)
        exact hJ25 isv _ ⟨hisv, hX, hb3⟩ _ ⟨rfl, rfl, rfl, rfl, rfl, trivial⟩
  refine c_drawX [5] ([]) (by kernel_rfl) ?_
  intro wd5 Xd5 hS5
  replace hG := hG.keep Xd5 (by simp)
  replace hX : Chg w _ [] := (hX.trans Xd5).mono (by intro k hk hlt; simp at hk ⊢ <;> first | omega | grind)
  replace hb3 := hb3.keep Xd5 (by simp)
  replace hb4 := hb4.keep Xd5 (by simp)
  have zd5 := Xd5.size
  refine d_take 0 22 rfl (by kernel_rfl) rfl hS5 (fun wS hS => runs_loadAgg ty28 rfl ((hb3.keep hS (by simp)).at) (Ac.len hrn)) ?_
  refine d_take 1 23 rfl (by kernel_rfl) rfl hS5 (fun wS hS => runs_move rfl) ?_
  refine d_two 2 4 rfl rfl (by kernel_rfl) ?_ ?_
  · refine s_makeF m Tryd.underlying31 ty26 rfl rfl rfl rfl (by omega) (by simp only [maxLen]; omega) ?_
    intro b24 w52 e5_2 z5_2 hb24 X5_2
    have hHb24 := made_hs hb24 (by simp only [maxLen]; omega)
    try replace hb7 := hb7.keep X5_2 (by simp)
    try replace hb12 := hb12.keep X5_2 (by simp)
    replace hS5 : Chg wd5 _ [] := hS5.trans X5_2
    refine s_nil ⟨.inr hS5, ?_⟩
    refine d_take 3 25 rfl (by kernel_rfl) rfl hS5 (fun wS hS => runs_buildv (v := pfv true r (.slice (some ⟨b24, 0, none⟩) m m)) [(0, .bool true), (1, av r), (2, .slice (some ⟨b24, 0, none⟩) m m)] rfl (build_pf hrn)) ?_
    refine d_only 4 rfl (by kernel_rfl) ?_
    refine s_alloc ty33 rfl rfl ?_
    intro b7 w54 e5_4 z5_4 hb7 X5_4
    replace hHb24 := hHb24.keep0 X5_4
    replace hS5 : Chg wd5 _ [] := hS5.trans X5_4
    refine s_nil ⟨.inr hS5, ?_⟩
    refine d_only 5 rfl (by kernel_rfl) ?_
    replace hG := hG.keep hS5 (by simp)
    replace hX : Chg w _ [] := (hX.trans hS5).mono (by intro k hk hlt; simp at hk ⊢ <;> first | omega | grind)
    replace hb3 := hb3.keep hS5 (by simp)
    replace hb4 := hb4.keep hS5 (by simp)
    refine s_storeAll ty33 rfl rfl rfl hb7 (pfC_len hrn) rfl (pfC_one rfl) ?_
    intro w55 z5_5 h5_5 X5_5
    replace hG := hG.keep X5_5 (by simp; omega)
    replace hX : Chg w _ [] := (hX.trans X5_5).mono (by intro k hk hlt; simp at hk ⊢ <;> first | omega | grind)
    replace hb3 := hb3.keep X5_5 (by simp; omega)
    replace hb4 := hb4.keep X5_5 (by simp; omega)
    replace hHb24 := hHb24.keep X5_5 (fun p hp => by cases hp; simp; omega)
    replace hb7 := h5_5
    refine s_nil ⟨.inl rfl, ?_⟩
    refine d_done (by kernel_rfl) ?_
    exact hJ11 b7 b24 _ ⟨hG, hX, hb3, hb4, hb7, hHb24, by omega⟩ _ ⟨rfl, rfl, rfl, rfl, trivial⟩
  · refine s_alloc ty33 rfl rfl ?_
    intro b7 w54 e5_4 z5_4 hb7 X5_4
    replace hS5 : Chg wd5 _ [] := hS5.trans X5_4
    refine s_nil ⟨.inr hS5, ?_⟩
    refine d_only 2 rfl (by kernel_rfl) ?_
    refine s_makeF m Tryd.underlying31 ty26 rfl rfl rfl rfl (by omega) (by simp only [maxLen]; omega) ?_
    intro b24 w52 e5_2 z5_2 hb24 X5_2
    have hHb24 := made_hs hb24 (by simp only [maxLen]; omega)
    try replace hb7 := hb7.keep X5_2 (by simp)
    try replace hb12 := hb12.keep X5_2 (by simp)
    replace hS5 : Chg wd5 _ [] := hS5.trans X5_2
    refine s_nil ⟨.inr hS5, ?_⟩
    refine d_take 3 25 rfl (by kernel_rfl) rfl hS5 (fun wS hS => runs_buildv (v := pfv true r (.slice (some ⟨b24, 0, none⟩) m m)) [(0, .bool true), (1, av r), (2, .slice (some ⟨b24, 0, none⟩) m m)] rfl (build_pf hrn)) ?_
    refine d_only 5 rfl (by kernel_rfl) ?_
    replace hG := hG.keep hS5 (by simp)
    replace hX : Chg w _ [] := (hX.trans hS5).mono (by intro k hk hlt; simp at hk ⊢ <;> first | omega | grind)
    replace hb3 := hb3.keep hS5 (by simp)
    replace hb4 := hb4.keep hS5 (by simp)
    refine s_storeAll ty33 rfl rfl rfl hb7 (pfC_len hrn) rfl (pfC_one rfl) ?_
    intro w55 z5_5 h5_5 X5_5
    replace hG := hG.keep X5_5 (by simp; omega)
    replace hX : Chg w _ [] := (hX.trans X5_5).mono (by intro k hk hlt; simp at hk ⊢ <;> first | omega | grind)
    replace hb3 := hb3.keep X5_5 (by simp; omega)
    replace hb4 := hb4.keep X5_5 (by simp; omega)
    replace hHb24 := hHb24.keep X5_5 (fun p hp => by cases hp; simp; omega)
    replace hb7 := h5_5
    refine s_nil ⟨.inl rfl, ?_⟩
    refine d_done (by kernel_rfl) ?_
    exact hJ11 b7 b24 _ ⟨hG, hX, hb3, hb4, hb7, hHb24, by omega⟩ _ ⟨rfl, rfl, rfl, rfl, trivial⟩
end Go.Proofs.YtmmijecookbajaaDoor
namespace Go.Proofs.YtmmijecookbajaaDoor
open Go Go.RowKit

theorem nat_lt128 {x : Nm} (h : NOk x) : Sp.nat x / 2 ^ 128 = 0 := by
  obtain ⟨h1, h2⟩ := h
  refine Nat.div_eq_of_lt ?_
  show Sp.nat x < 340282366920938463463374607431768211456
  simp only [Sp.nat]; omega
theorem prefix_eq {x y : Nm} (hx : NOk x) (hy : NOk y) : ∀ k, k ≤ 128 → (∀ i, i < k → Sp.bit x i = Sp.bit y i) → Sp.nat x / 2 ^ (128 - k) = Sp.nat y / 2 ^ (128 - k) := by
  intro k
  induction k with
  | zero => intro _ _; rw [Nat.sub_zero, nat_lt128 hx, nat_lt128 hy]
  | succ k ih =>
    intro hk h
    rw [show 128 - (k + 1) = 127 - k by omega, nat_step hx (by omega), nat_step hy (by omega), ih (by omega) (fun i hi => h i (by omega)), h k (by omega)]
theorem wf_prefix {k : Nat} {l : List Ac} {y : Ac} (hw : Wf 0 l) (hk : k ≤ 128) (hy : y.Num) (h : ∀ a ∈ l, ∀ i, i < k → Sp.bit a.id i = Sp.bit y.id i) : Wf k l :=
  ⟨hk, hw.rise, fun a ha b hb => (prefix_eq (hw.num a ha).id hy.id k hk (h a ha)).trans (prefix_eq (hw.num b hb).id hy.id k hk (h b hb)).symm, hw.num⟩
theorem wf127 {l : List Ac} (h : Wf 127 l) : l.length ≤ 2 := by
  have h0 := h.lo (by omega)
  have h1 := h.hi (by omega)
  have h2 : (l.take (Sp.lows l 127)).length ≤ 1 := by
    rcases Nat.lt_or_ge 1 (l.take (Sp.lows l 127)).length with h' | h'
    · have := h0.lt h'; omega
    · exact h'
  have h3 : (l.drop (Sp.lows l 127)).length ≤ 1 := by
    rcases Nat.lt_or_ge 1 (l.drop (Sp.lows l 127)).length with h' | h'
    · have := h1.lt h'; omega
    · exact h'
  have e := congrArg List.length (List.take_append_drop (Sp.lows l 127) l)
  rw [List.length_append] at e
  omega
def Sp.flt (l : List Ac) (k b j : Nat) : List Ac := (l.take j).filter fun a => decide (Sp.bit a.id k = b)
theorem flt_in {l : List Ac} {k b j : Nat} {x : Ac} (h : l[j]? = some x) (hb : Sp.bit x.id k = b) : Sp.flt l k b (j + 1) = Sp.flt l k b j ++ [x] := by
  unfold Sp.flt
  rw [List.take_add_one, h, List.filter_append]; simp [hb]
theorem flt_out {l : List Ac} {k b j : Nat} {x : Ac} (h : l[j]? = some x) (hb : Sp.bit x.id k ≠ b) : Sp.flt l k b (j + 1) = Sp.flt l k b j := by
  unfold Sp.flt
  rw [List.take_add_one, h, List.filter_append]; simp [hb]
theorem flt_len (l : List Ac) (k b j : Nat) : (Sp.flt l k b j).length ≤ l.length := by
  unfold Sp.flt
  exact Nat.le_trans (List.length_filter_le _ _) (by rw [List.length_take]; omega)
theorem flt_num {l : List Ac} (h : ∀ a ∈ l, a.Num) (k b j : Nat) : ∀ a ∈ Sp.flt l k b j, a.Num := fun a ha => h a (List.mem_of_mem_take (List.mem_filter.1 ha).1)
theorem flt_all {l : List Ac} {k b : Nat} (h : Wf k l) (hk : k < 128) (hb : b < 2) {j : Nat} (hj : l.length ≤ j) : Sp.flt l k b j = Sp.side l k b := by
  unfold Sp.flt
  rw [List.take_of_length_le hj, side_filter h hk hb]
theorem own_in {w : World} {B : Nat} {e : TypeId} {v : Value} {l : List Ac} {x : Ac} (h : w.ownsRow B e 46 v (l.length + 1) (l.flatMap Ac.C ++ [x].flatMap Ac.C)) : w.ownsRow B e 46 v (l ++ [x]).length ((l ++ [x]).flatMap Ac.C) := by
  rw [List.length_append, List.flatMap_append]; exact h
set_option maxHeartbeats 4000000 in
theorem sidesS_calls (B : Nat) (ls : List Ac) (a : Option Addr) (n c : Nat) (kz : Int) (w : World) (hG0 : GH B w) (hBw : B ≤ w.heap.size) (hR : AcR w a n c ls) (hn : n * 144 ≤ 140737488355328) :
    CallsR Tryd.prog 6 #[.slice a n c, .int .i64 kz] w fun v w' => v = .bool true ∧ Chg w w' [] := by
  have hX : Chg w w [] := Chg.refl _ _
  have hG := hG0
  obtain ⟨k, hk⟩ : ∃ k, k = land64 kz 127 := ⟨_, rfl⟩
  have hk127 : k ≤ 127 := by rw [hk]; exact land64_le (by decide)
  refine f_enter (l := [.slice a n c, .int .i64 kz]) Tryd.func6 rfl rfl rfl rfl ?_
  intro Qf hnrm hret
  refine c_seqreg (fun K1 hK1 => ?_)
  refine s_val rfl rfl (runs_assign rfl) ?_
  refine s_nil ?_
  refine hK1 _ _ ?_
  refine c_seq (fun K2 hK2 => ?_)
  refine c_seqreg (fun K3 hK3 => ?_)
  refine s_callf (xs := []) rfl rfl Tryd.func10 rfl (by kernel_rfl) rfl (fit_calls B _ hG (by omega)) ?_
  rintro _ w1 ⟨rfl, X1_0⟩
  replace hG := hG.keep X1_0 (by simp)
  replace hX : Chg w _ [] := (hX.trans X1_0).mono (by intro k hk hlt; simp at hk ⊢ <;> first | omega | grind)
  have zs1_0 := X1_0.size
  refine s_val rfl rfl (runs_not rfl) ?_
  refine s_nil ?_
  refine hK3 _ _ ?_
  refine c_false rfl ?_
  refine c_skip ?_
  refine hK2 _ _ ?_
  refine c_seqreg (fun K5 hK5 => ?_)
  refine s_val rfl rfl (runs_move rfl) ?_
  refine s_callf (xs := [.tmp 16]) rfl rfl Tryd.func14 rfl (by kernel_rfl) rfl (few_calls B ls a n c _ hG (by omega) (hR.keep0 hX) hn) ?_
  rintro _ w31 ⟨v1, rfl, hown, X3_1⟩
  replace hG := hG.keep X3_1 (by simp)
  replace hX : Chg w _ [] := (hX.trans X3_1).mono (by intro k hk hlt; simp at hk ⊢ <;> first | omega | grind)
  have zs3_1 := X3_1.size
  have hlw := few_wf hR.ok
  have hlok := few_ok hR.ok
  have hll := few_len ls
  rw [hR.len] at hll
  obtain ⟨l, hl⟩ : ∃ l, l = Sp.few ls := ⟨_, rfl⟩
  rw [← hl] at hown hlw hlok hll
  obtain ⟨n1, hn1⟩ : ∃ k, k = l.length := ⟨_, rfl⟩
  rw [← hn1] at hown hll
  obtain ⟨a1, c1, rfl, hRl, hob1⟩ := own_acs hown hlw.num hn1.symm
  have hal : ∀ p, a1 = some p → p.block < w31.heap.size := fun p hp => (hown.lt p.block (by rw [hob1, hp]; rfl)).2
  have hzX3 := hX.size
  refine s_val rfl rfl (runs_move rfl) ?_
  refine s_val rfl rfl (runs_extract rfl rfl) ?_
  refine s_val rfl rfl (runs_extract rfl rfl) ?_
  refine s_val rfl rfl (runs_assign rfl) ?_
  refine s_val rfl rfl (runs_assign rfl) ?_
  refine s_nil ?_
  refine hK5 _ _ ?_
  refine c_seq (fun K7 hK7 => ?_)
  rcases Decidable.em ((n : Int) ≤ 20) with h20 | h20
  · refine c_seqreg (fun K8 hK8 => ?_)
    refine s_val rfl rfl (runs_dt (runs_move rfl) h20) ?_
    refine s_val rfl rfl (runs_not rfl) ?_
    refine s_val rfl rfl (runs_move rfl) ?_
    refine s_val rfl rfl (runs_move rfl) ?_
    refine s_val rfl rfl (runs_len_slice Tryd.underlying38 rfl) ?_
    refine s_val rfl rfl (runs_lt rfl rfl) ?_
    refine s_val rfl rfl (runs_pickf rfl rfl) ?_
    refine s_nil ?_
    refine hK8 _ _ ?_
    refine c_dec rfl (fun h2l => ?_) (fun h2l => ?_)
    · refine c_seqreg (fun K9 hK9 => ?_)
      refine s_val rfl rfl (runs_assign rfl) ?_
      refine s_nil ?_
      refine hK9 _ _ ?_
      refine c_ret ?_
      refine hret _ _ ?_
      exact ends1 (reads_tmp rfl) ⟨rfl, hX⟩
    · obtain ⟨ba1, oa1, rfl⟩ := hRl.rd.some_ (by omega)
      have hba1 := hal _ rfl
      simp only at hba1
      obtain ⟨y0, hy0⟩ : ∃ y, l[0]? = some y := ⟨_, List.getElem?_eq_getElem (by omega)⟩
      have hy0n := hlw.num y0 (List.mem_of_getElem? hy0)
      refine c_skip ?_
      refine hK7 _ _ ?_
      refine c_seqreg (fun K10 hK10 => ?_)
      refine s_val rfl rfl (runs_move rfl) ?_
      refine s_val rfl rfl (runs_as (v' := .int .i64 (k : Int)) (runs_and64 127 rfl (by decide)) (by rw [hk])) ?_
      refine s_val rfl rfl (runs_assign rfl) ?_
      refine s_nil ?_
      refine hK10 _ _ ?_
      refine c_seqreg (fun K11 hK11 => ?_)
      refine s_alloc ty44 rfl rfl ?_
      intro b6 w7 e7_0 z7_0 hb6 X7_0
      have s7_0_hX := hX.size
      replace hG := hG.keep X7_0 (by simp)
      replace hX : Chg w _ [] := (hX.trans X7_0).mono (by intro k hk hlt; simp at hk ⊢ <;> first | omega | grind)
      replace hRl := hRl.keep0 X7_0
      replace hb6 : Blk w7 b6 ([.slice none 0 0, .slice none 0 0]) 44 := hb6
      refine s_nil ?_
      have X7 : Chg w7 w7 [b6] := Chg.refl _ _
      have hz7 : w7.heap.size = b6 + 1 := z7_0
      have hzX7 := hX.size
      refine hK11 _ _ ?_
      refine c_seq (fun K13 hK13 => ?_)
      refine c_seqreg (fun K14 hK14 => ?_)
      refine s_val rfl rfl (runs_move rfl) ?_
      refine s_val rfl rfl (runs_len_slice Tryd.underlying38 rfl) ?_
      refine s_val rfl rfl (runs_move rfl) ?_
      refine s_nil ?_
      refine hK14 _ _ ?_
      refine c_block ?_
      refine c_loop (σ := Nat × Value × Value) (fun s => [(31, .int .i64 (s.1 : Int)), (30, .int .i64 (n1 : Int)), (29, .slice (some ⟨ba1, oa1, none⟩) n1 c1), (6, (.pointer (some ⟨b6, 0, none⟩))), (1, .int .i64 (k : Int)), (0, .slice (some ⟨ba1, oa1, none⟩) n1 c1)]) (fun s W => s.1 ≤ n1 ∧ (∀ i, i < s.1 → ∀ x, l[i]? = some x → ∀ t, t < k → Sp.bit x.id t = Sp.bit y0.id t) ∧ Chg w7 W [b6] ∧ Blk W b6 [s.2.1, s.2.2] 44 ∧ W.ownsRow (b6 + 1) 28 46 s.2.1 (Sp.flt l k 0 s.1).length ((Sp.flt l k 0 s.1).flatMap Ac.C) ∧ W.ownsRow (b6 + 1) 28 46 s.2.2 (Sp.flt l k 1 s.1).length ((Sp.flt l k 1 s.1).flatMap Ac.C) ∧ ∀ b, s.2.1.ownBlock = some b → s.2.2.ownBlock ≠ some b) (fun s => n1 - s.1) (0, .slice none 0 0, .slice none 0 0) ⟨rfl, rfl, rfl, rfl, rfl, rfl, trivial⟩ ⟨Nat.zero_le _, fun i hi => by omega, X7, hb6, World.ownsRow_nil _ _ _ _, World.ownsRow_nil _ _ _ _, fun b h => by simp [Value.ownBlock] at h⟩ ?_
      rintro ⟨j, v0, v1⟩ wj ⟨hj, hpre, X7, hb6, ho0, ho1, hap⟩
      dsimp only at hj hpre hb6 ho0 ho1 hap ⊢
      have hzX7j := X7.size
      have hlt0 := fun z (h : v0.ownBlock = some z) => (ho0.lt z h).2
      have hlt1 := fun z (h : v1.ownBlock = some z) => (ho1.lt z h).2
      have hge0 := fun z (h : v0.ownBlock = some z) => (ho0.lt z h).1
      have hge1 := fun z (h : v1.ownBlock = some z) => (ho1.lt z h).1
      refine c_seqreg (fun K15 hK15 => ?_)
      refine s_val rfl rfl (runs_lt rfl rfl) ?_
      refine s_nil ?_
      refine hK15 _ _ ?_
      refine c_seq (fun K16 hK16 => ?_)
      refine c_dec rfl (fun hjn => ?_) (fun hjn => ?_)
      · obtain ⟨x, hx⟩ : ∃ x, l[j]? = some x := ⟨_, List.getElem?_eq_getElem (by omega)⟩
        have hxn := hlw.num x (List.mem_of_getElem? hx)
        refine c_skip ?_
        refine hK16 _ _ ?_
        refine c_seq (fun K17 hK17 => ?_)
        refine c_block ?_
        refine c_seqreg (fun K18 hK18 => ?_)
        refine s_val rfl rfl (runs_index_slice (j) Tryd.underlying38 ty28 rfl rfl (by omega) (by omega)) ?_
        refine s_val rfl rfl (runs_loadAgg ty28 rfl ((hRl.keep X7 (fun p hp => by cases hp; simp only [List.mem_singleton]; omega)).elem hx) (Ac.len hxn)) ?_
        refine s_alloc ty28 rfl rfl ?_
        intro b8 w102 e10_2 z10_2 hb8 X10_2
        have s10_2_X7 := X7.size
        have s10_2_hb6 := hb6.lt
        replace X7 : Chg w7 _ [b6] := (X7.trans X10_2).mono (by intro k hk hlt; simp at hk ⊢ <;> first | omega | grind)
        replace hb6 := hb6.keep X10_2 (by simp)
        replace ho0 := own_keep ho0 X10_2 (by simp)
        replace ho1 := own_keep ho1 X10_2 (by simp)
        refine s_storeAll ty28 rfl rfl rfl hb8 (Ac.len hxn) rfl (Ac.one x) ?_
        intro w103 z10_3 h10_3 X10_3
        replace X7 : Chg w7 _ [b6] := (X7.trans X10_3).mono (by intro k hk hlt; simp at hk ⊢ <;> first | omega | grind)
        replace hb6 := hb6.keep X10_3 (by simp; omega)
        replace ho0 := own_keep ho0 X10_3 (fun k' hk' hm => by have := hlt0 k' hk'; simp at hm; omega)
        replace ho1 := own_keep ho1 X10_3 (fun k' hk' hm => by have := hlt1 k' hk'; simp at hm; omega)
        replace hb8 := h10_3
        refine s_nil ?_
        have hl8 := hb8.lt
        have hl6 := hb6.lt
        refine hK18 _ _ ?_
        refine c_seq (fun K21 hK21 => ?_)
        refine c_seqreg (fun K22 hK22 => ?_)
        refine s_val rfl rfl (runs_move rfl) ?_
        refine s_val rfl rfl (runs_move rfl) ?_
        refine s_nil ?_
        refine hK22 _ _ ?_
        refine c_block ?_
        refine c_loop (σ := Nat) (fun t => [(36, .int .i64 (t : Int)), (35, .int .i64 (k : Int)), (8, (.pointer (some ⟨b8, 0, none⟩))), (31, .int .i64 (j : Int)), (30, .int .i64 (n1 : Int)), (29, .slice (some ⟨ba1, oa1, none⟩) n1 c1), (6, (.pointer (some ⟨b6, 0, none⟩))), (1, .int .i64 (k : Int)), (0, .slice (some ⟨ba1, oa1, none⟩) n1 c1)]) (fun t W => t ≤ k ∧ (∀ i, i < t → Sp.bit x.id i = Sp.bit y0.id i) ∧ Chg w103 W []) (fun t => k - t) 0 ⟨rfl, rfl, rfl, rfl, rfl, rfl, rfl, rfl, rfl, trivial⟩ ⟨Nat.zero_le _, fun i hi => by omega, Chg.refl _ _⟩ ?_
        rintro t wt ⟨ht, hsame, XL⟩
        replace X7 : Chg w7 wt [b6] := (X7.trans XL).mono (by intro k hk hlt; simpa using hk)
        replace hb6 := hb6.keep XL (by simp)
        replace hb8 := hb8.keep XL (by simp)
        replace ho0 := own_keep ho0 XL (by simp)
        replace ho1 := own_keep ho1 XL (by simp)
        have hzXL := XL.size
        have hzX7t := X7.size
        refine c_seqreg (fun K23 hK23 => ?_)
        refine s_val rfl rfl (runs_lt rfl rfl) ?_
        refine s_nil ?_
        refine hK23 _ _ ?_
        refine c_seq (fun K24 hK24 => ?_)
        refine c_dec rfl (fun htk => ?_) (fun htk => ?_)
        · refine c_skip ?_
          refine hK24 _ _ ?_
          refine c_seq (fun K25 hK25 => ?_)
          refine c_block ?_
          refine c_seqreg (fun K26 hK26 => ?_)
          refine s_val rfl rfl (runs_move rfl) ?_
          refine s_val rfl rfl (runs_assign rfl) ?_
          refine s_nil ?_
          refine hK26 _ _ ?_
          refine c_seqdraw [] ([]) (by kernel_rfl) ?_
          intro K27 hK27 wd14 Xd14 hS14
          replace X7 : Chg w7 _ [b6] := (X7.trans Xd14).mono (by intro k hk hlt; simp at hk ⊢ <;> first | omega | grind)
          replace hb6 := hb6.keep Xd14 (by simp)
          replace ho0 := own_keep ho0 Xd14 (by simp)
          replace ho1 := own_keep ho1 Xd14 (by simp)
          replace hb8 := hb8.keep Xd14 (by simp)
          replace XL : Chg w103 _ [] := (XL.trans Xd14).mono (by intro k hk hlt; simp at hk ⊢ <;> first | omega | grind)
          have zd14 := Xd14.size
          refine d_take 0 39 rfl (by kernel_rfl) rfl hS14 (fun wS hS => runs_fieldAddr Tryd.underlying28 rfl ty24 (by decide) rfl) ?_
          refine d_take 1 40 rfl (by kernel_rfl) rfl hS14 (fun wS hS => runs_loadAgg ty24 rfl ((hb8.keep hS (by simp)).at.sub 0 2) (by rfl)) ?_
          refine d_take 2 41 rfl (by kernel_rfl) rfl hS14 (fun wS hS => runs_move rfl) ?_
          refine d_take 4 43 rfl (by kernel_rfl) rfl hS14 (fun wS hS => runs_move rfl) ?_
          refine d_take 5 44 rfl (by kernel_rfl) rfl hS14 (fun wS hS => runs_index_slice (0) Tryd.underlying38 ty28 rfl rfl (by omega) (by omega)) ?_
          refine d_take 6 45 rfl (by kernel_rfl) rfl hS14 (fun wS hS => runs_fieldAddr Tryd.underlying28 rfl ty24 (by decide) rfl) ?_
          refine d_take 7 46 rfl (by kernel_rfl) rfl hS14 (fun wS hS => runs_loadAgg ty24 rfl ((((hRl.keep X7 (fun p hp => by cases hp; simp only [List.mem_singleton]; omega)).keep0 hS).elem hy0).sub 0 2) (by rfl)) ?_
          refine d_take 8 47 rfl (by kernel_rfl) rfl hS14 (fun wS hS => runs_move rfl) ?_
          refine d_only 3 rfl (by kernel_rfl) ?_
          refine s_callf (xs := [.tmp 40, .tmp 41]) rfl rfl Tryd.func13 rfl (by kernel_rfl) rfl (bit_calls x.id t _ hxn.id (by omega)) ?_
          rintro _ w143 ⟨rfl, X14_3⟩
          have zs14_3 := X14_3.size
          replace hS14 : Chg wd14 _ [] := hS14.trans X14_3
          refine s_nil ⟨.inr hS14, ?_⟩
          refine d_only 9 rfl (by kernel_rfl) ?_
          refine s_callf (xs := [.tmp 46, .tmp 47]) rfl rfl Tryd.func13 rfl (by kernel_rfl) rfl (bit_calls y0.id t _ hy0n.id (by omega)) ?_
          rintro _ w149 ⟨rfl, X14_9⟩
          have zs14_9 := X14_9.size
          replace hS14 : Chg wd14 _ [] := hS14.trans X14_9
          refine s_nil ⟨.inr hS14, ?_⟩
          refine d_take 10 49 rfl (by kernel_rfl) rfl hS14 (fun wS hS => runs_ned rfl rfl) ?_
          refine d_done (by kernel_rfl) ?_
          replace X7 : Chg w7 _ [b6] := (X7.trans hS14).mono (by intro k hk hlt; simp at hk ⊢ <;> first | omega | grind)
          replace hb6 := hb6.keep hS14 (by simp)
          replace ho0 := own_keep ho0 hS14 (by simp)
          replace ho1 := own_keep ho1 hS14 (by simp)
          replace hb8 := hb8.keep hS14 (by simp)
          replace XL : Chg w103 _ [] := (XL.trans hS14).mono (by intro k hk hlt; simp at hk ⊢ <;> first | omega | grind)
          refine hK27 _ _ ?_
          refine c_dec rfl (fun hne => ?_) (fun hne => ?_)
          · refine c_seqreg (fun K30 hK30 => ?_)
            refine s_val rfl rfl (runs_assign rfl) ?_
            refine s_nil ?_
            refine hK30 _ _ ?_
            refine c_ret ?_
            refine hret _ _ ?_
            exact ends1 (reads_tmp rfl) ⟨rfl, (hX.trans X7).mono (by intro k' hk' hlt; simp at hk'; omega)⟩
          · refine c_skip ?_
            refine hK25 _ _ ?_
            refine c_reg ?_
            refine s_val rfl rfl (runs_add64 rfl rfl (by omega)) ?_
            refine s_val rfl rfl (runs_move rfl) ?_
            refine s_nil ?_
            dsimp only [Post.setN]
            exact ⟨t + 1, ⟨rfl, rfl, rfl, rfl, rfl, rfl, rfl, rfl, rfl, trivial⟩, ⟨by omega, fun i hi => by
              by_cases e : i = t
              · subst e; omega
              · exact hsame i (by omega), XL⟩, by omega⟩
        · obtain rfl : k = t := by omega
          refine c_exit ?_
          refine hK21 _ _ ?_
          refine c_seqreg (fun K31 hK31 => ?_)
          refine s_val rfl rfl (runs_fieldAddr Tryd.underlying28 rfl ty24 (by decide) rfl) ?_
          refine s_val rfl rfl (runs_loadAgg ty24 rfl (hb8.at.sub 0 2) (by rfl)) ?_
          refine s_val rfl rfl (runs_move rfl) ?_
          refine s_callf (xs := [.tmp 52, .tmp 53]) rfl rfl Tryd.func13 rfl (by kernel_rfl) rfl (bit_calls x.id k _ hxn.id (by omega)) ?_
          rintro _ w173 ⟨rfl, X17_3⟩
          replace X7 : Chg w7 _ [b6] := (X7.trans X17_3).mono (by intro k hk hlt; simp at hk ⊢ <;> first | omega | grind)
          replace hb6 := hb6.keep X17_3 (by simp)
          replace ho0 := own_keep ho0 X17_3 (by simp)
          replace ho1 := own_keep ho1 X17_3 (by simp)
          replace hb8 := hb8.keep X17_3 (by simp)
          have zs17_3 := X17_3.size
          refine s_val rfl rfl (runs_assign rfl) ?_
          refine s_nil ?_
          have hzX17 := X7.size
          refine hK31 _ _ ?_
          rcases (show Sp.bit x.id k = 0 ∨ Sp.bit x.id k = 1 by have := bit_lt x.id k; omega) with hb | hb
          · refine c_drawX [8] (v0.ownBlock.toList) (by kernel_rfl) ?_
            intro wd18 Xd18 hS18
            replace X7 : Chg w7 _ [b6] := (X7.trans Xd18).mono (by intro k hk hlt; simp at hk ⊢ <;> first | omega | grind)
            replace hb6 := hb6.keep Xd18 (by simp)
            replace ho0 := own_keep ho0 Xd18 (by simp)
            replace ho1 := own_keep ho1 Xd18 (by simp)
            replace hb8 := hb8.keep Xd18 (by simp)
            have zd18 := Xd18.size
            have hd6 : b6 ∉ v0.ownBlock.toList := fun hm => by have := hge0 _ (by simpa using hm); omega
            have hd8 : b8 ∉ v0.ownBlock.toList := fun hm => by have := hlt0 _ (by simpa using hm); omega
            refine d_take 0 55 rfl (by kernel_rfl) rfl hS18 (fun wS hS => runs_move rfl) ?_
            refine d_take 1 56 rfl (by kernel_rfl) rfl hS18 (fun wS hS => runs_move rfl) ?_
            refine d_take 2 57 rfl (by kernel_rfl) rfl hS18 (fun wS hS => runs_index_array (0) Tryd.underlying44 ty38 rfl rfl (by omega) (by omega)) ?_
            refine d_take 3 58 rfl (by kernel_rfl) rfl hS18 (fun wS hS => runs_load1 ty38 rfl ((hb6.keep hS hd6).c1 (j := 0) rfl)) ?_
            refine d_take 4 59 rfl (by kernel_rfl) rfl hS18 (fun wS hS => runs_loadAgg ty28 rfl ((hb8.keep hS hd8).at) (Ac.len hxn)) ?_
            refine d_only 5 rfl (by kernel_rfl) ?_
            refine s_lit (xs := [.tmp 59]) Tryd.underlying38 ty28 rfl rfl rfl rfl rfl (av_sz (l := [x]) (by simpa using hxn)) (by decide) (by decide) ?_
            intro b60 w185 e18_5 z18_5 hb60 X18_5
            have s18_5_X7 := X7.size
            replace ho0 := own_keep ho0 X18_5 (by simp)
            replace ho1 := own_keep ho1 X18_5 (by simp)
            replace X7 : Chg w7 _ [b6] := (X7.trans X18_5).mono (by intro k hk hlt; simp at hk ⊢ <;> first | omega | grind)
            replace hS18 : Chg wd18 _ v0.ownBlock.toList := (hS18.trans X18_5).mono (by intro k hk _; simpa using hk)
            have hz185 := X18_5.size
            refine s_nil ⟨.inr hS18, ?_⟩
            refine d_only 6 rfl (by kernel_rfl) ?_
            refine s_append Tryd.underlying38 ty28 rfl (by decide) rfl rfl rfl ho0 rfl (acs_lit [x] hb60 (by simpa using hxn) rfl).rd (acs_one _) (by have := flt_len l k 0 j; simp only [maxLen]; omega) (by have := flt_len l k 0 j; omega) (by omega) ?_
            intro v61 w186 H18_6 X18_6 F18_6
            replace ho1 := own_keep ho1 X18_6 (fun k' hk' hm => hap k' (by simpa using hm) hk')
            replace X7 : Chg w7 _ [b6] := (X7.trans X18_6).mono (by intro k' hk' hlt; simp at hk' ⊢; rcases hk' with h | h; exact h; have := hge0 _ h; omega)
            have ho0 := H18_6
            replace ho0 := own_in ho0
            rw [← flt_in hx hb] at ho0
            have hz186 := X18_6.size
            replace hS18 : Chg wd18 _ v0.ownBlock.toList := (hS18.trans X18_6).mono (by intro k hk _; simpa using hk)
            refine s_nil ⟨.inr hS18, ?_⟩
            refine d_take 7 62 rfl (by kernel_rfl) rfl hS18 (fun wS hS => runs_index_array (0) Tryd.underlying44 ty38 rfl rfl (by omega) (by omega)) ?_
            refine d_only 8 rfl (by kernel_rfl) ?_
            replace hb6 := hb6.keep hS18 hd6
            replace hb8 := hb8.keep hS18 hd8
            refine s_store1 ty38 rfl rfl rfl hb6 (own_one ho0) (by simp) ?_
            intro w188 z18_8 h18_8 X18_8
            replace hb8 := hb8.keep X18_8 (by simp; omega)
            replace ho1 := own_keep ho1 X18_8 (fun k' hk' hm => by have := (ho1.lt k' hk').1; simp at hm; omega)
            replace X7 : Chg w7 _ [b6] := (X7.trans X18_8).mono (by intro k hk hlt; simp at hk ⊢ <;> first | omega | grind)
            replace ho0 := own_keep ho0 X18_8 (fun k' hk' hm => by have := (ho0.lt k' hk').1; simp at hm; omega)
            replace hb6 := h18_8
            refine s_nil ⟨.inl rfl, ?_⟩
            refine d_done (by kernel_rfl) ?_
            have hnx : ∃ u0 u1, Blk w188 b6 [u0, u1] 44 ∧ w188.ownsRow (b6 + 1) 28 46 u0 (Sp.flt l k 0 (j + 1)).length ((Sp.flt l k 0 (j + 1)).flatMap Ac.C) ∧ w188.ownsRow (b6 + 1) 28 46 u1 (Sp.flt l k 1 (j + 1)).length ((Sp.flt l k 1 (j + 1)).flatMap Ac.C) ∧ ∀ b, u0.ownBlock = some b → u1.ownBlock ≠ some b := ⟨v61, v1, hb6, ho0, by rw [flt_out hx (by omega)]; exact ho1, fun z h0 h1 => by
              rcases F18_6 z h0 with h | h
              · exact hap z h h1
              · have := hlt1 z h1; omega⟩
            refine hK17 _ _ ?_
            refine c_reg ?_
            refine s_val rfl rfl (runs_add64 rfl rfl (by omega)) ?_
            refine s_val rfl rfl (runs_move rfl) ?_
            refine s_nil ?_
            dsimp only [Post.setN]
            obtain ⟨u0, u1, hb6', ho0', ho1', hap'⟩ := hnx
            exact ⟨(j + 1, u0, u1), ⟨rfl, rfl, rfl, rfl, rfl, rfl, trivial⟩, ⟨by dsimp only; omega, fun i hi y hy t ht => by
              by_cases e : i = j
              · subst e; rw [hx] at hy; cases hy; exact hsame t (by omega)
              · exact hpre i (by dsimp only at hi; omega) y hy t ht, X7, hb6', ho0', ho1', hap'⟩, by dsimp only; omega⟩
          · refine c_drawX [8] (v1.ownBlock.toList) (by kernel_rfl) ?_
            intro wd18 Xd18 hS18
            replace X7 : Chg w7 _ [b6] := (X7.trans Xd18).mono (by intro k hk hlt; simp at hk ⊢ <;> first | omega | grind)
            replace hb6 := hb6.keep Xd18 (by simp)
            replace ho0 := own_keep ho0 Xd18 (by simp)
            replace ho1 := own_keep ho1 Xd18 (by simp)
            replace hb8 := hb8.keep Xd18 (by simp)
            have zd18 := Xd18.size
            have hd6 : b6 ∉ v1.ownBlock.toList := fun hm => by have := hge1 _ (by simpa using hm); omega
            have hd8 : b8 ∉ v1.ownBlock.toList := fun hm => by have := hlt1 _ (by simpa using hm); omega
            refine d_take 0 55 rfl (by kernel_rfl) rfl hS18 (fun wS hS => runs_move rfl) ?_
            refine d_take 1 56 rfl (by kernel_rfl) rfl hS18 (fun wS hS => runs_move rfl) ?_
            refine d_take 2 57 rfl (by kernel_rfl) rfl hS18 (fun wS hS => runs_index_array (1) Tryd.underlying44 ty38 rfl rfl (by omega) (by omega)) ?_
            refine d_take 3 58 rfl (by kernel_rfl) rfl hS18 (fun wS hS => runs_load1 ty38 rfl ((hb6.keep hS hd6).c1 (j := 1) rfl)) ?_
            refine d_take 4 59 rfl (by kernel_rfl) rfl hS18 (fun wS hS => runs_loadAgg ty28 rfl ((hb8.keep hS hd8).at) (Ac.len hxn)) ?_
            refine d_only 5 rfl (by kernel_rfl) ?_
            refine s_lit (xs := [.tmp 59]) Tryd.underlying38 ty28 rfl rfl rfl rfl rfl (av_sz (l := [x]) (by simpa using hxn)) (by decide) (by decide) ?_
            intro b60 w185 e18_5 z18_5 hb60 X18_5
            have s18_5_X7 := X7.size
            replace ho0 := own_keep ho0 X18_5 (by simp)
            replace ho1 := own_keep ho1 X18_5 (by simp)
            replace X7 : Chg w7 _ [b6] := (X7.trans X18_5).mono (by intro k hk hlt; simp at hk ⊢ <;> first | omega | grind)
            replace hS18 : Chg wd18 _ v1.ownBlock.toList := (hS18.trans X18_5).mono (by intro k hk _; simpa using hk)
            have hz185 := X18_5.size
            refine s_nil ⟨.inr hS18, ?_⟩
            refine d_only 6 rfl (by kernel_rfl) ?_
            refine s_append Tryd.underlying38 ty28 rfl (by decide) rfl rfl rfl ho1 rfl (acs_lit [x] hb60 (by simpa using hxn) rfl).rd (acs_one _) (by have := flt_len l k 1 j; simp only [maxLen]; omega) (by have := flt_len l k 1 j; omega) (by omega) ?_
            intro v61 w186 H18_6 X18_6 F18_6
            replace ho0 := own_keep ho0 X18_6 (fun k' hk' hm => hap k' hk' (by simpa using hm))
            replace X7 : Chg w7 _ [b6] := (X7.trans X18_6).mono (by intro k' hk' hlt; simp at hk' ⊢; rcases hk' with h | h; exact h; have := hge1 _ h; omega)
            have ho1 := H18_6
            replace ho1 := own_in ho1
            rw [← flt_in hx hb] at ho1
            have hz186 := X18_6.size
            replace hS18 : Chg wd18 _ v1.ownBlock.toList := (hS18.trans X18_6).mono (by intro k hk _; simpa using hk)
            refine s_nil ⟨.inr hS18, ?_⟩
            refine d_take 7 62 rfl (by kernel_rfl) rfl hS18 (fun wS hS => runs_index_array (1) Tryd.underlying44 ty38 rfl rfl (by omega) (by omega)) ?_
            refine d_only 8 rfl (by kernel_rfl) ?_
            replace hb6 := hb6.keep hS18 hd6
            replace hb8 := hb8.keep hS18 hd8
            refine s_store1 ty38 rfl rfl rfl hb6 (own_one ho1) (by simp) ?_
            intro w188 z18_8 h18_8 X18_8
            replace hb8 := hb8.keep X18_8 (by simp; omega)
            replace ho0 := own_keep ho0 X18_8 (fun k' hk' hm => by have := (ho0.lt k' hk').1; simp at hm; omega)
            replace X7 : Chg w7 _ [b6] := (X7.trans X18_8).mono (by intro k hk hlt; simp at hk ⊢ <;> first | omega | grind)
            replace ho1 := own_keep ho1 X18_8 (fun k' hk' hm => by have := (ho1.lt k' hk').1; simp at hm; omega)
            replace hb6 := h18_8
            refine s_nil ⟨.inl rfl, ?_⟩
            refine d_done (by kernel_rfl) ?_
            have hnx : ∃ u0 u1, Blk w188 b6 [u0, u1] 44 ∧ w188.ownsRow (b6 + 1) 28 46 u0 (Sp.flt l k 0 (j + 1)).length ((Sp.flt l k 0 (j + 1)).flatMap Ac.C) ∧ w188.ownsRow (b6 + 1) 28 46 u1 (Sp.flt l k 1 (j + 1)).length ((Sp.flt l k 1 (j + 1)).flatMap Ac.C) ∧ ∀ b, u0.ownBlock = some b → u1.ownBlock ≠ some b := ⟨v0, v61, hb6, by rw [flt_out hx (by omega)]; exact ho0, ho1, fun z h0 h1 => by
              rcases F18_6 z h1 with h | h
              · exact hap z h0 h
              · have := hlt0 z h0; omega⟩
            refine hK17 _ _ ?_
            refine c_reg ?_
            refine s_val rfl rfl (runs_add64 rfl rfl (by omega)) ?_
            refine s_val rfl rfl (runs_move rfl) ?_
            refine s_nil ?_
            dsimp only [Post.setN]
            obtain ⟨u0, u1, hb6', ho0', ho1', hap'⟩ := hnx
            exact ⟨(j + 1, u0, u1), ⟨rfl, rfl, rfl, rfl, rfl, rfl, trivial⟩, ⟨by dsimp only; omega, fun i hi y hy t ht => by
              by_cases e : i = j
              · subst e; rw [hx] at hy; cases hy; exact hsame t (by omega)
              · exact hpre i (by dsimp only at hi; omega) y hy t ht, X7, hb6', ho0', ho1', hap'⟩, by dsimp only; omega⟩
      · obtain rfl : n1 = j := by omega
        have hwk : Wf k l := wf_prefix hlw (by omega) hy0n (fun a ha i hi => by
          obtain ⟨z, hz⟩ := List.getElem?_of_mem ha
          exact hpre z (by have := (List.getElem?_eq_some_iff.1 hz).1; omega) a hz i hi)
        have hl0 := flt_len l k 0 n1
        have hl1 := flt_len l k 1 n1
        rw [flt_all hwk (by omega) (by omega) (by omega)] at ho0 hl0
        rw [flt_all hwk (by omega) (by omega) (by omega)] at ho1 hl1
        have hw0 := hwk.side (b := 0) (by omega)
        have hw1 := hwk.side (b := 1) (by omega)
        obtain ⟨as0, cs0, rfl, hR0, _⟩ := own_acs ho0 hw0.num rfl
        obtain ⟨as1, cs1, rfl, hR1, _⟩ := own_acs ho1 hw1.num rfl
        obtain ⟨s0, hs0⟩ : ∃ s, s = Sp.side l k 0 := ⟨_, rfl⟩
        obtain ⟨s1, hs1⟩ : ∃ s, s = Sp.side l k 1 := ⟨_, rfl⟩
        rw [← hs0] at hl0 hR0 hw0
        rw [← hs1] at hl1 hR1 hw1
        rw [← hs0, ← hs1] at hb6
        refine c_exit ?_
        refine hK13 _ _ ?_
        refine c_seq (fun K39 hK39 => ?_)
        rcases Decidable.em (k = 127) with hk7 | hk7
        · refine c_seqreg (fun K40 hK40 => ?_)
          refine s_val rfl rfl (runs_move rfl) ?_
          refine s_val rfl rfl (runs_dt (runs_eqd rfl rfl) (by omega)) ?_
          refine s_val rfl rfl (runs_move rfl) ?_
          refine s_val rfl rfl (runs_move rfl) ?_
          refine s_val rfl rfl (runs_len_slice Tryd.underlying38 rfl) ?_
          refine s_val rfl rfl (runs_df (runs_gt rfl rfl) (by subst hk7; have := wf127 hwk; omega)) ?_
          refine s_val rfl rfl (runs_pickt rfl rfl) ?_
          refine s_nil ?_
          refine hK40 _ _ ?_
          refine c_false rfl ?_
          refine c_skip ?_
          refine hK39 _ _ ?_
          refine c_seq (fun K41 hK41 => ?_)
          obtain ⟨r0, hr0⟩ : ∃ r, r = Sp.aroot (k + 1) s0 := ⟨_, rfl⟩
          obtain ⟨r1, hr1⟩ : ∃ r, r = Sp.aroot (k + 1) s1 := ⟨_, rfl⟩
          have ok0 : HOk r0 := by rw [hr0]; exact aroot_ok _ _
          have ok1 : HOk r1 := by rw [hr1]; exact aroot_ok _ _
          have hJ41 : ∀ (b11 : Nat) (b12 : Nat) (W : World), (Chg w7 W [b6] ∧ Blk W b11 (natsC .u8 r0) 25 ∧ Blk W b12 (natsC .u8 r1) 25) → ∀ ρ : Env, SubL ([(11, (.pointer (some ⟨b11, 0, none⟩))), (12, (.pointer (some ⟨b12, 0, none⟩))), (1, .int .i64 (k : Int)), (0, .slice (some ⟨ba1, oa1, none⟩) n1 c1)]) ρ → K41 ρ W := by
            intro b11 b12 W hI ρ hρ
            refine hK41 _ _ (c_sub _ hρ ?_)
            clear hρ
            obtain ⟨X7, hb11, hb12⟩ := hI
            have hzX7e := X7.size
            refine c_seqdraw [] ([]) (by kernel_rfl) ?_
            intro K42 hK42 wd23 Xd23 hS23
            replace X7 : Chg w7 _ [b6] := (X7.trans Xd23).mono (by intro k hk hlt; simp at hk ⊢ <;> first | omega | grind)
            replace hb11 := hb11.keep Xd23 (by simp)
            replace hb12 := hb12.keep Xd23 (by simp)
            have zd23 := Xd23.size
            have hzX7f := X7.size
            refine d_take 0 79 rfl (by kernel_rfl) rfl hS23 (fun wS hS => runs_move rfl) ?_
            refine d_take 1 80 rfl (by kernel_rfl) rfl hS23 (fun wS hS => runs_move rfl) ?_
            refine d_take 4 83 rfl (by kernel_rfl) rfl hS23 (fun wS hS => runs_slice_arr Tryd.underlying25 ty5 rfl) ?_
            refine d_take 5 84 rfl (by kernel_rfl) rfl hS23 (fun wS hS => runs_slice_arr Tryd.underlying25 ty5 rfl) ?_
            refine d_two 2 3 rfl rfl (by kernel_rfl) ?_ ?_
            · refine s_callf (xs := [.const (.pointer none), .tmp 79, .tmp 80]) rfl rfl Tryd.func15 rfl (by kernel_rfl) rfl (aroot0 (k := k) ((hG.keep X7 (by simp; omega)).keep hS23 (by simp)) (by have := hS23.size; omega) hwk ((hRl.keep X7 (fun p hp => by cases hp; simp only [List.mem_singleton]; omega)).keep0 hS23) (by omega)) ?_
              rintro _ w232 ⟨rfl, X23_2⟩
              have zs23_2 := X23_2.size
              replace hS23 : Chg wd23 _ [] := hS23.trans X23_2
              refine s_nil ⟨.inr hS23, ?_⟩
              refine d_only 3 rfl (by kernel_rfl) ?_
              refine s_lit (xs := [.const (.int .u8 3)]) Tryd.underlying47 ty5 rfl rfl rfl rfl rfl (by simp [Value.cells]) (by decide) (by decide) ?_
              intro b82 w233 e23_3 z23_3 hb82 X23_3
              replace hS23 : Chg wd23 _ [] := hS23.trans X23_3
              refine s_nil ⟨.inr hS23, ?_⟩
              refine d_only 6 rfl (by kernel_rfl) ?_
              refine s_lit (xs := [.tmp 82, .tmp 83, .tmp 84]) Tryd.underlying51 ty47 rfl rfl rfl rfl rfl (by simp [Value.cells]) (by decide) (by decide) ?_
              intro b85 w236 e23_6 z23_6 hb85 X23_6
              have s23_6_hb82 := hb82.lt
              replace hb82 := hb82.keep X23_6 (by simp)
              replace hS23 : Chg wd23 _ [] := hS23.trans X23_6
              refine s_nil ⟨.inr hS23, ?_⟩
              refine d_only 7 rfl (by kernel_rfl) ?_
              refine s_callf (xs := [.const (.pointer none), .tmp 85]) rfl rfl Tryd.func18 rfl (by kernel_rfl) rfl (of0 (bss := [[3], r0, r1]) ((hG.keep X7 (by simp; omega)).keep hS23 (by simp)) (by have := hS23.size; omega) (parts_three hb85 (lit1 hb82) (lit_reads (hb11.keep hS23 (by simp)) (by rw [natsC_length, ok0.1]) (by decide)) (lit_reads (hb12.keep hS23 (by simp)) (by rw [natsC_length, ok1.1]) (by decide)) (by simp) ok0.2 ok1.2) (by simp [ok0.1, ok1.1])) ?_
              rintro _ w237 ⟨rfl, X23_7⟩
              have zs23_7 := X23_7.size
              replace hS23 : Chg wd23 _ [] := hS23.trans X23_7
              refine s_nil ⟨.inr hS23, ?_⟩
              refine d_take 8 87 rfl (by kernel_rfl) rfl hS23 (fun wS hS => runs_dt (runs_hv_eq rfl rfl (aroot_ok _ _) (sha_ok _)) (by rw [aroot_two (by omega) (by omega), hr0, hr1, hs0, hs1]; simp [Sp.fork, Sp.side])) ?_
              refine d_take 9 4 rfl (by kernel_rfl) rfl hS23 (fun wS hS => runs_assign rfl) ?_
              refine d_done (by kernel_rfl) ?_
              replace X7 : Chg w7 _ [b6] := (X7.trans hS23).mono (by intro k hk hlt; simp at hk ⊢ <;> first | omega | grind)
              replace hb11 := hb11.keep hS23 (by simp)
              replace hb12 := hb12.keep hS23 (by simp)
              refine hK42 _ _ ?_
              refine c_ret ?_
              refine hret _ _ ?_
              exact ends1 (reads_tmp rfl) ⟨rfl, (hX.trans X7).mono (by intro k' hk' hlt; simp at hk'; omega)⟩
            · refine s_lit (xs := [.const (.int .u8 3)]) Tryd.underlying47 ty5 rfl rfl rfl rfl rfl (by simp [Value.cells]) (by decide) (by decide) ?_
              intro b82 w233 e23_3 z23_3 hb82 X23_3
              replace hS23 : Chg wd23 _ [] := hS23.trans X23_3
              refine s_nil ⟨.inr hS23, ?_⟩
              refine d_two 2 6 rfl rfl (by kernel_rfl) ?_ ?_
              · refine s_callf (xs := [.const (.pointer none), .tmp 79, .tmp 80]) rfl rfl Tryd.func15 rfl (by kernel_rfl) rfl (aroot0 (k := k) ((hG.keep X7 (by simp; omega)).keep hS23 (by simp)) (by have := hS23.size; omega) hwk ((hRl.keep X7 (fun p hp => by cases hp; simp only [List.mem_singleton]; omega)).keep0 hS23) (by omega)) ?_
                rintro _ w232 ⟨rfl, X23_2⟩
                replace hb82 := hb82.keep X23_2 (by simp)
                have zs23_2 := X23_2.size
                replace hS23 : Chg wd23 _ [] := hS23.trans X23_2
                refine s_nil ⟨.inr hS23, ?_⟩
                refine d_only 6 rfl (by kernel_rfl) ?_
                refine s_lit (xs := [.tmp 82, .tmp 83, .tmp 84]) Tryd.underlying51 ty47 rfl rfl rfl rfl rfl (by simp [Value.cells]) (by decide) (by decide) ?_
                intro b85 w236 e23_6 z23_6 hb85 X23_6
                have s23_6_hb82 := hb82.lt
                replace hb82 := hb82.keep X23_6 (by simp)
                replace hS23 : Chg wd23 _ [] := hS23.trans X23_6
                refine s_nil ⟨.inr hS23, ?_⟩
                refine d_only 7 rfl (by kernel_rfl) ?_
                refine s_callf (xs := [.const (.pointer none), .tmp 85]) rfl rfl Tryd.func18 rfl (by kernel_rfl) rfl (of0 (bss := [[3], r0, r1]) ((hG.keep X7 (by simp; omega)).keep hS23 (by simp)) (by have := hS23.size; omega) (parts_three hb85 (lit1 hb82) (lit_reads (hb11.keep hS23 (by simp)) (by rw [natsC_length, ok0.1]) (by decide)) (lit_reads (hb12.keep hS23 (by simp)) (by rw [natsC_length, ok1.1]) (by decide)) (by simp) ok0.2 ok1.2) (by simp [ok0.1, ok1.1])) ?_
                rintro _ w237 ⟨rfl, X23_7⟩
                have zs23_7 := X23_7.size
                replace hS23 : Chg wd23 _ [] := hS23.trans X23_7
                refine s_nil ⟨.inr hS23, ?_⟩
                refine d_take 8 87 rfl (by kernel_rfl) rfl hS23 (fun wS hS => runs_dt (runs_hv_eq rfl rfl (aroot_ok _ _) (sha_ok _)) (by rw [aroot_two (by omega) (by omega), hr0, hr1, hs0, hs1]; simp [Sp.fork, Sp.side])) ?_
                refine d_take 9 4 rfl (by kernel_rfl) rfl hS23 (fun wS hS => runs_assign rfl) ?_
                refine d_done (by kernel_rfl) ?_
                replace X7 : Chg w7 _ [b6] := (X7.trans hS23).mono (by intro k hk hlt; simp at hk ⊢ <;> first | omega | grind)
                replace hb11 := hb11.keep hS23 (by simp)
                replace hb12 := hb12.keep hS23 (by simp)
                refine hK42 _ _ ?_
                refine c_ret ?_
                refine hret _ _ ?_
                exact ends1 (reads_tmp rfl) ⟨rfl, (hX.trans X7).mono (by intro k' hk' hlt; simp at hk'; omega)⟩
              · refine s_lit (xs := [.tmp 82, .tmp 83, .tmp 84]) Tryd.underlying51 ty47 rfl rfl rfl rfl rfl (by simp [Value.cells]) (by decide) (by decide) ?_
                intro b85 w236 e23_6 z23_6 hb85 X23_6
                have s23_6_hb82 := hb82.lt
                replace hb82 := hb82.keep X23_6 (by simp)
                replace hS23 : Chg wd23 _ [] := hS23.trans X23_6
                refine s_nil ⟨.inr hS23, ?_⟩
                refine d_only 2 rfl (by kernel_rfl) ?_
                refine s_callf (xs := [.const (.pointer none), .tmp 79, .tmp 80]) rfl rfl Tryd.func15 rfl (by kernel_rfl) rfl (aroot0 (k := k) ((hG.keep X7 (by simp; omega)).keep hS23 (by simp)) (by have := hS23.size; omega) hwk ((hRl.keep X7 (fun p hp => by cases hp; simp only [List.mem_singleton]; omega)).keep0 hS23) (by omega)) ?_
                rintro _ w232 ⟨rfl, X23_2⟩
                replace hb82 := hb82.keep X23_2 (by simp)
                replace hb85 := hb85.keep X23_2 (by simp)
                have zs23_2 := X23_2.size
                replace hS23 : Chg wd23 _ [] := hS23.trans X23_2
                refine s_nil ⟨.inr hS23, ?_⟩
                refine d_only 7 rfl (by kernel_rfl) ?_
                refine s_callf (xs := [.const (.pointer none), .tmp 85]) rfl rfl Tryd.func18 rfl (by kernel_rfl) rfl (of0 (bss := [[3], r0, r1]) ((hG.keep X7 (by simp; omega)).keep hS23 (by simp)) (by have := hS23.size; omega) (parts_three hb85 (lit1 hb82) (lit_reads (hb11.keep hS23 (by simp)) (by rw [natsC_length, ok0.1]) (by decide)) (lit_reads (hb12.keep hS23 (by simp)) (by rw [natsC_length, ok1.1]) (by decide)) (by simp) ok0.2 ok1.2) (by simp [ok0.1, ok1.1])) ?_
                rintro _ w237 ⟨rfl, X23_7⟩
                have zs23_7 := X23_7.size
                replace hS23 : Chg wd23 _ [] := hS23.trans X23_7
                refine s_nil ⟨.inr hS23, ?_⟩
                refine d_take 8 87 rfl (by kernel_rfl) rfl hS23 (fun wS hS => runs_dt (runs_hv_eq rfl rfl (aroot_ok _ _) (sha_ok _)) (by rw [aroot_two (by omega) (by omega), hr0, hr1, hs0, hs1]; simp [Sp.fork, Sp.side])) ?_
                refine d_take 9 4 rfl (by kernel_rfl) rfl hS23 (fun wS hS => runs_assign rfl) ?_
                refine d_done (by kernel_rfl) ?_
                replace X7 : Chg w7 _ [b6] := (X7.trans hS23).mono (by intro k hk hlt; simp at hk ⊢ <;> first | omega | grind)
                replace hb11 := hb11.keep hS23 (by simp)
                replace hb12 := hb12.keep hS23 (by simp)
                refine hK42 _ _ ?_
                refine c_ret ?_
                refine hret _ _ ?_
                exact ends1 (reads_tmp rfl) ⟨rfl, (hX.trans X7).mono (by intro k' hk' hlt; simp at hk'; omega)⟩
          refine c_drawX [11] ([]) (by kernel_rfl) ?_
          intro wd22 Xd22 hS22
          replace X7 : Chg w7 _ [b6] := (X7.trans Xd22).mono (by intro k hk hlt; simp at hk ⊢ <;> first | omega | grind)
          replace hb6 := hb6.keep Xd22 (by simp)
          replace hR0 := hR0.keep0 Xd22
          replace hR1 := hR1.keep0 Xd22
          have zd22 := Xd22.size
          have hzX7d := X7.size
          refine d_take 0 71 rfl (by kernel_rfl) rfl hS22 (fun wS hS => runs_index_array (0) Tryd.underlying44 ty38 rfl rfl (by omega) (by omega)) ?_
          refine d_take 1 72 rfl (by kernel_rfl) rfl hS22 (fun wS hS => runs_load1 ty38 rfl ((hb6.keep hS (by simp)).c1 (j := 0) rfl)) ?_
          refine d_take 2 73 rfl (by kernel_rfl) rfl hS22 (fun wS hS => runs_move rfl) ?_
          refine d_take 4 75 rfl (by kernel_rfl) rfl hS22 (fun wS hS => runs_index_array (1) Tryd.underlying44 ty38 rfl rfl (by omega) (by omega)) ?_
          refine d_take 5 76 rfl (by kernel_rfl) rfl hS22 (fun wS hS => runs_load1 ty38 rfl ((hb6.keep hS (by simp)).c1 (j := 1) rfl)) ?_
          refine d_take 6 77 rfl (by kernel_rfl) rfl hS22 (fun wS hS => runs_move rfl) ?_
          refine d_three 3 8 9 rfl rfl rfl (by kernel_rfl) ?_ ?_ ?_
          · refine s_callf (xs := [.tmp 72, .tmp 73]) rfl rfl Tryd.func17 rfl (by kernel_rfl) rfl (side0_calls B s0 as0 _ cs0 k _ ((hG.keep X7 (by simp; omega)).keep hS22 (by simp)) (by have := hS22.size; omega) hw0 (hR0.keep0 hS22) (by omega)) ?_
            rintro _ w223 ⟨rfl, X22_3⟩
            have zs22_3 := X22_3.size
            rw [← hr0]
            replace hS22 : Chg wd22 _ [] := hS22.trans X22_3
            refine s_nil ⟨.inr hS22, ?_⟩
            refine d_three 7 8 9 rfl rfl rfl (by kernel_rfl) ?_ ?_ ?_
            · refine s_callf (xs := [.tmp 76, .tmp 77]) rfl rfl Tryd.func17 rfl (by kernel_rfl) rfl (side0_calls B s1 as1 _ cs1 k _ ((hG.keep X7 (by simp; omega)).keep hS22 (by simp)) (by have := hS22.size; omega) hw1 (hR1.keep0 hS22) (by omega)) ?_
              rintro _ w227 ⟨rfl, X22_7⟩
              have zs22_7 := X22_7.size
              rw [← hr1]
              replace hS22 : Chg wd22 _ [] := hS22.trans X22_7
              refine s_nil ⟨.inr hS22, ?_⟩
              refine d_two 8 9 rfl rfl (by kernel_rfl) ?_ ?_
              · refine s_alloc ty25 rfl rfl ?_
                intro b11 w228 e22_8 z22_8 hb11 X22_8
                have hb11lo : wd22.heap.size ≤ b11 := by have := hS22.size; omega
                replace hS22 : Chg wd22 _ [] := hS22.trans X22_8
                refine s_nil ⟨.inr hS22, ?_⟩
                refine d_only 9 rfl (by kernel_rfl) ?_
                refine s_alloc ty25 rfl rfl ?_
                intro b12 w229 e22_9 z22_9 hb12 X22_9
                have s22_9_hb11 := hb11.lt
                replace hb11 := hb11.keep X22_9 (by simp)
                replace hS22 : Chg wd22 _ [] := hS22.trans X22_9
                refine s_nil ⟨.inr hS22, ?_⟩
                refine d_only 10 rfl (by kernel_rfl) ?_
                refine s_storeAll ty25 rfl rfl rfl hb11 (by rw [natsC_length, ok0.1]) rfl (natsC_one _ _) ?_
                intro w2210 z22_10 h22_10 X22_10
                replace hb12 := hb12.keep X22_10 (by simp; omega)
                replace hb11 := h22_10
                replace hS22 : Chg wd22 _ [] := (hS22.trans X22_10).mono (by intro k hk hlt; simp at hk; have := hb11lo; omega)
                refine s_nil ⟨.inr hS22, ?_⟩
                refine d_only 11 rfl (by kernel_rfl) ?_
                replace X7 : Chg w7 _ [b6] := (X7.trans hS22).mono (by intro k hk hlt; simp at hk ⊢ <;> first | omega | grind)
                replace hb6 := hb6.keep hS22 (by simp)
                replace hR0 := hR0.keep0 hS22
                replace hR1 := hR1.keep0 hS22
                refine s_storeAll ty25 rfl rfl rfl hb12 (by rw [natsC_length, ok1.1]) rfl (natsC_one _ _) ?_
                intro w2211 z22_11 h22_11 X22_11
                replace X7 : Chg w7 _ [b6] := (X7.trans X22_11).mono (by intro k hk hlt; simp at hk ⊢ <;> first | omega | grind)
                replace hb11 := hb11.keep X22_11 (by simp; omega)
                replace hb12 := h22_11
                refine s_nil ⟨.inl rfl, ?_⟩
                refine d_done (by kernel_rfl) ?_
                exact hJ41 b11 b12 _ ⟨X7, hb11, hb12⟩ _ ⟨rfl, rfl, rfl, rfl, trivial⟩
              · refine s_alloc ty25 rfl rfl ?_
                intro b12 w229 e22_9 z22_9 hb12 X22_9
                replace hS22 : Chg wd22 _ [] := hS22.trans X22_9
                refine s_nil ⟨.inr hS22, ?_⟩
                refine d_only 8 rfl (by kernel_rfl) ?_
                refine s_alloc ty25 rfl rfl ?_
                intro b11 w228 e22_8 z22_8 hb11 X22_8
                have s22_8_hb12 := hb12.lt
                replace hb12 := hb12.keep X22_8 (by simp)
                have hb11lo : wd22.heap.size ≤ b11 := by have := hS22.size; omega
                replace hS22 : Chg wd22 _ [] := hS22.trans X22_8
                refine s_nil ⟨.inr hS22, ?_⟩
                refine d_only 10 rfl (by kernel_rfl) ?_
                refine s_storeAll ty25 rfl rfl rfl hb11 (by rw [natsC_length, ok0.1]) rfl (natsC_one _ _) ?_
                intro w2210 z22_10 h22_10 X22_10
                replace hb12 := hb12.keep X22_10 (by simp; omega)
                replace hb11 := h22_10
                replace hS22 : Chg wd22 _ [] := (hS22.trans X22_10).mono (by intro k hk hlt; simp at hk; have := hb11lo; omega)
                refine s_nil ⟨.inr hS22, ?_⟩
                refine d_only 11 rfl (by kernel_rfl) ?_
                replace X7 : Chg w7 _ [b6] := (X7.trans hS22).mono (by intro k hk hlt; simp at hk ⊢ <;> first | omega | grind)
                replace hb6 := hb6.keep hS22 (by simp)
                replace hR0 := hR0.keep0 hS22
                replace hR1 := hR1.keep0 hS22
                refine s_storeAll ty25 rfl rfl rfl hb12 (by rw [natsC_length, ok1.1]) rfl (natsC_one _ _) ?_
                intro w2211 z22_11 h22_11 X22_11
                replace X7 : Chg w7 _ [b6] := (X7.trans X22_11).mono (by intro k hk hlt; simp at hk ⊢ <;> first | omega | grind)
                replace hb11 := hb11.keep X22_11 (by simp; omega)
                replace hb12 := h22_11
                refine s_nil ⟨.inl rfl, ?_⟩
                refine d_done (by kernel_rfl) ?_
                exact hJ41 b11 b12 _ ⟨X7, hb11, hb12⟩ _ ⟨rfl, rfl, rfl, rfl, trivial⟩
            · refine s_alloc ty25 rfl rfl ?_
              intro b11 w228 e22_8 z22_8 hb11 X22_8
              have hb11lo : wd22.heap.size ≤ b11 := by have := hS22.size; omega
              replace hS22 : Chg wd22 _ [] := hS22.trans X22_8
              refine s_nil ⟨.inr hS22, ?_⟩
              refine d_two 7 9 rfl rfl (by kernel_rfl) ?_ ?_
              · refine s_callf (xs := [.tmp 76, .tmp 77]) rfl rfl Tryd.func17 rfl (by kernel_rfl) rfl (side0_calls B s1 as1 _ cs1 k _ ((hG.keep X7 (by simp; omega)).keep hS22 (by simp)) (by have := hS22.size; omega) hw1 (hR1.keep0 hS22) (by omega)) ?_
                rintro _ w227 ⟨rfl, X22_7⟩
                replace hb11 := hb11.keep X22_7 (by simp)
                have zs22_7 := X22_7.size
                rw [← hr1]
                replace hS22 : Chg wd22 _ [] := hS22.trans X22_7
                refine s_nil ⟨.inr hS22, ?_⟩
                refine d_only 9 rfl (by kernel_rfl) ?_
                refine s_alloc ty25 rfl rfl ?_
                intro b12 w229 e22_9 z22_9 hb12 X22_9
                have s22_9_hb11 := hb11.lt
                replace hb11 := hb11.keep X22_9 (by simp)
                replace hS22 : Chg wd22 _ [] := hS22.trans X22_9
                refine s_nil ⟨.inr hS22, ?_⟩
                refine d_only 10 rfl (by kernel_rfl) ?_
                refine s_storeAll ty25 rfl rfl rfl hb11 (by rw [natsC_length, ok0.1]) rfl (natsC_one _ _) ?_
                intro w2210 z22_10 h22_10 X22_10
                replace hb12 := hb12.keep X22_10 (by simp; omega)
                replace hb11 := h22_10
                replace hS22 : Chg wd22 _ [] := (hS22.trans X22_10).mono (by intro k hk hlt; simp at hk; have := hb11lo; omega)
                refine s_nil ⟨.inr hS22, ?_⟩
                refine d_only 11 rfl (by kernel_rfl) ?_
                replace X7 : Chg w7 _ [b6] := (X7.trans hS22).mono (by intro k hk hlt; simp at hk ⊢ <;> first | omega | grind)
                replace hb6 := hb6.keep hS22 (by simp)
                replace hR0 := hR0.keep0 hS22
                replace hR1 := hR1.keep0 hS22
                refine s_storeAll ty25 rfl rfl rfl hb12 (by rw [natsC_length, ok1.1]) rfl (natsC_one _ _) ?_
                intro w2211 z22_11 h22_11 X22_11
                replace X7 : Chg w7 _ [b6] := (X7.trans X22_11).mono (by intro k hk hlt; simp at hk ⊢ <;> first | omega | grind)
                replace hb11 := hb11.keep X22_11 (by simp; omega)
                replace hb12 := h22_11
                refine s_nil ⟨.inl rfl, ?_⟩
                refine d_done (by kernel_rfl) ?_
                exact hJ41 b11 b12 _ ⟨X7, hb11, hb12⟩ _ ⟨rfl, rfl, rfl, rfl, trivial⟩
              · refine s_alloc ty25 rfl rfl ?_
                intro b12 w229 e22_9 z22_9 hb12 X22_9
                have s22_9_hb11 := hb11.lt
                replace hb11 := hb11.keep X22_9 (by simp)
                replace hS22 : Chg wd22 _ [] := hS22.trans X22_9
                refine s_nil ⟨.inr hS22, ?_⟩
                refine d_only 7 rfl (by kernel_rfl) ?_
                refine s_callf (xs := [.tmp 76, .tmp 77]) rfl rfl Tryd.func17 rfl (by kernel_rfl) rfl (side0_calls B s1 as1 _ cs1 k _ ((hG.keep X7 (by simp; omega)).keep hS22 (by simp)) (by have := hS22.size; omega) hw1 (hR1.keep0 hS22) (by omega)) ?_
                rintro _ w227 ⟨rfl, X22_7⟩
                replace hb11 := hb11.keep X22_7 (by simp)
                replace hb12 := hb12.keep X22_7 (by simp)
                have zs22_7 := X22_7.size
                rw [← hr1]
                replace hS22 : Chg wd22 _ [] := hS22.trans X22_7
                refine s_nil ⟨.inr hS22, ?_⟩
                refine d_only 10 rfl (by kernel_rfl) ?_
                refine s_storeAll ty25 rfl rfl rfl hb11 (by rw [natsC_length, ok0.1]) rfl (natsC_one _ _) ?_
                intro w2210 z22_10 h22_10 X22_10
                replace hb12 := hb12.keep X22_10 (by simp; omega)
                replace hb11 := h22_10
                replace hS22 : Chg wd22 _ [] := (hS22.trans X22_10).mono (by intro k hk hlt; simp at hk; have := hb11lo; omega)
                refine s_nil ⟨.inr hS22, ?_⟩
                refine d_only 11 rfl (by kernel_rfl) ?_
                replace X7 : Chg w7 _ [b6] := (X7.trans hS22).mono (by intro k hk hlt; simp at hk ⊢ <;> first | omega | grind)
                replace hb6 := hb6.keep hS22 (by simp)
                replace hR0 := hR0.keep0 hS22
                replace hR1 := hR1.keep0 hS22
                refine s_storeAll ty25 rfl rfl rfl hb12 (by rw [natsC_length, ok1.1]) rfl (natsC_one _ _) ?_
                intro w2211 z22_11 h22_11 X22_11
                replace X7 : Chg w7 _ [b6] := (X7.trans X22_11).mono (by intro k hk hlt; simp at hk ⊢ <;> first | omega | grind)
                replace hb11 := hb11.keep X22_11 (by simp; omega)
                replace hb12 := h22_11
                refine s_nil ⟨.inl rfl, ?_⟩
                refine d_done (by kernel_rfl) ?_
                exact hJ41 b11 b12 _ ⟨X7, hb11, hb12⟩ _ ⟨rfl, rfl, rfl, rfl, trivial⟩
            · refine s_alloc ty25 rfl rfl ?_
              intro b12 w229 e22_9 z22_9 hb12 X22_9
              replace hS22 : Chg wd22 _ [] := hS22.trans X22_9
              refine s_nil ⟨.inr hS22, ?_⟩
              refine d_two 7 8 rfl rfl (by kernel_rfl) ?_ ?_
              · refine s_callf (xs := [.tmp 76, .tmp 77]) rfl rfl Tryd.func17 rfl (by kernel_rfl) rfl (side0_calls B s1 as1 _ cs1 k _ ((hG.keep X7 (by simp; omega)).keep hS22 (by simp)) (by have := hS22.size; omega) hw1 (hR1.keep0 hS22) (by omega)) ?_
                rintro _ w227 ⟨rfl, X22_7⟩
                replace hb12 := hb12.keep X22_7 (by simp)
                have zs22_7 := X22_7.size
                rw [← hr1]
                replace hS22 : Chg wd22 _ [] := hS22.trans X22_7
                refine s_nil ⟨.inr hS22, ?_⟩
                refine d_only 8 rfl (by kernel_rfl) ?_
                refine s_alloc ty25 rfl rfl ?_
                intro b11 w228 e22_8 z22_8 hb11 X22_8
                have s22_8_hb12 := hb12.lt
                replace hb12 := hb12.keep X22_8 (by simp)
                have hb11lo : wd22.heap.size ≤ b11 := by have := hS22.size; omega
                replace hS22 : Chg wd22 _ [] := hS22.trans X22_8
                refine s_nil ⟨.inr hS22, ?_⟩
                refine d_only 10 rfl (by kernel_rfl) ?_
                refine s_storeAll ty25 rfl rfl rfl hb11 (by rw [natsC_length, ok0.1]) rfl (natsC_one _ _) ?_
                intro w2210 z22_10 h22_10 X22_10
                replace hb12 := hb12.keep X22_10 (by simp; omega)
                replace hb11 := h22_10
                replace hS22 : Chg wd22 _ [] := (hS22.trans X22_10).mono (by intro k hk hlt; simp at hk; have := hb11lo; omega)
                refine s_nil ⟨.inr hS22, ?_⟩
                refine d_only 11 rfl (by kernel_rfl) ?_
                replace X7 : Chg w7 _ [b6] := (X7.trans hS22).mono (by intro k hk hlt; simp at hk ⊢ <;> first | omega | grind)
                replace hb6 := hb6.keep hS22 (by simp)
                replace hR0 := hR0.keep0 hS22
                replace hR1 := hR1.keep0 hS22
                refine s_storeAll ty25 rfl rfl rfl hb12 (by rw [natsC_length, ok1.1]) rfl (natsC_one _ _) ?_
                intro w2211 z22_11 h22_11 X22_11
                replace X7 : Chg w7 _ [b6] := (X7.trans X22_11).mono (by intro k hk hlt; simp at hk ⊢ <;> first | omega | grind)
                replace hb11 := hb11.keep X22_11 (by simp; omega)
                replace hb12 := h22_11
                refine s_nil ⟨.inl rfl, ?_⟩
                refine d_done (by kernel_rfl) ?_
                exact hJ41 b11 b12 _ ⟨X7, hb11, hb12⟩ _ ⟨rfl, rfl, rfl, rfl, trivial⟩
              · refine s_alloc ty25 rfl rfl ?_
                intro b11 w228 e22_8 z22_8 hb11 X22_8
                have s22_8_hb12 := hb12.lt
                replace hb12 := hb12.keep X22_8 (by simp)
                have hb11lo : wd22.heap.size ≤ b11 := by have := hS22.size; omega
                replace hS22 : Chg wd22 _ [] := hS22.trans X22_8
                refine s_nil ⟨.inr hS22, ?_⟩
                refine d_only 7 rfl (by kernel_rfl) ?_
                refine s_callf (xs := [.tmp 76, .tmp 77]) rfl rfl Tryd.func17 rfl (by kernel_rfl) rfl (side0_calls B s1 as1 _ cs1 k _ ((hG.keep X7 (by simp; omega)).keep hS22 (by simp)) (by have := hS22.size; omega) hw1 (hR1.keep0 hS22) (by omega)) ?_
                rintro _ w227 ⟨rfl, X22_7⟩
                replace hb12 := hb12.keep X22_7 (by simp)
                replace hb11 := hb11.keep X22_7 (by simp)
                have zs22_7 := X22_7.size
                rw [← hr1]
                replace hS22 : Chg wd22 _ [] := hS22.trans X22_7
                refine s_nil ⟨.inr hS22, ?_⟩
                refine d_only 10 rfl (by kernel_rfl) ?_
                refine s_storeAll ty25 rfl rfl rfl hb11 (by rw [natsC_length, ok0.1]) rfl (natsC_one _ _) ?_
                intro w2210 z22_10 h22_10 X22_10
                replace hb12 := hb12.keep X22_10 (by simp; omega)
                replace hb11 := h22_10
                replace hS22 : Chg wd22 _ [] := (hS22.trans X22_10).mono (by intro k hk hlt; simp at hk; have := hb11lo; omega)
                refine s_nil ⟨.inr hS22, ?_⟩
                refine d_only 11 rfl (by kernel_rfl) ?_
                replace X7 : Chg w7 _ [b6] := (X7.trans hS22).mono (by intro k hk hlt; simp at hk ⊢ <;> first | omega | grind)
                replace hb6 := hb6.keep hS22 (by simp)
                replace hR0 := hR0.keep0 hS22
                replace hR1 := hR1.keep0 hS22
                refine s_storeAll ty25 rfl rfl rfl hb12 (by rw [natsC_length, ok1.1]) rfl (natsC_one _ _) ?_
                intro w2211 z22_11 h22_11 X22_11
                replace X7 : Chg w7 _ [b6] := (X7.trans X22_11).mono (by intro k hk hlt; simp at hk ⊢ <;> first | omega | grind)
                replace hb11 := hb11.keep X22_11 (by simp; omega)
                replace hb12 := h22_11
                refine s_nil ⟨.inl rfl, ?_⟩
                refine d_done (by kernel_rfl) ?_
                exact hJ41 b11 b12 _ ⟨X7, hb11, hb12⟩ _ ⟨rfl, rfl, rfl, rfl, trivial⟩
          · refine s_alloc ty25 rfl rfl ?_
            intro b11 w228 e22_8 z22_8 hb11 X22_8
            have hb11lo : wd22.heap.size ≤ b11 := by have := hS22.size; omega
            replace hS22 : Chg wd22 _ [] := hS22.trans X22_8
            refine s_nil ⟨.inr hS22, ?_⟩
            refine d_two 3 9 rfl rfl (by kernel_rfl) ?_ ?_
            · refine s_callf (xs := [.tmp 72, .tmp 73]) rfl rfl Tryd.func17 rfl (by kernel_rfl) rfl (side0_calls B s0 as0 _ cs0 k _ ((hG.keep X7 (by simp; omega)).keep hS22 (by simp)) (by have := hS22.size; omega) hw0 (hR0.keep0 hS22) (by omega)) ?_
              rintro _ w223 ⟨rfl, X22_3⟩
              replace hb11 := hb11.keep X22_3 (by simp)
              have zs22_3 := X22_3.size
              rw [← hr0]
              replace hS22 : Chg wd22 _ [] := hS22.trans X22_3
              refine s_nil ⟨.inr hS22, ?_⟩
              refine d_two 7 9 rfl rfl (by kernel_rfl) ?_ ?_
              · refine s_callf (xs := [.tmp 76, .tmp 77]) rfl rfl Tryd.func17 rfl (by kernel_rfl) rfl (side0_calls B s1 as1 _ cs1 k _ ((hG.keep X7 (by simp; omega)).keep hS22 (by simp)) (by have := hS22.size; omega) hw1 (hR1.keep0 hS22) (by omega)) ?_
                rintro _ w227 ⟨rfl, X22_7⟩
                replace hb11 := hb11.keep X22_7 (by simp)
                have zs22_7 := X22_7.size
                rw [← hr1]
                replace hS22 : Chg wd22 _ [] := hS22.trans X22_7
                refine s_nil ⟨.inr hS22, ?_⟩
                refine d_only 9 rfl (by kernel_rfl) ?_
                refine s_alloc ty25 rfl rfl ?_
                intro b12 w229 e22_9 z22_9 hb12 X22_9
                have s22_9_hb11 := hb11.lt
                replace hb11 := hb11.keep X22_9 (by simp)
                replace hS22 : Chg wd22 _ [] := hS22.trans X22_9
                refine s_nil ⟨.inr hS22, ?_⟩
                refine d_only 10 rfl (by kernel_rfl) ?_
                refine s_storeAll ty25 rfl rfl rfl hb11 (by rw [natsC_length, ok0.1]) rfl (natsC_one _ _) ?_
                intro w2210 z22_10 h22_10 X22_10
                replace hb12 := hb12.keep X22_10 (by simp; omega)
                replace hb11 := h22_10
                replace hS22 : Chg wd22 _ [] := (hS22.trans X22_10).mono (by intro k hk hlt; simp at hk; have := hb11lo; omega)
                refine s_nil ⟨.inr hS22, ?_⟩
                refine d_only 11 rfl (by kernel_rfl) ?_
                replace X7 : Chg w7 _ [b6] := (X7.trans hS22).mono (by intro k hk hlt; simp at hk ⊢ <;> first | omega | grind)
                replace hb6 := hb6.keep hS22 (by simp)
                replace hR0 := hR0.keep0 hS22
                replace hR1 := hR1.keep0 hS22
                refine s_storeAll ty25 rfl rfl rfl hb12 (by rw [natsC_length, ok1.1]) rfl (natsC_one _ _) ?_
                intro w2211 z22_11 h22_11 X22_11
                replace X7 : Chg w7 _ [b6] := (X7.trans X22_11).mono (by intro k hk hlt; simp at hk ⊢ <;> first | omega | grind)
                replace hb11 := hb11.keep X22_11 (by simp; omega)
                replace hb12 := h22_11
                refine s_nil ⟨.inl rfl, ?_⟩
                refine d_done (by kernel_rfl) ?_
                exact hJ41 b11 b12 _ ⟨X7, hb11, hb12⟩ _ ⟨rfl, rfl, rfl, rfl, trivial⟩
              · refine s_alloc ty25 rfl rfl ?_
                intro b12 w229 e22_9 z22_9 hb12 X22_9
                have s22_9_hb11 := hb11.lt
                replace hb11 := hb11.keep X22_9 (by simp)
                replace hS22 : Chg wd22 _ [] := hS22.trans X22_9
                refine s_nil ⟨.inr hS22, ?_⟩
                refine d_only 7 rfl (by kernel_rfl) ?_
                refine s_callf (xs := [.tmp 76, .tmp 77]) rfl rfl Tryd.func17 rfl (by kernel_rfl) rfl (side0_calls B s1 as1 _ cs1 k _ ((hG.keep X7 (by simp; omega)).keep hS22 (by simp)) (by have := hS22.size; omega) hw1 (hR1.keep0 hS22) (by omega)) ?_
                rintro _ w227 ⟨rfl, X22_7⟩
                replace hb11 := hb11.keep X22_7 (by simp)
                replace hb12 := hb12.keep X22_7 (by simp)
                have zs22_7 := X22_7.size
                rw [← hr1]
                replace hS22 : Chg wd22 _ [] := hS22.trans X22_7
                refine s_nil ⟨.inr hS22, ?_⟩
                refine d_only 10 rfl (by kernel_rfl) ?_
                refine s_storeAll ty25 rfl rfl rfl hb11 (by rw [natsC_length, ok0.1]) rfl (natsC_one _ _) ?_
                intro w2210 z22_10 h22_10 X22_10
                replace hb12 := hb12.keep X22_10 (by simp; omega)
                replace hb11 := h22_10
                replace hS22 : Chg wd22 _ [] := (hS22.trans X22_10).mono (by intro k hk hlt; simp at hk; have := hb11lo; omega)
                refine s_nil ⟨.inr hS22, ?_⟩
                refine d_only 11 rfl (by kernel_rfl) ?_
                replace X7 : Chg w7 _ [b6] := (X7.trans hS22).mono (by intro k hk hlt; simp at hk ⊢ <;> first | omega | grind)
                replace hb6 := hb6.keep hS22 (by simp)
                replace hR0 := hR0.keep0 hS22
                replace hR1 := hR1.keep0 hS22
                refine s_storeAll ty25 rfl rfl rfl hb12 (by rw [natsC_length, ok1.1]) rfl (natsC_one _ _) ?_
                intro w2211 z22_11 h22_11 X22_11
                replace X7 : Chg w7 _ [b6] := (X7.trans X22_11).mono (by intro k hk hlt; simp at hk ⊢ <;> first | omega | grind)
                replace hb11 := hb11.keep X22_11 (by simp; omega)
                replace hb12 := h22_11
                refine s_nil ⟨.inl rfl, ?_⟩
                refine d_done (by kernel_rfl) ?_
                exact hJ41 b11 b12 _ ⟨X7, hb11, hb12⟩ _ ⟨rfl, rfl, rfl, rfl, trivial⟩
            · refine s_alloc ty25 rfl rfl ?_
              intro b12 w229 e22_9 z22_9 hb12 X22_9
              have s22_9_hb11 := hb11.lt
              replace hb11 := hb11.keep X22_9 (by simp)
              replace hS22 : Chg wd22 _ [] := hS22.trans X22_9
              refine s_nil ⟨.inr hS22, ?_⟩
              refine d_only 3 rfl (by kernel_rfl) ?_
              refine s_callf (xs := [.tmp 72, .tmp 73]) rfl rfl Tryd.func17 rfl (by kernel_rfl) rfl (side0_calls B s0 as0 _ cs0 k _ ((hG.keep X7 (by simp; omega)).keep hS22 (by simp)) (by have := hS22.size; omega) hw0 (hR0.keep0 hS22) (by omega)) ?_
              rintro _ w223 ⟨rfl, X22_3⟩
              replace hb11 := hb11.keep X22_3 (by simp)
              replace hb12 := hb12.keep X22_3 (by simp)
              have zs22_3 := X22_3.size
              rw [← hr0]
              replace hS22 : Chg wd22 _ [] := hS22.trans X22_3
              refine s_nil ⟨.inr hS22, ?_⟩
              refine d_only 7 rfl (by kernel_rfl) ?_
              refine s_callf (xs := [.tmp 76, .tmp 77]) rfl rfl Tryd.func17 rfl (by kernel_rfl) rfl (side0_calls B s1 as1 _ cs1 k _ ((hG.keep X7 (by simp; omega)).keep hS22 (by simp)) (by have := hS22.size; omega) hw1 (hR1.keep0 hS22) (by omega)) ?_
              rintro _ w227 ⟨rfl, X22_7⟩
              replace hb11 := hb11.keep X22_7 (by simp)
              replace hb12 := hb12.keep X22_7 (by simp)
              have zs22_7 := X22_7.size
              rw [← hr1]
              replace hS22 : Chg wd22 _ [] := hS22.trans X22_7
              refine s_nil ⟨.inr hS22, ?_⟩
              refine d_only 10 rfl (by kernel_rfl) ?_
              refine s_storeAll ty25 rfl rfl rfl hb11 (by rw [natsC_length, ok0.1]) rfl (natsC_one _ _) ?_
              intro w2210 z22_10 h22_10 X22_10
              replace hb12 := hb12.keep X22_10 (by simp; omega)
              replace hb11 := h22_10
              replace hS22 : Chg wd22 _ [] := (hS22.trans X22_10).mono (by intro k hk hlt; simp at hk; have := hb11lo; omega)
              refine s_nil ⟨.inr hS22, ?_⟩
              refine d_only 11 rfl (by kernel_rfl) ?_
              replace X7 : Chg w7 _ [b6] := (X7.trans hS22).mono (by intro k hk hlt; simp at hk ⊢ <;> first | omega | grind)
              replace hb6 := hb6.keep hS22 (by simp)
              replace hR0 := hR0.keep0 hS22
              replace hR1 := hR1.keep0 hS22
              refine s_storeAll ty25 rfl rfl rfl hb12 (by rw [natsC_length, ok1.1]) rfl (natsC_one _ _) ?_
              intro w2211 z22_11 h22_11 X22_11
              replace X7 : Chg w7 _ [b6] := (X7.trans X22_11).mono (by intro k hk hlt; simp at hk ⊢ <;> first | omega | grind)
              replace hb11 := hb11.keep X22_11 (by simp; omega)
              replace hb12 := h22_11
              refine s_nil ⟨.inl rfl, ?_⟩
              refine d_done (by kernel_rfl) ?_
              exact hJ41 b11 b12 _ ⟨X7, hb11, hb12⟩ _ ⟨rfl, rfl, rfl, rfl, trivial⟩
          · refine s_alloc ty25 rfl rfl ?_
            intro b12 w229 e22_9 z22_9 hb12 X22_9
            replace hS22 : Chg wd22 _ [] := hS22.trans X22_9
            refine s_nil ⟨.inr hS22, ?_⟩
            refine d_two 3 8 rfl rfl (by kernel_rfl) ?_ ?_
            · refine s_callf (xs := [.tmp 72, .tmp 73]) rfl rfl Tryd.func17 rfl (by kernel_rfl) rfl (side0_calls B s0 as0 _ cs0 k _ ((hG.keep X7 (by simp; omega)).keep hS22 (by simp)) (by have := hS22.size; omega) hw0 (hR0.keep0 hS22) (by omega)) ?_
              rintro _ w223 ⟨rfl, X22_3⟩
              replace hb12 := hb12.keep X22_3 (by simp)
              have zs22_3 := X22_3.size
              rw [← hr0]
              replace hS22 : Chg wd22 _ [] := hS22.trans X22_3
              refine s_nil ⟨.inr hS22, ?_⟩
              refine d_two 7 8 rfl rfl (by kernel_rfl) ?_ ?_
              · refine s_callf (xs := [.tmp 76, .tmp 77]) rfl rfl Tryd.func17 rfl (by kernel_rfl) rfl (side0_calls B s1 as1 _ cs1 k _ ((hG.keep X7 (by simp; omega)).keep hS22 (by simp)) (by have := hS22.size; omega) hw1 (hR1.keep0 hS22) (by omega)) ?_
                rintro _ w227 ⟨rfl, X22_7⟩
                replace hb12 := hb12.keep X22_7 (by simp)
                have zs22_7 := X22_7.size
                rw [← hr1]
                replace hS22 : Chg wd22 _ [] := hS22.trans X22_7
                refine s_nil ⟨.inr hS22, ?_⟩
                refine d_only 8 rfl (by kernel_rfl) ?_
                refine s_alloc ty25 rfl rfl ?_
                intro b11 w228 e22_8 z22_8 hb11 X22_8
                have s22_8_hb12 := hb12.lt
                replace hb12 := hb12.keep X22_8 (by simp)
                have hb11lo : wd22.heap.size ≤ b11 := by have := hS22.size; omega
                replace hS22 : Chg wd22 _ [] := hS22.trans X22_8
                refine s_nil ⟨.inr hS22, ?_⟩
                refine d_only 10 rfl (by kernel_rfl) ?_
                refine s_storeAll ty25 rfl rfl rfl hb11 (by rw [natsC_length, ok0.1]) rfl (natsC_one _ _) ?_
                intro w2210 z22_10 h22_10 X22_10
                replace hb12 := hb12.keep X22_10 (by simp; omega)
                replace hb11 := h22_10
                replace hS22 : Chg wd22 _ [] := (hS22.trans X22_10).mono (by intro k hk hlt; simp at hk; have := hb11lo; omega)
                refine s_nil ⟨.inr hS22, ?_⟩
                refine d_only 11 rfl (by kernel_rfl) ?_
                replace X7 : Chg w7 _ [b6] := (X7.trans hS22).mono (by intro k hk hlt; simp at hk ⊢ <;> first | omega | grind)
                replace hb6 := hb6.keep hS22 (by simp)
                replace hR0 := hR0.keep0 hS22
                replace hR1 := hR1.keep0 hS22
                refine s_storeAll ty25 rfl rfl rfl hb12 (by rw [natsC_length, ok1.1]) rfl (natsC_one _ _) ?_
                intro w2211 z22_11 h22_11 X22_11
                replace X7 : Chg w7 _ [b6] := (X7.trans X22_11).mono (by intro k hk hlt; simp at hk ⊢ <;> first | omega | grind)
                replace hb11 := hb11.keep X22_11 (by simp; omega)
                replace hb12 := h22_11
                refine s_nil ⟨.inl rfl, ?_⟩
                refine d_done (by kernel_rfl) ?_
                exact hJ41 b11 b12 _ ⟨X7, hb11, hb12⟩ _ ⟨rfl, rfl, rfl, rfl, trivial⟩
              · refine s_alloc ty25 rfl rfl ?_
                intro b11 w228 e22_8 z22_8 hb11 X22_8
                have s22_8_hb12 := hb12.lt
                replace hb12 := hb12.keep X22_8 (by simp)
                have hb11lo : wd22.heap.size ≤ b11 := by have := hS22.size; omega
                replace hS22 : Chg wd22 _ [] := hS22.trans X22_8
                refine s_nil ⟨.inr hS22, ?_⟩
                refine d_only 7 rfl (by kernel_rfl) ?_
                refine s_callf (xs := [.tmp 76, .tmp 77]) rfl rfl Tryd.func17 rfl (by kernel_rfl) rfl (side0_calls B s1 as1 _ cs1 k _ ((hG.keep X7 (by simp; omega)).keep hS22 (by simp)) (by have := hS22.size; omega) hw1 (hR1.keep0 hS22) (by omega)) ?_
                rintro _ w227 ⟨rfl, X22_7⟩
                replace hb12 := hb12.keep X22_7 (by simp)
                replace hb11 := hb11.keep X22_7 (by simp)
                have zs22_7 := X22_7.size
                rw [← hr1]
                replace hS22 : Chg wd22 _ [] := hS22.trans X22_7
                refine s_nil ⟨.inr hS22, ?_⟩
                refine d_only 10 rfl (by kernel_rfl) ?_
                refine s_storeAll ty25 rfl rfl rfl hb11 (by rw [natsC_length, ok0.1]) rfl (natsC_one _ _) ?_
                intro w2210 z22_10 h22_10 X22_10
                replace hb12 := hb12.keep X22_10 (by simp; omega)
                replace hb11 := h22_10
                replace hS22 : Chg wd22 _ [] := (hS22.trans X22_10).mono (by intro k hk hlt; simp at hk; have := hb11lo; omega)
                refine s_nil ⟨.inr hS22, ?_⟩
                refine d_only 11 rfl (by kernel_rfl) ?_
                replace X7 : Chg w7 _ [b6] := (X7.trans hS22).mono (by intro k hk hlt; simp at hk ⊢ <;> first | omega | grind)
                replace hb6 := hb6.keep hS22 (by simp)
                replace hR0 := hR0.keep0 hS22
                replace hR1 := hR1.keep0 hS22
                refine s_storeAll ty25 rfl rfl rfl hb12 (by rw [natsC_length, ok1.1]) rfl (natsC_one _ _) ?_
                intro w2211 z22_11 h22_11 X22_11
                replace X7 : Chg w7 _ [b6] := (X7.trans X22_11).mono (by intro k hk hlt; simp at hk ⊢ <;> first | omega | grind)
                replace hb11 := hb11.keep X22_11 (by simp; omega)
                replace hb12 := h22_11
                refine s_nil ⟨.inl rfl, ?_⟩
                refine d_done (by kernel_rfl) ?_
                exact hJ41 b11 b12 _ ⟨X7, hb11, hb12⟩ _ ⟨rfl, rfl, rfl, rfl, trivial⟩
            · refine s_alloc ty25 rfl rfl ?_
              intro b11 w228 e22_8 z22_8 hb11 X22_8
              have s22_8_hb12 := hb12.lt
              replace hb12 := hb12.keep X22_8 (by simp)
              have hb11lo : wd22.heap.size ≤ b11 := by have := hS22.size; omega
              replace hS22 : Chg wd22 _ [] := hS22.trans X22_8
              refine s_nil ⟨.inr hS22, ?_⟩
              refine d_only 3 rfl (by kernel_rfl) ?_
              refine s_callf (xs := [.tmp 72, .tmp 73]) rfl rfl Tryd.func17 rfl (by kernel_rfl) rfl (side0_calls B s0 as0 _ cs0 k _ ((hG.keep X7 (by simp; omega)).keep hS22 (by simp)) (by have := hS22.size; omega) hw0 (hR0.keep0 hS22) (by omega)) ?_
              rintro _ w223 ⟨rfl, X22_3⟩
              replace hb12 := hb12.keep X22_3 (by simp)
              replace hb11 := hb11.keep X22_3 (by simp)
              have zs22_3 := X22_3.size
              rw [← hr0]
              replace hS22 : Chg wd22 _ [] := hS22.trans X22_3
              refine s_nil ⟨.inr hS22, ?_⟩
              refine d_only 7 rfl (by kernel_rfl) ?_
              refine s_callf (xs := [.tmp 76, .tmp 77]) rfl rfl Tryd.func17 rfl (by kernel_rfl) rfl (side0_calls B s1 as1 _ cs1 k _ ((hG.keep X7 (by simp; omega)).keep hS22 (by simp)) (by have := hS22.size; omega) hw1 (hR1.keep0 hS22) (by omega)) ?_
              rintro _ w227 ⟨rfl, X22_7⟩
              replace hb12 := hb12.keep X22_7 (by simp)
              replace hb11 := hb11.keep X22_7 (by simp)
              have zs22_7 := X22_7.size
              rw [← hr1]
              replace hS22 : Chg wd22 _ [] := hS22.trans X22_7
              refine s_nil ⟨.inr hS22, ?_⟩
              refine d_only 10 rfl (by kernel_rfl) ?_
              refine s_storeAll ty25 rfl rfl rfl hb11 (by rw [natsC_length, ok0.1]) rfl (natsC_one _ _) ?_
              intro w2210 z22_10 h22_10 X22_10
              replace hb12 := hb12.keep X22_10 (by simp; omega)
              replace hb11 := h22_10
              replace hS22 : Chg wd22 _ [] := (hS22.trans X22_10).mono (by intro k hk hlt; simp at hk; have := hb11lo; omega)
              refine s_nil ⟨.inr hS22, ?_⟩
              refine d_only 11 rfl (by kernel_rfl) ?_
              replace X7 : Chg w7 _ [b6] := (X7.trans hS22).mono (by intro k hk hlt; simp at hk ⊢ <;> first | omega | grind)
              replace hb6 := hb6.keep hS22 (by simp)
              replace hR0 := hR0.keep0 hS22
              replace hR1 := hR1.keep0 hS22
              refine s_storeAll ty25 rfl rfl rfl hb12 (by rw [natsC_length, ok1.1]) rfl (natsC_one _ _) ?_
              intro w2211 z22_11 h22_11 X22_11
              replace X7 : Chg w7 _ [b6] := (X7.trans X22_11).mono (by intro k hk hlt; simp at hk ⊢ <;> first | omega | grind)
              replace hb11 := hb11.keep X22_11 (by simp; omega)
              replace hb12 := h22_11
              refine s_nil ⟨.inl rfl, ?_⟩
              refine d_done (by kernel_rfl) ?_
              exact hJ41 b11 b12 _ ⟨X7, hb11, hb12⟩ _ ⟨rfl, rfl, rfl, rfl, trivial⟩
        · refine c_seqreg (fun K40 hK40 => ?_)
          refine s_val rfl rfl (runs_move rfl) ?_
          refine s_val rfl rfl (runs_df (runs_eqd rfl rfl) (by omega)) ?_
          refine s_val rfl rfl (runs_move rfl) ?_
          refine s_skip rfl rfl ?_
          refine s_skip rfl rfl ?_
          refine s_skip rfl rfl ?_
          refine s_val rfl rfl (runs_pickf rfl rfl) ?_
          refine s_nil ?_
          refine hK40 _ _ ?_
          refine c_false rfl ?_
          refine c_skip ?_
          refine hK39 _ _ ?_
          refine c_seq (fun K112 hK112 => ?_)
          obtain ⟨r0, hr0⟩ : ∃ r, r = Sp.aroot (k + 1) s0 := ⟨_, rfl⟩
          obtain ⟨r1, hr1⟩ : ∃ r, r = Sp.aroot (k + 1) s1 := ⟨_, rfl⟩
          have ok0 : HOk r0 := by rw [hr0]; exact aroot_ok _ _
          have ok1 : HOk r1 := by rw [hr1]; exact aroot_ok _ _
          have hJ112 : ∀ (b11 : Nat) (b12 : Nat) (W : World), (Chg w7 W [b6] ∧ Blk W b11 (natsC .u8 r0) 25 ∧ Blk W b12 (natsC .u8 r1) 25) → ∀ ρ : Env, SubL ([(11, (.pointer (some ⟨b11, 0, none⟩))), (12, (.pointer (some ⟨b12, 0, none⟩))), (1, .int .i64 (k : Int)), (0, .slice (some ⟨ba1, oa1, none⟩) n1 c1)]) ρ → K112 ρ W := by
            intro b11 b12 W hI ρ hρ
            refine hK112 _ _ (c_sub _ hρ ?_)
            clear hρ
            obtain ⟨X7, hb11, hb12⟩ := hI
            have hzX7e := X7.size
            refine c_seqdraw [] ([]) (by kernel_rfl) ?_
            intro K113 hK113 wd23 Xd23 hS23
            replace X7 : Chg w7 _ [b6] := (X7.trans Xd23).mono (by intro k hk hlt; simp at hk ⊢ <;> first | omega | grind)
            replace hb11 := hb11.keep Xd23 (by simp)
            replace hb12 := hb12.keep Xd23 (by simp)
            have zd23 := Xd23.size
            have hzX7f := X7.size
            refine d_take 0 79 rfl (by kernel_rfl) rfl hS23 (fun wS hS => runs_move rfl) ?_
            refine d_take 1 80 rfl (by kernel_rfl) rfl hS23 (fun wS hS => runs_move rfl) ?_
            refine d_take 4 83 rfl (by kernel_rfl) rfl hS23 (fun wS hS => runs_slice_arr Tryd.underlying25 ty5 rfl) ?_
            refine d_take 5 84 rfl (by kernel_rfl) rfl hS23 (fun wS hS => runs_slice_arr Tryd.underlying25 ty5 rfl) ?_
            refine d_two 2 3 rfl rfl (by kernel_rfl) ?_ ?_
            · refine s_callf (xs := [.const (.pointer none), .tmp 79, .tmp 80]) rfl rfl Tryd.func15 rfl (by kernel_rfl) rfl (aroot0 (k := k) ((hG.keep X7 (by simp; omega)).keep hS23 (by simp)) (by have := hS23.size; omega) hwk ((hRl.keep X7 (fun p hp => by cases hp; simp only [List.mem_singleton]; omega)).keep0 hS23) (by omega)) ?_
              rintro _ w232 ⟨rfl, X23_2⟩
              have zs23_2 := X23_2.size
              replace hS23 : Chg wd23 _ [] := hS23.trans X23_2
              refine s_nil ⟨.inr hS23, ?_⟩
              refine d_only 3 rfl (by kernel_rfl) ?_
              refine s_lit (xs := [.const (.int .u8 3)]) Tryd.underlying47 ty5 rfl rfl rfl rfl rfl (by simp [Value.cells]) (by decide) (by decide) ?_
              intro b82 w233 e23_3 z23_3 hb82 X23_3
              replace hS23 : Chg wd23 _ [] := hS23.trans X23_3
              refine s_nil ⟨.inr hS23, ?_⟩
              refine d_only 6 rfl (by kernel_rfl) ?_
              refine s_lit (xs := [.tmp 82, .tmp 83, .tmp 84]) Tryd.underlying51 ty47 rfl rfl rfl rfl rfl (by simp [Value.cells]) (by decide) (by decide) ?_
              intro b85 w236 e23_6 z23_6 hb85 X23_6
              have s23_6_hb82 := hb82.lt
              replace hb82 := hb82.keep X23_6 (by simp)
              replace hS23 : Chg wd23 _ [] := hS23.trans X23_6
              refine s_nil ⟨.inr hS23, ?_⟩
              refine d_only 7 rfl (by kernel_rfl) ?_
              refine s_callf (xs := [.const (.pointer none), .tmp 85]) rfl rfl Tryd.func18 rfl (by kernel_rfl) rfl (of0 (bss := [[3], r0, r1]) ((hG.keep X7 (by simp; omega)).keep hS23 (by simp)) (by have := hS23.size; omega) (parts_three hb85 (lit1 hb82) (lit_reads (hb11.keep hS23 (by simp)) (by rw [natsC_length, ok0.1]) (by decide)) (lit_reads (hb12.keep hS23 (by simp)) (by rw [natsC_length, ok1.1]) (by decide)) (by simp) ok0.2 ok1.2) (by simp [ok0.1, ok1.1])) ?_
              rintro _ w237 ⟨rfl, X23_7⟩
              have zs23_7 := X23_7.size
              replace hS23 : Chg wd23 _ [] := hS23.trans X23_7
              refine s_nil ⟨.inr hS23, ?_⟩
              refine d_take 8 87 rfl (by kernel_rfl) rfl hS23 (fun wS hS => runs_dt (runs_hv_eq rfl rfl (aroot_ok _ _) (sha_ok _)) (by rw [aroot_two (by omega) (by omega), hr0, hr1, hs0, hs1]; simp [Sp.fork, Sp.side])) ?_
              refine d_take 9 4 rfl (by kernel_rfl) rfl hS23 (fun wS hS => runs_assign rfl) ?_
              refine d_done (by kernel_rfl) ?_
              replace X7 : Chg w7 _ [b6] := (X7.trans hS23).mono (by intro k hk hlt; simp at hk ⊢ <;> first | omega | grind)
              replace hb11 := hb11.keep hS23 (by simp)
              replace hb12 := hb12.keep hS23 (by simp)
              refine hK113 _ _ ?_
              refine c_ret ?_
              refine hret _ _ ?_
              exact ends1 (reads_tmp rfl) ⟨rfl, (hX.trans X7).mono (by intro k' hk' hlt; simp at hk'; omega)⟩
            · refine s_lit (xs := [.const (.int .u8 3)]) Tryd.underlying47 ty5 rfl rfl rfl rfl rfl (by simp [Value.cells]) (by decide) (by decide) ?_
              intro b82 w233 e23_3 z23_3 hb82 X23_3
              replace hS23 : Chg wd23 _ [] := hS23.trans X23_3
              refine s_nil ⟨.inr hS23, ?_⟩
              refine d_two 2 6 rfl rfl (by kernel_rfl) ?_ ?_
              · refine s_callf (xs := [.const (.pointer none), .tmp 79, .tmp 80]) rfl rfl Tryd.func15 rfl (by kernel_rfl) rfl (aroot0 (k := k) ((hG.keep X7 (by simp; omega)).keep hS23 (by simp)) (by have := hS23.size; omega) hwk ((hRl.keep X7 (fun p hp => by cases hp; simp only [List.mem_singleton]; omega)).keep0 hS23) (by omega)) ?_
                rintro _ w232 ⟨rfl, X23_2⟩
                replace hb82 := hb82.keep X23_2 (by simp)
                have zs23_2 := X23_2.size
                replace hS23 : Chg wd23 _ [] := hS23.trans X23_2
                refine s_nil ⟨.inr hS23, ?_⟩
                refine d_only 6 rfl (by kernel_rfl) ?_
                refine s_lit (xs := [.tmp 82, .tmp 83, .tmp 84]) Tryd.underlying51 ty47 rfl rfl rfl rfl rfl (by simp [Value.cells]) (by decide) (by decide) ?_
                intro b85 w236 e23_6 z23_6 hb85 X23_6
                have s23_6_hb82 := hb82.lt
                replace hb82 := hb82.keep X23_6 (by simp)
                replace hS23 : Chg wd23 _ [] := hS23.trans X23_6
                refine s_nil ⟨.inr hS23, ?_⟩
                refine d_only 7 rfl (by kernel_rfl) ?_
                refine s_callf (xs := [.const (.pointer none), .tmp 85]) rfl rfl Tryd.func18 rfl (by kernel_rfl) rfl (of0 (bss := [[3], r0, r1]) ((hG.keep X7 (by simp; omega)).keep hS23 (by simp)) (by have := hS23.size; omega) (parts_three hb85 (lit1 hb82) (lit_reads (hb11.keep hS23 (by simp)) (by rw [natsC_length, ok0.1]) (by decide)) (lit_reads (hb12.keep hS23 (by simp)) (by rw [natsC_length, ok1.1]) (by decide)) (by simp) ok0.2 ok1.2) (by simp [ok0.1, ok1.1])) ?_
                rintro _ w237 ⟨rfl, X23_7⟩
                have zs23_7 := X23_7.size
                replace hS23 : Chg wd23 _ [] := hS23.trans X23_7
                refine s_nil ⟨.inr hS23, ?_⟩
                refine d_take 8 87 rfl (by kernel_rfl) rfl hS23 (fun wS hS => runs_dt (runs_hv_eq rfl rfl (aroot_ok _ _) (sha_ok _)) (by rw [aroot_two (by omega) (by omega), hr0, hr1, hs0, hs1]; simp [Sp.fork, Sp.side])) ?_
                refine d_take 9 4 rfl (by kernel_rfl) rfl hS23 (fun wS hS => runs_assign rfl) ?_
                refine d_done (by kernel_rfl) ?_
                replace X7 : Chg w7 _ [b6] := (X7.trans hS23).mono (by intro k hk hlt; simp at hk ⊢ <;> first | omega | grind)
                replace hb11 := hb11.keep hS23 (by simp)
                replace hb12 := hb12.keep hS23 (by simp)
                refine hK113 _ _ ?_
                refine c_ret ?_
                refine hret _ _ ?_
                exact ends1 (reads_tmp rfl) ⟨rfl, (hX.trans X7).mono (by intro k' hk' hlt; simp at hk'; omega)⟩
              · refine s_lit (xs := [.tmp 82, .tmp 83, .tmp 84]) Tryd.underlying51 ty47 rfl rfl rfl rfl rfl (by simp [Value.cells]) (by decide) (by decide) ?_
                intro b85 w236 e23_6 z23_6 hb85 X23_6
                have s23_6_hb82 := hb82.lt
                replace hb82 := hb82.keep X23_6 (by simp)
                replace hS23 : Chg wd23 _ [] := hS23.trans X23_6
                refine s_nil ⟨.inr hS23, ?_⟩
                refine d_only 2 rfl (by kernel_rfl) ?_
                refine s_callf (xs := [.const (.pointer none), .tmp 79, .tmp 80]) rfl rfl Tryd.func15 rfl (by kernel_rfl) rfl (aroot0 (k := k) ((hG.keep X7 (by simp; omega)).keep hS23 (by simp)) (by have := hS23.size; omega) hwk ((hRl.keep X7 (fun p hp => by cases hp; simp only [List.mem_singleton]; omega)).keep0 hS23) (by omega)) ?_
                rintro _ w232 ⟨rfl, X23_2⟩
                replace hb82 := hb82.keep X23_2 (by simp)
                replace hb85 := hb85.keep X23_2 (by simp)
                have zs23_2 := X23_2.size
                replace hS23 : Chg wd23 _ [] := hS23.trans X23_2
                refine s_nil ⟨.inr hS23, ?_⟩
                refine d_only 7 rfl (by kernel_rfl) ?_
                refine s_callf (xs := [.const (.pointer none), .tmp 85]) rfl rfl Tryd.func18 rfl (by kernel_rfl) rfl (of0 (bss := [[3], r0, r1]) ((hG.keep X7 (by simp; omega)).keep hS23 (by simp)) (by have := hS23.size; omega) (parts_three hb85 (lit1 hb82) (lit_reads (hb11.keep hS23 (by simp)) (by rw [natsC_length, ok0.1]) (by decide)) (lit_reads (hb12.keep hS23 (by simp)) (by rw [natsC_length, ok1.1]) (by decide)) (by simp) ok0.2 ok1.2) (by simp [ok0.1, ok1.1])) ?_
                rintro _ w237 ⟨rfl, X23_7⟩
                have zs23_7 := X23_7.size
                replace hS23 : Chg wd23 _ [] := hS23.trans X23_7
                refine s_nil ⟨.inr hS23, ?_⟩
                refine d_take 8 87 rfl (by kernel_rfl) rfl hS23 (fun wS hS => runs_dt (runs_hv_eq rfl rfl (aroot_ok _ _) (sha_ok _)) (by rw [aroot_two (by omega) (by omega), hr0, hr1, hs0, hs1]; simp [Sp.fork, Sp.side])) ?_
                refine d_take 9 4 rfl (by kernel_rfl) rfl hS23 (fun wS hS => runs_assign rfl) ?_
                refine d_done (by kernel_rfl) ?_
                replace X7 : Chg w7 _ [b6] := (X7.trans hS23).mono (by intro k hk hlt; simp at hk ⊢ <;> first | omega | grind)
                replace hb11 := hb11.keep hS23 (by simp)
                replace hb12 := hb12.keep hS23 (by simp)
                refine hK113 _ _ ?_
                refine c_ret ?_
                refine hret _ _ ?_
                exact ends1 (reads_tmp rfl) ⟨rfl, (hX.trans X7).mono (by intro k' hk' hlt; simp at hk'; omega)⟩
          refine c_drawX [11] ([]) (by kernel_rfl) ?_
          intro wd22 Xd22 hS22
          replace X7 : Chg w7 _ [b6] := (X7.trans Xd22).mono (by intro k hk hlt; simp at hk ⊢ <;> first | omega | grind)
          replace hb6 := hb6.keep Xd22 (by simp)
          replace hR0 := hR0.keep0 Xd22
          replace hR1 := hR1.keep0 Xd22
          have zd22 := Xd22.size
          have hzX7d := X7.size
          refine d_take 0 71 rfl (by kernel_rfl) rfl hS22 (fun wS hS => runs_index_array (0) Tryd.underlying44 ty38 rfl rfl (by omega) (by omega)) ?_
          refine d_take 1 72 rfl (by kernel_rfl) rfl hS22 (fun wS hS => runs_load1 ty38 rfl ((hb6.keep hS (by simp)).c1 (j := 0) rfl)) ?_
          refine d_take 2 73 rfl (by kernel_rfl) rfl hS22 (fun wS hS => runs_move rfl) ?_
          refine d_take 4 75 rfl (by kernel_rfl) rfl hS22 (fun wS hS => runs_index_array (1) Tryd.underlying44 ty38 rfl rfl (by omega) (by omega)) ?_
          refine d_take 5 76 rfl (by kernel_rfl) rfl hS22 (fun wS hS => runs_load1 ty38 rfl ((hb6.keep hS (by simp)).c1 (j := 1) rfl)) ?_
          refine d_take 6 77 rfl (by kernel_rfl) rfl hS22 (fun wS hS => runs_move rfl) ?_
          refine d_three 3 8 9 rfl rfl rfl (by kernel_rfl) ?_ ?_ ?_
          · refine s_callf (xs := [.tmp 72, .tmp 73]) rfl rfl Tryd.func17 rfl (by kernel_rfl) rfl (side0_calls B s0 as0 _ cs0 k _ ((hG.keep X7 (by simp; omega)).keep hS22 (by simp)) (by have := hS22.size; omega) hw0 (hR0.keep0 hS22) (by omega)) ?_
            rintro _ w223 ⟨rfl, X22_3⟩
            have zs22_3 := X22_3.size
            rw [← hr0]
            replace hS22 : Chg wd22 _ [] := hS22.trans X22_3
            refine s_nil ⟨.inr hS22, ?_⟩
            refine d_three 7 8 9 rfl rfl rfl (by kernel_rfl) ?_ ?_ ?_
            · refine s_callf (xs := [.tmp 76, .tmp 77]) rfl rfl Tryd.func17 rfl (by kernel_rfl) rfl (side0_calls B s1 as1 _ cs1 k _ ((hG.keep X7 (by simp; omega)).keep hS22 (by simp)) (by have := hS22.size; omega) hw1 (hR1.keep0 hS22) (by omega)) ?_
              rintro _ w227 ⟨rfl, X22_7⟩
              have zs22_7 := X22_7.size
              rw [← hr1]
              replace hS22 : Chg wd22 _ [] := hS22.trans X22_7
              refine s_nil ⟨.inr hS22, ?_⟩
              refine d_two 8 9 rfl rfl (by kernel_rfl) ?_ ?_
              · refine s_alloc ty25 rfl rfl ?_
                intro b11 w228 e22_8 z22_8 hb11 X22_8
                have hb11lo : wd22.heap.size ≤ b11 := by have := hS22.size; omega
                replace hS22 : Chg wd22 _ [] := hS22.trans X22_8
                refine s_nil ⟨.inr hS22, ?_⟩
                refine d_only 9 rfl (by kernel_rfl) ?_
                refine s_alloc ty25 rfl rfl ?_
                intro b12 w229 e22_9 z22_9 hb12 X22_9
                have s22_9_hb11 := hb11.lt
                replace hb11 := hb11.keep X22_9 (by simp)
                replace hS22 : Chg wd22 _ [] := hS22.trans X22_9
                refine s_nil ⟨.inr hS22, ?_⟩
                refine d_only 10 rfl (by kernel_rfl) ?_
                refine s_storeAll ty25 rfl rfl rfl hb11 (by rw [natsC_length, ok0.1]) rfl (natsC_one _ _) ?_
                intro w2210 z22_10 h22_10 X22_10
                replace hb12 := hb12.keep X22_10 (by simp; omega)
                replace hb11 := h22_10
                replace hS22 : Chg wd22 _ [] := (hS22.trans X22_10).mono (by intro k hk hlt; simp at hk; have := hb11lo; omega)
                refine s_nil ⟨.inr hS22, ?_⟩
                refine d_only 11 rfl (by kernel_rfl) ?_
                replace X7 : Chg w7 _ [b6] := (X7.trans hS22).mono (by intro k hk hlt; simp at hk ⊢ <;> first | omega | grind)
                replace hb6 := hb6.keep hS22 (by simp)
                replace hR0 := hR0.keep0 hS22
                replace hR1 := hR1.keep0 hS22
                refine s_storeAll ty25 rfl rfl rfl hb12 (by rw [natsC_length, ok1.1]) rfl (natsC_one _ _) ?_
                intro w2211 z22_11 h22_11 X22_11
                replace X7 : Chg w7 _ [b6] := (X7.trans X22_11).mono (by intro k hk hlt; simp at hk ⊢ <;> first | omega | grind)
                replace hb11 := hb11.keep X22_11 (by simp; omega)
                replace hb12 := h22_11
                refine s_nil ⟨.inl rfl, ?_⟩
                refine d_done (by kernel_rfl) ?_
                exact hJ112 b11 b12 _ ⟨X7, hb11, hb12⟩ _ ⟨rfl, rfl, rfl, rfl, trivial⟩
              · refine s_alloc ty25 rfl rfl ?_
                intro b12 w229 e22_9 z22_9 hb12 X22_9
                replace hS22 : Chg wd22 _ [] := hS22.trans X22_9
                refine s_nil ⟨.inr hS22, ?_⟩
                refine d_only 8 rfl (by kernel_rfl) ?_
                refine s_alloc ty25 rfl rfl ?_
                intro b11 w228 e22_8 z22_8 hb11 X22_8
                have s22_8_hb12 := hb12.lt
                replace hb12 := hb12.keep X22_8 (by simp)
                have hb11lo : wd22.heap.size ≤ b11 := by have := hS22.size; omega
                replace hS22 : Chg wd22 _ [] := hS22.trans X22_8
                refine s_nil ⟨.inr hS22, ?_⟩
                refine d_only 10 rfl (by kernel_rfl) ?_
                refine s_storeAll ty25 rfl rfl rfl hb11 (by rw [natsC_length, ok0.1]) rfl (natsC_one _ _) ?_
                intro w2210 z22_10 h22_10 X22_10
                replace hb12 := hb12.keep X22_10 (by simp; omega)
                replace hb11 := h22_10
                replace hS22 : Chg wd22 _ [] := (hS22.trans X22_10).mono (by intro k hk hlt; simp at hk; have := hb11lo; omega)
                refine s_nil ⟨.inr hS22, ?_⟩
                refine d_only 11 rfl (by kernel_rfl) ?_
                replace X7 : Chg w7 _ [b6] := (X7.trans hS22).mono (by intro k hk hlt; simp at hk ⊢ <;> first | omega | grind)
                replace hb6 := hb6.keep hS22 (by simp)
                replace hR0 := hR0.keep0 hS22
                replace hR1 := hR1.keep0 hS22
                refine s_storeAll ty25 rfl rfl rfl hb12 (by rw [natsC_length, ok1.1]) rfl (natsC_one _ _) ?_
                intro w2211 z22_11 h22_11 X22_11
                replace X7 : Chg w7 _ [b6] := (X7.trans X22_11).mono (by intro k hk hlt; simp at hk ⊢ <;> first | omega | grind)
                replace hb11 := hb11.keep X22_11 (by simp; omega)
                replace hb12 := h22_11
                refine s_nil ⟨.inl rfl, ?_⟩
                refine d_done (by kernel_rfl) ?_
                exact hJ112 b11 b12 _ ⟨X7, hb11, hb12⟩ _ ⟨rfl, rfl, rfl, rfl, trivial⟩
            · refine s_alloc ty25 rfl rfl ?_
              intro b11 w228 e22_8 z22_8 hb11 X22_8
              have hb11lo : wd22.heap.size ≤ b11 := by have := hS22.size; omega
              replace hS22 : Chg wd22 _ [] := hS22.trans X22_8
              refine s_nil ⟨.inr hS22, ?_⟩
              refine d_two 7 9 rfl rfl (by kernel_rfl) ?_ ?_
              · refine s_callf (xs := [.tmp 76, .tmp 77]) rfl rfl Tryd.func17 rfl (by kernel_rfl) rfl (side0_calls B s1 as1 _ cs1 k _ ((hG.keep X7 (by simp; omega)).keep hS22 (by simp)) (by have := hS22.size; omega) hw1 (hR1.keep0 hS22) (by omega)) ?_
                rintro _ w227 ⟨rfl, X22_7⟩
                replace hb11 := hb11.keep X22_7 (by simp)
                have zs22_7 := X22_7.size
                rw [← hr1]
                replace hS22 : Chg wd22 _ [] := hS22.trans X22_7
                refine s_nil ⟨.inr hS22, ?_⟩
                refine d_only 9 rfl (by kernel_rfl) ?_
                refine s_alloc ty25 rfl rfl ?_
                intro b12 w229 e22_9 z22_9 hb12 X22_9
                have s22_9_hb11 := hb11.lt
                replace hb11 := hb11.keep X22_9 (by simp)
                replace hS22 : Chg wd22 _ [] := hS22.trans X22_9
                refine s_nil ⟨.inr hS22, ?_⟩
                refine d_only 10 rfl (by kernel_rfl) ?_
                refine s_storeAll ty25 rfl rfl rfl hb11 (by rw [natsC_length, ok0.1]) rfl (natsC_one _ _) ?_
                intro w2210 z22_10 h22_10 X22_10
                replace hb12 := hb12.keep X22_10 (by simp; omega)
                replace hb11 := h22_10
                replace hS22 : Chg wd22 _ [] := (hS22.trans X22_10).mono (by intro k hk hlt; simp at hk; have := hb11lo; omega)
                refine s_nil ⟨.inr hS22, ?_⟩
                refine d_only 11 rfl (by kernel_rfl) ?_
                replace X7 : Chg w7 _ [b6] := (X7.trans hS22).mono (by intro k hk hlt; simp at hk ⊢ <;> first | omega | grind)
                replace hb6 := hb6.keep hS22 (by simp)
                replace hR0 := hR0.keep0 hS22
                replace hR1 := hR1.keep0 hS22
                refine s_storeAll ty25 rfl rfl rfl hb12 (by rw [natsC_length, ok1.1]) rfl (natsC_one _ _) ?_
                intro w2211 z22_11 h22_11 X22_11
                replace X7 : Chg w7 _ [b6] := (X7.trans X22_11).mono (by intro k hk hlt; simp at hk ⊢ <;> first | omega | grind)
                replace hb11 := hb11.keep X22_11 (by simp; omega)
                replace hb12 := h22_11
                refine s_nil ⟨.inl rfl, ?_⟩
                refine d_done (by kernel_rfl) ?_
                exact hJ112 b11 b12 _ ⟨X7, hb11, hb12⟩ _ ⟨rfl, rfl, rfl, rfl, trivial⟩
              · refine s_alloc ty25 rfl rfl ?_
                intro b12 w229 e22_9 z22_9 hb12 X22_9
                have s22_9_hb11 := hb11.lt
                replace hb11 := hb11.keep X22_9 (by simp)
                replace hS22 : Chg wd22 _ [] := hS22.trans X22_9
                refine s_nil ⟨.inr hS22, ?_⟩
                refine d_only 7 rfl (by kernel_rfl) ?_
                refine s_callf (xs := [.tmp 76, .tmp 77]) rfl rfl Tryd.func17 rfl (by kernel_rfl) rfl (side0_calls B s1 as1 _ cs1 k _ ((hG.keep X7 (by simp; omega)).keep hS22 (by simp)) (by have := hS22.size; omega) hw1 (hR1.keep0 hS22) (by omega)) ?_
                rintro _ w227 ⟨rfl, X22_7⟩
                replace hb11 := hb11.keep X22_7 (by simp)
                replace hb12 := hb12.keep X22_7 (by simp)
                have zs22_7 := X22_7.size
                rw [← hr1]
                replace hS22 : Chg wd22 _ [] := hS22.trans X22_7
                refine s_nil ⟨.inr hS22, ?_⟩
                refine d_only 10 rfl (by kernel_rfl) ?_
                refine s_storeAll ty25 rfl rfl rfl hb11 (by rw [natsC_length, ok0.1]) rfl (natsC_one _ _) ?_
                intro w2210 z22_10 h22_10 X22_10
                replace hb12 := hb12.keep X22_10 (by simp; omega)
                replace hb11 := h22_10
                replace hS22 : Chg wd22 _ [] := (hS22.trans X22_10).mono (by intro k hk hlt; simp at hk; have := hb11lo; omega)
                refine s_nil ⟨.inr hS22, ?_⟩
                refine d_only 11 rfl (by kernel_rfl) ?_
                replace X7 : Chg w7 _ [b6] := (X7.trans hS22).mono (by intro k hk hlt; simp at hk ⊢ <;> first | omega | grind)
                replace hb6 := hb6.keep hS22 (by simp)
                replace hR0 := hR0.keep0 hS22
                replace hR1 := hR1.keep0 hS22
                refine s_storeAll ty25 rfl rfl rfl hb12 (by rw [natsC_length, ok1.1]) rfl (natsC_one _ _) ?_
                intro w2211 z22_11 h22_11 X22_11
                replace X7 : Chg w7 _ [b6] := (X7.trans X22_11).mono (by intro k hk hlt; simp at hk ⊢ <;> first | omega | grind)
                replace hb11 := hb11.keep X22_11 (by simp; omega)
                replace hb12 := h22_11
                refine s_nil ⟨.inl rfl, ?_⟩
                refine d_done (by kernel_rfl) ?_
                exact hJ112 b11 b12 _ ⟨X7, hb11, hb12⟩ _ ⟨rfl, rfl, rfl, rfl, trivial⟩
            · refine s_alloc ty25 rfl rfl ?_
              intro b12 w229 e22_9 z22_9 hb12 X22_9
              replace hS22 : Chg wd22 _ [] := hS22.trans X22_9
              refine s_nil ⟨.inr hS22, ?_⟩
              refine d_two 7 8 rfl rfl (by kernel_rfl) ?_ ?_
              · refine s_callf (xs := [.tmp 76, .tmp 77]) rfl rfl Tryd.func17 rfl (by kernel_rfl) rfl (side0_calls B s1 as1 _ cs1 k _ ((hG.keep X7 (by simp; omega)).keep hS22 (by simp)) (by have := hS22.size; omega) hw1 (hR1.keep0 hS22) (by omega)) ?_
                rintro _ w227 ⟨rfl, X22_7⟩
                replace hb12 := hb12.keep X22_7 (by simp)
                have zs22_7 := X22_7.size
                rw [← hr1]
                replace hS22 : Chg wd22 _ [] := hS22.trans X22_7
                refine s_nil ⟨.inr hS22, ?_⟩
                refine d_only 8 rfl (by kernel_rfl) ?_
                refine s_alloc ty25 rfl rfl ?_
                intro b11 w228 e22_8 z22_8 hb11 X22_8
                have s22_8_hb12 := hb12.lt
                replace hb12 := hb12.keep X22_8 (by simp)
                have hb11lo : wd22.heap.size ≤ b11 := by have := hS22.size; omega
                replace hS22 : Chg wd22 _ [] := hS22.trans X22_8
                refine s_nil ⟨.inr hS22, ?_⟩
                refine d_only 10 rfl (by kernel_rfl) ?_
                refine s_storeAll ty25 rfl rfl rfl hb11 (by rw [natsC_length, ok0.1]) rfl (natsC_one _ _) ?_
                intro w2210 z22_10 h22_10 X22_10
                replace hb12 := hb12.keep X22_10 (by simp; omega)
                replace hb11 := h22_10
                replace hS22 : Chg wd22 _ [] := (hS22.trans X22_10).mono (by intro k hk hlt; simp at hk; have := hb11lo; omega)
                refine s_nil ⟨.inr hS22, ?_⟩
                refine d_only 11 rfl (by kernel_rfl) ?_
                replace X7 : Chg w7 _ [b6] := (X7.trans hS22).mono (by intro k hk hlt; simp at hk ⊢ <;> first | omega | grind)
                replace hb6 := hb6.keep hS22 (by simp)
                replace hR0 := hR0.keep0 hS22
                replace hR1 := hR1.keep0 hS22
                refine s_storeAll ty25 rfl rfl rfl hb12 (by rw [natsC_length, ok1.1]) rfl (natsC_one _ _) ?_
                intro w2211 z22_11 h22_11 X22_11
                replace X7 : Chg w7 _ [b6] := (X7.trans X22_11).mono (by intro k hk hlt; simp at hk ⊢ <;> first | omega | grind)
                replace hb11 := hb11.keep X22_11 (by simp; omega)
                replace hb12 := h22_11
                refine s_nil ⟨.inl rfl, ?_⟩
                refine d_done (by kernel_rfl) ?_
                exact hJ112 b11 b12 _ ⟨X7, hb11, hb12⟩ _ ⟨rfl, rfl, rfl, rfl, trivial⟩
              · refine s_alloc ty25 rfl rfl ?_
                intro b11 w228 e22_8 z22_8 hb11 X22_8
                have s22_8_hb12 := hb12.lt
                replace hb12 := hb12.keep X22_8 (by simp)
                have hb11lo : wd22.heap.size ≤ b11 := by have := hS22.size; omega
                replace hS22 : Chg wd22 _ [] := hS22.trans X22_8
                refine s_nil ⟨.inr hS22, ?_⟩
                refine d_only 7 rfl (by kernel_rfl) ?_
                refine s_callf (xs := [.tmp 76, .tmp 77]) rfl rfl Tryd.func17 rfl (by kernel_rfl) rfl (side0_calls B s1 as1 _ cs1 k _ ((hG.keep X7 (by simp; omega)).keep hS22 (by simp)) (by have := hS22.size; omega) hw1 (hR1.keep0 hS22) (by omega)) ?_
                rintro _ w227 ⟨rfl, X22_7⟩
                replace hb12 := hb12.keep X22_7 (by simp)
                replace hb11 := hb11.keep X22_7 (by simp)
                have zs22_7 := X22_7.size
                rw [← hr1]
                replace hS22 : Chg wd22 _ [] := hS22.trans X22_7
                refine s_nil ⟨.inr hS22, ?_⟩
                refine d_only 10 rfl (by kernel_rfl) ?_
                refine s_storeAll ty25 rfl rfl rfl hb11 (by rw [natsC_length, ok0.1]) rfl (natsC_one _ _) ?_
                intro w2210 z22_10 h22_10 X22_10
                replace hb12 := hb12.keep X22_10 (by simp; omega)
                replace hb11 := h22_10
                replace hS22 : Chg wd22 _ [] := (hS22.trans X22_10).mono (by intro k hk hlt; simp at hk; have := hb11lo; omega)
                refine s_nil ⟨.inr hS22, ?_⟩
                refine d_only 11 rfl (by kernel_rfl) ?_
                replace X7 : Chg w7 _ [b6] := (X7.trans hS22).mono (by intro k hk hlt; simp at hk ⊢ <;> first | omega | grind)
                replace hb6 := hb6.keep hS22 (by simp)
                replace hR0 := hR0.keep0 hS22
                replace hR1 := hR1.keep0 hS22
                refine s_storeAll ty25 rfl rfl rfl hb12 (by rw [natsC_length, ok1.1]) rfl (natsC_one _ _) ?_
                intro w2211 z22_11 h22_11 X22_11
                replace X7 : Chg w7 _ [b6] := (X7.trans X22_11).mono (by intro k hk hlt; simp at hk ⊢ <;> first | omega | grind)
                replace hb11 := hb11.keep X22_11 (by simp; omega)
                replace hb12 := h22_11
                refine s_nil ⟨.inl rfl, ?_⟩
                refine d_done (by kernel_rfl) ?_
                exact hJ112 b11 b12 _ ⟨X7, hb11, hb12⟩ _ ⟨rfl, rfl, rfl, rfl, trivial⟩
          · refine s_alloc ty25 rfl rfl ?_
            intro b11 w228 e22_8 z22_8 hb11 X22_8
            have hb11lo : wd22.heap.size ≤ b11 := by have := hS22.size; omega
            replace hS22 : Chg wd22 _ [] := hS22.trans X22_8
            refine s_nil ⟨.inr hS22, ?_⟩
            refine d_two 3 9 rfl rfl (by kernel_rfl) ?_ ?_
            · refine s_callf (xs := [.tmp 72, .tmp 73]) rfl rfl Tryd.func17 rfl (by kernel_rfl) rfl (side0_calls B s0 as0 _ cs0 k _ ((hG.keep X7 (by simp; omega)).keep hS22 (by simp)) (by have := hS22.size; omega) hw0 (hR0.keep0 hS22) (by omega)) ?_
              rintro _ w223 ⟨rfl, X22_3⟩
              replace hb11 := hb11.keep X22_3 (by simp)
              have zs22_3 := X22_3.size
              rw [← hr0]
              replace hS22 : Chg wd22 _ [] := hS22.trans X22_3
              refine s_nil ⟨.inr hS22, ?_⟩
              refine d_two 7 9 rfl rfl (by kernel_rfl) ?_ ?_
              · refine s_callf (xs := [.tmp 76, .tmp 77]) rfl rfl Tryd.func17 rfl (by kernel_rfl) rfl (side0_calls B s1 as1 _ cs1 k _ ((hG.keep X7 (by simp; omega)).keep hS22 (by simp)) (by have := hS22.size; omega) hw1 (hR1.keep0 hS22) (by omega)) ?_
                rintro _ w227 ⟨rfl, X22_7⟩
                replace hb11 := hb11.keep X22_7 (by simp)
                have zs22_7 := X22_7.size
                rw [← hr1]
                replace hS22 : Chg wd22 _ [] := hS22.trans X22_7
                refine s_nil ⟨.inr hS22, ?_⟩
                refine d_only 9 rfl (by kernel_rfl) ?_
                refine s_alloc ty25 rfl rfl ?_
                intro b12 w229 e22_9 z22_9 hb12 X22_9
                have s22_9_hb11 := hb11.lt
                replace hb11 := hb11.keep X22_9 (by simp)
                replace hS22 : Chg wd22 _ [] := hS22.trans X22_9
                refine s_nil ⟨.inr hS22, ?_⟩
                refine d_only 10 rfl (by kernel_rfl) ?_
                refine s_storeAll ty25 rfl rfl rfl hb11 (by rw [natsC_length, ok0.1]) rfl (natsC_one _ _) ?_
                intro w2210 z22_10 h22_10 X22_10
                replace hb12 := hb12.keep X22_10 (by simp; omega)
                replace hb11 := h22_10
                replace hS22 : Chg wd22 _ [] := (hS22.trans X22_10).mono (by intro k hk hlt; simp at hk; have := hb11lo; omega)
                refine s_nil ⟨.inr hS22, ?_⟩
                refine d_only 11 rfl (by kernel_rfl) ?_
                replace X7 : Chg w7 _ [b6] := (X7.trans hS22).mono (by intro k hk hlt; simp at hk ⊢ <;> first | omega | grind)
                replace hb6 := hb6.keep hS22 (by simp)
                replace hR0 := hR0.keep0 hS22
                replace hR1 := hR1.keep0 hS22
                refine s_storeAll ty25 rfl rfl rfl hb12 (by rw [natsC_length, ok1.1]) rfl (natsC_one _ _) ?_
                intro w2211 z22_11 h22_11 X22_11
                replace X7 : Chg w7 _ [b6] := (X7.trans X22_11).mono (by intro k hk hlt; simp at hk ⊢ <;> first | omega | grind)
                replace hb11 := hb11.keep X22_11 (by simp; omega)
                replace hb12 := h22_11
                refine s_nil ⟨.inl rfl, ?_⟩
                refine d_done (by kernel_rfl) ?_
                exact hJ112 b11 b12 _ ⟨X7, hb11, hb12⟩ _ ⟨rfl, rfl, rfl, rfl, trivial⟩
              · refine s_alloc ty25 rfl rfl ?_
                intro b12 w229 e22_9 z22_9 hb12 X22_9
                have s22_9_hb11 := hb11.lt
                replace hb11 := hb11.keep X22_9 (by simp)
                replace hS22 : Chg wd22 _ [] := hS22.trans X22_9
                refine s_nil ⟨.inr hS22, ?_⟩
                refine d_only 7 rfl (by kernel_rfl) ?_
                refine s_callf (xs := [.tmp 76, .tmp 77]) rfl rfl Tryd.func17 rfl (by kernel_rfl) rfl (side0_calls B s1 as1 _ cs1 k _ ((hG.keep X7 (by simp; omega)).keep hS22 (by simp)) (by have := hS22.size; omega) hw1 (hR1.keep0 hS22) (by omega)) ?_
                rintro _ w227 ⟨rfl, X22_7⟩
                replace hb11 := hb11.keep X22_7 (by simp)
                replace hb12 := hb12.keep X22_7 (by simp)
                have zs22_7 := X22_7.size
                rw [← hr1]
                replace hS22 : Chg wd22 _ [] := hS22.trans X22_7
                refine s_nil ⟨.inr hS22, ?_⟩
                refine d_only 10 rfl (by kernel_rfl) ?_
                refine s_storeAll ty25 rfl rfl rfl hb11 (by rw [natsC_length, ok0.1]) rfl (natsC_one _ _) ?_
                intro w2210 z22_10 h22_10 X22_10
                replace hb12 := hb12.keep X22_10 (by simp; omega)
                replace hb11 := h22_10
                replace hS22 : Chg wd22 _ [] := (hS22.trans X22_10).mono (by intro k hk hlt; simp at hk; have := hb11lo; omega)
                refine s_nil ⟨.inr hS22, ?_⟩
                refine d_only 11 rfl (by kernel_rfl) ?_
                replace X7 : Chg w7 _ [b6] := (X7.trans hS22).mono (by intro k hk hlt; simp at hk ⊢ <;> first | omega | grind)
                replace hb6 := hb6.keep hS22 (by simp)
                replace hR0 := hR0.keep0 hS22
                replace hR1 := hR1.keep0 hS22
                refine s_storeAll ty25 rfl rfl rfl hb12 (by rw [natsC_length, ok1.1]) rfl (natsC_one _ _) ?_
                intro w2211 z22_11 h22_11 X22_11
                replace X7 : Chg w7 _ [b6] := (X7.trans X22_11).mono (by intro k hk hlt; simp at hk ⊢ <;> first | omega | grind)
                replace hb11 := hb11.keep X22_11 (by simp; omega)
                replace hb12 := h22_11
                refine s_nil ⟨.inl rfl, ?_⟩
                refine d_done (by kernel_rfl) ?_
                exact hJ112 b11 b12 _ ⟨X7, hb11, hb12⟩ _ ⟨rfl, rfl, rfl, rfl, trivial⟩
            · refine s_alloc ty25 rfl rfl ?_
              intro b12 w229 e22_9 z22_9 hb12 X22_9
              have s22_9_hb11 := hb11.lt
              replace hb11 := hb11.keep X22_9 (by simp)
              replace hS22 : Chg wd22 _ [] := hS22.trans X22_9
              refine s_nil ⟨.inr hS22, ?_⟩
              refine d_only 3 rfl (by kernel_rfl) ?_
              refine s_callf (xs := [.tmp 72, .tmp 73]) rfl rfl Tryd.func17 rfl (by kernel_rfl) rfl (side0_calls B s0 as0 _ cs0 k _ ((hG.keep X7 (by simp; omega)).keep hS22 (by simp)) (by have := hS22.size; omega) hw0 (hR0.keep0 hS22) (by omega)) ?_
              rintro _ w223 ⟨rfl, X22_3⟩
              replace hb11 := hb11.keep X22_3 (by simp)
              replace hb12 := hb12.keep X22_3 (by simp)
              have zs22_3 := X22_3.size
              rw [← hr0]
              replace hS22 : Chg wd22 _ [] := hS22.trans X22_3
              refine s_nil ⟨.inr hS22, ?_⟩
              refine d_only 7 rfl (by kernel_rfl) ?_
              refine s_callf (xs := [.tmp 76, .tmp 77]) rfl rfl Tryd.func17 rfl (by kernel_rfl) rfl (side0_calls B s1 as1 _ cs1 k _ ((hG.keep X7 (by simp; omega)).keep hS22 (by simp)) (by have := hS22.size; omega) hw1 (hR1.keep0 hS22) (by omega)) ?_
              rintro _ w227 ⟨rfl, X22_7⟩
              replace hb11 := hb11.keep X22_7 (by simp)
              replace hb12 := hb12.keep X22_7 (by simp)
              have zs22_7 := X22_7.size
              rw [← hr1]
              replace hS22 : Chg wd22 _ [] := hS22.trans X22_7
              refine s_nil ⟨.inr hS22, ?_⟩
              refine d_only 10 rfl (by kernel_rfl) ?_
              refine s_storeAll ty25 rfl rfl rfl hb11 (by rw [natsC_length, ok0.1]) rfl (natsC_one _ _) ?_
              intro w2210 z22_10 h22_10 X22_10
              replace hb12 := hb12.keep X22_10 (by simp; omega)
              replace hb11 := h22_10
              replace hS22 : Chg wd22 _ [] := (hS22.trans X22_10).mono (by intro k hk hlt; simp at hk; have := hb11lo; omega)
              refine s_nil ⟨.inr hS22, ?_⟩
              refine d_only 11 rfl (by kernel_rfl) ?_
              replace X7 : Chg w7 _ [b6] := (X7.trans hS22).mono (by intro k hk hlt; simp at hk ⊢ <;> first | omega | grind)
              replace hb6 := hb6.keep hS22 (by simp)
              replace hR0 := hR0.keep0 hS22
              replace hR1 := hR1.keep0 hS22
              refine s_storeAll ty25 rfl rfl rfl hb12 (by rw [natsC_length, ok1.1]) rfl (natsC_one _ _) ?_
              intro w2211 z22_11 h22_11 X22_11
              replace X7 : Chg w7 _ [b6] := (X7.trans X22_11).mono (by intro k hk hlt; simp at hk ⊢ <;> first | omega | grind)
              replace hb11 := hb11.keep X22_11 (by simp; omega)
              replace hb12 := h22_11
              refine s_nil ⟨.inl rfl, ?_⟩
              refine d_done (by kernel_rfl) ?_
              exact hJ112 b11 b12 _ ⟨X7, hb11, hb12⟩ _ ⟨rfl, rfl, rfl, rfl, trivial⟩
          · refine s_alloc ty25 rfl rfl ?_
            intro b12 w229 e22_9 z22_9 hb12 X22_9
            replace hS22 : Chg wd22 _ [] := hS22.trans X22_9
            refine s_nil ⟨.inr hS22, ?_⟩
            refine d_two 3 8 rfl rfl (by kernel_rfl) ?_ ?_
            · refine s_callf (xs := [.tmp 72, .tmp 73]) rfl rfl Tryd.func17 rfl (by kernel_rfl) rfl (side0_calls B s0 as0 _ cs0 k _ ((hG.keep X7 (by simp; omega)).keep hS22 (by simp)) (by have := hS22.size; omega) hw0 (hR0.keep0 hS22) (by omega)) ?_
              rintro _ w223 ⟨rfl, X22_3⟩
              replace hb12 := hb12.keep X22_3 (by simp)
              have zs22_3 := X22_3.size
              rw [← hr0]
              replace hS22 : Chg wd22 _ [] := hS22.trans X22_3
              refine s_nil ⟨.inr hS22, ?_⟩
              refine d_two 7 8 rfl rfl (by kernel_rfl) ?_ ?_
              · refine s_callf (xs := [.tmp 76, .tmp 77]) rfl rfl Tryd.func17 rfl (by kernel_rfl) rfl (side0_calls B s1 as1 _ cs1 k _ ((hG.keep X7 (by simp; omega)).keep hS22 (by simp)) (by have := hS22.size; omega) hw1 (hR1.keep0 hS22) (by omega)) ?_
                rintro _ w227 ⟨rfl, X22_7⟩
                replace hb12 := hb12.keep X22_7 (by simp)
                have zs22_7 := X22_7.size
                rw [← hr1]
                replace hS22 : Chg wd22 _ [] := hS22.trans X22_7
                refine s_nil ⟨.inr hS22, ?_⟩
                refine d_only 8 rfl (by kernel_rfl) ?_
                refine s_alloc ty25 rfl rfl ?_
                intro b11 w228 e22_8 z22_8 hb11 X22_8
                have s22_8_hb12 := hb12.lt
                replace hb12 := hb12.keep X22_8 (by simp)
                have hb11lo : wd22.heap.size ≤ b11 := by have := hS22.size; omega
                replace hS22 : Chg wd22 _ [] := hS22.trans X22_8
                refine s_nil ⟨.inr hS22, ?_⟩
                refine d_only 10 rfl (by kernel_rfl) ?_
                refine s_storeAll ty25 rfl rfl rfl hb11 (by rw [natsC_length, ok0.1]) rfl (natsC_one _ _) ?_
                intro w2210 z22_10 h22_10 X22_10
                replace hb12 := hb12.keep X22_10 (by simp; omega)
                replace hb11 := h22_10
                replace hS22 : Chg wd22 _ [] := (hS22.trans X22_10).mono (by intro k hk hlt; simp at hk; have := hb11lo; omega)
                refine s_nil ⟨.inr hS22, ?_⟩
                refine d_only 11 rfl (by kernel_rfl) ?_
                replace X7 : Chg w7 _ [b6] := (X7.trans hS22).mono (by intro k hk hlt; simp at hk ⊢ <;> first | omega | grind)
                replace hb6 := hb6.keep hS22 (by simp)
                replace hR0 := hR0.keep0 hS22
                replace hR1 := hR1.keep0 hS22
                refine s_storeAll ty25 rfl rfl rfl hb12 (by rw [natsC_length, ok1.1]) rfl (natsC_one _ _) ?_
                intro w2211 z22_11 h22_11 X22_11
                replace X7 : Chg w7 _ [b6] := (X7.trans X22_11).mono (by intro k hk hlt; simp at hk ⊢ <;> first | omega | grind)
                replace hb11 := hb11.keep X22_11 (by simp; omega)
                replace hb12 := h22_11
                refine s_nil ⟨.inl rfl, ?_⟩
                refine d_done (by kernel_rfl) ?_
                exact hJ112 b11 b12 _ ⟨X7, hb11, hb12⟩ _ ⟨rfl, rfl, rfl, rfl, trivial⟩
              · refine s_alloc ty25 rfl rfl ?_
                intro b11 w228 e22_8 z22_8 hb11 X22_8
                have s22_8_hb12 := hb12.lt
                replace hb12 := hb12.keep X22_8 (by simp)
                have hb11lo : wd22.heap.size ≤ b11 := by have := hS22.size; omega
                replace hS22 : Chg wd22 _ [] := hS22.trans X22_8
                refine s_nil ⟨.inr hS22, ?_⟩
                refine d_only 7 rfl (by kernel_rfl) ?_
                refine s_callf (xs := [.tmp 76, .tmp 77]) rfl rfl Tryd.func17 rfl (by kernel_rfl) rfl (side0_calls B s1 as1 _ cs1 k _ ((hG.keep X7 (by simp; omega)).keep hS22 (by simp)) (by have := hS22.size; omega) hw1 (hR1.keep0 hS22) (by omega)) ?_
                rintro _ w227 ⟨rfl, X22_7⟩
                replace hb12 := hb12.keep X22_7 (by simp)
                replace hb11 := hb11.keep X22_7 (by simp)
                have zs22_7 := X22_7.size
                rw [← hr1]
                replace hS22 : Chg wd22 _ [] := hS22.trans X22_7
                refine s_nil ⟨.inr hS22, ?_⟩
                refine d_only 10 rfl (by kernel_rfl) ?_
                refine s_storeAll ty25 rfl rfl rfl hb11 (by rw [natsC_length, ok0.1]) rfl (natsC_one _ _) ?_
                intro w2210 z22_10 h22_10 X22_10
                replace hb12 := hb12.keep X22_10 (by simp; omega)
                replace hb11 := h22_10
                replace hS22 : Chg wd22 _ [] := (hS22.trans X22_10).mono (by intro k hk hlt; simp at hk; have := hb11lo; omega)
                refine s_nil ⟨.inr hS22, ?_⟩
                refine d_only 11 rfl (by kernel_rfl) ?_
                replace X7 : Chg w7 _ [b6] := (X7.trans hS22).mono (by intro k hk hlt; simp at hk ⊢ <;> first | omega | grind)
                replace hb6 := hb6.keep hS22 (by simp)
                replace hR0 := hR0.keep0 hS22
                replace hR1 := hR1.keep0 hS22
                refine s_storeAll ty25 rfl rfl rfl hb12 (by rw [natsC_length, ok1.1]) rfl (natsC_one _ _) ?_
                intro w2211 z22_11 h22_11 X22_11
                replace X7 : Chg w7 _ [b6] := (X7.trans X22_11).mono (by intro k hk hlt; simp at hk ⊢ <;> first | omega | grind)
                replace hb11 := hb11.keep X22_11 (by simp; omega)
                replace hb12 := h22_11
                refine s_nil ⟨.inl rfl, ?_⟩
                refine d_done (by kernel_rfl) ?_
                exact hJ112 b11 b12 _ ⟨X7, hb11, hb12⟩ _ ⟨rfl, rfl, rfl, rfl, trivial⟩
            · refine s_alloc ty25 rfl rfl ?_
              intro b11 w228 e22_8 z22_8 hb11 X22_8
              have s22_8_hb12 := hb12.lt
              replace hb12 := hb12.keep X22_8 (by simp)
              have hb11lo : wd22.heap.size ≤ b11 := by have := hS22.size; omega
              replace hS22 : Chg wd22 _ [] := hS22.trans X22_8
              refine s_nil ⟨.inr hS22, ?_⟩
              refine d_only 3 rfl (by kernel_rfl) ?_
              refine s_callf (xs := [.tmp 72, .tmp 73]) rfl rfl Tryd.func17 rfl (by kernel_rfl) rfl (side0_calls B s0 as0 _ cs0 k _ ((hG.keep X7 (by simp; omega)).keep hS22 (by simp)) (by have := hS22.size; omega) hw0 (hR0.keep0 hS22) (by omega)) ?_
              rintro _ w223 ⟨rfl, X22_3⟩
              replace hb12 := hb12.keep X22_3 (by simp)
              replace hb11 := hb11.keep X22_3 (by simp)
              have zs22_3 := X22_3.size
              rw [← hr0]
              replace hS22 : Chg wd22 _ [] := hS22.trans X22_3
              refine s_nil ⟨.inr hS22, ?_⟩
              refine d_only 7 rfl (by kernel_rfl) ?_
              refine s_callf (xs := [.tmp 76, .tmp 77]) rfl rfl Tryd.func17 rfl (by kernel_rfl) rfl (side0_calls B s1 as1 _ cs1 k _ ((hG.keep X7 (by simp; omega)).keep hS22 (by simp)) (by have := hS22.size; omega) hw1 (hR1.keep0 hS22) (by omega)) ?_
              rintro _ w227 ⟨rfl, X22_7⟩
              replace hb12 := hb12.keep X22_7 (by simp)
              replace hb11 := hb11.keep X22_7 (by simp)
              have zs22_7 := X22_7.size
              rw [← hr1]
              replace hS22 : Chg wd22 _ [] := hS22.trans X22_7
              refine s_nil ⟨.inr hS22, ?_⟩
              refine d_only 10 rfl (by kernel_rfl) ?_
              refine s_storeAll ty25 rfl rfl rfl hb11 (by rw [natsC_length, ok0.1]) rfl (natsC_one _ _) ?_
              intro w2210 z22_10 h22_10 X22_10
              replace hb12 := hb12.keep X22_10 (by simp; omega)
              replace hb11 := h22_10
              replace hS22 : Chg wd22 _ [] := (hS22.trans X22_10).mono (by intro k hk hlt; simp at hk; have := hb11lo; omega)
              refine s_nil ⟨.inr hS22, ?_⟩
              refine d_only 11 rfl (by kernel_rfl) ?_
              replace X7 : Chg w7 _ [b6] := (X7.trans hS22).mono (by intro k hk hlt; simp at hk ⊢ <;> first | omega | grind)
              replace hb6 := hb6.keep hS22 (by simp)
              replace hR0 := hR0.keep0 hS22
              replace hR1 := hR1.keep0 hS22
              refine s_storeAll ty25 rfl rfl rfl hb12 (by rw [natsC_length, ok1.1]) rfl (natsC_one _ _) ?_
              intro w2211 z22_11 h22_11 X22_11
              replace X7 : Chg w7 _ [b6] := (X7.trans X22_11).mono (by intro k hk hlt; simp at hk ⊢ <;> first | omega | grind)
              replace hb11 := hb11.keep X22_11 (by simp; omega)
              replace hb12 := h22_11
              refine s_nil ⟨.inl rfl, ?_⟩
              refine d_done (by kernel_rfl) ?_
              exact hJ112 b11 b12 _ ⟨X7, hb11, hb12⟩ _ ⟨rfl, rfl, rfl, rfl, trivial⟩
  · refine c_seqreg (fun K8 hK8 => ?_)
    refine s_val rfl rfl (runs_df (runs_move rfl) h20) ?_
    refine s_val rfl rfl (runs_not rfl) ?_
    refine s_val rfl rfl (runs_move rfl) ?_
    refine s_skip rfl rfl ?_
    refine s_skip rfl rfl ?_
    refine s_skip rfl rfl ?_
    refine s_val rfl rfl (runs_pickt rfl rfl) ?_
    refine s_nil ?_
    refine hK8 _ _ ?_
    refine c_true rfl ?_
    refine c_seqreg (fun K183 hK183 => ?_)
    refine s_val rfl rfl (runs_assign rfl) ?_
    refine s_nil ?_
    refine hK183 _ _ ?_
    refine c_ret ?_
    refine hret _ _ ?_
    exact ends1 (reads_tmp rfl) ⟨rfl, hX⟩
end Go.Proofs.YtmmijecookbajaaDoor
