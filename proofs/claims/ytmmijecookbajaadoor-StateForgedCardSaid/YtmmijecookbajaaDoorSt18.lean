/- Part St18 of the proofs on this seat. Conditions: none beyond those in the theorems. By an AI agent. -/
import Derived.Test.YtmmijecookbajaaDoorStD
namespace Go.Proofs.YtmmijecookbajaaDoor
open Go Go.RowKit

section
variable {P : Program} {ρ : Env} {w : World} {tx ty tyy : TypeId} {x y : Operand} {a b : Bool}
theorem equalIn_bool (d : Nat) (hu : P.underlying tx = some .bool) : (Op.equalIn (d + 1) tx (.bool a) (.bool b)).run P w = .ok (a == b) w := by
  simp [Op.equalIn, run_underlying hu]
theorem runs_bool_ne (hu : P.underlying tx = some .bool) (hx : ev? ρ x = some (.bool a)) (hy : ev? ρ y = some (.bool b)) : Runs P ρ (.binOp .neq tx x y tyy) ty w (.bool (decide (a ≠ b))) w := fun ev h => by
  have := equalIn_bool (P := P) (w := w) (a := a) (b := b) 9999 hu
  cases a <;> cases b <;> simp [execOp, h _ _ hx, h _ _ hy, eqGuard, binOp, Op.equal, Op.maxDepth, this]
theorem runs_bool_eq (hu : P.underlying tx = some .bool) (hx : ev? ρ x = some (.bool a)) (hy : ev? ρ y = some (.bool b)) : Runs P ρ (.binOp .eql tx x y tyy) ty w (.bool (decide (a = b))) w := fun ev h => by
  have := equalIn_bool (P := P) (w := w) (a := a) (b := b) 9999 hu
  cases a <;> cases b <;> simp [execOp, h _ _ hx, h _ _ hy, eqGuard, binOp, Op.equal, Op.maxDepth, this]
end
/-- Has one of the first j the number? -/
def Sp.hasId (l : List Ac) (id : Nm) (j : Nat) : Bool := (l.take j).any fun b => decide (b.id = id)
theorem hasId_zero (l : List Ac) (id : Nm) : Sp.hasId l id 0 = false := rfl
theorem hasId_succ {l : List Ac} {id : Nm} {j : Nat} {b : Ac} (h : l[j]? = some b) : Sp.hasId l id (j + 1) = (Sp.hasId l id j || decide (b.id = id)) := by
  unfold Sp.hasId
  rw [List.take_add_one, h, List.any_append]; simp
theorem hasId_end {l : List Ac} {id : Nm} (hw : Wf 0 l) {y : Ac} (he : Sp.aend id 0 l = [y]) (hy : y.id ≠ id) (j : Nat) : Sp.hasId l id j = false := by
  unfold Sp.hasId
  rw [List.any_eq_false]
  intro b hb hid
  have h1 := aend_has id 129 0 l (by omega) hw b (List.mem_of_mem_take hb) (by simpa using hid)
  rw [he] at h1
  simp at h1
  subst h1
  exact hy (by simpa using hid)
theorem aend_is {l : List Ac} {id : Nm} (hw : Wf 0 l) {b : Ac} (hb : b ∈ l) (hid : b.id = id) : Sp.aend id 0 l = [b] := by
  have h1 := (climb_prove id 129 0 l (by omega) hw).2
  have h2 := aend_has id 129 0 l (by omega) hw b hb hid
  match Sp.aend id 0 l, h1, h2 with
  | [x], _, h2 => simp at h2; rw [h2]
  | [], _, h2 => simp at h2
  | _ :: _ :: _, h1, _ => simp at h1
theorem aend_cases {l : List Ac} (id : Nm) (hw : Wf 0 l) : Sp.aend id 0 l = [] ∨ ∃ y, Sp.aend id 0 l = [y] ∧ y ∈ l := by
  have h1 := (climb_prove id 129 0 l (by omega) hw).2
  have h2 := aend_mem id 129 0 l (by omega) hw
  match Sp.aend id 0 l, h1, h2 with
  | [x], _, h2 => exact .inr ⟨x, rfl, (h2 x (by simp)).1⟩
  | [], _, _ => exact .inl rfl
  | _ :: _ :: _, h1, _ => simp at h1
theorem topA_num {l : List Ac} (id : Nm) (hw : Wf 0 l) : (Sp.topA (Sp.aend id 0 l)).Num := by
  rcases aend_cases id hw with h | ⟨y, h, hy⟩
  · rw [h]; exact zeroA_num
  · rw [h]; exact hw.num y hy
theorem pf_none {w : World} {b : Nat} {t : TypeId} {A : List Ac} {s : Value} (h : Blk w b (pfC (decide (A ≠ [])) (Sp.topA A) s) t) (hA : A = []) : Blk w b (pfC false Sp.zeroA s) t := by
  subst hA; simpa [Sp.topA] using h
theorem pf_some {w : World} {b : Nat} {t : TypeId} {A : List Ac} {s : Value} {y : Ac} (h : Blk w b (pfC (decide (A ≠ [])) (Sp.topA A) s) t) (hA : A = [y]) : Blk w b (pfC true y s) t := by
  subst hA; simpa [Sp.topA] using h
def Sp.idA (id : Nm) : Ac := { Sp.zeroA with id := id }
theorem idA_num {id : Nm} (h : NOk id) : (Sp.idA id).Num := ⟨h, zeroA_num.dp, zeroA_num.dq, zeroA_num.cp, zeroA_num.cq, zeroA_num.root⟩
set_option maxHeartbeats 4000000 in
theorem proves_calls (B : Nat) (ls : List Ac) (a : Option Addr) (n c : Nat) (id : Nm) (w : World) (hG0 : GH B w) (hBw : B ≤ w.heap.size) (hR : AcR w a n c ls) (hn : n * 144 ≤ 140737488355328) (hid : NOk id) :
    CallsR Tryd.prog 4 #[.slice a n c, nv id] w fun v w' => v = .bool true ∧ Chg w w' [] := by
  have hX : Chg w w [] := Chg.refl _ _
  have hG := hG0
  refine f_enter (l := [.slice a n c, nv id]) Tryd.func4 rfl rfl rfl rfl ?_
  intro Qf hnrm hret
  refine c_seqreg (fun K1 hK1 => ?_)
  refine s_box rfl rfl rfl ?_
  intro b3 w0 e0_0 z0_0 hb3 X0_0
  have s0_0_hX := hX.size
  replace hG := hG.keep X0_0 (by simp)
  replace hX : Chg w _ [] := (hX.trans X0_0).mono (by intro k hk hlt; simp at hk ⊢ <;> first | omega | grind)
  replace hb3 : Blk w0 b3 (numC id) 24 := hb3
  refine s_val rfl rfl (runs_assign rfl) ?_
  refine s_nil ?_
  refine hK1 _ _ ?_
  refine c_seq (fun K3 hK3 => ?_)
  refine c_seqreg (fun K4 hK4 => ?_)
  refine s_callf (xs := []) rfl rfl Tryd.func10 rfl (by kernel_rfl) rfl (fit_calls B _ hG (by omega)) ?_
  rintro _ w1 ⟨rfl, X1_0⟩
  replace hG := hG.keep X1_0 (by simp)
  replace hX : Chg w _ [] := (hX.trans X1_0).mono (by intro k hk hlt; simp at hk ⊢ <;> first | omega | grind)
  replace hb3 := hb3.keep X1_0 (by simp)
  have zs1_0 := X1_0.size
  refine s_val rfl rfl (runs_not rfl) ?_
  refine s_nil ?_
  refine hK4 _ _ ?_
  refine c_false rfl ?_
  refine c_skip ?_
  refine hK3 _ _ ?_
  refine c_seqreg (fun K6 hK6 => ?_)
  refine s_val rfl rfl (runs_move rfl) ?_
  refine s_callf (xs := [.tmp 21]) rfl rfl Tryd.func14 rfl (by kernel_rfl) rfl (few_calls B ls a n c _ hG (by omega) (hR.keep0 hX) hn) ?_
  rintro _ w31 ⟨v1, rfl, hown, X3_1⟩
  replace hG := hG.keep X3_1 (by simp)
  replace hX : Chg w _ [] := (hX.trans X3_1).mono (by intro k hk hlt; simp at hk ⊢ <;> first | omega | grind)
  replace hb3 := hb3.keep X3_1 (by simp)
  have zs3_1 := X3_1.size
  have hlw := few_wf hR.ok
  have hlok := few_ok hR.ok
  have hll := few_len ls
  rw [hR.len] at hll
  obtain ⟨l, hl⟩ : ∃ l, l = Sp.few ls := ⟨_, rfl⟩
  rw [← hl] at hown hlw hlok hll
  obtain ⟨n1, hn1⟩ : ∃ k, k = l.length := ⟨_, rfl⟩
  rw [← hn1] at hown hll
  obtain ⟨a1, c1, rfl, hRl, hob1⟩ := own_acs hown hlw.num hn1.symm
  have hal : ∀ p, a1 = some p → p.block < w31.heap.size := fun p hp => (hown.lt p.block (by rw [hob1, hp]; rfl)).2
  have hzX3 := hX.size
  refine s_val rfl rfl (runs_move rfl) ?_
  refine s_val rfl rfl (runs_extract rfl rfl) ?_
  refine s_val rfl rfl (runs_extract rfl rfl) ?_
  refine s_val rfl rfl (runs_assign rfl) ?_
  refine s_val rfl rfl (runs_assign rfl) ?_
  refine s_nil ?_
  refine hK6 _ _ ?_
  refine c_seq (fun K8 hK8 => ?_)
  rcases Decidable.em ((n : Int) ≤ 20) with h20 | h20
  · refine c_seqreg (fun K9 hK9 => ?_)
    refine s_val rfl rfl (runs_dt (runs_move rfl) h20) ?_
    refine s_val rfl rfl (runs_not rfl) ?_
    refine s_nil ?_
    refine hK9 _ _ ?_
    refine c_false rfl ?_
    refine c_skip ?_
    refine hK8 _ _ ?_
    refine c_seqreg (fun K10 hK10 => ?_)
    refine s_val rfl rfl (runs_move rfl) ?_
    refine s_callf (xs := [.const (.pointer none), .const (.int .i64 0), .tmp 27]) rfl rfl Tryd.func15 rfl (by kernel_rfl) rfl (aroot0 (k := 0) hG (by omega) hlw (hRl.keep0 (Chg.refl _ _)) (by omega)) ?_
    rintro _ w61 ⟨rfl, X6_1⟩
    replace hG := hG.keep X6_1 (by simp)
    replace hX : Chg w _ [] := (hX.trans X6_1).mono (by intro k hk hlt; simp at hk ⊢ <;> first | omega | grind)
    replace hb3 := hb3.keep X6_1 (by simp)
    replace hRl := hRl.keep0 X6_1
    have zs6_1 := X6_1.size
    refine s_alloc ty26 rfl rfl ?_
    intro b6 w62 e6_2 z6_2 hb6 X6_2
    have s6_2_hX := hX.size
    have s6_2_hb3 := hb3.lt
    replace hG := hG.keep X6_2 (by simp)
    replace hX : Chg w _ [] := (hX.trans X6_2).mono (by intro k hk hlt; simp at hk ⊢ <;> first | omega | grind)
    replace hb3 := hb3.keep X6_2 (by simp)
    replace hRl := hRl.keep0 X6_2
    refine s_storeAll ty26 rfl rfl rfl hb6 (by rw [natsC_length, (aroot_ok _ _).1]) rfl (natsC_one _ _) ?_
    intro w63 z6_3 h6_3 X6_3
    replace hG := hG.keep X6_3 (by simp; omega)
    replace hX : Chg w _ [] := (hX.trans X6_3).mono (by intro k hk hlt; simp at hk ⊢ <;> first | omega | grind)
    replace hb3 := hb3.keep X6_3 (by simp; omega)
    replace hRl := hRl.keep X6_3 (fun p hp => by have := hal p hp; simp; omega)
    replace hb6 := h6_3
    refine s_nil ?_
    have hl6 := hb6.lt
    have hro := aroot_ok 0 l
    refine hK10 _ _ ?_
    refine c_seq (fun K14 hK14 => ?_)
    refine c_seqreg (fun K15 hK15 => ?_)
    refine s_val rfl rfl (runs_loadAgg ty24 rfl hb3.at (numC_len _)) ?_
    refine s_val rfl rfl (runs_buildv (v := av (Sp.idA id)) [(0, nv id)] rfl (by kernel_rfl)) ?_
    refine s_lit (xs := [.tmp 30]) Tryd.underlying38 ty28 rfl rfl rfl rfl rfl (av_sz (l := [Sp.idA id]) (by simpa using idA_num hid)) (by decide) (by decide) ?_
    intro b31 w72 e7_2 z7_2 hb31 X7_2
    have s7_2_hX := hX.size
    have s7_2_hb3 := hb3.lt
    have s7_2_hb6 := hb6.lt
    replace hG := hG.keep X7_2 (by simp)
    replace hX : Chg w _ [] := (hX.trans X7_2).mono (by intro k hk hlt; simp at hk ⊢ <;> first | omega | grind)
    replace hb3 := hb3.keep X7_2 (by simp)
    replace hRl := hRl.keep0 X7_2
    replace hb6 := hb6.keep X7_2 (by simp)
    refine s_val rfl rfl (runs_move rfl) ?_
    refine s_append Tryd.underlying38 ty28 rfl (by decide) rfl rfl rfl (own_alit (B := b31) hb31 (idA_num hid) (Nat.le_refl _)) rfl hRl.rd (acs_one _) (by simp only [maxLen]; omega) (by omega) (by have := hb31.lt; omega) ?_
    intro v33 w7 H7_4 X7_4 F7_4
    replace hG := hG.keep X7_4 (fun k hm => by simp [Value.ownBlock] at hm; omega)
    replace hX : Chg w _ [] := (hX.trans X7_4).mono (by intro k hk hlt; simp [Value.ownBlock] at hk; omega)
    replace hRl := hRl.keep X7_4 (fun p hp => by have := hal p hp; simp [Value.ownBlock]; omega)
    replace hb6 := hb6.keep X7_4 (by simp [Value.ownBlock]; omega)
    have hcat : [Sp.idA id].flatMap Ac.C ++ l.flatMap Ac.C = (Sp.idA id :: l).flatMap Ac.C := by simp
    rw [hcat] at H7_4
    obtain ⟨a33, c33, rfl, hR33, hb33⟩ := own_acs H7_4 (by simpa using ⟨idA_num hid, hlw.num⟩) (by simp only [List.length_cons]; omega)
    obtain ⟨a33, o33, rfl⟩ := hR33.rd.some_ (by omega)
    have X7 : Chg w7 w7 [] := Chg.refl _ _
    refine s_val rfl rfl (runs_len_slice Tryd.underlying38 rfl) ?_
    refine s_val rfl rfl (runs_move rfl) ?_
    refine s_nil ?_
    have hzX0 := hX.size
    have hR33n := hR33.ok
    refine hK15 _ _ ?_
    refine c_block ?_
    refine c_loop (σ := Nat) (fun i => [(35, .int .i64 (i : Int)), (34, .int .i64 ((1 + n1 : Nat) : Int)), (33, .slice (some ⟨a33, o33, none⟩) (1 + n1) c33), (0, .slice a1 n1 c1), (6, (.pointer (some ⟨b6, 0, none⟩)))]) (fun i W => i ≤ 1 + n1 ∧ Chg w7 W []) (fun i => 1 + n1 - i) 0 ⟨rfl, rfl, rfl, rfl, rfl, trivial⟩ ⟨Nat.zero_le _, X7⟩ ?_
    rintro i wi ⟨hi, X7⟩
    have hzX7 := X7.size
    have hiX := hX
    refine c_seqreg (fun K18 hK18 => ?_)
    refine s_val rfl rfl (runs_lt rfl rfl) ?_
    refine s_nil ?_
    refine hK18 _ _ ?_
    refine c_seq (fun K19 hK19 => ?_)
    refine c_dec rfl (fun hin => ?_) (fun hin => ?_)
    · obtain ⟨x, hx⟩ : ∃ x, (Sp.idA id :: l)[i]? = some x := ⟨_, List.getElem?_eq_getElem (by simp only [List.length_cons]; omega)⟩
      have hxn := hR33n x (List.mem_of_getElem? hx)
      refine c_skip ?_
      refine hK19 _ _ ?_
      refine c_seq (fun K20 hK20 => ?_)
      refine c_block ?_
      refine c_seqreg (fun K21 hK21 => ?_)
      refine s_val rfl rfl (runs_index_slice (i) Tryd.underlying38 ty28 rfl rfl (by omega) (by omega)) ?_
      refine s_val rfl rfl (runs_loadAgg ty28 rfl ((hR33.keep0 X7).elem hx) (Ac.len hxn)) ?_
      refine s_alloc ty28 rfl rfl ?_
      intro b8 w92 e9_2 z9_2 hb8 X9_2
      have s9_2_X7 := X7.size
      replace X7 : Chg w7 _ [] := (X7.trans X9_2).mono (by intro k hk hlt; simp at hk ⊢ <;> first | omega | grind)
      refine s_storeAll ty28 rfl rfl rfl hb8 (Ac.len hxn) rfl (Ac.one x) ?_
      intro w93 z9_3 h9_3 X9_3
      replace X7 : Chg w7 _ [] := (X7.trans X9_3).mono (by intro k hk hlt; simp at hk ⊢ <;> first | omega | grind)
      replace hb8 := h9_3
      refine s_nil ?_
      have hl8 := hb8.lt
      have hzX9 := X7.size
      refine hK21 _ _ ?_
      refine c_seqreg (fun K24 hK24 => ?_)
      refine s_val rfl rfl (runs_fieldAddr Tryd.underlying28 rfl ty24 (by decide) rfl) ?_
      refine s_val rfl rfl (runs_loadAgg ty24 rfl (hb8.at.sub 0 2) (by rfl)) ?_
      refine s_val rfl rfl (runs_move rfl) ?_
      refine s_callf (xs := [.const (.pointer none), .tmp 40, .tmp 41]) rfl rfl Tryd.func16 rfl (by kernel_rfl) rfl (prove_calls B x.id l _ _ _ _ (hG.keep X7 (by simp)) (by omega) hxn.id hlw (hRl.keep0 X7) (by omega)) ?_
      rintro _ w103 ⟨sp, rfl, howp, X10_3⟩
      replace X7 : Chg w7 _ [] := (X7.trans X10_3).mono (by intro k hk hlt; simp at hk ⊢ <;> first | omega | grind)
      replace hb8 := hb8.keep X10_3 (by simp)
      have zs10_3 := X10_3.size
      have howp0 := fun k (hk : sp.ownBlock = some k) => (howp.lt k hk).2
      refine s_alloc ty33 rfl rfl ?_
      intro b9 w104 e10_4 z10_4 hb9 X10_4
      have s10_4_X7 := X7.size
      have s10_4_hb8 := hb8.lt
      replace X7 : Chg w7 _ [] := (X7.trans X10_4).mono (by intro k hk hlt; simp at hk ⊢ <;> first | omega | grind)
      replace hb8 := hb8.keep X10_4 (by simp)
      replace howp := own_keep howp X10_4 (by simp)
      refine s_storeAll ty33 rfl rfl rfl hb9 (pfC_len (topA_num _ hlw)) rfl (pfC_one (own_one howp)) ?_
      intro w105 z10_5 h10_5 X10_5
      replace X7 : Chg w7 _ [] := (X7.trans X10_5).mono (by intro k hk hlt; simp at hk ⊢ <;> first | omega | grind)
      replace hb8 := hb8.keep X10_5 (by simp; omega)
      replace howp := own_keep howp X10_5 (fun k hk hm => by have := howp0 k hk; simp at hm; omega)
      replace hb9 := h10_5
      refine s_nil ?_
      have hl9 := hb9.lt
      have hpo := apath_ok x.id 129 0 l (by omega) hlw
      obtain ⟨ap, cp, rfl, hHp, hbp⟩ := own_hs howp hpo rfl
      have hpl := apath_len x.id 129 0 l (by omega) hlw
      have hzX10 := X7.size
      refine hK24 _ _ ?_
      refine c_seqreg (fun K28 hK28 => ?_)
      refine s_val rfl rfl (runs_fieldAddr Tryd.underlying28 rfl ty24 (by decide) rfl) ?_
      refine s_val rfl rfl (runs_loadAgg ty24 rfl (hb8.at.sub 0 2) (by rfl)) ?_
      refine s_val rfl rfl (runs_loadAgg ty33 rfl hb9.at (pfC_len (topA_num _ hlw))) ?_
      refine s_callf (xs := [.const (.pointer none), .tmp 45, .tmp 46]) rfl rfl Tryd.func12 rfl (by kernel_rfl) rfl (climbS0 (hG.keep X7 (by simp)) (by omega) hxn.id (topA_num _ hlw) hHp (fun p hp => (howp.lt p.block (by rw [hbp, hp]; rfl)).2) (by omega)) ?_
      rintro _ w113 ⟨rfl, X11_3⟩
      replace X7 : Chg w7 _ [] := (X7.trans X11_3).mono (by intro k hk hlt; simp at hk ⊢ <;> first | omega | grind)
      replace hb8 := hb8.keep X11_3 (by simp)
      replace hb9 := hb9.keep X11_3 (by simp)
      have zs11_3 := X11_3.size
      rw [(prove_climb x.id hlw).1]
      refine s_val rfl rfl (runs_move rfl) ?_
      refine s_val rfl rfl (runs_extract rfl rfl) ?_
      refine s_val rfl rfl (runs_extract rfl rfl) ?_
      refine s_alloc ty26 rfl rfl ?_
      intro b10 w117 e11_7 z11_7 hb10 X11_7
      have s11_7_X7 := X7.size
      have s11_7_hb8 := hb8.lt
      have s11_7_hb9 := hb9.lt
      replace X7 : Chg w7 _ [] := (X7.trans X11_7).mono (by intro k hk hlt; simp at hk ⊢ <;> first | omega | grind)
      replace hb8 := hb8.keep X11_7 (by simp)
      replace hb9 := hb9.keep X11_7 (by simp)
      refine s_storeAll ty26 rfl rfl rfl hb10 (by rw [natsC_length, hro.1]) rfl (natsC_one _ _) ?_
      intro w118 z11_8 h11_8 X11_8
      replace X7 : Chg w7 _ [] := (X7.trans X11_8).mono (by intro k hk hlt; simp at hk ⊢ <;> first | omega | grind)
      replace hb8 := hb8.keep X11_8 (by simp; omega)
      replace hb9 := hb9.keep X11_8 (by simp; omega)
      replace hb10 := h11_8
      refine s_val rfl rfl (runs_assign rfl) ?_
      refine s_nil ?_
      have hl10 := hb10.lt
      refine hK28 _ _ ?_
      refine c_seq (fun K32 hK32 => ?_)
      refine c_seqreg (fun K33 hK33 => ?_)
      refine s_val rfl rfl (runs_move rfl) ?_
      refine s_val rfl rfl (runs_not rfl) ?_
      refine s_val rfl rfl (runs_move rfl) ?_
      refine s_val rfl rfl (runs_loadAgg ty26 rfl hb10.at (by rw [natsC_length, hro.1])) ?_
      refine s_val rfl rfl (runs_loadAgg ty26 rfl (hb6.keep X7 (by simp)).at (by rw [natsC_length, hro.1])) ?_
      refine s_val rfl rfl (runs_df (runs_hv_ne rfl rfl hro hro) (fun h => h rfl)) ?_
      refine s_val rfl rfl (runs_pickf rfl rfl) ?_
      refine s_nil ?_
      have hzX12 := X7.size
      refine hK33 _ _ ?_
      refine c_false rfl ?_
      refine c_skip ?_
      refine hK32 _ _ ?_
      refine c_seqreg (fun K34 hK34 => ?_)
      refine s_val rfl rfl (runs_assign rfl) ?_
      refine s_nil ?_
      refine hK34 _ _ ?_
      refine c_seq (fun K35 hK35 => ?_)
      refine c_seqreg (fun K36 hK36 => ?_)
      refine s_val rfl rfl (runs_move rfl) ?_
      refine s_val rfl rfl (runs_len_slice Tryd.underlying38 rfl) ?_
      refine s_val rfl rfl (runs_move rfl) ?_
      refine s_nil ?_
      refine hK36 _ _ ?_
      refine c_block ?_
      refine c_loop (σ := Nat × Bool) (fun s => [(59, .int .i64 (s.1 : Int)), (58, .int .i64 (n1 : Int)), (57, .slice a1 n1 c1), (12, .bool s.2), (35, .int .i64 (i : Int)), (34, .int .i64 ((1 + n1 : Nat) : Int)), (33, .slice (some ⟨a33, o33, none⟩) (1 + n1) c33), (8, (.pointer (some ⟨b8, 0, none⟩))), (9, (.pointer (some ⟨b9, 0, none⟩))), (0, .slice a1 n1 c1), (6, (.pointer (some ⟨b6, 0, none⟩)))]) (fun s W => s.1 ≤ n1 ∧ s.2 = Sp.hasId l x.id s.1 ∧ Chg w7 W [] ∧ Blk W b8 x.C 28 ∧ Blk W b9 (pfC (decide (Sp.aend x.id 0 l ≠ [])) (Sp.topA (Sp.aend x.id 0 l)) (.slice ap (Sp.apath x.id 0 l).length cp)) 33) (fun s => n1 - s.1) (0, false) ⟨rfl, rfl, rfl, rfl, rfl, rfl, rfl, rfl, rfl, rfl, rfl, trivial⟩ ⟨Nat.zero_le _, (hasId_zero _ _).symm, X7, hb8, hb9⟩ ?_
      rintro ⟨j, tb⟩ wj ⟨hj, htb, X7, hb8, hb9⟩
      dsimp only at hj htb ⊢
      have hzX7 := X7.size
      have hl8 := hb8.lt
      have hl9 := hb9.lt
      refine c_seqreg (fun K37 hK37 => ?_)
      refine s_val rfl rfl (runs_lt rfl rfl) ?_
      refine s_nil ?_
      refine hK37 _ _ ?_
      refine c_seq (fun K38 hK38 => ?_)
      refine c_dec rfl (fun hjn => ?_) (fun hjn => ?_)
      · obtain ⟨b, hb⟩ : ∃ b, l[j]? = some b := ⟨_, List.getElem?_eq_getElem (by omega)⟩
        have hbn := hlw.num b (List.mem_of_getElem? hb)
        obtain ⟨bl, ol, rfl⟩ := hRl.rd.some_ (by omega)
        have hbat := (hRl.keep0 X7).elem hb
        refine c_skip ?_
        refine hK38 _ _ ?_
        refine c_seq (fun K39 hK39 => ?_)
        refine c_block ?_
        refine c_seqreg (fun K40 hK40 => ?_)
        refine s_val rfl rfl (runs_index_slice (j) Tryd.underlying38 ty28 rfl rfl (by omega) (by omega)) ?_
        refine s_val rfl rfl (runs_loadAgg ty28 rfl hbat (Ac.len hbn)) ?_
        refine s_alloc ty28 rfl rfl ?_
        intro b14 w172 e17_2 z17_2 hb14 X17_2
        have s17_2_X7 := X7.size
        have s17_2_hb8 := hb8.lt
        have s17_2_hb9 := hb9.lt
        replace X7 : Chg w7 _ [] := (X7.trans X17_2).mono (by intro k hk hlt; simp at hk ⊢ <;> first | omega | grind)
        replace hb8 := hb8.keep X17_2 (by simp)
        replace hb9 := hb9.keep X17_2 (by simp)
        refine s_storeAll ty28 rfl rfl rfl hb14 (Ac.len hbn) rfl (Ac.one b) ?_
        intro w173 z17_3 h17_3 X17_3
        replace X7 : Chg w7 _ [] := (X7.trans X17_3).mono (by intro k hk hlt; simp at hk ⊢ <;> first | omega | grind)
        replace hb8 := hb8.keep X17_3 (by simp; omega)
        replace hb9 := hb9.keep X17_3 (by simp; omega)
        replace hb14 := h17_3
        refine s_nil ?_
        have hzX17 := X7.size
        refine hK40 _ _ ?_
        have hnx0 := hasId_succ (id := x.id) hb
        rw [← htb] at hnx0
        cases tb with
        | true => ?_
        | false => ?_
        rotate_left
        rcases Decidable.em (b.id = x.id) with hbi | hbi
        rotate_left
        rotate_left
        · refine c_reg ?_
          refine s_val rfl rfl (runs_move rfl) ?_
          refine s_val rfl rfl (runs_move rfl) ?_
          refine s_skip rfl rfl ?_
          refine s_skip rfl rfl ?_
          refine s_skip rfl rfl ?_
          refine s_skip rfl rfl ?_
          refine s_skip rfl rfl ?_
          refine s_skip rfl rfl ?_
          refine s_skip rfl rfl ?_
          refine s_skip rfl rfl ?_
          refine s_skip rfl rfl ?_
          refine s_skip rfl rfl ?_
          refine s_skip rfl rfl ?_
          refine s_skip rfl rfl ?_
          refine s_skip rfl rfl ?_
          refine s_skip rfl rfl ?_
          refine s_skip rfl rfl ?_
          refine s_val rfl rfl (runs_pickt rfl rfl) ?_
          refine s_val rfl rfl (runs_assign rfl) ?_
          refine s_nil ?_
          have hnx : true = Sp.hasId l x.id (j + 1) := by rw [hnx0]; rfl
          refine hK39 _ _ ?_
          refine c_reg ?_
          refine s_val rfl rfl (runs_add64 rfl rfl (by omega)) ?_
          refine s_val rfl rfl (runs_move rfl) ?_
          refine s_nil ?_
          dsimp only [Post.setN]
          exact ⟨(j + 1, _), ⟨rfl, rfl, rfl, rfl, rfl, rfl, rfl, rfl, rfl, rfl, rfl, trivial⟩, ⟨by dsimp only; omega, hnx, X7, hb8, hb9⟩, by dsimp only; omega⟩
        · refine c_reg ?_
          refine s_val rfl rfl (runs_move rfl) ?_
          refine s_val rfl rfl (runs_move rfl) ?_
          refine s_val rfl rfl (runs_fieldAddr Tryd.underlying28 rfl ty24 (by decide) rfl) ?_
          refine s_val rfl rfl (runs_loadAgg ty24 rfl (hb14.at.sub 0 2) (by rfl)) ?_
          refine s_val rfl rfl (runs_fieldAddr Tryd.underlying28 rfl ty24 (by decide) rfl) ?_
          refine s_val rfl rfl (runs_loadAgg ty24 rfl (hb8.at.sub 0 2) (by rfl)) ?_
          refine s_val rfl rfl (runs_dt (runs_nm_eq rfl rfl) hbi) ?_
          have hb9' := pf_some hb9 (aend_is hlw (List.mem_of_getElem? hb) hbi)
          refine s_val rfl rfl (runs_move rfl) ?_
          refine s_val rfl rfl (runs_fieldAddr Tryd.underlying33 rfl ty4 (by decide) rfl) ?_
          refine s_val rfl rfl (runs_dt (p := True) (runs_as (v' := .bool (decide True)) (runs_load1 ty4 rfl (hb9'.cell (o := 0) rfl)) rfl) trivial) ?_
          refine s_val rfl rfl (runs_pickt rfl rfl) ?_
          refine s_val rfl rfl (runs_move rfl) ?_
          refine s_val rfl rfl (runs_fieldAddr Tryd.underlying33 rfl ty28 (by decide) rfl) ?_
          refine s_val rfl rfl (runs_loadAgg ty28 rfl (pf_acc hb9' hbn) (Ac.len hbn)) ?_
          refine s_val rfl rfl (runs_loadAgg ty28 rfl hb14.at (Ac.len hbn)) ?_
          refine s_val rfl rfl (runs_dt (runs_acc_eq rfl rfl hbn hbn) rfl) ?_
          refine s_val rfl rfl (runs_pickt rfl rfl) ?_
          refine s_val rfl rfl (runs_pickf rfl rfl) ?_
          refine s_val rfl rfl (runs_assign rfl) ?_
          refine s_nil ?_
          have hnx : true = Sp.hasId l x.id (j + 1) := by rw [hnx0]; simp [hbi]
          refine hK39 _ _ ?_
          refine c_reg ?_
          refine s_val rfl rfl (runs_add64 rfl rfl (by omega)) ?_
          refine s_val rfl rfl (runs_move rfl) ?_
          refine s_nil ?_
          dsimp only [Post.setN]
          exact ⟨(j + 1, _), ⟨rfl, rfl, rfl, rfl, rfl, rfl, rfl, rfl, rfl, rfl, rfl, trivial⟩, ⟨by dsimp only; omega, hnx, X7, hb8, hb9⟩, by dsimp only; omega⟩
        · refine c_reg ?_
          refine s_val rfl rfl (runs_move rfl) ?_
          refine s_val rfl rfl (runs_move rfl) ?_
          refine s_val rfl rfl (runs_fieldAddr Tryd.underlying28 rfl ty24 (by decide) rfl) ?_
          refine s_val rfl rfl (runs_loadAgg ty24 rfl (hb14.at.sub 0 2) (by rfl)) ?_
          refine s_val rfl rfl (runs_fieldAddr Tryd.underlying28 rfl ty24 (by decide) rfl) ?_
          refine s_val rfl rfl (runs_loadAgg ty24 rfl (hb8.at.sub 0 2) (by rfl)) ?_
          refine s_val rfl rfl (runs_df (runs_nm_eq rfl rfl) hbi) ?_
          refine s_val rfl rfl (runs_move rfl) ?_
          refine s_skip rfl rfl ?_
          refine s_skip rfl rfl ?_
          refine s_val rfl rfl (runs_pickf rfl rfl) ?_
          refine s_val rfl rfl (runs_move rfl) ?_
          refine s_skip rfl rfl ?_
          refine s_skip rfl rfl ?_
          refine s_skip rfl rfl ?_
          refine s_skip rfl rfl ?_
          refine s_val rfl rfl (runs_pickf rfl rfl) ?_
          refine s_val rfl rfl (runs_pickf rfl rfl) ?_
          refine s_val rfl rfl (runs_assign rfl) ?_
          refine s_nil ?_
          have hnx : false = Sp.hasId l x.id (j + 1) := by rw [hnx0]; simp [hbi]
          refine hK39 _ _ ?_
          refine c_reg ?_
          refine s_val rfl rfl (runs_add64 rfl rfl (by omega)) ?_
          refine s_val rfl rfl (runs_move rfl) ?_
          refine s_nil ?_
          dsimp only [Post.setN]
          exact ⟨(j + 1, _), ⟨rfl, rfl, rfl, rfl, rfl, rfl, rfl, rfl, rfl, rfl, rfl, trivial⟩, ⟨by dsimp only; omega, hnx, X7, hb8, hb9⟩, by dsimp only; omega⟩
      · obtain rfl : n1 = j := by omega
        refine c_exit ?_
        refine hK35 _ _ ?_
        refine c_seqreg (fun K43 hK43 => ?_)
        refine s_val rfl rfl (runs_assign rfl) ?_
        refine s_nil ?_
        refine hK43 _ _ ?_
        refine c_seq (fun K44 hK44 => ?_)
        refine c_seqreg (fun K45 hK45 => ?_)
        refine s_val rfl rfl (runs_move rfl) ?_
        refine s_val rfl rfl (runs_len_slice Tryd.underlying38 rfl) ?_
        refine s_val rfl rfl (runs_move rfl) ?_
        refine s_nil ?_
        refine hK45 _ _ ?_
        refine c_block ?_
        refine c_loop (σ := Nat × Bool) (fun s => [(84, .int .i64 (s.1 : Int)), (83, .int .i64 (n1 : Int)), (82, .slice a1 n1 c1), (15, .bool s.2), (12, .bool tb), (35, .int .i64 (i : Int)), (34, .int .i64 ((1 + n1 : Nat) : Int)), (33, .slice (some ⟨a33, o33, none⟩) (1 + n1) c33), (8, (.pointer (some ⟨b8, 0, none⟩))), (9, (.pointer (some ⟨b9, 0, none⟩))), (0, .slice a1 n1 c1), (6, (.pointer (some ⟨b6, 0, none⟩)))]) (fun s W => s.1 ≤ n1 ∧ s.2 = Sp.hasId l x.id s.1 ∧ Chg w7 W [] ∧ Blk W b8 x.C 28 ∧ Blk W b9 (pfC (decide (Sp.aend x.id 0 l ≠ [])) (Sp.topA (Sp.aend x.id 0 l)) (.slice ap (Sp.apath x.id 0 l).length cp)) 33) (fun s => n1 - s.1) (0, false) ⟨rfl, rfl, rfl, rfl, rfl, rfl, rfl, rfl, rfl, rfl, rfl, rfl, trivial⟩ ⟨Nat.zero_le _, (hasId_zero _ _).symm, X7, hb8, hb9⟩ ?_
        rintro ⟨j, ti⟩ wj ⟨hj, hti, X7, hb8, hb9⟩
        dsimp only at hj hti ⊢
        have hzX7 := X7.size
        have hl8 := hb8.lt
        have hl9 := hb9.lt
        refine c_seqreg (fun K46 hK46 => ?_)
        refine s_val rfl rfl (runs_lt rfl rfl) ?_
        refine s_nil ?_
        refine hK46 _ _ ?_
        refine c_seq (fun K47 hK47 => ?_)
        refine c_dec rfl (fun hjn => ?_) (fun hjn => ?_)
        · obtain ⟨b, hb⟩ : ∃ b, l[j]? = some b := ⟨_, List.getElem?_eq_getElem (by omega)⟩
          have hbn := hlw.num b (List.mem_of_getElem? hb)
          obtain ⟨bl, ol, rfl⟩ := hRl.rd.some_ (by omega)
          have hbat := (hRl.keep0 X7).elem hb
          refine c_skip ?_
          refine hK47 _ _ ?_
          refine c_seq (fun K48 hK48 => ?_)
          refine c_block ?_
          refine c_seqreg (fun K49 hK49 => ?_)
          refine s_val rfl rfl (runs_index_slice (j) Tryd.underlying38 ty28 rfl rfl (by omega) (by omega)) ?_
          refine s_val rfl rfl (runs_loadAgg ty28 rfl hbat (Ac.len hbn)) ?_
          refine s_alloc ty28 rfl rfl ?_
          intro b17 w232 e23_2 z23_2 hb17 X23_2
          have s23_2_X7 := X7.size
          have s23_2_hb8 := hb8.lt
          have s23_2_hb9 := hb9.lt
          replace X7 : Chg w7 _ [] := (X7.trans X23_2).mono (by intro k hk hlt; simp at hk ⊢ <;> first | omega | grind)
          replace hb8 := hb8.keep X23_2 (by simp)
          replace hb9 := hb9.keep X23_2 (by simp)
          refine s_storeAll ty28 rfl rfl rfl hb17 (Ac.len hbn) rfl (Ac.one b) ?_
          intro w233 z23_3 h23_3 X23_3
          replace X7 : Chg w7 _ [] := (X7.trans X23_3).mono (by intro k hk hlt; simp at hk ⊢ <;> first | omega | grind)
          replace hb8 := hb8.keep X23_3 (by simp; omega)
          replace hb9 := hb9.keep X23_3 (by simp; omega)
          replace hb17 := h23_3
          refine s_nil ?_
          have hzX23 := X7.size
          refine hK49 _ _ ?_
          have hnx0 := hasId_succ (id := x.id) hb
          rw [← hti] at hnx0
          cases ti with
          | true => ?_
          | false => ?_
          rotate_left
          rcases Decidable.em (b.id = x.id) with hbi | hbi
          rotate_left
          rotate_left
          · refine c_reg ?_
            refine s_val rfl rfl (runs_move rfl) ?_
            refine s_val rfl rfl (runs_move rfl) ?_
            refine s_skip rfl rfl ?_
            refine s_skip rfl rfl ?_
            refine s_skip rfl rfl ?_
            refine s_skip rfl rfl ?_
            refine s_skip rfl rfl ?_
            refine s_val rfl rfl (runs_pickt rfl rfl) ?_
            refine s_val rfl rfl (runs_assign rfl) ?_
            refine s_nil ?_
            have hnx : true = Sp.hasId l x.id (j + 1) := by rw [hnx0]; rfl
            refine hK48 _ _ ?_
            refine c_reg ?_
            refine s_val rfl rfl (runs_add64 rfl rfl (by omega)) ?_
            refine s_val rfl rfl (runs_move rfl) ?_
            refine s_nil ?_
            dsimp only [Post.setN]
            exact ⟨(j + 1, _), ⟨rfl, rfl, rfl, rfl, rfl, rfl, rfl, rfl, rfl, rfl, rfl, rfl, trivial⟩, ⟨by dsimp only; omega, hnx, X7, hb8, hb9⟩, by dsimp only; omega⟩
          · refine c_reg ?_
            refine s_val rfl rfl (runs_move rfl) ?_
            refine s_val rfl rfl (runs_move rfl) ?_
            refine s_val rfl rfl (runs_fieldAddr Tryd.underlying28 rfl ty24 (by decide) rfl) ?_
            refine s_val rfl rfl (runs_loadAgg ty24 rfl (hb17.at.sub 0 2) (by rfl)) ?_
            refine s_val rfl rfl (runs_fieldAddr Tryd.underlying28 rfl ty24 (by decide) rfl) ?_
            refine s_val rfl rfl (runs_loadAgg ty24 rfl (hb8.at.sub 0 2) (by rfl)) ?_
            refine s_val rfl rfl (runs_dt (runs_nm_eq rfl rfl) hbi) ?_
            refine s_val rfl rfl (runs_pickf rfl rfl) ?_
            refine s_val rfl rfl (runs_assign rfl) ?_
            refine s_nil ?_
            have hnx : true = Sp.hasId l x.id (j + 1) := by rw [hnx0]; simp [hbi]
            refine hK48 _ _ ?_
            refine c_reg ?_
            refine s_val rfl rfl (runs_add64 rfl rfl (by omega)) ?_
            refine s_val rfl rfl (runs_move rfl) ?_
            refine s_nil ?_
            dsimp only [Post.setN]
            exact ⟨(j + 1, _), ⟨rfl, rfl, rfl, rfl, rfl, rfl, rfl, rfl, rfl, rfl, rfl, rfl, trivial⟩, ⟨by dsimp only; omega, hnx, X7, hb8, hb9⟩, by dsimp only; omega⟩
          · refine c_reg ?_
            refine s_val rfl rfl (runs_move rfl) ?_
            refine s_val rfl rfl (runs_move rfl) ?_
            refine s_val rfl rfl (runs_fieldAddr Tryd.underlying28 rfl ty24 (by decide) rfl) ?_
            refine s_val rfl rfl (runs_loadAgg ty24 rfl (hb17.at.sub 0 2) (by rfl)) ?_
            refine s_val rfl rfl (runs_fieldAddr Tryd.underlying28 rfl ty24 (by decide) rfl) ?_
            refine s_val rfl rfl (runs_loadAgg ty24 rfl (hb8.at.sub 0 2) (by rfl)) ?_
            refine s_val rfl rfl (runs_df (runs_nm_eq rfl rfl) hbi) ?_
            refine s_val rfl rfl (runs_pickf rfl rfl) ?_
            refine s_val rfl rfl (runs_assign rfl) ?_
            refine s_nil ?_
            have hnx : false = Sp.hasId l x.id (j + 1) := by rw [hnx0]; simp [hbi]
            refine hK48 _ _ ?_
            refine c_reg ?_
            refine s_val rfl rfl (runs_add64 rfl rfl (by omega)) ?_
            refine s_val rfl rfl (runs_move rfl) ?_
            refine s_nil ?_
            dsimp only [Post.setN]
            exact ⟨(j + 1, _), ⟨rfl, rfl, rfl, rfl, rfl, rfl, rfl, rfl, rfl, rfl, rfl, rfl, trivial⟩, ⟨by dsimp only; omega, hnx, X7, hb8, hb9⟩, by dsimp only; omega⟩
        · have hjn1 : j = n1 := by omega
          rw [hjn1, ← htb] at hti
          subst hti
          refine c_exit ?_
          refine hK44 _ _ ?_
          rcases aend_cases x.id hlw with hA | ⟨y, hA, hyl⟩
          rotate_left
          rcases Decidable.em (y.id = x.id) with hyi | hyi
          rotate_left
          rotate_left
          · refine c_seqreg (fun K52 hK52 => ?_)
            refine s_val rfl rfl (runs_move rfl) ?_
            refine s_val rfl rfl (runs_move rfl) ?_
            refine s_val rfl rfl (runs_df (runs_bool_ne Tryd.underlying4 rfl rfl) (fun h => h rfl)) ?_
            have hb9' := pf_none hb9 hA
            refine s_val rfl rfl (runs_move rfl) ?_
            refine s_val rfl rfl (runs_fieldAddr Tryd.underlying33 rfl ty4 (by decide) rfl) ?_
            refine s_val rfl rfl (runs_df (p := False) (runs_as (v' := .bool (decide False)) (runs_load1 ty4 rfl (hb9'.cell (o := 0) rfl)) rfl) (fun h => h)) ?_
            refine s_val rfl rfl (runs_move rfl) ?_
            refine s_skip rfl rfl ?_
            refine s_skip rfl rfl ?_
            refine s_skip rfl rfl ?_
            refine s_skip rfl rfl ?_
            refine s_skip rfl rfl ?_
            refine s_skip rfl rfl ?_
            refine s_val rfl rfl (runs_pickf rfl rfl) ?_
            refine s_val rfl rfl (runs_move rfl) ?_
            refine s_skip rfl rfl ?_
            refine s_val rfl rfl (runs_pickf rfl rfl) ?_
            refine s_val rfl rfl (runs_pickf rfl rfl) ?_
            refine s_nil ?_
            refine hK52 _ _ ?_
            refine c_false rfl ?_
            refine c_skip ?_
            refine hK20 _ _ ?_
            refine c_reg ?_
            refine s_val rfl rfl (runs_add64 rfl rfl (by omega)) ?_
            refine s_val rfl rfl (runs_move rfl) ?_
            refine s_nil ?_
            dsimp only [Post.setN]
            exact ⟨i + 1, ⟨rfl, rfl, rfl, rfl, rfl, trivial⟩, ⟨by omega, X7⟩, by omega⟩
          · refine c_seqreg (fun K52 hK52 => ?_)
            refine s_val rfl rfl (runs_move rfl) ?_
            refine s_val rfl rfl (runs_move rfl) ?_
            refine s_val rfl rfl (runs_df (runs_bool_ne Tryd.underlying4 rfl rfl) (fun h => h rfl)) ?_
            have hb9' := pf_some hb9 hA
            have hyn := hlw.num y hyl
            refine s_val rfl rfl (runs_move rfl) ?_
            refine s_val rfl rfl (runs_fieldAddr Tryd.underlying33 rfl ty4 (by decide) rfl) ?_
            refine s_val rfl rfl (runs_dt (p := True) (runs_as (v' := .bool (decide True)) (runs_load1 ty4 rfl (hb9'.cell (o := 0) rfl)) rfl) trivial) ?_
            refine s_val rfl rfl (runs_move rfl) ?_
            refine s_val rfl rfl (runs_fieldAddr Tryd.underlying33 rfl ty28 (by decide) rfl) ?_
            refine s_val rfl rfl (runs_fieldAddr Tryd.underlying28 rfl ty24 (by decide) rfl) ?_
            refine s_val rfl rfl (runs_loadAgg ty24 rfl ((pf_acc hb9' hyn).sub 0 2) (by rfl)) ?_
            refine s_val rfl rfl (runs_fieldAddr Tryd.underlying28 rfl ty24 (by decide) rfl) ?_
            refine s_val rfl rfl (runs_loadAgg ty24 rfl (hb8.at.sub 0 2) (by rfl)) ?_
            refine s_val rfl rfl (runs_df (runs_nm_ne rfl rfl) (fun h => h hyi)) ?_
            refine s_val rfl rfl (runs_pickt rfl rfl) ?_
            refine s_val rfl rfl (runs_move rfl) ?_
            refine s_skip rfl rfl ?_
            refine s_val rfl rfl (runs_pickf rfl rfl) ?_
            refine s_val rfl rfl (runs_pickf rfl rfl) ?_
            refine s_nil ?_
            refine hK52 _ _ ?_
            refine c_false rfl ?_
            refine c_skip ?_
            refine hK20 _ _ ?_
            refine c_reg ?_
            refine s_val rfl rfl (runs_add64 rfl rfl (by omega)) ?_
            refine s_val rfl rfl (runs_move rfl) ?_
            refine s_nil ?_
            dsimp only [Post.setN]
            exact ⟨i + 1, ⟨rfl, rfl, rfl, rfl, rfl, trivial⟩, ⟨by omega, X7⟩, by omega⟩
          · refine c_seqreg (fun K52 hK52 => ?_)
            refine s_val rfl rfl (runs_move rfl) ?_
            refine s_val rfl rfl (runs_move rfl) ?_
            refine s_val rfl rfl (runs_df (runs_bool_ne Tryd.underlying4 rfl rfl) (fun h => h rfl)) ?_
            have hb9' := pf_some hb9 hA
            have hyn := hlw.num y hyl
            refine s_val rfl rfl (runs_move rfl) ?_
            refine s_val rfl rfl (runs_fieldAddr Tryd.underlying33 rfl ty4 (by decide) rfl) ?_
            refine s_val rfl rfl (runs_dt (p := True) (runs_as (v' := .bool (decide True)) (runs_load1 ty4 rfl (hb9'.cell (o := 0) rfl)) rfl) trivial) ?_
            refine s_val rfl rfl (runs_move rfl) ?_
            refine s_val rfl rfl (runs_fieldAddr Tryd.underlying33 rfl ty28 (by decide) rfl) ?_
            refine s_val rfl rfl (runs_fieldAddr Tryd.underlying28 rfl ty24 (by decide) rfl) ?_
            refine s_val rfl rfl (runs_loadAgg ty24 rfl ((pf_acc hb9' hyn).sub 0 2) (by rfl)) ?_
            refine s_val rfl rfl (runs_fieldAddr Tryd.underlying28 rfl ty24 (by decide) rfl) ?_
            refine s_val rfl rfl (runs_loadAgg ty24 rfl (hb8.at.sub 0 2) (by rfl)) ?_
            refine s_val rfl rfl (runs_dt (runs_nm_ne rfl rfl) hyi) ?_
            refine s_val rfl rfl (runs_pickt rfl rfl) ?_
            refine s_val rfl rfl (runs_move rfl) ?_
            obtain rfl : ti = false := htb.trans (hasId_end hlw hA hyi _)
            refine s_val rfl rfl (runs_move rfl) ?_
            refine s_val rfl rfl (runs_pickt rfl rfl) ?_
            refine s_val rfl rfl (runs_pickf rfl rfl) ?_
            refine s_nil ?_
            refine hK52 _ _ ?_
            refine c_false rfl ?_
            refine c_skip ?_
            refine hK20 _ _ ?_
            refine c_reg ?_
            refine s_val rfl rfl (runs_add64 rfl rfl (by omega)) ?_
            refine s_val rfl rfl (runs_move rfl) ?_
            refine s_nil ?_
            dsimp only [Post.setN]
            exact ⟨i + 1, ⟨rfl, rfl, rfl, rfl, rfl, trivial⟩, ⟨by omega, X7⟩, by omega⟩
    · refine c_exit ?_
      refine hK14 _ _ ?_
      refine c_seqreg (fun K53 hK53 => ?_)
      refine s_val rfl rfl (runs_assign rfl) ?_
      refine s_nil ?_
      refine hK53 _ _ ?_
      refine c_ret ?_
      refine hret _ _ ?_
      exact ends1 (reads_tmp rfl) ⟨rfl, (hX.trans X7).mono (by intro k hk hlt; simp at hk)⟩
  · refine c_seqreg (fun K9 hK9 => ?_)
    refine s_val rfl rfl (runs_df (runs_move rfl) h20) ?_
    refine s_val rfl rfl (runs_not rfl) ?_
    refine s_nil ?_
    refine hK9 _ _ ?_
    refine c_true rfl ?_
    refine c_seqreg (fun K54 hK54 => ?_)
    refine s_val rfl rfl (runs_assign rfl) ?_
    refine s_nil ?_
    refine hK54 _ _ ?_
    refine c_ret ?_
    refine hret _ _ ?_
    exact ends1 (reads_tmp rfl) ⟨rfl, hX⟩
end Go.Proofs.YtmmijecookbajaaDoor
