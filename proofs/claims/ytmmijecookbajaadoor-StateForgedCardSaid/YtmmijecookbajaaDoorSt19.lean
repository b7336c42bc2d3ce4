/- Part St19 of the proofs on this seat. Conditions: none beyond those in the theorems. By an AI agent. -/
import Derived.Test.YtmmijecookbajaaDoorSt18
namespace Go.Proofs.YtmmijecookbajaaDoor
open Go Go.RowKit

/-- Have the numbers bits k to k + j in common? -/
def Sp.agree (id x : Nm) (k j : Nat) : Bool := (List.range j).all fun i => decide (Sp.bit x (k + i) = Sp.bit id (k + i))
theorem agree_front (id x : Nm) (k j : Nat) : Sp.agree id x k (j + 1) = (decide (Sp.bit x k = Sp.bit id k) && Sp.agree id x (k + 1) j) := by
  unfold Sp.agree
  rw [List.range_succ_eq_map, List.all_cons, List.all_map]
  congr 2
  funext i
  simp only [Function.comp, Nat.succ_eq_add_one, show k + (i + 1) = k + 1 + i by omega]
theorem agree_back (id x : Nm) (k j : Nat) : Sp.agree id x k (j + 1) = (Sp.agree id x k j && decide (Sp.bit x (k + j) = Sp.bit id (k + j))) := by
  unfold Sp.agree
  rw [List.range_succ, List.all_append]; simp
theorem side_filter {k b : Nat} {l : List Ac} (h : Wf k l) (hk : k < 128) (hb : b < 2) : Sp.side l k b = l.filter fun a => decide (Sp.bit a.id k = b) := by
  have e : l.filter (fun a => decide (Sp.bit a.id k = b)) = (l.take (Sp.lows l k)).filter (fun a => decide (Sp.bit a.id k = b)) ++ (l.drop (Sp.lows l k)).filter (fun a => decide (Sp.bit a.id k = b)) := by
    rw [← List.filter_append, List.take_append_drop]
  rw [e]
  unfold Sp.side
  by_cases h0 : b = 0
  · rw [if_pos h0, List.filter_eq_self.2 (fun a ha => by simp [lows_take a ha, h0]), List.filter_eq_nil_iff.2 (fun a ha => by simp [lows_drop h hk a ha, h0]), List.append_nil]
  · rw [if_neg h0, List.filter_eq_nil_iff.2 (fun a ha => by simp [lows_take a ha]; omega), List.filter_eq_self.2 (fun a ha => by simp [lows_drop h hk a ha]; omega), List.nil_append]
/-- How many of the first j have the first bits in common with a number. -/
def Sp.cnt (id : Nm) (k m : Nat) (l : List Ac) : Nat := (l.filter fun a => Sp.agree id a.id k m).length
theorem cnt_zero (id : Nm) (k : Nat) (l : List Ac) : Sp.cnt id k 0 l = l.length := by simp [Sp.cnt, Sp.agree]
theorem cnt_front {id : Nm} {k m : Nat} {l : List Ac} (h : Wf k l) (hk : k < 128) : Sp.cnt id k (m + 1) l = Sp.cnt id (k + 1) m (Sp.side l k (Sp.bit id k)) := by
  unfold Sp.cnt
  rw [side_filter h hk (bit_lt _ _), List.filter_filter]
  congr 2
  funext a
  rw [agree_front, Bool.and_comm]
theorem cnt_take {id : Nm} {m j : Nat} {l : List Ac} {b : Ac} (h : l[j]? = some b) : Sp.cnt id 0 m (l.take (j + 1)) = Sp.cnt id 0 m (l.take j) + (if Sp.agree id b.id 0 m then 1 else 0) := by
  unfold Sp.cnt
  rw [List.take_add_one, h, List.filter_append, List.length_append]
  congr 1
  simp only [Option.toList_some, List.filter_cons, List.filter_nil]
  split <;> rfl
theorem apath_cnt (id : Nm) : ∀ (m k : Nat) (l : List Ac), 128 - k < m → Wf k l → (∀ j, j < (Sp.apath id k l).length → 2 ≤ Sp.cnt id k j l) ∧ (k + (Sp.apath id k l).length < 128 → Sp.cnt id k (Sp.apath id k l).length l ≤ 1) := by
  intro m
  induction m with
  | zero => intro k l h; omega
  | succ m ih =>
    intro k l hm h
    by_cases h2 : l.length ≤ 1
    · rw [apath_few h2]
      exact ⟨fun j hj => by simp at hj, fun _ => by rw [List.length_nil, cnt_zero]; exact h2⟩
    · have hk := h.lt (by omega)
      obtain ⟨h3, h4⟩ := ih (k + 1) (Sp.side l k (Sp.bit id k)) (by omega) (h.side hk)
      rw [apath_two hk (by omega), List.length_cons]
      refine ⟨fun j hj => ?_, fun hlt => ?_⟩
      · cases j with
        | zero => rw [cnt_zero]; omega
        | succ j => rw [cnt_front h hk]; exact h3 j (by omega)
      · rw [cnt_front h hk]; exact h4 (by omega)
theorem path_is {id : Nm} {l : List Ac} (h : Wf 0 l) {m : Nat} (hm : m ≤ 128) (h1 : ∀ j, j < m → 2 ≤ Sp.cnt id 0 j l) (h2 : m = 128 ∨ Sp.cnt id 0 m l < 2) : m = (Sp.apath id 0 l).length := by
  obtain ⟨h3, h4⟩ := apath_cnt id 129 0 l (by omega) h
  have h5 := apath_len id 129 0 l (by omega) h
  rcases Nat.lt_trichotomy m (Sp.apath id 0 l).length with h | h | h
  · have := h3 m h; omega
  · exact h
  · have := h1 _ h; have := h4 (by omega); omega
set_option maxHeartbeats 4000000 in
theorem lengthsS_calls (B : Nat) (ls : List Ac) (a : Option Addr) (n c : Nat) (id : Nm) (w : World) (hG0 : GH B w) (hBw : B ≤ w.heap.size) (hR : AcR w a n c ls) (hn : n * 144 ≤ 140737488355328) (hid : NOk id) :
    CallsR Tryd.prog 5 #[.slice a n c, nv id] w fun v w' => v = .bool true ∧ Chg w w' [] := by
  have hX : Chg w w [] := Chg.refl _ _
  have hG := hG0
  refine f_enter (l := [.slice a n c, nv id]) Tryd.func5 rfl rfl rfl rfl ?_
  intro Qf hnrm hret
  refine c_seqreg (fun K1 hK1 => ?_)
  refine s_box rfl rfl rfl ?_
  intro b3 w0 e0_0 z0_0 hb3 X0_0
  have s0_0_hX := hX.size
  replace hG := hG.keep X0_0 (by simp)
  replace hX : Chg w _ [] := (hX.trans X0_0).mono (by intro k hk hlt; simp at hk ⊢ <;> first | omega | grind)
  replace hb3 : Blk w0 b3 (numC id) 24 := hb3
  refine s_val rfl rfl (runs_assign rfl) ?_
  refine s_nil ?_
  refine hK1 _ _ ?_
  refine c_seq (fun K3 hK3 => ?_)
  refine c_seqreg (fun K4 hK4 => ?_)
  refine s_callf (xs := []) rfl rfl Tryd.func10 rfl (by kernel_rfl) rfl (fit_calls B _ hG (by omega)) ?_
  rintro _ w1 ⟨rfl, X1_0⟩
  replace hG := hG.keep X1_0 (by simp)
  replace hX : Chg w _ [] := (hX.trans X1_0).mono (by intro k hk hlt; simp at hk ⊢ <;> first | omega | grind)
  replace hb3 := hb3.keep X1_0 (by simp)
  have zs1_0 := X1_0.size
  refine s_val rfl rfl (runs_not rfl) ?_
  refine s_nil ?_
  refine hK4 _ _ ?_
  refine c_false rfl ?_
  refine c_skip ?_
  refine hK3 _ _ ?_
  refine c_seqreg (fun K6 hK6 => ?_)
  refine s_val rfl rfl (runs_move rfl) ?_
  refine s_callf (xs := [.tmp 17]) rfl rfl Tryd.func14 rfl (by kernel_rfl) rfl (few_calls B ls a n c _ hG (by omega) (hR.keep0 hX) hn) ?_
  rintro _ w31 ⟨v1, rfl, hown, X3_1⟩
  replace hG := hG.keep X3_1 (by simp)
  replace hX : Chg w _ [] := (hX.trans X3_1).mono (by intro k hk hlt; simp at hk ⊢ <;> first | omega | grind)
  replace hb3 := hb3.keep X3_1 (by simp)
  have zs3_1 := X3_1.size
  have hlw := few_wf hR.ok
  have hlok := few_ok hR.ok
  have hll := few_len ls
  rw [hR.len] at hll
  obtain ⟨l, hl⟩ : ∃ l, l = Sp.few ls := ⟨_, rfl⟩
  rw [← hl] at hown hlw hlok hll
  obtain ⟨n1, hn1⟩ : ∃ k, k = l.length := ⟨_, rfl⟩
  rw [← hn1] at hown hll
  obtain ⟨a1, c1, rfl, hRl, hob1⟩ := own_acs hown hlw.num hn1.symm
  have hal : ∀ p, a1 = some p → p.block < w31.heap.size := fun p hp => (hown.lt p.block (by rw [hob1, hp]; rfl)).2
  have hzX3 := hX.size
  refine s_val rfl rfl (runs_move rfl) ?_
  refine s_val rfl rfl (runs_extract rfl rfl) ?_
  refine s_val rfl rfl (runs_extract rfl rfl) ?_
  refine s_val rfl rfl (runs_assign rfl) ?_
  refine s_val rfl rfl (runs_assign rfl) ?_
  refine s_nil ?_
  refine hK6 _ _ ?_
  refine c_seq (fun K8 hK8 => ?_)
  rcases Decidable.em ((n : Int) ≤ 20) with h20 | h20
  · refine c_seqreg (fun K9 hK9 => ?_)
    refine s_val rfl rfl (runs_dt (runs_move rfl) h20) ?_
    refine s_val rfl rfl (runs_not rfl) ?_
    refine s_nil ?_
    refine hK9 _ _ ?_
    refine c_false rfl ?_
    refine c_skip ?_
    refine hK8 _ _ ?_
    refine c_seqreg (fun K10 hK10 => ?_)
    refine s_val rfl rfl (runs_loadAgg ty24 rfl hb3.at (numC_len _)) ?_
    refine s_val rfl rfl (runs_move rfl) ?_
    refine s_callf (xs := [.const (.pointer none), .tmp 23, .tmp 24]) rfl rfl Tryd.func16 rfl (by kernel_rfl) rfl (prove_calls B id l _ _ _ _ hG (by omega) hid hlw hRl (by omega)) ?_
    rintro _ w62 ⟨sp, rfl, howp, X6_2⟩
    replace hG := hG.keep X6_2 (by simp)
    replace hX : Chg w _ [] := (hX.trans X6_2).mono (by intro k hk hlt; simp at hk ⊢ <;> first | omega | grind)
    replace hb3 := hb3.keep X6_2 (by simp)
    replace hRl := hRl.keep0 X6_2
    have zs6_2 := X6_2.size
    refine s_alloc ty33 rfl rfl ?_
    intro b6 w63 e6_3 z6_3 hb6 X6_3
    have s6_3_hX := hX.size
    have s6_3_hb3 := hb3.lt
    replace hG := hG.keep X6_3 (by simp)
    replace hX : Chg w _ [] := (hX.trans X6_3).mono (by intro k hk hlt; simp at hk ⊢ <;> first | omega | grind)
    replace hb3 := hb3.keep X6_3 (by simp)
    replace hRl := hRl.keep0 X6_3
    refine s_storeAll ty33 rfl rfl rfl hb6 (pfC_len (topA_num _ hlw)) rfl (pfC_one (own_one howp)) ?_
    intro w64 z6_4 h6_4 X6_4
    replace hG := hG.keep X6_4 (by simp; omega)
    replace hX : Chg w _ [] := (hX.trans X6_4).mono (by intro k hk hlt; simp at hk ⊢ <;> first | omega | grind)
    replace hb3 := hb3.keep X6_4 (by simp; omega)
    replace hRl := hRl.keep X6_4 (fun p hp => by have := hal p hp; simp; omega)
    replace hb6 := h6_4
    refine s_nil ?_
    have hpo := apath_ok id 129 0 l (by omega) hlw
    obtain ⟨ap, cp, rfl, hHp, hbp⟩ := own_hs howp hpo rfl
    have X6 : Chg w64 w64 [] := Chg.refl _ _
    have hzX6 := hX.size
    have hl6 := hb6.lt
    have hl3 := hb3.lt
    refine hK10 _ _ ?_
    refine c_seqreg (fun K14 hK14 => ?_)
    refine s_val rfl rfl (runs_assign rfl) ?_
    refine s_nil ?_
    refine hK14 _ _ ?_
    refine c_seq (fun K15 hK15 => ?_)
    have hJ15 : ∀  (W : World), (Chg w64 W []) → ∀ ρ : Env, SubL ([(7, .int .i64 ((Sp.apath id 0 l).length : Int)), (0, .slice a1 n1 c1), (6, (.pointer (some ⟨b6, 0, none⟩)))]) ρ → K15 ρ W := by
      intro  W hI ρ hρ
      refine hK15 _ _ (c_sub _ hρ ?_)
      clear hρ
      have X6 := hI
      rcases aend_cases id hlw with hA | ⟨y, hA, hyl⟩
      · refine c_seqreg (fun K16 hK16 => ?_)
        refine s_val rfl rfl (runs_fieldAddr Tryd.underlying33 rfl ty31 (by decide) rfl) ?_
        refine s_val rfl rfl (runs_load1 ty31 rfl ((hb6.keep X6 (by simp)).cell (o := 47) (pfC_path (topA_num _ hlw)))) ?_
        refine s_val rfl rfl (runs_len_slice Tryd.underlying31 rfl) ?_
        refine s_val rfl rfl (runs_move rfl) ?_
        refine s_val rfl rfl (runs_dt (runs_eqd rfl rfl) rfl) ?_
        have hb6' := pf_none hb6 hA
        refine s_val rfl rfl (runs_move rfl) ?_
        refine s_val rfl rfl (runs_fieldAddr Tryd.underlying33 rfl ty4 (by decide) rfl) ?_
        refine s_val rfl rfl (runs_df (p := False) (runs_as (v' := .bool (decide False)) (runs_load1 ty4 rfl ((hb6'.keep X6 (by simp)).cell (o := 0) rfl)) rfl) (fun h => h)) ?_
        refine s_val rfl rfl (runs_not rfl) ?_
        refine s_val rfl rfl (runs_move rfl) ?_
        refine s_skip rfl rfl ?_
        refine s_skip rfl rfl ?_
        refine s_skip rfl rfl ?_
        refine s_val rfl rfl (runs_pickt rfl rfl) ?_
        refine s_val rfl rfl (runs_pickt rfl rfl) ?_
        refine s_val rfl rfl (runs_assign rfl) ?_
        refine s_nil ?_
        refine hK16 _ _ ?_
        refine c_ret ?_
        refine hret _ _ ?_
        exact ends1 (reads_tmp rfl) ⟨rfl, (hX.trans X6).mono (by intro k hk hlt; simp at hk)⟩
      · refine c_seqreg (fun K16 hK16 => ?_)
        refine s_val rfl rfl (runs_fieldAddr Tryd.underlying33 rfl ty31 (by decide) rfl) ?_
        refine s_val rfl rfl (runs_load1 ty31 rfl ((hb6.keep X6 (by simp)).cell (o := 47) (pfC_path (topA_num _ hlw)))) ?_
        refine s_val rfl rfl (runs_len_slice Tryd.underlying31 rfl) ?_
        refine s_val rfl rfl (runs_move rfl) ?_
        refine s_val rfl rfl (runs_dt (runs_eqd rfl rfl) rfl) ?_
        have hb6' := pf_some hb6 hA
        refine s_val rfl rfl (runs_move rfl) ?_
        refine s_val rfl rfl (runs_fieldAddr Tryd.underlying33 rfl ty4 (by decide) rfl) ?_
        refine s_val rfl rfl (runs_dt (p := True) (runs_as (v' := .bool (decide True)) (runs_load1 ty4 rfl ((hb6'.keep X6 (by simp)).cell (o := 0) rfl)) rfl) trivial) ?_
        refine s_val rfl rfl (runs_not rfl) ?_
        refine s_val rfl rfl (runs_move rfl) ?_
        refine s_val rfl rfl (runs_move rfl) ?_
        refine s_val rfl rfl (runs_len_slice Tryd.underlying38 rfl) ?_
        refine s_val rfl rfl (runs_dt (runs_gt rfl rfl) (by have := List.length_pos_of_mem hyl; omega)) ?_
        refine s_val rfl rfl (runs_pickf rfl rfl) ?_
        refine s_val rfl rfl (runs_pickt rfl rfl) ?_
        refine s_val rfl rfl (runs_assign rfl) ?_
        refine s_nil ?_
        refine hK16 _ _ ?_
        refine c_ret ?_
        refine hret _ _ ?_
        exact ends1 (reads_tmp rfl) ⟨rfl, (hX.trans X6).mono (by intro k hk hlt; simp at hk)⟩
    refine c_seqreg (fun K17 hK17 => ?_)
    refine s_val rfl rfl (runs_move rfl) ?_
    refine s_val rfl rfl (runs_len_slice Tryd.underlying38 rfl) ?_
    refine s_val rfl rfl (runs_gt rfl rfl) ?_
    refine s_nil ?_
    refine hK17 _ _ ?_
    refine c_dec rfl (fun h2 => ?_) (fun h2 => ?_)
    · refine c_seqreg (fun K18 hK18 => ?_)
      refine s_val rfl rfl (runs_move rfl) ?_
      refine s_nil ?_
      refine hK18 _ _ ?_
      refine c_block ?_
      refine c_loop (σ := Nat) (fun t => [(29, .int .i64 (t : Int)), (7, .int .i64 (t : Int)), (0, .slice a1 n1 c1), (3, (.pointer (some ⟨b3, 0, none⟩))), (6, (.pointer (some ⟨b6, 0, none⟩)))]) (fun t W => t ≤ 128 ∧ (∀ j, j < t → 2 ≤ Sp.cnt id 0 j l) ∧ Chg w64 W []) (fun t => 128 - t) 0 ⟨rfl, rfl, rfl, rfl, rfl, trivial⟩ ⟨Nat.zero_le _, fun j hj => by omega, X6⟩ ?_
      rintro t wt ⟨ht, hcn, X6⟩
      have hzX6t := X6.size
      refine c_seqreg (fun K19 hK19 => ?_)
      refine s_val rfl rfl (runs_lt rfl rfl) ?_
      refine s_nil ?_
      refine hK19 _ _ ?_
      refine c_seq (fun K20 hK20 => ?_)
      refine c_dec rfl (fun htl => ?_) (fun htl => ?_)
      · refine c_skip ?_
        refine hK20 _ _ ?_
        refine c_seq (fun K21 hK21 => ?_)
        refine c_block ?_
        refine c_seqreg (fun K22 hK22 => ?_)
        refine s_val rfl rfl (runs_move rfl) ?_
        refine s_val rfl rfl (runs_assign rfl) ?_
        refine s_nil ?_
        refine hK22 _ _ ?_
        refine c_seqreg (fun K23 hK23 => ?_)
        refine s_val rfl rfl (runs_assign rfl) ?_
        refine s_nil ?_
        refine hK23 _ _ ?_
        refine c_seq (fun K24 hK24 => ?_)
        refine c_seqreg (fun K25 hK25 => ?_)
        refine s_val rfl rfl (runs_move rfl) ?_
        refine s_val rfl rfl (runs_len_slice Tryd.underlying38 rfl) ?_
        refine s_val rfl rfl (runs_move rfl) ?_
        refine s_nil ?_
        refine hK25 _ _ ?_
        refine c_block ?_
        refine c_loop (σ := Nat × Nat) (fun s => [(34, .int .i64 (s.1 : Int)), (33, .int .i64 (n1 : Int)), (32, .slice a1 n1 c1), (9, .int .i64 (s.2 : Int)), (8, .int .i64 (t : Int)), (29, .int .i64 (t : Int)), (7, .int .i64 (t : Int)), (0, .slice a1 n1 c1), (3, (.pointer (some ⟨b3, 0, none⟩))), (6, (.pointer (some ⟨b6, 0, none⟩)))]) (fun s W => s.1 ≤ n1 ∧ s.2 = Sp.cnt id 0 t (l.take s.1) ∧ s.2 ≤ s.1 ∧ Chg w64 W []) (fun s => n1 - s.1) (0, 0) ⟨rfl, rfl, rfl, rfl, rfl, rfl, rfl, rfl, rfl, rfl, trivial⟩ ⟨Nat.zero_le _, rfl, Nat.le_refl _, X6⟩ ?_
        rintro ⟨j, k⟩ wj ⟨hj, hk, hkj, X6⟩
        dsimp only at hj hk hkj ⊢
        have hzX6j := X6.size
        refine c_seqreg (fun K26 hK26 => ?_)
        refine s_val rfl rfl (runs_lt rfl rfl) ?_
        refine s_nil ?_
        refine hK26 _ _ ?_
        refine c_seq (fun K27 hK27 => ?_)
        refine c_dec rfl (fun hjn => ?_) (fun hjn => ?_)
        · obtain ⟨b, hb⟩ : ∃ b, l[j]? = some b := ⟨_, List.getElem?_eq_getElem (by omega)⟩
          have hbn := hlw.num b (List.mem_of_getElem? hb)
          obtain ⟨bl, ol, rfl⟩ := hRl.rd.some_ (by omega)
          have hbat := (hRl.keep0 X6).elem hb
          refine c_skip ?_
          refine hK27 _ _ ?_
          refine c_seq (fun K28 hK28 => ?_)
          refine c_block ?_
          refine c_seqreg (fun K29 hK29 => ?_)
          refine s_val rfl rfl (runs_index_slice (j) Tryd.underlying38 ty28 rfl rfl (by omega) (by omega)) ?_
          refine s_val rfl rfl (runs_loadAgg ty28 rfl hbat (Ac.len hbn)) ?_
          refine s_alloc ty28 rfl rfl ?_
          intro b11 w152 e15_2 z15_2 hb11 X15_2
          have s15_2_X6 := X6.size
          replace X6 : Chg w64 _ [] := (X6.trans X15_2).mono (by intro k hk hlt; simp at hk ⊢ <;> first | omega | grind)
          refine s_storeAll ty28 rfl rfl rfl hb11 (Ac.len hbn) rfl (Ac.one b) ?_
          intro w153 z15_3 h15_3 X15_3
          replace X6 : Chg w64 _ [] := (X6.trans X15_3).mono (by intro k hk hlt; simp at hk ⊢ <;> first | omega | grind)
          replace hb11 := h15_3
          refine s_nil ?_
          have hzX15 := X6.size
          refine hK29 _ _ ?_
          refine c_seqreg (fun K32 hK32 => ?_)
          refine s_val rfl rfl (runs_assign rfl) ?_
          refine s_nil ?_
          refine hK32 _ _ ?_
          refine c_seq (fun K33 hK33 => ?_)
          refine c_seqreg (fun K34 hK34 => ?_)
          refine s_val rfl rfl (runs_move rfl) ?_
          refine s_val rfl rfl (runs_move rfl) ?_
          refine s_nil ?_
          refine hK34 _ _ ?_
          refine c_block ?_
          refine c_loop (σ := Nat × Bool) (fun s => [(39, .int .i64 (s.1 : Int)), (38, .int .i64 (t : Int)), (12, .bool s.2), (11, (.pointer (some ⟨b11, 0, none⟩))), (34, .int .i64 (j : Int)), (33, .int .i64 (n1 : Int)), (32, .slice (some ⟨bl, ol, none⟩) n1 c1), (9, .int .i64 (k : Int)), (8, .int .i64 (t : Int)), (29, .int .i64 (t : Int)), (7, .int .i64 (t : Int)), (0, .slice (some ⟨bl, ol, none⟩) n1 c1), (3, (.pointer (some ⟨b3, 0, none⟩))), (6, (.pointer (some ⟨b6, 0, none⟩)))]) (fun s W => s.1 ≤ t ∧ s.2 = Sp.agree id b.id 0 s.1 ∧ Chg w64 W [] ∧ Blk W b11 b.C 28) (fun s => t - s.1) (0, true) ⟨rfl, rfl, rfl, rfl, rfl, rfl, rfl, rfl, rfl, rfl, rfl, rfl, rfl, rfl, trivial⟩ ⟨Nat.zero_le _, rfl, X6, hb11⟩ ?_
          rintro ⟨i, tb⟩ wi ⟨hi, htb, X6, hb11⟩
          dsimp only at hi htb ⊢
          have hzX6i := X6.size
          have hl11 := hb11.lt
          refine c_seqreg (fun K35 hK35 => ?_)
          refine s_val rfl rfl (runs_lt rfl rfl) ?_
          refine s_nil ?_
          refine hK35 _ _ ?_
          refine c_seq (fun K36 hK36 => ?_)
          refine c_dec rfl (fun hit => ?_) (fun hit => ?_)
          · refine c_skip ?_
            refine hK36 _ _ ?_
            refine c_seq (fun K37 hK37 => ?_)
            refine c_block ?_
            refine c_seqreg (fun K38 hK38 => ?_)
            refine s_val rfl rfl (runs_move rfl) ?_
            refine s_val rfl rfl (runs_assign rfl) ?_
            refine s_nil ?_
            refine hK38 _ _ ?_
            have hnx0 := agree_back id b.id 0 i
            rw [Nat.zero_add, ← htb] at hnx0
            cases tb with
            | true => ?_
            | false => ?_
            · refine c_drawX [] ([]) (by kernel_rfl) ?_
              intro wd20 Xd20 hS20
              replace X6 : Chg w64 _ [] := (X6.trans Xd20).mono (by intro k hk hlt; simp at hk ⊢ <;> first | omega | grind)
              replace hb11 := hb11.keep Xd20 (by simp)
              have zd20 := Xd20.size
              refine d_take 0 42 rfl (by kernel_rfl) rfl hS20 (fun wS hS => runs_move rfl) ?_
              refine d_take 1 43 rfl (by kernel_rfl) rfl hS20 (fun wS hS => runs_move rfl) ?_
              refine d_take 2 44 rfl (by kernel_rfl) rfl hS20 (fun wS hS => runs_fieldAddr Tryd.underlying28 rfl ty24 (by decide) rfl) ?_
              refine d_take 3 45 rfl (by kernel_rfl) rfl hS20 (fun wS hS => runs_loadAgg ty24 rfl ((hb11.keep hS (by simp)).at.sub 0 2) (by rfl)) ?_
              refine d_take 4 46 rfl (by kernel_rfl) rfl hS20 (fun wS hS => runs_move rfl) ?_
              refine d_take 6 48 rfl (by kernel_rfl) rfl hS20 (fun wS hS => runs_loadAgg ty24 rfl ((hb3.keep X6 (by simp)).keep hS (by simp)).at (numC_len _)) ?_
              refine d_take 7 49 rfl (by kernel_rfl) rfl hS20 (fun wS hS => runs_move rfl) ?_
              refine d_only 5 rfl (by kernel_rfl) ?_
              refine s_callf (xs := [.tmp 45, .tmp 46]) rfl rfl Tryd.func13 rfl (by kernel_rfl) rfl (bit_calls b.id i _ hbn.id (by omega)) ?_
              rintro _ w205 ⟨rfl, X20_5⟩
              have zs20_5 := X20_5.size
              replace hS20 : Chg wd20 _ [] := hS20.trans X20_5
              refine s_nil ⟨.inr hS20, ?_⟩
              refine d_only 8 rfl (by kernel_rfl) ?_
              refine s_callf (xs := [.tmp 48, .tmp 49]) rfl rfl Tryd.func13 rfl (by kernel_rfl) rfl (bit_calls id i _ hid (by omega)) ?_
              rintro _ w208 ⟨rfl, X20_8⟩
              have zs20_8 := X20_8.size
              replace hS20 : Chg wd20 _ [] := hS20.trans X20_8
              refine s_nil ⟨.inr hS20, ?_⟩
              refine d_take 9 51 rfl (by kernel_rfl) rfl hS20 (fun wS hS => runs_eqd rfl rfl) ?_
              refine d_take 10 52 rfl (by kernel_rfl) rfl hS20 (fun wS hS => runs_pickt rfl rfl) ?_
              refine d_take 11 12 rfl (by kernel_rfl) rfl hS20 (fun wS hS => runs_assign rfl) ?_
              refine d_done (by kernel_rfl) ?_
              replace X6 : Chg w64 _ [] := (X6.trans hS20).mono (by intro k hk hlt; simp at hk ⊢ <;> first | omega | grind)
              replace hb11 := hb11.keep hS20 (by simp)
              have hnx : decide ((Sp.bit b.id i : Int) = (Sp.bit id i : Int)) = Sp.agree id b.id 0 (i + 1) := by rw [hnx0, Bool.true_and]; exact decide_eq_decide.2 (by omega)
              refine hK37 _ _ ?_
              refine c_reg ?_
              refine s_val rfl rfl (runs_add64 rfl rfl (by omega)) ?_
              refine s_val rfl rfl (runs_move rfl) ?_
              refine s_nil ?_
              dsimp only [Post.setN]
              exact ⟨(i + 1, _), ⟨rfl, rfl, rfl, rfl, rfl, rfl, rfl, rfl, rfl, rfl, rfl, rfl, rfl, rfl, trivial⟩, ⟨by dsimp only; omega, hnx, X6, hb11⟩, by dsimp only; omega⟩
            · refine c_drawX [] ([]) (by kernel_rfl) ?_
              intro wd20 Xd20 hS20
              replace X6 : Chg w64 _ [] := (X6.trans Xd20).mono (by intro k hk hlt; simp at hk ⊢ <;> first | omega | grind)
              replace hb11 := hb11.keep Xd20 (by simp)
              have zd20 := Xd20.size
              refine d_take 0 42 rfl (by kernel_rfl) rfl hS20 (fun wS hS => runs_move rfl) ?_
              refine d_take 1 43 rfl (by kernel_rfl) rfl hS20 (fun wS hS => runs_move rfl) ?_
              refine d_takeskip 2 44 rfl (by kernel_rfl) rfl hS20 ?_
              refine d_takeskip 3 45 rfl (by kernel_rfl) rfl hS20 ?_
              refine d_takeskip 4 46 rfl (by kernel_rfl) rfl hS20 ?_
              refine d_takeskip 5 47 rfl (by kernel_rfl) rfl hS20 ?_
              refine d_takeskip 6 48 rfl (by kernel_rfl) rfl hS20 ?_
              refine d_takeskip 7 49 rfl (by kernel_rfl) rfl hS20 ?_
              refine d_takeskip 8 50 rfl (by kernel_rfl) rfl hS20 ?_
              refine d_takeskip 9 51 rfl (by kernel_rfl) rfl hS20 ?_
              refine d_take 10 52 rfl (by kernel_rfl) rfl hS20 (fun wS hS => runs_pickf rfl rfl) ?_
              refine d_take 11 12 rfl (by kernel_rfl) rfl hS20 (fun wS hS => runs_assign rfl) ?_
              refine d_done (by kernel_rfl) ?_
              replace X6 : Chg w64 _ [] := (X6.trans hS20).mono (by intro k hk hlt; simp at hk ⊢ <;> first | omega | grind)
              replace hb11 := hb11.keep hS20 (by simp)
              have hnx : false = Sp.agree id b.id 0 (i + 1) := by rw [hnx0]; rfl
              refine hK37 _ _ ?_
              refine c_reg ?_
              refine s_val rfl rfl (runs_add64 rfl rfl (by omega)) ?_
              refine s_val rfl rfl (runs_move rfl) ?_
              refine s_nil ?_
              dsimp only [Post.setN]
              exact ⟨(i + 1, _), ⟨rfl, rfl, rfl, rfl, rfl, rfl, rfl, rfl, rfl, rfl, rfl, rfl, rfl, rfl, trivial⟩, ⟨by dsimp only; omega, hnx, X6, hb11⟩, by dsimp only; omega⟩
          · obtain rfl : i = t := by omega
            refine c_exit ?_
            refine hK33 _ _ ?_
            refine c_seqreg (fun K41 hK41 => ?_)
            refine s_val rfl rfl (runs_move rfl) ?_
            refine s_nil ?_
            refine hK41 _ _ ?_
            refine c_if rfl (fun hin => ?_) (fun hin => ?_)
            · refine c_reg ?_
              refine s_val rfl rfl (runs_move rfl) ?_
              refine s_val rfl rfl (runs_add64 rfl rfl (by omega)) ?_
              refine s_val rfl rfl (runs_assign rfl) ?_
              refine s_nil ?_
              refine hK28 _ _ ?_
              refine c_reg ?_
              refine s_val rfl rfl (runs_add64 rfl rfl (by omega)) ?_
              refine s_val rfl rfl (runs_move rfl) ?_
              refine s_nil ?_
              dsimp only [Post.setN]
              first
                | exact ⟨(j + 1, k + 1), ⟨rfl, rfl, rfl, rfl, rfl, rfl, rfl, rfl, rfl, rfl, trivial⟩, ⟨by dsimp only; omega, by dsimp only; rw [cnt_take hb, hk, if_pos (htb ▸ hin)], by dsimp only; omega, X6⟩, by dsimp only; omega⟩
                | exact ⟨(j + 1, k), ⟨rfl, rfl, rfl, rfl, rfl, rfl, rfl, rfl, rfl, rfl, trivial⟩, ⟨by dsimp only; omega, by dsimp only; rw [cnt_take hb, hk, if_neg (by rw [← htb]; exact hin)]; rfl, by dsimp only; omega, X6⟩, by dsimp only; omega⟩
            · replace hin : ¬ tb = true := by rw [hin]; decide
              refine c_skip ?_
              refine hK28 _ _ ?_
              refine c_reg ?_
              refine s_val rfl rfl (runs_add64 rfl rfl (by omega)) ?_
              refine s_val rfl rfl (runs_move rfl) ?_
              refine s_nil ?_
              dsimp only [Post.setN]
              first
                | exact ⟨(j + 1, k + 1), ⟨rfl, rfl, rfl, rfl, rfl, rfl, rfl, rfl, rfl, rfl, trivial⟩, ⟨by dsimp only; omega, by dsimp only; rw [cnt_take hb, hk, if_pos (htb ▸ hin)], by dsimp only; omega, X6⟩, by dsimp only; omega⟩
                | exact ⟨(j + 1, k), ⟨rfl, rfl, rfl, rfl, rfl, rfl, rfl, rfl, rfl, rfl, trivial⟩, ⟨by dsimp only; omega, by dsimp only; rw [cnt_take hb, hk, if_neg (by rw [← htb]; exact hin)]; rfl, by dsimp only; omega, X6⟩, by dsimp only; omega⟩
        · obtain rfl : n1 = j := by omega
          rw [List.take_of_length_le (by omega)] at hk
          refine c_exit ?_
          refine hK24 _ _ ?_
          refine c_seq (fun K42 hK42 => ?_)
          refine c_seqreg (fun K43 hK43 => ?_)
          refine s_val rfl rfl (runs_move rfl) ?_
          refine s_val rfl rfl (runs_lt rfl rfl) ?_
          refine s_nil ?_
          refine hK43 _ _ ?_
          refine c_dec rfl (fun hk2 => ?_) (fun hk2 => ?_)
          · have hfin := path_is hlw ht hcn (.inr (by omega))
            refine c_exit ?_
            first
              | exact hJ15 _ X6 _ ⟨congrArg (fun z : Nat => some (Value.int .i64 (z : Int))) hfin, rfl, rfl, trivial⟩
              | exact hJ15 _ X6 _ ⟨congrArg (fun z : Nat => some (Value.int .i64 (z : Int))) (show 0 = (Sp.apath id 0 l).length by rw [apath_few (by omega)]; rfl), rfl, rfl, trivial⟩
          · refine c_skip ?_
            refine hK42 _ _ ?_
            refine c_reg ?_
            refine s_val rfl rfl (runs_move rfl) ?_
            refine s_val rfl rfl (runs_add64 rfl rfl (by omega)) ?_
            refine s_val rfl rfl (runs_assign rfl) ?_
            refine s_nil ?_
            refine hK21 _ _ ?_
            refine c_reg ?_
            refine s_val rfl rfl (runs_add64 rfl rfl (by omega)) ?_
            refine s_val rfl rfl (runs_move rfl) ?_
            refine s_nil ?_
            dsimp only [Post.setN]
            exact ⟨t + 1, ⟨rfl, rfl, rfl, rfl, rfl, trivial⟩, ⟨by omega, fun j hj => by
              by_cases e : j = t
              · subst e; omega
              · exact hcn j (by omega), X6⟩, by omega⟩
      · have hfin := path_is hlw ht hcn (.inl (by omega))
        refine c_exit ?_
        first
          | exact hJ15 _ X6 _ ⟨congrArg (fun z : Nat => some (Value.int .i64 (z : Int))) hfin, rfl, rfl, trivial⟩
          | exact hJ15 _ X6 _ ⟨congrArg (fun z : Nat => some (Value.int .i64 (z : Int))) (show 0 = (Sp.apath id 0 l).length by rw [apath_few (by omega)]; rfl), rfl, rfl, trivial⟩
    · refine c_skip ?_
      first
        | exact hJ15 _ X6 _ ⟨congrArg (fun z : Nat => some (Value.int .i64 (z : Int))) hfin, rfl, rfl, trivial⟩
        | exact hJ15 _ X6 _ ⟨congrArg (fun z : Nat => some (Value.int .i64 (z : Int))) (show 0 = (Sp.apath id 0 l).length by rw [apath_few (by omega)]; rfl), rfl, rfl, trivial⟩
  · refine c_seqreg (fun K9 hK9 => ?_)
    refine s_val rfl rfl (runs_df (runs_move rfl) h20) ?_
    refine s_val rfl rfl (runs_not rfl) ?_
    refine s_nil ?_
    refine hK9 _ _ ?_
    refine c_true rfl ?_
    refine c_seqreg (fun K44 hK44 => ?_)
    refine s_val rfl rfl (runs_assign rfl) ?_
    refine s_nil ?_
    refine hK44 _ _ ?_
    refine c_ret ?_
    refine hret _ _ ?_
    exact ends1 (reads_tmp rfl) ⟨rfl, hX⟩
end Go.Proofs.YtmmijecookbajaaDoor
