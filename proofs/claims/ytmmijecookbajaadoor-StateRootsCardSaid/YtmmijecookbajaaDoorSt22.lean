/- Part St22 of the proofs on this seat. Conditions: none beyond those in the theorems. By an AI agent. -/
import Derived.Test.YtmmijecookbajaaDoorSt21
namespace Go.Proofs.YtmmijecookbajaaDoor
open Go Go.RowKit

theorem nat_lt128 {x : Nm} (h : NOk x) : Sp.nat x / 2 ^ 128 = 0 := by
  obtain ⟨h1, h2⟩ := h
  refine Nat.div_eq_of_lt ?_
  show Sp.nat x < 340282366920938463463374607431768211456
  simp only [Sp.nat]; omega
theorem prefix_eq {x y : Nm} (hx : NOk x) (hy : NOk y) : ∀ k, k ≤ 128 → (∀ i, i < k → Sp.bit x i = Sp.bit y i) → Sp.nat x / 2 ^ (128 - k) = Sp.nat y / 2 ^ (128 - k) := by
  intro k
  induction k with
  | zero => intro _ _; rw [Nat.sub_zero, nat_lt128 hx, nat_lt128 hy]
  | succ k ih =>
    intro hk h
    rw [show 128 - (k + 1) = 127 - k by omega, nat_step hx (by omega), nat_step hy (by omega), ih (by omega) (fun i hi => h i (by omega)), h k (by omega)]
theorem wf_prefix {k : Nat} {l : List Ac} {y : Ac} (hw : Wf 0 l) (hk : k ≤ 128) (hy : y.Num) (h : ∀ a ∈ l, ∀ i, i < k → Sp.bit a.id i = Sp.bit y.id i) : Wf k l :=
  ⟨hk, hw.rise, fun a ha b hb => (prefix_eq (hw.num a ha).id hy.id k hk (h a ha)).trans (prefix_eq (hw.num b hb).id hy.id k hk (h b hb)).symm, hw.num⟩
theorem wf127 {l : List Ac} (h : Wf 127 l) : l.length ≤ 2 := by
  have h0 := h.lo (by omega)
  have h1 := h.hi (by omega)
  have h2 : (l.take (Sp.lows l 127)).length ≤ 1 := by
    rcases Nat.lt_or_ge 1 (l.take (Sp.lows l 127)).length with h' | h'
    · have := h0.lt h'; omega
    · exact h'
  have h3 : (l.drop (Sp.lows l 127)).length ≤ 1 := by
    rcases Nat.lt_or_ge 1 (l.drop (Sp.lows l 127)).length with h' | h'
    · have := h1.lt h'; omega
    · exact h'
  have e := congrArg List.length (List.take_append_drop (Sp.lows l 127) l)
  rw [List.length_append] at e
  omega
def Sp.flt (l : List Ac) (k b j : Nat) : List Ac := (l.take j).filter fun a => decide (Sp.bit a.id k = b)
theorem flt_in {l : List Ac} {k b j : Nat} {x : Ac} (h : l[j]? = some x) (hb : Sp.bit x.id k = b) : Sp.flt l k b (j + 1) = Sp.flt l k b j ++ [x] := by
  unfold Sp.flt
  rw [List.take_add_one, h, List.filter_append]; simp [hb]
theorem flt_out {l : List Ac} {k b j : Nat} {x : Ac} (h : l[j]? = some x) (hb : Sp.bit x.id k ≠ b) : Sp.flt l k b (j + 1) = Sp.flt l k b j := by
  unfold Sp.flt
  rw [List.take_add_one, h, List.filter_append]; simp [hb]
theorem flt_len (l : List Ac) (k b j : Nat) : (Sp.flt l k b j).length ≤ l.length := by
  unfold Sp.flt
  exact Nat.le_trans (List.length_filter_le _ _) (by rw [List.length_take]; omega)
theorem flt_num {l : List Ac} (h : ∀ a ∈ l, a.Num) (k b j : Nat) : ∀ a ∈ Sp.flt l k b j, a.Num := fun a ha => h a (List.mem_of_mem_take (List.mem_filter.1 ha).1)
theorem flt_all {l : List Ac} {k b : Nat} (h : Wf k l) (hk : k < 128) (hb : b < 2) {j : Nat} (hj : l.length ≤ j) : Sp.flt l k b j = Sp.side l k b := by
  unfold Sp.flt
  rw [List.take_of_length_le hj, side_filter h hk hb]
theorem own_in {w : World} {B : Nat} {e : TypeId} {v : Value} {l : List Ac} {x : Ac} (h : w.ownsRow B e 46 v (l.length + 1) (l.flatMap Ac.C ++ [x].flatMap Ac.C)) : w.ownsRow B e 46 v (l ++ [x]).length ((l ++ [x]).flatMap Ac.C) := by
  rw [List.length_append, List.flatMap_append]; exact h
set_option maxHeartbeats 4000000 in
theorem sidesS_calls (B : Nat) (ls : List Ac) (a : Option Addr) (n c : Nat) (kz : Int) (w : World) (hG0 : GH B w) (hBw : B ≤ w.heap.size) (hR : AcR w a n c ls) (hn : n * 144 ≤ 140737488355328) :
    CallsR Tryd.prog 6 #[.slice a n c, .int .i64 kz] w fun v w' => v = .bool true ∧ Chg w w' [] := by
  have hX : Chg w w [] := Chg.refl _ _
  have hG := hG0
  obtain ⟨k, hk⟩ : ∃ k, k = land64 kz 127 := ⟨_, rfl⟩
  have hk127 : k ≤ 127 := by rw [hk]; exact land64_le (by decide)
  refine f_enter (l := [.slice a n c, .int .i64 kz]) Tryd.func6 rfl rfl rfl rfl ?_
  intro Qf hnrm hret
  refine c_seqreg (fun K1 hK1 => ?_)
  refine s_val rfl rfl (runs_assign rfl) ?_
  refine s_nil ?_
  refine hK1 _ _ ?_
  refine c_seq (fun K2 hK2 => ?_)
  refine c_seqreg (fun K3 hK3 => ?_)
  refine s_callf (xs := []) rfl rfl Tryd.func10 rfl (by kernel_rfl) rfl (fit_calls B _ hG (by omega)) ?_
  rintro _ w1 ⟨rfl, X1_0⟩
  replace hG := hG.keep X1_0 (by simp)
  replace hX : Chg w _ [] := (hX.trans X1_0).mono (by intro k hk hlt; simp at hk ⊢ <;> first | omega | grind)
  have zs1_0 := X1_0.size
  refine s_val rfl rfl (runs_not rfl) ?_
  refine s_nil ?_
  refine hK3 _ _ ?_
  refine c_false rfl ?_
  refine c_skip ?_
  refine hK2 _ _ ?_
  refine c_seqreg (fun K5 hK5 => ?_)
  refine s_val rfl rfl (runs_move rfl) ?_
  refine s_callf (xs := [.tmp 16]) rfl rfl Tryd.func14 rfl (by kernel_rfl) rfl (few_calls B ls a n c _ hG (by omega) (hR.keep0 hX) hn) ?_
  rintro _ w31 ⟨v1, rfl, hown, X3_1⟩
  replace hG := hG.keep X3_1 (by simp)
  replace hX : Chg w _ [] := (hX.trans X3_1).mono (by intro k hk hlt; simp at hk ⊢ <;> first | omega | grind)
  have zs3_1 := X3_1.size
  have hlw := few_wf hR.ok
  have hlok := few_ok hR.ok
  have hll := few_len ls
  rw [hR.len] at hll
  obtain ⟨l, hl⟩ : ∃ l, l = Sp.few ls := ⟨_, rfl⟩
  rw [← hl] at hown hlw hlok hll
  obtain ⟨n1, hn1⟩ : ∃ k, k = l.length := ⟨_, rfl⟩
  rw [← hn1] at hown hll
  obtain ⟨a1, c1, rfl, hRl, hob1⟩ := own_acs hown hlw.num hn1.symm
  have hal : ∀ p, a1 = some p → p.block < w31.heap.size := fun p hp => (hown.lt p.block (by rw [hob1, hp]; rfl)).2
  have hzX3 := hX.size
  refine s_val rfl rfl (runs_move rfl) ?_
  refine s_val rfl rfl (runs_extract rfl rfl) ?_
  refine s_val rfl rfl (runs_extract rfl rfl) ?_
  refine s_val rfl rfl (runs_assign rfl) ?_
  refine s_val rfl rfl (runs_assign rfl) ?_
  refine s_nil ?_
  refine hK5 _ _ ?_
  refine c_seq (fun K7 hK7 => ?_)
  rcases Decidable.em ((n : Int) ≤ 20) with h20 | h20
  · refine c_seqreg (fun K8 hK8 => ?_)
    refine s_val rfl rfl (runs_dt (runs_move rfl) h20) ?_
    refine s_val rfl rfl (runs_not rfl) ?_
    refine s_val rfl rfl (runs_move rfl) ?_
    refine s_val rfl rfl (runs_move rfl) ?_
    refine s_val rfl rfl (runs_len_slice Tryd.underlying38 rfl) ?_
    refine s_val rfl rfl (runs_lt rfl rfl) ?_
    refine s_val rfl rfl (runs_pickf rfl rfl) ?_
    refine s_nil ?_
    refine hK8 _ _ ?_
    refine c_dec rfl (fun h2l => ?_) (fun h2l => ?_)
    · refine c_seqreg (fun K9 hK9 => ?_)
      refine s_val rfl rfl (runs_assign rfl) ?_
      refine s_nil ?_
      refine hK9 _ _ ?_
      refine c_ret ?_
      refine hret _ _ ?_
      exact ends1 (reads_tmp rfl) ⟨rfl, hX⟩
    · obtain ⟨ba1, oa1, rfl⟩ := hRl.rd.some_ (by omega)
      have hba1 := hal _ rfl
      simp only at hba1
      obtain ⟨y0, hy0⟩ : ∃ y, l[0]? = some y := ⟨_, List.getElem?_eq_getElem (by omega)⟩
      have hy0n := hlw.num y0 (List.mem_of_getElem? hy0)
      refine c_skip ?_
      refine hK7 _ _ ?_
      refine c_seqreg (fun K10 hK10 => ?_)
      refine s_val rfl rfl (runs_move rfl) ?_
      refine s_val rfl rfl (runs_as (v' := .int .i64 (k : Int)) (runs_and64 127 rfl (by decide)) (by rw [hk])) ?_
      refine s_val rfl rfl (runs_assign rfl) ?_
      refine s_nil ?_
      refine hK10 _ _ ?_
      refine c_seqreg (fun K11 hK11 => ?_)
      refine s_alloc ty44 rfl rfl ?_
      intro b6 w7 e7_0 z7_0 hb6 X7_0
      have s7_0_hX := hX.size
      replace hG := hG.keep X7_0 (by simp)
      replace hX : Chg w _ [] := (hX.trans X7_0).mono (by intro k hk hlt; simp at hk ⊢ <;> first | omega | grind)
      replace hRl := hRl.keep0 X7_0
      replace hb6 : Blk w7 b6 ([.slice none 0 0, .slice none 0 0]) 44 := hb6
      refine s_nil ?_
      have X7 : Chg w7 w7 [b6] := Chg.refl _ _
      have hz7 : w7.heap.size = b6 + 1 := z7_0
      have hzX7 := hX.size
      refine hK11 _ _ ?_
      refine c_seq (fun K13 hK13 => ?_)
      refine c_seqreg (fun K14 hK14 => ?_)
      refine s_val rfl rfl (runs_move rfl) ?_
      refine s_val rfl rfl (runs_len_slice Tryd.underlying38 rfl) ?_
      refine s_val rfl rfl (runs_move rfl) ?_
      refine s_nil ?_
      refine hK14 _ _ ?_
      refine c_block ?_
      refine c_loop (σ := Nat × Value × Value) (fun s => [(31, .int .i64 (s.1 : Int)), (30, .int .i64 (n1 : Int)), (29, .slice (some ⟨ba1, oa1, none⟩) n1 c1), (6, (.pointer (some ⟨b6, 0, none⟩))), (1, .int .i64 (k : Int)), (0, .slice (some ⟨ba1, oa1, none⟩) n1 c1)]) (fun s W => s.1 ≤ n1 ∧ (∀ i, i < s.1 → ∀ x, l[i]? = some x → ∀ t, t < k → Sp.bit x.id t = Sp.bit y0.id t) ∧ Chg w7 W [b6] ∧ Blk W b6 [s.2.1, s.2.2] 44 ∧ W.ownsRow (b6 + 1) 28 46 s.2.1 (Sp.flt l k 0 s.1).length ((Sp.flt l k 0 s.1).flatMap Ac.C) ∧ W.ownsRow (b6 + 1) 28 46 s.2.2 (Sp.flt l k 1 s.1).length ((Sp.flt l k 1 s.1).flatMap Ac.C) ∧ ∀ b, s.2.1.ownBlock = some b → s.2.2.ownBlock ≠ some b) (fun s => n1 - s.1) (0, .slice none 0 0, .slice none 0 0) ⟨rfl, rfl, rfl, rfl, rfl, rfl, trivial⟩ ⟨Nat.zero_le _, fun i hi => by omega, X7, hb6, World.ownsRow_nil _ _ _ _, World.ownsRow_nil _ _ _ _, fun b h => by simp [Value.ownBlock] at h⟩ ?_
      rintro ⟨j, v0, v1⟩ wj ⟨hj, hpre, X7, hb6, ho0, ho1, hap⟩
      dsimp only at hj hpre hb6 ho0 ho1 hap ⊢
      have hzX7j := X7.size
      have hlt0 := fun z (h : v0.ownBlock = some z) => (ho0.lt z h).2
      have hlt1 := fun z (h : v1.ownBlock = some z) => (ho1.lt z h).2
      have hge0 := fun z (h : v0.ownBlock = some z) => (ho0.lt z h).1
      have hge1 := fun z (h : v1.ownBlock = some z) => (ho1.lt z h).1
      refine c_seqreg (fun K15 hK15 => ?_)
      refine s_val rfl rfl (runs_lt rfl rfl) ?_
      refine s_nil ?_
      refine hK15 _ _ ?_
      refine c_seq (fun K16 hK16 => ?_)
      refine c_dec rfl (fun hjn => ?_) (fun hjn => ?_)
      · obtain ⟨x, hx⟩ : ∃ x, l[j]? = some x := ⟨_, List.getElem?_eq_getElem (by omega)⟩
        have hxn := hlw.num x (List.mem_of_getElem? hx)
        refine c_skip ?_
        refine hK16 _ _ ?_
        refine c_seq (fun K17 hK17 => ?_)
        refine c_block ?_
        refine c_seqreg (fun K18 hK18 => ?_)
        refine s_val rfl rfl (runs_index_slice (j) Tryd.underlying38 ty28 rfl rfl (by omega) (by omega)) ?_
        refine s_val rfl rfl (runs_loadAgg ty28 rfl ((hRl.keep X7 (fun p hp => by cases hp; simp only [List.mem_singleton]; omega)).elem hx) (Ac.len hxn)) ?_
        refine s_alloc ty28 rfl rfl ?_
        intro b8 w102 e10_2 z10_2 hb8 X10_2
        have s10_2_X7 := X7.size
        have s10_2_hb6 := hb6.lt
        replace X7 : Chg w7 _ [b6] := (X7.trans X10_2).mono (by intro k hk hlt; simp at hk ⊢ <;> first | omega | grind)
        replace hb6 := hb6.keep X10_2 (by simp)
        replace ho0 := own_keep ho0 X10_2 (by simp)
        replace ho1 := own_keep ho1 X10_2 (by simp)
        refine s_storeAll ty28 rfl rfl rfl hb8 (Ac.len hxn) rfl (Ac.one x) ?_
        intro w103 z10_3 h10_3 X10_3
        replace X7 : Chg w7 _ [b6] := (X7.trans X10_3).mono (by intro k hk hlt; simp at hk ⊢ <;> first | omega | grind)
        replace hb6 := hb6.keep X10_3 (by simp; omega)
        replace ho0 := own_keep ho0 X10_3 (fun k' hk' hm => by have := hlt0 k' hk'; simp at hm; omega)
        replace ho1 := own_keep ho1 X10_3 (fun k' hk' hm => by have := hlt1 k' hk'; simp at hm; omega)
        replace hb8 := h10_3
        refine s_nil ?_
        have hl8 := hb8.lt
        have hl6 := hb6.lt
        refine hK18 _ _ ?_
        refine c_seq (fun K21 hK21 => ?_)
        refine c_seqreg (fun K22 hK22 => ?_)
        refine s_val rfl rfl (runs_move rfl) ?_
        refine s_val rfl rfl (runs_move rfl) ?_
        refine s_nil ?_
        refine hK22 _ _ ?_
        refine c_block ?_
        refine c_loop (σ := Nat) (fun t => [(36, .int .i64 (t : Int)), (35, .int .i64 (k : Int)), (8, (.pointer (some ⟨b8, 0, none⟩))), (31, .int .i64 (j : Int)), (30, .int .i64 (n1 : Int)), (29, .slice (some ⟨ba1, oa1, none⟩) n1 c1), (6, (.pointer (some ⟨b6, 0, none⟩))), (1, .int .i64 (k : Int)), (0, .slice (some ⟨ba1, oa1, none⟩) n1 c1)]) (fun t W => t ≤ k ∧ (∀ i, i < t → Sp.bit x.id i = Sp.bit y0.id i) ∧ Chg w103 W []) (fun t => k - t) 0 ⟨rfl, rfl, rfl, rfl, rfl, rfl, rfl, rfl, rfl, trivial⟩ ⟨Nat.zero_le _, fun i hi => by omega, Chg.refl _ _⟩ ?_
        rintro t wt ⟨ht, hsame, XL⟩
        replace X7 : Chg w7 wt [b6] := (X7.trans XL).mono (by intro k hk hlt; simpa using hk)
        replace hb6 := hb6.keep XL (by simp)
        replace hb8 := hb8.keep XL (by simp)
        replace ho0 := own_keep ho0 XL (by simp)
        replace ho1 := own_keep ho1 XL (by simp)
        have hzXL := XL.size
        have hzX7t := X7.size
        refine c_seqreg (fun K23 hK23 => ?_)
        refine s_val rfl rfl (runs_lt rfl rfl) ?_
        refine s_nil ?_
        refine hK23 _ _ ?_
        refine c_seq (fun K24 hK24 => ?_)
        refine c_dec rfl (fun htk => ?_) (fun htk => ?_)
        · refine c_skip ?_
          refine hK24 _ _ ?_
          refine c_seq (fun K25 hK25 => ?_)
          refine c_block ?_
          refine c_seqreg (fun K26 hK26 => ?_)
          refine s_val rfl rfl (runs_move rfl) ?_
          refine s_val rfl rfl (runs_assign rfl) ?_
          refine s_nil ?_
          refine hK26 _ _ ?_
          refine c_seqdraw [] ([]) (by kernel_rfl) ?_
          intro K27 hK27 wd14 Xd14 hS14
          replace X7 : Chg w7 _ [b6] := (X7.trans Xd14).mono (by intro k hk hlt; simp at hk ⊢ <;> first | omega | grind)
          replace hb6 := hb6.keep Xd14 (by simp)
          replace ho0 := own_keep ho0 Xd14 (by simp)
          replace ho1 := own_keep ho1 Xd14 (by simp)
          replace hb8 := hb8.keep Xd14 (by simp)
          replace XL : Chg w103 _ [] := (XL.trans Xd14).mono (by intro k hk hlt; simp at hk ⊢ <;> first | omega | grind)
          have zd14 := Xd14.size
          refine d_take 0 39 rfl (by kernel_rfl) rfl hS14 (fun wS hS => runs_fieldAddr Tryd.underlying28 rfl ty24 (by decide) rfl) ?_
          refine d_take 1 40 rfl (by kernel_rfl) rfl hS14 (fun wS hS => runs_loadAgg ty24 rfl ((hb8.keep hS (by simp)).at.sub 0 2) (by rfl)) ?_
          refine d_take 2 41 rfl (by kernel_rfl) rfl hS14 (fun wS hS => runs_move rfl) ?_
          refine d_take 4 43 rfl (by kernel_rfl) rfl hS14 (fun wS hS => runs_move rfl) ?_
          refine d_take 5 44 rfl (by kernel_rfl) rfl hS14 (fun wS hS => runs_index_slice (0) Tryd.underlying38 ty28 rfl rfl (by omega) (by omega)) ?_
          refine d_take 6 45 rfl (by kernel_rfl) rfl hS14 (fun wS hS => runs_fieldAddr Tryd.underlying28 rfl ty24 (by decide) rfl) ?_
          refine d_take 7 46 rfl (by kernel_rfl) rfl hS14 (fun wS hS => runs_loadAgg ty24 rfl ((((hRl.keep X7 (fun p hp => by cases hp; simp only [List.mem_singleton]; omega)).keep0 hS).elem hy0).sub 0 2) (by rfl)) ?_
          refine d_take 8 47 rfl (by kernel_rfl) rfl hS14 (fun wS hS => runs_move rfl) ?_
          refine d_only 3 rfl (by kernel_rfl) ?_
          refine s_callf (xs := [.tmp 40, .tmp 41]) rfl rfl Tryd.func13 rfl (by kernel_rfl) rfl (bit_calls x.id t _ hxn.id (by omega)) ?_
          rintro _ w143 ⟨rfl, X14_3⟩
          have zs14_3 := X14_3.size
          replace hS14 : Chg wd14 _ [] := hS14.trans X14_3
          refine s_nil ⟨.inr hS14, ?_⟩
          refine d_only 9 rfl (by kernel_rfl) ?_
          refine s_callf (xs := [.tmp 46, .tmp 47]) rfl rfl Tryd.func13 rfl (by kernel_rfl) rfl (bit_calls y0.id t _ hy0n.id (by omega)) ?_
          rintro _ w149 ⟨rfl, X14_9⟩
          have zs14_9 := X14_9.size
          replace hS14 : Chg wd14 _ [] := hS14.trans X14_9
          refine s_nil ⟨.inr hS14, ?_⟩
          refine d_take 10 49 rfl (by kernel_rfl) rfl hS14 (fun wS hS => runs_ned rfl rfl) ?_
          refine d_done (by kernel_rfl) ?_
          replace X7 : Chg w7 _ [b6] := (X7.trans hS14).mono (by intro k hk hlt; simp at hk ⊢ <;> first | omega | grind)
          replace hb6 := hb6.keep hS14 (by simp)
          replace ho0 := own_keep ho0 hS14 (by simp)
          replace ho1 := own_keep ho1 hS14 (by simp)
          replace hb8 := hb8.keep hS14 (by simp)
          replace XL : Chg w103 _ [] := (XL.trans hS14).mono (by intro k hk hlt; simp at hk ⊢ <;> first | omega | grind)
          refine hK27 _ _ ?_
          refine c_dec rfl (fun hne => ?_) (fun hne => ?_)
          · refine c_seqreg (fun K30 hK30 => ?_)
            refine s_val rfl rfl (runs_assign rfl) ?_
            refine s_nil ?_
            refine hK30 _ _ ?_
            refine c_ret ?_
            refine hret _ _ ?_
            exact ends1 (reads_tmp rfl) ⟨rfl, (hX.trans X7).mono (by intro k' hk' hlt; simp at hk'; omega)⟩
          · refine c_skip ?_
            refine hK25 _ _ ?_
            refine c_reg ?_
            refine s_val rfl rfl (runs_add64 rfl rfl (by omega)) ?_
            refine s_val rfl rfl (runs_move rfl) ?_
            refine s_nil ?_
            dsimp only [Post.setN]
            exact ⟨t + 1, ⟨rfl, rfl, rfl, rfl, rfl, rfl, rfl, rfl, rfl, trivial⟩, ⟨by omega, fun i hi => by
              by_cases e : i = t
              · subst e; omega
              · exact hsame i (by omega), XL⟩, by omega⟩
        · obtain rfl : k = t := by omega
          refine c_exit ?_
          refine hK21 _ _ ?_
          refine c_seqreg (fun K31 hK31 => ?_)
          refine s_val rfl rfl (runs_fieldAddr Tryd.underlying28 rfl ty24 (by decide) rfl) ?_
          refine s_val rfl rfl (runs_loadAgg ty24 rfl (hb8.at.sub 0 2) (by rfl)) ?_
          refine s_val rfl rfl (runs_move rfl) ?_
          refine s_callf (xs := [.tmp 52, .tmp 53]) rfl rfl Tryd.func13 rfl (by kernel_rfl) rfl (bit_calls x.id k _ hxn.id (by omega)) ?_
          rintro _ w173 ⟨rfl, X17_3⟩
          replace X7 : Chg w7 _ [b6] := (X7.trans X17_3).mono (by intro k hk hlt; simp at hk ⊢ <;> first | omega | grind)
          replace hb6 := hb6.keep X17_3 (by simp)
          replace ho0 := own_keep ho0 X17_3 (by simp)
          replace ho1 := own_keep ho1 X17_3 (by simp)
          replace hb8 := hb8.keep X17_3 (by simp)
          have zs17_3 := X17_3.size
          refine s_val rfl rfl (runs_assign rfl) ?_
          refine s_nil ?_
          have hzX17 := X7.size
          refine hK31 _ _ ?_
          rcases (show Sp.bit x.id k = 0 ∨ Sp.bit x.id k = 1 by have := bit_lt x.id k; omega) with hb | hb
          · refine c_drawX [8] (v0.ownBlock.toList) (by kernel_rfl) ?_
            intro wd18 Xd18 hS18
            replace X7 : Chg w7 _ [b6] := (X7.trans Xd18).mono (by intro k hk hlt; simp at hk ⊢ <;> first | omega | grind)
            replace hb6 := hb6.keep Xd18 (by simp)
            replace ho0 := own_keep ho0 Xd18 (by simp)
            replace ho1 := own_keep ho1 Xd18 (by simp)
            replace hb8 := hb8.keep Xd18 (by simp)
            have zd18 := Xd18.size
            have hd6 : b6 ∉ v0.ownBlock.toList := fun hm => by have := hge0 _ (by simpa using hm); omega
            have hd8 : b8 ∉ v0.ownBlock.toList := fun hm => by have := hlt0 _ (by simpa using hm); omega
            refine d_take 0 55 rfl (by kernel_rfl) rfl hS18 (fun wS hS => runs_move rfl) ?_
            refine d_take 1 56 rfl (by kernel_rfl) rfl hS18 (fun wS hS => runs_move rfl) ?_
            refine d_take 2 57 rfl (by kernel_rfl) rfl hS18 (fun wS hS => runs_index_array (0) Tryd.underlying44 ty38 rfl rfl (by omega) (by omega)) ?_
            refine d_take 3 58 rfl (by kernel_rfl) rfl hS18 (fun wS hS => runs_load1 ty38 rfl ((hb6.keep hS hd6).c1 (j := 0) rfl)) ?_
            refine d_take 4 59 rfl (by kernel_rfl) rfl hS18 (fun wS hS => runs_loadAgg ty28 rfl ((hb8.keep hS hd8).at) (Ac.len hxn)) ?_
            refine d_only 5 rfl (by kernel_rfl) ?_
            refine s_lit (xs := [.tmp 59]) Tryd.underlying38 ty28 rfl rfl rfl rfl rfl (av_sz (l := [x]) (by simpa using hxn)) (by decide) (by decide) ?_
            intro b60 w185 e18_5 z18_5 hb60 X18_5
            have s18_5_X7 := X7.size
            replace ho0 := own_keep ho0 X18_5 (by simp)
            replace ho1 := own_keep ho1 X18_5 (by simp)
            replace X7 : Chg w7 _ [b6] := (X7.trans X18_5).mono (by intro k hk hlt; simp at hk ⊢ <;> first | omega | grind)
            replace hS18 : Chg wd18 _ v0.ownBlock.toList := (hS18.trans X18_5).mono (by intro k hk _; simpa using hk)
            have hz185 := X18_5.size
            refine s_nil ⟨.inr hS18, ?_⟩
            refine d_only 6 rfl (by kernel_rfl) ?_
            refine s_append Tryd.underlying38 ty28 rfl (by decide) rfl rfl rfl ho0 rfl (acs_lit [x] hb60 (by simpa using hxn) rfl).rd (acs_one _) (by have := flt_len l k 0 j; simp only [maxLen]; omega) (by have := flt_len l k 0 j; omega) (by omega) ?_
            intro v61 w186 H18_6 X18_6 F18_6
            replace ho1 := own_keep ho1 X18_6 (fun k' hk' hm => hap k' (by simpa using hm) hk')
            replace X7 : Chg w7 _ [b6] := (X7.trans X18_6).mono (by intro k' hk' hlt; simp at hk' ⊢; rcases hk' with h | h; exact h; have := hge0 _ h; omega)
            have ho0 := H18_6
            replace ho0 := own_in ho0
            rw [← flt_in hx hb] at ho0
            have hz186 := X18_6.size
            replace hS18 : Chg wd18 _ v0.ownBlock.toList := (hS18.trans X18_6).mono (by intro k hk _; simpa using hk)
            refine s_nil ⟨.inr hS18, ?_⟩
            refine d_take 7 62 rfl (by kernel_rfl) rfl hS18 (fun wS hS => runs_index_array (0) Tryd.underlying44 ty38 rfl rfl (by omega) (by omega)) ?_
            refine d_only 8 rfl (by kernel_rfl) ?_
            replace hb6 := hb6.keep hS18 hd6
            replace hb8 := hb8.keep hS18 hd8
            refine s_store1 ty38 rfl rfl rfl hb6 (own_one ho0) (by simp) ?_
            intro w188 z18_8 h18_8 X18_8
            replace hb8 := hb8.keep X18_8 (by simp; omega)
            replace ho1 := own_keep ho1 X18_8 (fun k' hk' hm => by have := (ho1.lt k' hk').1; simp at hm; omega)
            replace X7 : Chg w7 _ [b6] := (X7.trans X18_8).mono (by intro k hk hlt; simp at hk ⊢ <;> first | omega | grind)
            replace ho0 := own_keep ho0 X18_8 (fun k' hk' hm => by have := (ho0.lt k' hk').1; simp at hm; omega)
            replace hb6 := h18_8
            refine s_nil ⟨.inl rfl, ?_⟩
            refine d_done (by kernel_rfl) ?_
            have hnx : ∃ u0 u1, Blk w188 b6 [u0, u1] 44 ∧ w188.ownsRow (b6 + 1) 28 46 u0 (Sp.flt l k 0 (j + 1)).length ((Sp.flt l k 0 (j + 1)).flatMap Ac.C) ∧ w188.ownsRow (b6 + 1) 28 46 u1 (Sp.flt l k 1 (j + 1)).length ((Sp.flt l k 1 (j + 1)).flatMap Ac.C) ∧ ∀ b, u0.ownBlock = some b → u1.ownBlock ≠ some b := ⟨v61, v1, hb6, ho0, by rw [flt_out hx (by omega)]; exact ho1, fun z h0 h1 => by
              rcases F18_6 z h0 with h | h
              · exact hap z h h1
              · have := hlt1 z h1; omega⟩
            refine hK17 _ _ ?_
            refine c_reg ?_
            refine s_val rfl rfl (runs_add64 rfl rfl (by omega)) ?_
            refine s_val rfl rfl (runs_move rfl) ?_
            refine s_nil ?_
            dsimp only [Post.setN]
            obtain ⟨u0, u1, hb6', ho0', ho1', hap'⟩ := hnx
            exact ⟨(j + 1, u0, u1), ⟨rfl, rfl, rfl, rfl, rfl, rfl, trivial⟩, ⟨by dsimp only; omega, fun i hi y hy t ht => by
              by_cases e : i = j
              · subst e; rw [hx] at hy; cases hy; exact hsame t (by omega)
              · exact hpre i (by dsimp only at hi; omega) y hy t ht, X7, hb6', ho0', ho1', hap'⟩, by dsimp only; omega⟩
          · refine c_drawX [8] (v1.ownBlock.toList) (by kernel_rfl) ?_
            intro wd18 Xd18 hS18
            replace X7 : Chg w7 _ [b6] := (X7.trans Xd18).mono (by intro k hk hlt; simp at hk ⊢ <;> first | omega | grind)
            replace hb6 := hb6.keep Xd18 (by simp)
            replace ho0 := own_keep ho0 Xd18 (by simp)
            replace ho1 := own_keep ho1 Xd18 (by simp)
            replace hb8 := hb8.keep Xd18 (by simp)
            have zd18 := Xd18.size
            have hd6 : b6 ∉ v1.ownBlock.toList := fun hm => by have := hge1 _ (by simpa using hm); omega
            have hd8 : b8 ∉ v1.ownBlock.toList := fun hm => by have := hlt1 _ (by simpa using hm); omega
            refine d_take 0 55 rfl (by kernel_rfl) rfl hS18 (fun wS hS => runs_move rfl) ?_
            refine d_take 1 56 rfl (by kernel_rfl) rfl hS18 (fun wS hS => runs_move rfl) ?_
            refine d_take 2 57 rfl (by kernel_rfl) rfl hS18 (fun wS hS => runs_index_array (1) Tryd.underlying44 ty38 rfl rfl (by omega) (by omega)) ?_
            refine d_take 3 58 rfl (by kernel_rfl) rfl hS18 (fun wS hS => runs_load1 ty38 rfl ((hb6.keep hS hd6).c1 (j := 1) rfl)) ?_
            refine d_take 4 59 rfl (by kernel_rfl) rfl hS18 (fun wS hS => runs_loadAgg ty28 rfl ((hb8.keep hS hd8).at) (Ac.len hxn)) ?_
            refine d_only 5 rfl (by kernel_rfl) ?_
            refine s_lit (xs := [.tmp 59]) Tryd.underlying38 ty28 rfl rfl rfl rfl rfl (av_sz (l := [x]) (by simpa using hxn)) (by decide) (by decide) ?_
            intro b60 w185 e18_5 z18_5 hb60 X18_5
            have s18_5_X7 := X7.size
            replace ho0 := own_keep ho0 X18_5 (by simp)
            replace ho1 := own_keep ho1 X18_5 (by simp)
            replace X7 : Chg w7 _ [b6] := (X7.trans X18_5).mono (by intro k hk hlt; simp at hk ⊢ <;> first | omega | grind)
            replace hS18 : Chg wd18 _ v1.ownBlock.toList := (hS18.trans X18_5).mono (by intro k hk _; simpa using hk)
            have hz185 := X18_5.size
            refine s_nil ⟨.inr hS18, ?_⟩
            refine d_only 6 rfl (by kernel_rfl) ?_
            refine s_append Tryd.underlying38 ty28 rfl (by decide) rfl rfl rfl ho1 rfl (acs_lit [x] hb60 (by simpa using hxn) rfl).rd (acs_one _) (by have := flt_len l k 1 j; simp only [maxLen]; omega) (by have := flt_len l k 1 j; omega) (by omega) ?_
            intro v61 w186 H18_6 X18_6 F18_6
            replace ho0 := own_keep ho0 X18_6 (fun k' hk' hm => hap k' hk' (by simpa using hm))
            replace X7 : Chg w7 _ [b6] := (X7.trans X18_6).mono (by intro k' hk' hlt; simp at hk' ⊢; rcases hk' with h | h; exact h; have := hge1 _ h; omega)
            have ho1 := H18_6
            replace ho1 := own_in ho1
            rw [← flt_in hx hb] at ho1
            have hz186 := X18_6.size
            replace hS18 : Chg wd18 _ v1.ownBlock.toList := (hS18.trans X18_6).mono (by intro k hk _; simpa using hk)
            refine s_nil ⟨.inr hS18, ?_⟩
            refine d_take 7 62 rfl (by kernel_rfl) rfl hS18 (fun wS hS => runs_index_array (1) Tryd.underlying44 ty38 rfl rfl (by omega) (by omega)) ?_
            refine d_only 8 rfl (by kernel_rfl) ?_
            replace hb6 := hb6.keep hS18 hd6
            replace hb8 := hb8.keep hS18 hd8
            refine s_store1 ty38 rfl rfl rfl hb6 (own_one ho1) (by simp) ?_
            intro w188 z18_8 h18_8 X18_8
            replace hb8 := hb8.keep X18_8 (by simp; omega)
            replace ho0 := own_keep ho0 X18_8 (fun k' hk' hm => by have := (ho0.lt k' hk').1; simp at hm; omega)
            replace X7 : Chg w7 _ [b6] := (X7.trans X18_8).mono (by intro k hk hlt; simp at hk ⊢ <;> first | omega | grind)
            replace ho1 := own_keep ho1 X18_8 (fun k' hk' hm => by have := (ho1.lt k' hk').1; simp at hm; omega)
            replace hb6 := h18_8
            refine s_nil ⟨.inl rfl, ?_⟩
            refine d_done (by kernel_rfl) ?_
            have hnx : ∃ u0 u1, Blk w188 b6 [u0, u1] 44 ∧ w188.ownsRow (b6 + 1) 28 46 u0 (Sp.flt l k 0 (j + 1)).length ((Sp.flt l k 0 (j + 1)).flatMap Ac.C) ∧ w188.ownsRow (b6 + 1) 28 46 u1 (Sp.flt l k 1 (j + 1)).length ((Sp.flt l k 1 (j + 1)).flatMap Ac.C) ∧ ∀ b, u0.ownBlock = some b → u1.ownBlock ≠ some b := ⟨v0, v61, hb6, by rw [flt_out hx (by omega)]; exact ho0, ho1, fun z h0 h1 => by
              rcases F18_6 z h1 with h | h
              · exact hap z h0 h
              · have := hlt0 z h0; omega⟩
            refine hK17 _ _ ?_
            refine c_reg ?_
            refine s_val rfl rfl (runs_add64 rfl rfl (by omega)) ?_
            refine s_val rfl rfl (runs_move rfl) ?_
            refine s_nil ?_
            dsimp only [Post.setN]
            obtain ⟨u0, u1, hb6', ho0', ho1', hap'⟩ := hnx
            exact ⟨(j + 1, u0, u1), ⟨rfl, rfl, rfl, rfl, rfl, rfl, trivial⟩, ⟨by dsimp only; omega, fun i hi y hy t ht => by
              by_cases e : i = j
              · subst e; rw [hx] at hy; cases hy; exact hsame t (by omega)
              · exact hpre i (by dsimp only at hi; omega) y hy t ht, X7, hb6', ho0', ho1', hap'⟩, by dsimp only; omega⟩
      · obtain rfl : n1 = j := by omega
        have hwk : Wf k l := wf_prefix hlw (by omega) hy0n (fun a ha i hi => by
          obtain ⟨z, hz⟩ := List.getElem?_of_mem ha
          exact hpre z (by have := (List.getElem?_eq_some_iff.1 hz).1; omega) a hz i hi)
        have hl0 := flt_len l k 0 n1
        have hl1 := flt_len l k 1 n1
        rw [flt_all hwk (by omega) (by omega) (by omega)] at ho0 hl0
        rw [flt_all hwk (by omega) (by omega) (by omega)] at ho1 hl1
        have hw0 := hwk.side (b := 0) (by omega)
        have hw1 := hwk.side (b := 1) (by omega)
        obtain ⟨as0, cs0, rfl, hR0, _⟩ := own_acs ho0 hw0.num rfl
        obtain ⟨as1, cs1, rfl, hR1, _⟩ := own_acs ho1 hw1.num rfl
        obtain ⟨s0, hs0⟩ : ∃ s, s = Sp.side l k 0 := ⟨_, rfl⟩
        obtain ⟨s1, hs1⟩ : ∃ s, s = Sp.side l k 1 := ⟨_, rfl⟩
        rw [← hs0] at hl0 hR0 hw0
        rw [← hs1] at hl1 hR1 hw1
        rw [← hs0, ← hs1] at hb6
        refine c_exit ?_
        refine hK13 _ _ ?_
        refine c_seq (fun K39 hK39 => ?_)
        rcases Decidable.em (k = 127) with hk7 | hk7
        · refine c_seqreg (fun K40 hK40 => ?_)
          refine s_val rfl rfl (runs_move rfl) ?_
          refine s_val rfl rfl (runs_dt (runs_eqd rfl rfl) (by omega)) ?_
          refine s_val rfl rfl (runs_move rfl) ?_
          refine s_val rfl rfl (runs_move rfl) ?_
          refine s_val rfl rfl (runs_len_slice Tryd.underlying38 rfl) ?_
          refine s_val rfl rfl (runs_df (runs_gt rfl rfl) (by subst hk7; have := wf127 hwk; omega)) ?_
          refine s_val rfl rfl (runs_pickt rfl rfl) ?_
          refine s_nil ?_
          refine hK40 _ _ ?_
          refine c_false rfl ?_
          refine c_skip ?_
          refine hK39 _ _ ?_
          refine c_seq (fun K41 hK41 => ?_)
          obtain ⟨r0, hr0⟩ : ∃ r, r = Sp.aroot (k + 1) s0 := ⟨_, rfl⟩
          obtain ⟨r1, hr1⟩ : ∃ r, r = Sp.aroot (k + 1) s1 := ⟨_, rfl⟩
          have ok0 : HOk r0 := by rw [hr0]; exact aroot_ok _ _
          have ok1 : HOk r1 := by rw [hr1]; exact aroot_ok _ _
          have hJ41 : ∀ (b11 : Nat) (b12 : Nat) (W : World), (Chg w7 W [b6] ∧ Blk W b11 (natsC .u8 r0) 25 ∧ Blk W b12 (natsC .u8 r1) 25) → ∀ ρ : Env, SubL ([(11, (.pointer (some ⟨b11, 0, none⟩))), (12, (.pointer (some ⟨b12, 0, none⟩))), (1, .int .i64 (k : Int)), (0, .slice (some ⟨ba1, oa1, none⟩) n1 c1)]) ρ → K41 ρ W := by
            intro b11 b12 W hI ρ hρ
            refine hK41 _ _ (c_sub _ hρ ?_)
            clear hρ
            obtain ⟨X7, hb11, hb12⟩ := hI
            have hzX7e := X7.size
            refine c_seqdraw [] ([]) (by kernel_rfl) ?_
            intro K42 hK42 wd23 Xd23 hS23
            replace X7 : Chg w7 _ [b6] := (X7.trans Xd23).mono (by intro k hk hlt; simp at hk ⊢ <;> first | omega | grind)
            replace hb11 := hb11.keep Xd23 (by simp)
            replace hb12 := hb12.keep Xd23 (by simp)
            have zd23 := Xd23.size
            have hzX7f := X7.size
            refine d_take 0 79 rfl (by kernel_rfl) rfl hS23 (fun wS hS => runs_move rfl) ?_
            refine d_take 1 80 rfl (by kernel_rfl) rfl hS23 (fun wS hS => runs_move rfl) ?_
            refine d_take 4 83 rfl (by kernel_rfl) rfl hS23 (fun wS hS => runs_slice_arr Tryd.underlying25 ty5 rfl) ?_
            refine d_take 5 84 rfl (by kernel_rfl) rfl hS23 (fun wS hS => runs_slice_arr Tryd.underlying25 ty5 rfl) ?_
            refine d_two 2 3 rfl rfl (by kernel_rfl) ?_ ?_
            · refine s_callf (xs := [.const (.pointer none), .tmp 79, .tmp 80]) rfl rfl Tryd.func15 rfl (by kernel_rfl) rfl (aroot0 (k := k) ((hG.keep X7 (by simp; omega)).keep hS23 (by simp)) (by have := hS23.size; omega) hwk ((hRl.keep X7 (fun p hp => by cases hp; simp only [List.mem_singleton]; omega)).keep0 hS23) (by omega)) ?_
              rintro _ w232 ⟨rfl, X23_2⟩
              have zs23_2 := X23_2.size
              replace hS23 : Chg wd23 _ [] := hS23.trans X23_2
              refine s_nil ⟨.inr hS23, ?_⟩
              refine d_only 3 rfl (by kernel_rfl) ?_
              refine s_lit (xs := [.const (.int .u8 3)]) Tryd.underlying47 ty5 rfl rfl rfl rfl rfl (by simp [Value.cells]) (by decide) (by decide) ?_
              intro b82 w233 e23_3 z23_3 hb82 X23_3
              replace hS23 : Chg wd23 _ [] := hS23.trans X23_3
              refine s_nil ⟨.inr hS23, ?_⟩
              refine d_only 6 rfl (by kernel_rfl) ?_
              refine s_lit (xs := [.tmp 82, .tmp 83, .tmp 84]) Tryd.underlying51 ty47 rfl rfl rfl rfl rfl (by simp [Value.cells]) (by decide) (by decide) ?_
              intro b85 w236 e23_6 z23_6 hb85 X23_6
              have s23_6_hb82 := hb82.lt
              replace hb82 := hb82.keep X23_6 (by simp)
              replace hS23 : Chg wd23 _ [] := hS23.trans X23_6
              refine s_nil ⟨.inr hS23, ?_⟩
              refine d_only 7 rfl (by kernel_rfl) ?_
              refine s_callf (xs := [.const (.pointer none), .tmp 85]) rfl rfl Tryd.func18 rfl (by kernel_rfl) rfl (of0 (bss := [[3], r0, r1]) ((hG.keep X7 (by simp; omega)).keep hS23 (by simp)) (by have := hS23.size; omega) (parts_three hb85 (lit1 hb82) (lit_reads (hb11.keep hS23 (by simp)) (by rw [natsC_length, ok0.1]) (by decide)) (lit_reads (hb12.keep hS23 (by simp)) (by rw [natsC_length, ok1.1]) (by decide)) (by simp) ok0.2 ok1.2) (by simp [ok0.1, ok1.1])) ?_
              rintro _ w237 ⟨rfl, X23_7⟩
              have zs23_7 := X23_7.size
              replace hS23 : Chg wd23 _ [] := hS23.trans X23_7
              refine s_nil ⟨.inr hS23, ?_⟩
              refine d_take 8 87 rfl (by kernel_rfl) rfl hS23 (fun wS hS => runs_dt (runs_hv_eq rfl rfl (aroot_ok _ _) (sha_ok _)) (by rw [aroot_two (by omega) (by omega), hr0, hr1, hs0, hs1]; simp [Sp.fork, Sp.side])) ?_
              refine d_take 9 4 rfl (by kernel_rfl) rfl hS23 (fun wS hS => runs_assign rfl) ?_
              refine d_done (by kernel_rfl) ?_
              replace X7 : Chg w7 _ [b6] := (X7.trans hS23).mono (by intro k hk hlt; simp at hk ⊢ <;> first | omega | grind)
              replace hb11 := hb11.keep hS23 (by simp)
              replace hb12 := hb12.keep hS23 (by simp)
              refine hK42 _ _ ?_
              refine c_ret ?_
              refine hret _ _ ?_
              exact ends1 (reads_tmp rfl) ⟨rfl, (hX.trans X7).mono (by intro k' hk' hlt; simp at hk'; omega)⟩
            · refine s_lit (xs := [.const (.int .u8 3)]) Tryd.underlying47 ty5 rfl rfl rfl rfl rfl (by simp [Value.cells]) (by decide) (by decide) ?_
              intro b82 w233 e23_3 z23_3 hb82 X23_3
              replace hS23 : Chg wd23 _ [] := hS23.trans X23_3
              refine s_nil ⟨.inr hS23, ?_⟩
              refine d_two 2 6 rfl rfl (by kernel_rfl) ?_ ?_
              · refine s_callf (xs := [.const (.pointer none), .tmp 79, .tmp 80]) rfl rfl Tryd.func15 rfl (by kernel_rfl) rfl (aroot0 (k := k) ((hG.keep X7 (by simp; omega)).keep hS23 (by simp)) (by have := hS23.size; omega) hwk ((hRl.keep X7 (fun p hp => by cases hp; simp only [List.mem_singleton]; omega)).keep0 hS23) (by omega)) ?_
                rintro _ w232 ⟨rfl, X23_2⟩
                replace hb82 := hb82.keep X23_2 (by simp)
                have zs23_2 := X23_2.size
                replace hS23 : Chg wd23 _ [] := hS23.trans X23_2
                refine s_nil ⟨.inr hS23, ?_⟩
                refine d_only 6 rfl (by kernel_rfl) ?_
                refine s_lit (xs := [.tmp 82, .tmp 83, .tmp 84]) Tryd.underlying51 ty47 rfl rfl rfl rfl rfl (by simp [Value.cells]) (by decide) (by decide) ?_
                intro b85 w236 e23_6 z23_6 hb85 X23_6
                have s23_6_hb82 := hb82.lt
                replace hb82 := hb82.keep X23_6 (by simp)
                replace hS23 : Chg wd23 _ [] := hS23.trans X23_6
                refine s_nil ⟨.inr hS23, ?_⟩
                refine d_only 7 rfl (by kernel_rfl) ?_
                refine s_callf (xs := [.const (.pointer none), .tmp 85]) rfl rfl Tryd.func18 rfl (by kernel_rfl) rfl (of0 (bss := [[3], r0, r1]) ((hG.keep X7 (by simp; omega)).keep hS23 (by simp)) (by have := hS23.size; omega) (parts_three hb85 (lit1 hb82) (lit_reads (hb11.keep hS23 (by simp)) (by rw [natsC_length, ok0.1]) (by decide)) (lit_reads (hb12.keep hS23 (by simp)) (by rw [natsC_length, ok1.1]) (by decide)) (by simp) ok0.2 ok1.2) (by simp [ok0.1, ok1.1])) ?_
                rintro _ w237 ⟨rfl, X23_7⟩
                have zs23_7 := X23_7.size
                replace hS23 : Chg wd23 _ [] := hS23.trans X23_7
                refine s_nil ⟨.inr hS23, ?_⟩
                refine d_take 8 87 rfl (by kernel_rfl) rfl hS23 (fun wS hS => runs_dt (runs_hv_eq rfl rfl (aroot_ok _ _) (sha_ok _)) (by rw [aroot_two (by omega) (by omega), hr0, hr1, hs0, hs1]; simp [Sp.fork, Sp.side])) ?_
                refine d_take 9 4 rfl (by kernel_rfl) rfl hS23 (fun wS hS => runs_assign rfl) ?_
                refine d_done (by kernel_rfl) ?_
                replace X7 : Chg w7 _ [b6] := (X7.trans hS23).mono (by intro k hk hlt; simp at hk ⊢ <;> first | omega | grind)
                replace hb11 := hb11.keep hS23 (by simp)
                replace hb12 := hb12.keep hS23 (by simp)
                refine hK42 _ _ ?_
                refine c_ret ?_
                refine hret _ _ ?_
                exact ends1 (reads_tmp rfl) ⟨rfl, (hX.trans X7).mono (by intro k' hk' hlt; simp at hk'; omega)⟩
              · refine s_lit (xs := [.tmp 82, .tmp 83, .tmp 84]) Tryd.underlying51 ty47 rfl rfl rfl rfl rfl (by simp [Value.cells]) (by decide) (by decide) ?_
                intro b85 w236 e23_6 z23_6 hb85 X23_6
                have s23_6_hb82 := hb82.lt
                replace hb82 := hb82.keep X23_6 (by simp)
                replace hS23 : Chg wd23 _ [] := hS23.trans X23_6
                refine s_nil ⟨.inr hS23, ?_⟩
                refine d_only 2 rfl (by kernel_rfl) ?_
                refine s_callf (xs := [.const (.pointer none), .tmp 79, .tmp 80]) rfl rfl Tryd.func15 rfl (by kernel_rfl) rfl (aroot0 (k := k) ((hG.keep X7 (by simp; omega)).keep hS23 (by simp)) (by have := hS23.size; omega) hwk ((hRl.keep X7 (fun p hp => by cases hp; simp only [List.mem_singleton]; omega)).keep0 hS23) (by omega)) ?_
                rintro _ w232 ⟨rfl, X23_2⟩
                replace hb82 := hb82.keep X23_2 (by simp)
                replace hb85 := hb85.keep X23_2 (by simp)
                have zs23_2 := X23_2.size
                replace hS23 : Chg wd23 _ [] := hS23.trans X23_2
                refine s_nil ⟨.inr hS23, ?_⟩
                refine d_only 7 rfl (by kernel_rfl) ?_
                refine s_callf (xs := [.const (.pointer none), .tmp 85]) rfl rfl Tryd.func18 rfl (by kernel_rfl) rfl (of0 (bss := [[3], r0, r1]) ((hG.keep X7 (by simp; omega)).keep hS23 (by simp)) (by have := hS23.size; omega) (parts_three hb85 (lit1 hb82) (lit_reads (hb11.keep hS23 (by simp)) (by rw [natsC_length, ok0.1]) (by decide)) (lit_reads (hb12.keep hS23 (by simp)) (by rw [natsC_length, ok1.1]) (by decide)) (by simp) ok0.2 ok1.2) (by simp [ok0.1, ok1.1])) ?_
                rintro _ w237 ⟨rfl, X23_7⟩
                have zs23_7 := X23_7.size
                replace hS23 : Chg wd23 _ [] := hS23.trans X23_7
                refine s_nil ⟨.inr hS23, ?_⟩
                refine d_take 8 87 rfl (by kernel_rfl) rfl hS23 (fun wS hS => runs_dt (runs_hv_eq rfl rfl (aroot_ok _ _) (sha_ok _)) (by rw [aroot_two (by omega) (by omega), hr0, hr1, hs0, hs1]; simp [Sp.fork, Sp.side])) ?_
                refine d_take 9 4 rfl (by kernel_rfl) rfl hS23 (fun wS hS => runs_assign rfl) ?_
                refine d_done (by kernel_rfl) ?_
                replace X7 : Chg w7 _ [b6] := (X7.trans hS23).mono (by intro k hk hlt; simp at hk ⊢ <;> first | omega | grind)
                replace hb11 := hb11.keep hS23 (by simp)
                replace hb12 := hb12.keep hS23 (by simp)
                refine hK42 _ _ ?_
                refine c_ret ?_
                refine hret _ _ ?_
                exact ends1 (reads_tmp rfl) ⟨rfl, (hX.trans X7).mono (by intro k' hk' hlt; simp at hk'; omega)⟩
          refine c_drawX [11] ([]) (by kernel_rfl) ?_
          intro wd22 Xd22 hS22
          replace X7 : Chg w7 _ [b6] := (X7.trans Xd22).mono (by intro k hk hlt; simp at hk ⊢ <;> first | omega | grind)
          replace hb6 := hb6.keep Xd22 (by simp)
          replace hR0 := hR0.keep0 Xd22
          replace hR1 := hR1.keep0 Xd22
          have zd22 := Xd22.size
          have hzX7d := X7.size
          refine d_take 0 71 rfl (by kernel_rfl) rfl hS22 (fun wS hS => runs_index_array (0) Tryd.underlying44 ty38 rfl rfl (by omega) (by omega)) ?_
          refine d_take 1 72 rfl (by kernel_rfl) rfl hS22 (fun wS hS => runs_load1 ty38 rfl ((hb6.keep hS (by simp)).c1 (j := 0) rfl)) ?_
          refine d_take 2 73 rfl (by kernel_rfl) rfl hS22 (fun wS hS => runs_move rfl) ?_
          refine d_take 4 75 rfl (by kernel_rfl) rfl hS22 (fun wS hS => runs_index_array (1) Tryd.underlying44 ty38 rfl rfl (by omega) (by omega)) ?_
          refine d_take 5 76 rfl (by kernel_rfl) rfl hS22 (fun wS hS => runs_load1 ty38 rfl ((hb6.keep hS (by simp)).c1 (j := 1) rfl)) ?_
          refine d_take 6 77 rfl (by kernel_rfl) rfl hS22 (fun wS hS => runs_move rfl) ?_
          refine d_three 3 8 9 rfl rfl rfl (by kernel_rfl) ?_ ?_ ?_
          · refine s_callf (xs := [.tmp 72, .tmp 73]) rfl rfl Tryd.func17 rfl (by kernel_rfl) rfl (side0_calls B s0 as0 _ cs0 k _ ((hG.keep X7 (by simp; omega)).keep hS22 (by simp)) (by have := hS22.size; omega) hw0 (hR0.keep0 hS22) (by omega)) ?_
            rintro _ w223 ⟨rfl, X22_3⟩
            have zs22_3 := X22_3.size
            rw [← hr0]
            replace hS22 : Chg wd22 _ [] := hS22.trans X22_3
            refine s_nil ⟨.inr hS22, ?_⟩
            refine d_three 7 8 9 rfl rfl rfl (by kernel_rfl) ?_ ?_ ?_
            · refine s_callf (xs := [.tmp 76, .tmp 77]) rfl rfl Tryd.func17 rfl (by kernel_rfl) rfl (side0_calls B s1 as1 _ cs1 k _ ((hG.keep X7 (by simp; omega)).keep hS22 (by simp)) (by have := hS22.size; omega) hw1 (hR1.keep0 hS22) (by omega)) ?_
              rintro _ w227 ⟨rfl, X22_7⟩
              have zs22_7 := X22_7.size
              rw [← hr1]
              replace hS22 : Chg wd22 _ [] := hS22.trans X22_7
              refine s_nil ⟨.inr hS22, ?_⟩
              refine d_two 8 9 rfl rfl (by kernel_rfl) ?_ ?_
              · refine s_alloc ty25 rfl rfl ?_
                intro b11 w228 e22_8 z22_8 hb11 X22_8
                have hb11lo : wd22.heap.size ≤ b11 := by have := hS22.size; omega
                replace hS22 : Chg wd22 _ [] := hS22.trans X22_8
                refine s_nil ⟨.inr hS22, ?_⟩
                refine d_only 9 rfl (by kernel_rfl) ?_
                refine s_alloc ty25 rfl rfl ?_
                intro b12 w229 e22_9 z22_9 hb12 X22_9
                have s22_9_hb11 := hb11.lt
                replace hb11 := hb11.keep X22_9 (by simp)
                replace hS22 : Chg wd22 _ [] := hS22.trans X22_9
                refine s_nil ⟨.inr hS22, ?_⟩
                refine d_only 10 rfl (by kernel_rfl) ?_
                refine s_storeAll ty25 rfl rfl rfl hb11 (by rw [natsC_length, ok0.1]) rfl (natsC_one _ _) ?_
                intro w2210 z22_10 h22_10 X22_10
                replace hb12 := hb12.keep X22_10 (by simp; omega)
                replace hb11 := h22_10
                replace hS22 : Chg wd22 _ [] := (hS22.trans X22_10).mono (by intro k hk hlt; simp at hk; have := hb11lo; omega)
                refine s_nil ⟨.inr hS22, ?_⟩
                refine d_only 11 rfl (by kernel_rfl) ?_
                replace X7 : Chg w7 _ [b6] := (X7.trans hS22).mono (by intro k hk hlt; simp at hk ⊢ <;> first | omega | grind)
                replace hb6 := hb6.keep hS22 (by simp)
                replace hR0 := hR0.keep0 hS22
                replace hR1 := hR1.keep0 hS22
                refine s_storeAll ty25 rfl rfl rfl hb12 (by rw [natsC_length, ok1.1]) rfl (natsC_one _ _) ?_
                intro w2211 z22_11 h22_11 X22_11
                replace X7 : Chg w7 _ [b6] := (X7.trans X22_11).mono (by intro k hk hlt; simp at hk ⊢ <;> first | omega | grind)
                replace hb11 := hb11.keep X22_11 (by simp; omega)
                replace hb12 := h22_11
                refine s_nil ⟨.inl rfl, ?_⟩
                refine d_done (by kernel_rfl) ?_
                exact hJ41 b11 b12 _ ⟨X7, hb11, hb12⟩ _ ⟨rfl, rfl, rfl, rfl, trivial⟩
              · refine s_alloc ty25 rfl rfl ?_
                intro b12 w229 e22_9 z22_9 hb12 X22_9
                replace hS22 : Chg wd22 _ [] := hS22.trans X22_9
                refine s_nil ⟨.inr hS22, ?_⟩
                refine d_only 8 rfl (by kernel_rfl) ?_
                refine s_alloc ty25 rfl rfl ?_
                intro b11 w228 e22_8 z22_8 hb11 X22_8
                have s22_8_hb12 := hb12.lt
                replace hb12 := hb12.keep X22_8 (by simp)
                have hb11lo : wd22.heap.size ≤ b11 := by have := hS22.size; omega
                replace hS22 : Chg wd22 _ [] := hS22.trans X22_8
                refine s_nil ⟨.inr hS22, ?_⟩
                refine d_only 10 rfl (by kernel_rfl) ?_
                refine s_storeAll ty25 rfl rfl rfl hb11 (by rw [natsC_length, ok0.1]) rfl (natsC_one _ _) ?_
                intro w2210 z22_10 h22_10 X22_10
                replace hb12 := hb12.keep X22_10 (by simp; omega)
                replace hb11 := h22_10
                replace hS22 : Chg wd22 _ [] := (hS22.trans X22_10).mono (by intro k hk hlt; simp at hk; have := hb11lo; omega)
                refine s_nil ⟨.inr hS22, ?_⟩
                refine d_only 11 rfl (by kernel_rfl) ?_
                replace X7 : Chg w7 _ [b6] := (X7.trans hS22).mono (by intro k hk hlt; simp at hk ⊢ <;> first | omega | grind)
                replace hb6 := hb6.keep hS22 (by simp)
                replace hR0 := hR0.keep0 hS22
                replace hR1 := hR1.keep0 hS22
                refine s_storeAll ty25 rfl rfl rfl hb12 (by rw [natsC_length, ok1.1]) rfl (natsC_one _ _) ?_
                intro w2211 z22_11 h22_11 X22_11
                replace X7 : Chg w7 _ [b6] := (X7.trans X22_11).mono (by intro k hk hlt; simp at hk ⊢ <;> first | omega | grind)
                replace hb11 := hb11.keep X22_11 (by simp; omega)
                replace hb12 := h22_11
                refine s_nil ⟨.inl rfl, ?_⟩
                refine d_done (by kernel_rfl) ?_
                exact hJ41 b11 b12 _ ⟨X7, hb11, hb12⟩ _ ⟨rfl, rfl, rfl, rfl, trivial⟩
            · refine s_alloc ty25 rfl rfl ?_
              intro b11 w228 e22_8 z22_8 hb11 X22_8
              have hb11lo : wd22.heap.size ≤ b11 := by have := hS22.size; omega
              replace hS22 : Chg wd22 _ [] := hS22.trans X22_8
              refine s_nil ⟨.inr hS22, ?_⟩
              refine d_two 7 9 rfl rfl (by kernel_rfl) ?_ ?_
              · refine s_callf (xs := [.tmp 76, .tmp 77]) rfl rfl Tryd.func17 rfl (by kernel_rfl) rfl (side0_calls B s1 as1 _ cs1 k _ ((hG.keep X7 (by simp; omega)).keep hS22 (by simp)) (by have := hS22.size; omega) hw1 (hR1.keep0 hS22) (by omega)) ?_
                rintro _ w227 ⟨rfl, X22_7⟩
                replace hb11 := hb11.keep X22_7 (by simp)
                have zs22_7 := X22_7.size
                rw [← hr1]
                replace hS22 : Chg wd22 _ [] := hS22.trans X22_7
                refine s_nil ⟨.inr hS22, ?_⟩
                refine d_only 9 rfl (by kernel_rfl) ?_
                refine s_alloc ty25 rfl rfl ?_
                intro b12 w229 e22_9 z22_9 hb12 X22_9
                have s22_9_hb11 := hb11.lt
                replace hb11 := hb11.keep X22_9 (by simp)
                replace hS22 : Chg wd22 _ [] := hS22.trans X22_9
                refine s_nil ⟨.inr hS22, ?_⟩
                refine d_only 10 rfl (by kernel_rfl) ?_
                refine s_storeAll ty25 rfl rfl rfl hb11 (by rw [natsC_length, ok0.1]) rfl (natsC_one _ _) ?_
                intro w2210 z22_10 h22_10 X22_10
                replace hb12 := hb12.keep X22_10 (by simp; omega)
                replace hb11 := h22_10
                replace hS22 : Chg wd22 _ [] := (hS22.trans X22_10).mono (by intro k hk hlt; simp at hk; have := hb11lo; omega)
                refine s_nil ⟨.inr hS22, ?_⟩
                refine d_only 11 rfl (by kernel_rfl) ?_
                replace X7 : Chg w7 _ [b6] := (X7.trans hS22).mono (by intro k hk hlt; simp at hk ⊢ <;> first | omega | grind)
                replace hb6 := hb6.keep hS22 (by simp)
                replace hR0 := hR0.keep0 hS22
                replace hR1 := hR1.keep0 hS22
                refine s_storeAll ty25 rfl rfl rfl hb12 (by rw [natsC_length, ok1.1]) rfl (natsC_one _ _) ?_
                intro w2211 z22_11 h22_11 X22_11
                replace X7 : Chg w7 _ [b6] := (X7.trans X22_11).mono (by intro k hk hlt; simp at hk ⊢ <;> first | omega | grind)
                replace hb11 := hb11.keep X22_11 (by simp; omega)
                replace hb12 := h22_11
                refine s_nil ⟨.inl rfl, ?_⟩
                refine d_done (by kernel_rfl) ?_
                exact hJ41 b11 b12 _ ⟨X7, hb11, hb12⟩ _ ⟨rfl, rfl, rfl, rfl, trivial⟩
              · refine s_alloc ty25 rfl rfl ?_
                intro b12 w229 e22_9 z22_9 hb12 X22_9
                have s22_9_hb11 := hb11.lt
                replace hb11 := hb11.keep X22_9 (by simp)
                replace hS22 : Chg wd22 _ [] := hS22.trans X22_9
                refine s_nil ⟨.inr hS22, ?_⟩
                refine d_only 7 rfl (by kernel_rfl) ?_
                refine s_callf (xs := [.tmp 76, .tmp 77]) rfl rfl Tryd.func17 rfl (by kernel_rfl) rfl (side0_calls B s1 as1 _ cs1 k _ ((hG.keep X7 (by simp; omega)).keep hS22 (by simp)) (by have := hS22.size; omega) hw1 (hR1.keep0 hS22) (by omega)) ?_
                rintro _ w227 ⟨rfl, X22_7⟩
                replace hb11 := hb11.keep X22_7 (by simp)
                replace hb12 := hb12.keep X22_7 (by simp)
                have zs22_7 := X22_7.size
                rw [← hr1]
                replace hS22 : Chg wd22 _ [] := hS22.trans X22_7
                refine s_nil ⟨.inr hS22, ?_⟩
                refine d_only 10 rfl (by kernel_rfl) ?_
                refine s_storeAll ty25 rfl rfl rfl hb11 (by rw [natsC_length, ok0.1]) rfl (natsC_one _ _) ?_
                intro w2210 z22_10 h22_10 X22_10
                replace hb12 := hb12.keep X22_10 (by simp; omega)
                replace hb11 := h22_10
                replace hS22 : Chg wd22 _ [] := (hS22.trans X22_10).mono (by intro k hk hlt; simp at hk; have := hb11lo; omega)
                refine s_nil ⟨.inr hS22, ?_⟩
                refine d_only 11 rfl (by kernel_rfl) ?_
                replace X7 : Chg w7 _ [b6] := (X7.trans hS22).mono (by intro k hk hlt; simp at hk ⊢ <;> first | omega | grind)
                replace hb6 := hb6.keep hS22 (by simp)
                replace hR0 := hR0.keep0 hS22
                replace hR1 := hR1.keep0 hS22
                refine s_storeAll ty25 rfl rfl rfl hb12 (by rw [natsC_length, ok1.1]) rfl (natsC_one _ _) ?_
                intro w2211 z22_11 h22_11 X22_11
                replace X7 : Chg w7 _ [b6] := (X7.trans X22_11).mono (by intro k hk hlt; simp at hk ⊢ <;> first | omega | grind)
                replace hb11 := hb11.keep X22_11 (by simp; omega)
                replace hb12 := h22_11
                refine s_nil ⟨.inl rfl, ?_⟩
                refine d_done (by kernel_rfl) ?_
                exact hJ41 b11 b12 _ ⟨X7, hb11, hb12⟩ _ ⟨rfl, rfl, rfl, rfl, trivial⟩
            · refine s_alloc ty25 rfl rfl ?_
              intro b12 w229 e22_9 z22_9 hb12 X22_9
              replace hS22 : Chg wd22 _ [] := hS22.trans X22_9
              refine s_nil ⟨.inr hS22, ?_⟩
              refine d_two 7 8 rfl rfl (by kernel_rfl) ?_ ?_
              · refine s_callf (xs := [.tmp 76, .tmp 77]) rfl rfl Tryd.func17 rfl (by kernel_rfl) rfl (side0_calls B s1 as1 _ cs1 k _ ((hG.keep X7 (by simp; omega)).keep hS22 (by simp)) (by have := hS22.size; omega) hw1 (hR1.keep0 hS22) (by omega)) ?_
                rintro _ w227 ⟨rfl, X22_7⟩
                replace hb12 := hb12.keep X22_7 (by simp)
                have zs22_7 := X22_7.size
                rw [← hr1]
                replace hS22 : Chg wd22 _ [] := hS22.trans X22_7
                refine s_nil ⟨.inr hS22, ?_⟩
                refine d_only 8 rfl (by kernel_rfl) ?_
                refine s_alloc ty25 rfl rfl ?_
                intro b11 w228 e22_8 z22_8 hb11 X22_8
                have s22_8_hb12 := hb12.lt
                replace hb12 := hb12.keep X22_8 (by simp)
                have hb11lo : wd22.heap.size ≤ b11 := by have := hS22.size; omega
                replace hS22 : Chg wd22 _ [] := hS22.trans X22_8
                refine s_nil ⟨.inr hS22, ?_⟩
                refine d_only 10 rfl (by kernel_rfl) ?_
                refine s_storeAll ty25 rfl rfl rfl hb11 (by rw [natsC_length, ok0.1]) rfl (natsC_one _ _) ?_
                intro w2210 z22_10 h22_10 X22_10
                replace hb12 := hb12.keep X22_10 (by simp; omega)
                replace hb11 := h22_10
                replace hS22 : Chg wd22 _ [] := (hS22.trans X22_10).mono (by intro k hk hlt; simp at hk; have := hb11lo; omega)
                refine s_nil ⟨.inr hS22, ?_⟩
                refine d_only 11 rfl (by kernel_rfl) ?_
                replace X7 : Chg w7 _ [b6] := (X7.trans hS22).mono (by intro k hk hlt; simp at hk ⊢ <;> first | omega | grind)
                replace hb6 := hb6.keep hS22 (by simp)
                replace hR0 := hR0.keep0 hS22
                replace hR1 := hR1.keep0 hS22
                refine s_storeAll ty25 rfl rfl rfl hb12 (by rw [natsC_length, ok1.1]) rfl (natsC_one _ _) ?_
                intro w2211 z22_11 h22_11 X22_11
                replace X7 : Chg w7 _ [b6] := (X7.trans X22_11).mono (by intro k hk hlt; simp at hk ⊢ <;> first | omega | grind)
                replace hb11 := hb11.keep X22_11 (by simp; omega)
                replace hb12 := h22_11
                refine s_nil ⟨.inl rfl, ?_⟩
                refine d_done (by kernel_rfl) ?_
                exact hJ41 b11 b12 _ ⟨X7, hb11, hb12⟩ _ ⟨rfl, rfl, rfl, rfl, trivial⟩
              · refine s_alloc ty25 rfl rfl ?_
                intro b11 w228 e22_8 z22_8 hb11 X22_8
                have s22_8_hb12 := hb12.lt
                replace hb12 := hb12.keep X22_8 (by simp)
                have hb11lo : wd22.heap.size ≤ b11 := by have := hS22.size; omega
                replace hS22 : Chg wd22 _ [] := hS22.trans X22_8
                refine s_nil ⟨.inr hS22, ?_⟩
                refine d_only 7 rfl (by kernel_rfl) ?_
                refine s_callf (xs := [.tmp 76, .tmp 77]) rfl rfl Tryd.func17 rfl (by kernel_rfl) rfl (side0_calls B s1 as1 _ cs1 k _ ((hG.keep X7 (by simp; omega)).keep hS22 (by simp)) (by have := hS22.size; omega) hw1 (hR1.keep0 hS22) (by omega)) ?_
                rintro _ w227 ⟨rfl, X22_7⟩
                replace hb12 := hb12.keep X22_7 (by simp)
                replace hb11 := hb11.keep X22_7 (by simp)
                have zs22_7 := X22_7.size
                rw [← hr1]
                replace hS22 : Chg wd22 _ [] := hS22.trans X22_7
                refine s_nil ⟨.inr hS22, ?_⟩
                refine d_only 10 rfl (by kernel_rfl) ?_
                refine s_storeAll ty25 rfl rfl rfl hb11 (by rw [natsC_length, ok0.1]) rfl (natsC_one _ _) ?_
                intro w2210 z22_10 h22_10 X22_10
                replace hb12 := hb12.keep X22_10 (by simp; omega)
                replace hb11 := h22_10
                replace hS22 : Chg wd22 _ [] := (hS22.trans X22_10).mono (by intro k hk hlt; simp at hk; have := hb11lo; omega)
                refine s_nil ⟨.inr hS22, ?_⟩
                refine d_only 11 rfl (by kernel_rfl) ?_
                replace X7 : Chg w7 _ [b6] := (X7.trans hS22).mono (by intro k hk hlt; simp at hk ⊢ <;> first | omega | grind)
                replace hb6 := hb6.keep hS22 (by simp)
                replace hR0 := hR0.keep0 hS22
                replace hR1 := hR1.keep0 hS22
                refine s_storeAll ty25 rfl rfl rfl hb12 (by rw [natsC_length, ok1.1]) rfl (natsC_one _ _) ?_
                intro w2211 z22_11 h22_11 X22_11
                replace X7 : Chg w7 _ [b6] := (X7.trans X22_11).mono (by intro k hk hlt; simp at hk ⊢ <;> first | omega | grind)
                replace hb11 := hb11.keep X22_11 (by simp; omega)
                replace hb12 := h22_11
                refine s_nil ⟨.inl rfl, ?_⟩
                refine d_done (by kernel_rfl) ?_
                exact hJ41 b11 b12 _ ⟨X7, hb11, hb12⟩ _ ⟨rfl, rfl, rfl, rfl, trivial⟩
          · refine s_alloc ty25 rfl rfl ?_
            intro b11 w228 e22_8 z22_8 hb11 X22_8
            have hb11lo : wd22.heap.size ≤ b11 := by have := hS22.size; omega
            replace hS22 : Chg wd22 _ [] := hS22.trans X22_8
            refine s_nil ⟨.inr hS22, ?_⟩
            refine d_two 3 9 rfl rfl (by kernel_rfl) ?_ ?_
            · refine s_callf (xs := [.tmp 72, .tmp 73]) rfl rfl Tryd.func17 rfl (by kernel_rfl) rfl (side0_calls B s0 as0 _ cs0 k _ ((hG.keep X7 (by simp; omega)).keep hS22 (by simp)) (by have := hS22.size; omega) hw0 (hR0.keep0 hS22) (by omega)) ?_
              rintro _ w223 ⟨rfl, X22_3⟩
              replace hb11 := hb11.keep X22_3 (by simp)
              have zs22_3 := X22_3.size
              rw [← hr0]
              replace hS22 : Chg wd22 _ [] := hS22.trans X22_3
              refine s_nil ⟨.inr hS22, ?_⟩
              refine d_two 7 9 rfl rfl (by kernel_rfl) ?_ ?_
              · refine s_callf (xs := [.tmp 76, .tmp 77]) rfl rfl Tryd.func17 rfl (by kernel_rfl) rfl (side0_calls B s1 as1 _ cs1 k _ ((hG.keep X7 (by simp; omega)).keep hS22 (by simp)) (by have := hS22.size; omega) hw1 (hR1.keep0 hS22) (by omega)) ?_
                rintro _ w227 ⟨rfl, X22_7⟩
                replace hb11 := hb11.keep X22_7 (by simp)
                have zs22_7 := X22_7.size
                rw [← hr1]
                replace hS22 : Chg wd22 _ [] := hS22.trans X22_7
                refine s_nil ⟨.inr hS22, ?_⟩
                refine d_only 9 rfl (by kernel_rfl) ?_
                refine s_alloc ty25 rfl rfl ?_
                intro b12 w229 e22_9 z22_9 hb12 X22_9
                have s22_9_hb11 := hb11.lt
                replace hb11 := hb11.keep X22_9 (by simp)
                replace hS22 : Chg wd22 _ [] := hS22.trans X22_9
                refine s_nil ⟨.inr hS22, ?_⟩
                refine d_only 10 rfl (by kernel_rfl) ?_
                refine s_storeAll ty25 rfl rfl rfl hb11 (by rw [natsC_length, ok0.1]) rfl (natsC_one _ _) ?_
                intro w2210 z22_10 h22_10 X22_10
                replace hb12 := hb12.keep X22_10 (by simp; omega)
                replace hb11 := h22_10
                replace hS22 : Chg wd22 _ [] := (hS22.trans X22_10).mono (by intro k hk hlt; simp at hk; have := hb11lo; omega)
                refine s_nil ⟨.inr hS22, ?_⟩
                refine d_only 11 rfl (by kernel_rfl) ?_
                replace X7 : Chg w7 _ [b6] := (X7.trans hS22).mono (by intro k hk hlt; simp at hk ⊢ <;> first | omega | grind)
                replace hb6 := hb6.keep hS22 (by simp)
                replace hR0 := hR0.keep0 hS22
                replace hR1 := hR1.keep0 hS22
                refine s_storeAll ty25 rfl rfl rfl hb12 (by rw [natsC_length, ok1.1]) rfl (natsC_one _ _) ?_
                intro w2211 z22_11 h22_11 X22_11
                replace X7 : Chg w7 _ [b6] := (X7.trans X22_11).mono (by intro k hk hlt; simp at hk ⊢ <;> first | omega | grind)
                replace hb11 := hb11.keep X22_11 (by simp; omega)
                replace hb12 := h22_11
                refine s_nil ⟨.inl rfl, ?_⟩
                refine d_done (by kernel_rfl) ?_
                exact hJ41 b11 b12 _ ⟨X7, hb11, hb12⟩ _ ⟨rfl, rfl, rfl, rfl, trivial⟩
              · refine s_alloc ty25 rfl rfl ?_
                intro b12 w229 e22_9 z22_9 hb12 X22_9
                have s22_9_hb11 := hb11.lt
                replace hb11 := hb11.keep X22_9 (by simp)
                replace hS22 : Chg wd22 _ [] := hS22.trans X22_9
                refine s_nil ⟨.inr hS22, ?_⟩
                refine d_only 7 rfl (by kernel_rfl) ?_
                refine s_callf (xs := [.tmp 76, .tmp 77]) rfl rfl Tryd.func17 rfl (by kernel_rfl) rfl (side0_calls B s1 as1 _ cs1 k _ ((hG.keep X7 (by simp; omega)).keep hS22 (by simp)) (by have := hS22.size; omega) hw1 (hR1.keep0 hS22) (by omega)) ?_
                rintro _ w227 ⟨rfl, X22_7⟩
                replace hb11 := hb11.keep X22_7 (by simp)
                replace hb12 := hb12.keep X22_7 (by simp)
                have zs22_7 := X22_7.size
                rw [← hr1]
                replace hS22 : Chg wd22 _ [] := hS22.trans X22_7
                refine s_nil ⟨.inr hS22, ?_⟩
                refine d_only 10 rfl (by kernel_rfl) ?_
                refine s_storeAll ty25 rfl rfl rfl hb11 (by rw [natsC_length, ok0.1]) rfl (natsC_one _ _) ?_
                intro w2210 z22_10 h22_10 X22_10
                replace hb12 := hb12.keep X22_10 (by simp; omega)
                replace hb11 := h22_10
                replace hS22 : Chg wd22 _ [] := (hS22.trans X22_10).mono (by intro k hk hlt; simp at hk; have := hb11lo; omega)
                refine s_nil ⟨.inr hS22, ?_⟩
                refine d_only 11 rfl (by kernel_rfl) ?_
                replace X7 : Chg w7 _ [b6] := (X7.trans hS22).mono (by intro k hk hlt; simp at hk ⊢ <;> first | omega | grind)
                replace hb6 := hb6.keep hS22 (by simp)
                replace hR0 := hR0.keep0 hS22
                replace hR1 := hR1.keep0 hS22
                refine s_storeAll ty25 rfl rfl rfl hb12 (by rw [natsC_length, ok1.1]) rfl (natsC_one _ _) ?_
                intro w2211 z22_11 h22_11 X22_11
                replace X7 : Chg w7 _ [b6] := (X7.trans X22_11).mono (by intro k hk hlt; simp at hk ⊢ <;> first | omega | grind)
                replace hb11 := hb11.keep X22_11 (by simp; omega)
                replace hb12 := h22_11
                refine s_nil ⟨.inl rfl, ?_⟩
                refine d_done (by kernel_rfl) ?_
                exact hJ41 b11 b12 _ ⟨X7, hb11, hb12⟩ _ ⟨rfl, rfl, rfl, rfl, trivial⟩
            · refine s_alloc ty25 rfl rfl ?_
              intro b12 w229 e22_9 z22_9 hb12 X22_9
              have s22_9_hb11 := hb11.lt
              replace hb11 := hb11.keep X22_9 (by simp)
              replace hS22 : Chg wd22 _ [] := hS22.trans X22_9
              refine s_nil ⟨.inr hS22, ?_⟩
              refine d_only 3 rfl (by kernel_rfl) ?_
              refine s_callf (xs := [.tmp 72, .tmp 73]) rfl rfl Tryd.func17 rfl (by kernel_rfl) rfl (side0_calls B s0 as0 _ cs0 k _ ((hG.keep X7 (by simp; omega)).keep hS22 (by simp)) (by have := hS22.size; omega) hw0 (hR0.keep0 hS22) (by omega)) ?_
              rintro _ w223 ⟨rfl, X22_3⟩
              replace hb11 := hb11.keep X22_3 (by simp)
              replace hb12 := hb12.keep X22_3 (by simp)
              have zs22_3 := X22_3.size
              rw [← hr0]
              replace hS22 : Chg wd22 _ [] := hS22.trans X22_3
              refine s_nil ⟨.inr hS22, ?_⟩
              refine d_only 7 rfl (by kernel_rfl) ?_
              refine s_callf (xs := [.tmp 76, .tmp 77]) rfl rfl Tryd.func17 rfl (by kernel_rfl) rfl (side0_calls B s1 as1 _ cs1 k _ ((hG.keep X7 (by simp; omega)).keep hS22 (by simp)) (by have := hS22.size; omega) hw1 (hR1.keep0 hS22) (by omega)) ?_
              rintro _ w227 ⟨rfl, X22_7⟩
              replace hb11 := hb11.keep X22_7 (by simp)
              replace hb12 := hb12.keep X22_7 (by simp)
              have zs22_7 := X22_7.size
              rw [← hr1]
              replace hS22 : Chg wd22 _ [] := hS22.trans X22_7
              refine s_nil ⟨.inr hS22, ?_⟩
              refine d_only 10 rfl (by kernel_rfl) ?_
              refine s_storeAll ty25 rfl rfl rfl hb11 (by rw [natsC_length, ok0.1]) rfl (natsC_one _ _) ?_
              intro w2210 z22_10 h22_10 X22_10
              replace hb12 := hb12.keep X22_10 (by simp; omega)
              replace hb11 := h22_10
              replace hS22 : Chg wd22 _ [] := (hS22.trans X22_10).mono (by intro k hk hlt; simp at hk; have := hb11lo; omega)
              refine s_nil ⟨.inr hS22, ?_⟩
              refine d_only 11 rfl (by kernel_rfl) ?_
              replace X7 : Chg w7 _ [b6] := (X7.trans hS22).mono (by intro k hk hlt; simp at hk ⊢ <;> first | omega | grind)
              replace hb6 := hb6.keep hS22 (by simp)
              replace hR0 := hR0.keep0 hS22
              replace hR1 := hR1.keep0 hS22
              refine s_storeAll ty25 rfl rfl rfl hb12 (by rw [natsC_length, ok1.1]) rfl (natsC_one _ _) ?_
              intro w2211 z22_11 h22_11 X22_11
              replace X7 : Chg w7 _ [b6] := (X7.trans X22_11).mono (by intro k hk hlt; simp at hk ⊢ <;> first | omega | grind)
              replace hb11 := hb11.keep X22_11 (by simp; omega)
              replace hb12 := h22_11
              refine s_nil ⟨.inl rfl, ?_⟩
              refine d_done (by kernel_rfl) ?_
              exact hJ41 b11 b12 _ ⟨X7, hb11, hb12⟩ _ ⟨rfl, rfl, rfl, rfl, trivial⟩
          · refine s_alloc ty25 rfl rfl ?_
            intro b12 w229 e22_9 z22_9 hb12 X22_9
            replace hS22 : Chg wd22 _ [] := hS22.trans X22_9
            refine s_nil ⟨.inr hS22, ?_⟩
            refine d_two 3 8 rfl rfl (by kernel_rfl) ?_ ?_
            · refine s_callf (xs := [.tmp 72, .tmp 73]) rfl rfl Tryd.func17 rfl (by kernel_rfl) rfl (side0_calls B s0 as0 _ cs0 k _ ((hG.keep X7 (by simp; omega)).keep hS22 (by simp)) (by have := hS22.size; omega) hw0 (hR0.keep0 hS22) (by omega)) ?_
              rintro _ w223 ⟨rfl, X22_3⟩
              replace hb12 := hb12.keep X22_3 (by simp)
              have zs22_3 := X22_3.size
              rw [← hr0]
              replace hS22 : Chg wd22 _ [] := hS22.trans X22_3
              refine s_nil ⟨.inr hS22, ?_⟩
              refine d_two 7 8 rfl rfl (by kernel_rfl) ?_ ?_
              · refine s_callf (xs := [.tmp 76, .tmp 77]) rfl rfl Tryd.func17 rfl (by kernel_rfl) rfl (side0_calls B s1 as1 _ cs1 k _ ((hG.keep X7 (by simp; omega)).keep hS22 (by simp)) (by have := hS22.size; omega) hw1 (hR1.keep0 hS22) (by omega)) ?_
                rintro _ w227 ⟨rfl, X22_7⟩
                replace hb12 := hb12.keep X22_7 (by simp)
                have zs22_7 := X22_7.size
                rw [← hr1]
                replace hS22 : Chg wd22 _ [] := hS22.trans X22_7
                refine s_nil ⟨.inr hS22, ?_⟩
                refine d_only 8 rfl (by kernel_rfl) ?_
                refine s_alloc ty25 rfl rfl ?_
                intro b11 w228 e22_8 z22_8 hb11 X22_8
                have s22_8_hb12 := hb12.lt
                replace hb12 := hb12.keep X22_8 (by simp)
                have hb11lo : wd22.heap.size ≤ b11 := by have := hS22.size; omega
                replace hS22 : Chg wd22 _ [] := hS22.trans X22_8
                refine s_nil ⟨.inr hS22, ?_⟩
                refine d_only 10 rfl (by kernel_rfl) ?_
                refine s_storeAll ty25 rfl rfl rfl hb11 (by rw [natsC_length, ok0.1]) rfl (natsC_one _ _) ?_
                intro w2210 z22_10 h22_10 X22_10
                replace hb12 := hb12.keep X22_10 (by simp; omega)
                replace hb11 := h22_10
                replace hS22 : Chg wd22 _ [] := (hS22.trans X22_10).mono (by intro k hk hlt; simp at hk; have := hb11lo; omega)
                refine s_nil ⟨.inr hS22, ?_⟩
                refine d_only 11 rfl (by kernel_rfl) ?_
                replace X7 : Chg w7 _ [b6] := (X7.trans hS22).mono (by intro k hk hlt; simp at hk ⊢ <;> first | omega | grind)
                replace hb6 := hb6.keep hS22 (by simp)
                replace hR0 := hR0.keep0 hS22
                replace hR1 := hR1.keep0 hS22
                refine s_storeAll ty25 rfl rfl rfl hb12 (by rw [natsC_length, ok1.1]) rfl (natsC_one _ _) ?_
                intro w2211 z22_11 h22_11 X22_11
                replace X7 : Chg w7 _ [b6] := (X7.trans X22_11).mono (by intro k hk hlt; simp at hk ⊢ <;> first | omega | grind)
                replace hb11 := hb11.keep X22_11 (by simp; omega)
                replace hb12 := h22_11
                refine s_nil ⟨.inl rfl, ?_⟩
                refine d_done (by kernel_rfl) ?_
                exact hJ41 b11 b12 _ ⟨X7, hb11, hb12⟩ _ ⟨rfl, rfl, rfl, rfl, trivial⟩
              · refine s_alloc ty25 rfl rfl ?_
                intro b11 w228 e22_8 z22_8 hb11 X22_8
                have s22_8_hb12 := hb12.lt
                replace hb12 := hb12.keep X22_8 (by simp)
                have hb11lo : wd22.heap.size ≤ b11 := by have := hS22.size; omega
                replace hS22 : Chg wd22 _ [] := hS22.trans X22_8
                refine s_nil ⟨.inr hS22, ?_⟩
                refine d_only 7 rfl (by kernel_rfl) ?_
                refine s_callf (xs := [.tmp 76, .tmp 77]) rfl rfl Tryd.func17 rfl (by kernel_rfl) rfl (side0_calls B s1 as1 _ cs1 k _ ((hG.keep X7 (by simp; omega)).keep hS22 (by simp)) (by have := hS22.size; omega) hw1 (hR1.keep0 hS22) (by omega)) ?_
                rintro _ w227 ⟨rfl, X22_7⟩
                replace hb12 := hb12.keep X22_7 (by simp)
                replace hb11 := hb11.keep X22_7 (by simp)
                have zs22_7 := X22_7.size
                rw [← hr1]
                replace hS22 : Chg wd22 _ [] := hS22.trans X22_7
                refine s_nil ⟨.inr hS22, ?_⟩
                refine d_only 10 rfl (by kernel_rfl) ?_
                refine s_storeAll ty25 rfl rfl rfl hb11 (by rw [natsC_length, ok0.1]) rfl (natsC_one _ _) ?_
                intro w2210 z22_10 h22_10 X22_10
                replace hb12 := hb12.keep X22_10 (by simp; omega)
                replace hb11 := h22_10
                replace hS22 : Chg wd22 _ [] := (hS22.trans X22_10).mono (by intro k hk hlt; simp at hk; have := hb11lo; omega)
                refine s_nil ⟨.inr hS22, ?_⟩
                refine d_only 11 rfl (by kernel_rfl) ?_
                replace X7 : Chg w7 _ [b6] := (X7.trans hS22).mono (by intro k hk hlt; simp at hk ⊢ <;> first | omega | grind)
                replace hb6 := hb6.keep hS22 (by simp)
                replace hR0 := hR0.keep0 hS22
                replace hR1 := hR1.keep0 hS22
                refine s_storeAll ty25 rfl rfl rfl hb12 (by rw [natsC_length, ok1.1]) rfl (natsC_one _ _) ?_
                intro w2211 z22_11 h22_11 X22_11
                replace X7 : Chg w7 _ [b6] := (X7.trans X22_11).mono (by intro k hk hlt; simp at hk ⊢ <;> first | omega | grind)
                replace hb11 := hb11.keep X22_11 (by simp; omega)
                replace hb12 := h22_11
                refine s_nil ⟨.inl rfl, ?_⟩
                refine d_done (by kernel_rfl) ?_
                exact hJ41 b11 b12 _ ⟨X7, hb11, hb12⟩ _ ⟨rfl, rfl, rfl, rfl, trivial⟩
            · refine s_alloc ty25 rfl rfl ?_
              intro b11 w228 e22_8 z22_8 hb11 X22_8
              have s22_8_hb12 := hb12.lt
              replace hb12 := hb12.keep X22_8 (by simp)
              have hb11lo : wd22.heap.size ≤ b11 := by have := hS22.size; omega
              replace hS22 : Chg wd22 _ [] := hS22.trans X22_8
              refine s_nil ⟨.inr hS22, ?_⟩
              refine d_only 3 rfl (by kernel_rfl) ?_
              refine s_callf (xs := [.tmp 72, .tmp 73]) rfl rfl Tryd.func17 rfl (by kernel_rfl) rfl (side0_calls B s0 as0 _ cs0 k _ ((hG.keep X7 (by simp; omega)).keep hS22 (by simp)) (by have := hS22.size; omega) hw0 (hR0.keep0 hS22) (by omega)) ?_
              rintro _ w223 ⟨rfl, X22_3⟩
              replace hb12 := hb12.keep X22_3 (by simp)
              replace hb11 := hb11.keep X22_3 (by simp)
              have zs22_3 := X22_3.size
              rw [← hr0]
              replace hS22 : Chg wd22 _ [] := hS22.trans X22_3
              refine s_nil ⟨.inr hS22, ?_⟩
              refine d_only 7 rfl (by kernel_rfl) ?_
              refine s_callf (xs := [.tmp 76, .tmp 77]) rfl rfl Tryd.func17 rfl (by kernel_rfl) rfl (side0_calls B s1 as1 _ cs1 k _ ((hG.keep X7 (by simp; omega)).keep hS22 (by simp)) (by have := hS22.size; omega) hw1 (hR1.keep0 hS22) (by omega)) ?_
              rintro _ w227 ⟨rfl, X22_7⟩
              replace hb12 := hb12.keep X22_7 (by simp)
              replace hb11 := hb11.keep X22_7 (by simp)
              have zs22_7 := X22_7.size
              rw [← hr1]
              replace hS22 : Chg wd22 _ [] := hS22.trans X22_7
              refine s_nil ⟨.inr hS22, ?_⟩
              refine d_only 10 rfl (by kernel_rfl) ?_
              refine s_storeAll ty25 rfl rfl rfl hb11 (by rw [natsC_length, ok0.1]) rfl (natsC_one _ _) ?_
              intro w2210 z22_10 h22_10 X22_10
              replace hb12 := hb12.keep X22_10 (by simp; omega)
              replace hb11 := h22_10
              replace hS22 : Chg wd22 _ [] := (hS22.trans X22_10).mono (by intro k hk hlt; simp at hk; have := hb11lo; omega)
              refine s_nil ⟨.inr hS22, ?_⟩
              refine d_only 11 rfl (by kernel_rfl) ?_
              replace X7 : Chg w7 _ [b6] := (X7.trans hS22).mono (by intro k hk hlt; simp at hk ⊢ <;> first | omega | grind)
              replace hb6 := hb6.keep hS22 (by simp)
              replace hR0 := hR0.keep0 hS22
              replace hR1 := hR1.keep0 hS22
              refine s_storeAll ty25 rfl rfl rfl hb12 (by rw [natsC_length, ok1.1]) rfl (natsC_one _ _) ?_
              intro w2211 z22_11 h22_11 X22_11
              replace X7 : Chg w7 _ [b6] := (X7.trans X22_11).mono (by intro k hk hlt; simp at hk ⊢ <;> first | omega | grind)
              replace hb11 := hb11.keep X22_11 (by simp; omega)
              replace hb12 := h22_11
              refine s_nil ⟨.inl rfl, ?_⟩
              refine d_done (by kernel_rfl) ?_
              exact hJ41 b11 b12 _ ⟨X7, hb11, hb12⟩ _ ⟨rfl, rfl, rfl, rfl, trivial⟩
        · refine c_seqreg (fun K40 hK40 => ?_)
          refine s_val rfl rfl (runs_move rfl) ?_
          refine s_val rfl rfl (runs_df (runs_eqd rfl rfl) (by omega)) ?_
          refine s_val rfl rfl (runs_move rfl) ?_
          refine s_skip rfl rfl ?_
          refine s_skip rfl rfl ?_
          refine s_skip rfl rfl ?_
          refine s_val rfl rfl (runs_pickf rfl rfl) ?_
          refine s_nil ?_
          refine hK40 _ _ ?_
          refine c_false rfl ?_
          refine c_skip ?_
          refine hK39 _ _ ?_
          refine c_seq (fun K112 hK112 => ?_)
          obtain ⟨r0, hr0⟩ : ∃ r, r = Sp.aroot (k + 1) s0 := ⟨_, rfl⟩
          obtain ⟨r1, hr1⟩ : ∃ r, r = Sp.aroot (k + 1) s1 := ⟨_, rfl⟩
          have ok0 : HOk r0 := by rw [hr0]; exact aroot_ok _ _
          have ok1 : HOk r1 := by rw [hr1]; exact aroot_ok _ _
          have hJ112 : ∀ (b11 : Nat) (b12 : Nat) (W : World), (Chg w7 W [b6] ∧ Blk W b11 (natsC .u8 r0) 25 ∧ Blk W b12 (natsC .u8 r1) 25) → ∀ ρ : Env, SubL ([(11, (.pointer (some ⟨b11, 0, none⟩))), (12, (.pointer (some ⟨b12, 0, none⟩))), (1, .int .i64 (k : Int)), (0, .slice (some ⟨ba1, oa1, none⟩) n1 c1)]) ρ → K112 ρ W := by
            intro b11 b12 W hI ρ hρ
            refine hK112 _ _ (c_sub _ hρ ?_)
            clear hρ
            obtain ⟨X7, hb11, hb12⟩ := hI
            have hzX7e := X7.size
            refine c_seqdraw [] ([]) (by kernel_rfl) ?_
            intro K113 hK113 wd23 Xd23 hS23
            replace X7 : Chg w7 _ [b6] := (X7.trans Xd23).mono (by intro k hk hlt; simp at hk ⊢ <;> first | omega | grind)
            replace hb11 := hb11.keep Xd23 (by simp)
            replace hb12 := hb12.keep Xd23 (by simp)
            have zd23 := Xd23.size
            have hzX7f := X7.size
            refine d_take 0 79 rfl (by kernel_rfl) rfl hS23 (fun wS hS => runs_move rfl) ?_
            refine d_take 1 80 rfl (by kernel_rfl) rfl hS23 (fun wS hS => runs_move rfl) ?_
            refine d_take 4 83 rfl (by kernel_rfl) rfl hS23 (fun wS hS => runs_slice_arr Tryd.underlying25 ty5 rfl) ?_
            refine d_take 5 84 rfl (by kernel_rfl) rfl hS23 (fun wS hS => runs_slice_arr Tryd.underlying25 ty5 rfl) ?_
            refine d_two 2 3 rfl rfl (by kernel_rfl) ?_ ?_
            · refine s_callf (xs := [.const (.pointer none), .tmp 79, .tmp 80]) rfl rfl Tryd.func15 rfl (by kernel_rfl) rfl (aroot0 (k := k) ((hG.keep X7 (by simp; omega)).keep hS23 (by simp)) (by have := hS23.size; omega) hwk ((hRl.keep X7 (fun p hp => by cases hp; simp only [List.mem_singleton]; omega)).keep0 hS23) (by omega)) ?_
              rintro _ w232 ⟨rfl, X23_2⟩
              have zs23_2 := X23_2.size
              replace hS23 : Chg wd23 _ [] := hS23.trans X23_2
              refine s_nil ⟨.inr hS23, ?_⟩
              refine d_only 3 rfl (by kernel_rfl) ?_
              refine s_lit (xs := [.const (.int .u8 3)]) Tryd.underlying47 ty5 rfl rfl rfl rfl rfl (by simp [Value.cells]) (by decide) (by decide) ?_
              intro b82 w233 e23_3 z23_3 hb82 X23_3
              replace hS23 : Chg wd23 _ [] := hS23.trans X23_3
              refine s_nil ⟨.inr hS23, ?_⟩
              refine d_only 6 rfl (by kernel_rfl) ?_
              refine s_lit (xs := [.tmp 82, .tmp 83, .tmp 84]) Tryd.underlying51 ty47 rfl rfl rfl rfl rfl (by simp [Value.cells]) (by decide) (by decide) ?_
              intro b85 w236 e23_6 z23_6 hb85 X23_6
              have s23_6_hb82 := hb82.lt
              replace hb82 := hb82.keep X23_6 (by simp)
              replace hS23 : Chg wd23 _ [] := hS23.trans X23_6
              refine s_nil ⟨.inr hS23, ?_⟩
              refine d_only 7 rfl (by kernel_rfl) ?_
              refine s_callf (xs := [.const (.pointer none), .tmp 85]) rfl rfl Tryd.func18 rfl (by kernel_rfl) rfl (of0 (bss := [[3], r0, r1]) ((hG.keep X7 (by simp; omega)).keep hS23 (by simp)) (by have := hS23.size; omega) (parts_three hb85 (lit1 hb82) (lit_reads (hb11.keep hS23 (by simp)) (by rw [natsC_length, ok0.1]) (by decide)) (lit_reads (hb12.keep hS23 (by simp)) (by rw [natsC_length, ok1.1]) (by decide)) (by simp) ok0.2 ok1.2) (by simp [ok0.1, ok1.1])) ?_
              rintro _ w237 ⟨rfl, X23_7⟩
              have zs23_7 := X23_7.size
              replace hS23 : Chg wd23 _ [] := hS23.trans X23_7
              refine s_nil ⟨.inr hS23, ?_⟩
              refine d_take 8 87 rfl (by kernel_rfl) rfl hS23 (fun wS hS => runs_dt (runs_hv_eq rfl rfl (aroot_ok _ _) (sha_ok _)) (by rw [aroot_two (by omega) (by omega), hr0, hr1, hs0, hs1]; simp [Sp.fork, Sp.side])) ?_
              refine d_take 9 4 rfl (by kernel_rfl) rfl hS23 (fun wS hS => runs_assign rfl) ?_
              refine d_done (by kernel_rfl) ?_
              replace X7 : Chg w7 _ [b6] := (X7.trans hS23).mono (by intro k hk hlt; simp at hk ⊢ <;> first | omega | grind)
              replace hb11 := hb11.keep hS23 (by simp)
              replace hb12 := hb12.keep hS23 (by simp)
              refine hK113 _ _ ?_
              refine c_ret ?_
              refine hret _ _ ?_
              exact ends1 (reads_tmp rfl) ⟨rfl, (hX.trans X7).mono (by intro k' hk' hlt; simp at hk'; omega)⟩
            · refine s_lit (xs := [.const (.int .u8 3)]) Tryd.underlying47 ty5 rfl rfl rfl rfl rfl (by simp [Value.cells]) (by decide) (by decide) ?_
              intro b82 w233 e23_3 z23_3 hb82 X23_3
              replace hS23 : Chg wd23 _ [] := hS23.trans X23_3
              refine s_nil ⟨.inr hS23, ?_⟩
              refine d_two 2 6 rfl rfl (by kernel_rfl) ?_ ?_
              · refine s_callf (xs := [.const (.pointer none), .tmp 79, .tmp 80]) rfl rfl Tryd.func15 rfl (by kernel_rfl) rfl (aroot0 (k := k) ((hG.keep X7 (by simp; omega)).keep hS23 (by simp)) (by have := hS23.size; omega) hwk ((hRl.keep X7 (fun p hp => by cases hp; simp only [List.mem_singleton]; omega)).keep0 hS23) (by omega)) ?_
                rintro _ w232 ⟨rfl, X23_2⟩
                replace hb82 := hb82.keep X23_2 (by simp)
                have zs23_2 := X23_2.size
                replace hS23 : Chg wd23 _ [] := hS23.trans X23_2
                refine s_nil ⟨.inr hS23, ?_⟩
                refine d_only 6 rfl (by kernel_rfl) ?_
                refine s_lit (xs := [.tmp 82, .tmp 83, .tmp 84]) Tryd.underlying51 ty47 rfl rfl rfl rfl rfl (by simp [Value.cells]) (by decide) (by decide) ?_
                intro b85 w236 e23_6 z23_6 hb85 X23_6
                have s23_6_hb82 := hb82.lt
                replace hb82 := hb82.keep X23_6 (by simp)
                replace hS23 : Chg wd23 _ [] := hS23.trans X23_6
                refine s_nil ⟨.inr hS23, ?_⟩
                refine d_only 7 rfl (by kernel_rfl) ?_
                refine s_callf (xs := [.const (.pointer none), .tmp 85]) rfl rfl Tryd.func18 rfl (by kernel_rfl) rfl (of0 (bss := [[3], r0, r1]) ((hG.keep X7 (by simp; omega)).keep hS23 (by simp)) (by have := hS23.size; omega) (parts_three hb85 (lit1 hb82) (lit_reads (hb11.keep hS23 (by simp)) (by rw [natsC_length, ok0.1]) (by decide)) (lit_reads (hb12.keep hS23 (by simp)) (by rw [natsC_length, ok1.1]) (by decide)) (by simp) ok0.2 ok1.2) (by simp [ok0.1, ok1.1])) ?_
                rintro _ w237 ⟨rfl, X23_7⟩
                have zs23_7 := X23_7.size
                replace hS23 : Chg wd23 _ [] := hS23.trans X23_7
                refine s_nil ⟨.inr hS23, ?_⟩
                refine d_take 8 87 rfl (by kernel_rfl) rfl hS23 (fun wS hS => runs_dt (runs_hv_eq rfl rfl (aroot_ok _ _) (sha_ok _)) (by rw [aroot_two (by omega) (by omega), hr0, hr1, hs0, hs1]; simp [Sp.fork, Sp.side])) ?_
                refine d_take 9 4 rfl (by kernel_rfl) rfl hS23 (fun wS hS => runs_assign rfl) ?_
                refine d_done (by kernel_rfl) ?_
                replace X7 : Chg w7 _ [b6] := (X7.trans hS23).mono (by intro k hk hlt; simp at hk ⊢ <;> first | omega | grind)
                replace hb11 := hb11.keep hS23 (by simp)
                replace hb12 := hb12.keep hS23 (by simp)
                refine hK113 _ _ ?_
                refine c_ret ?_
                refine hret _ _ ?_
                exact ends1 (reads_tmp rfl) ⟨rfl, (hX.trans X7).mono (by intro k' hk' hlt; simp at hk'; omega)⟩
              · refine s_lit (xs := [.tmp 82, .tmp 83, .tmp 84]) Tryd.underlying51 ty47 rfl rfl rfl rfl rfl (by simp [Value.cells]) (by decide) (by decide) ?_
                intro b85 w236 e23_6 z23_6 hb85 X23_6
                have s23_6_hb82 := hb82.lt
                replace hb82 := hb82.keep X23_6 (by simp)
                replace hS23 : Chg wd23 _ [] := hS23.trans X23_6
                refine s_nil ⟨.inr hS23, ?_⟩
                refine d_only 2 rfl (by kernel_rfl) ?_
                refine s_callf (xs := [.const (.pointer none), .tmp 79, .tmp 80]) rfl rfl Tryd.func15 rfl (by kernel_rfl) rfl (aroot0 (k := k) ((hG.keep X7 (by simp; omega)).keep hS23 (by simp)) (by have := hS23.size; omega) hwk ((hRl.keep X7 (fun p hp => by cases hp; simp only [List.mem_singleton]; omega)).keep0 hS23) (by omega)) ?_
                rintro _ w232 ⟨rfl, X23_2⟩
                replace hb82 := hb82.keep X23_2 (by simp)
                replace hb85 := hb85.keep X23_2 (by simp)
                have zs23_2 := X23_2.size
                replace hS23 : Chg wd23 _ [] := hS23.trans X23_2
                refine s_nil ⟨.inr hS23, ?_⟩
                refine d_only 7 rfl (by kernel_rfl) ?_
                refine s_callf (xs := [.const (.pointer none), .tmp 85]) rfl rfl Tryd.func18 rfl (by kernel_rfl) rfl (of0 (bss := [[3], r0, r1]) ((hG.keep X7 (by simp; omega)).keep hS23 (by simp)) (by have := hS23.size; omega) (parts_three hb85 (lit1 hb82) (lit_reads (hb11.keep hS23 (by simp)) (by rw [natsC_length, ok0.1]) (by decide)) (lit_reads (hb12.keep hS23 (by simp)) (by rw [natsC_length, ok1.1]) (by decide)) (by simp) ok0.2 ok1.2) (by simp [ok0.1, ok1.1])) ?_
                rintro _ w237 ⟨rfl, X23_7⟩
                have zs23_7 := X23_7.size
                replace hS23 : Chg wd23 _ [] := hS23.trans X23_7
                refine s_nil ⟨.inr hS23, ?_⟩
                refine d_take 8 87 rfl (by kernel_rfl) rfl hS23 (fun wS hS => runs_dt (runs_hv_eq rfl rfl (aroot_ok _ _) (sha_ok _)) (by rw [aroot_two (by omega) (by omega), hr0, hr1, hs0, hs1]; simp [Sp.fork, Sp.side])) ?_
                refine d_take 9 4 rfl (by kernel_rfl) rfl hS23 (fun wS hS => runs_assign rfl) ?_
                refine d_done (by kernel_rfl) ?_
                replace X7 : Chg w7 _ [b6] := (X7.trans hS23).mono (by intro k hk hlt; simp at hk ⊢ <;> first | omega | grind)
                replace hb11 := hb11.keep hS23 (by simp)
                replace hb12 := hb12.keep hS23 (by simp)
                refine hK113 _ _ ?_
                refine c_ret ?_
                refine hret _ _ ?_
                exact ends1 (reads_tmp rfl) ⟨rfl, (hX.trans X7).mono (by intro k' hk' hlt; simp at hk'; omega)⟩
          refine c_drawX [11] ([]) (by kernel_rfl) ?_
          intro wd22 Xd22 hS22
          replace X7 : Chg w7 _ [b6] := (X7.trans Xd22).mono (by intro k hk hlt; simp at hk ⊢ <;> first | omega | grind)
          replace hb6 := hb6.keep Xd22 (by simp)
          replace hR0 := hR0.keep0 Xd22
          replace hR1 := hR1.keep0 Xd22
          have zd22 := Xd22.size
          have hzX7d := X7.size
          refine d_take 0 71 rfl (by kernel_rfl) rfl hS22 (fun wS hS => runs_index_array (0) Tryd.underlying44 ty38 rfl rfl (by omega) (by omega)) ?_
          refine d_take 1 72 rfl (by kernel_rfl) rfl hS22 (fun wS hS => runs_load1 ty38 rfl ((hb6.keep hS (by simp)).c1 (j := 0) rfl)) ?_
          refine d_take 2 73 rfl (by kernel_rfl) rfl hS22 (fun wS hS => runs_move rfl) ?_
          refine d_take 4 75 rfl (by kernel_rfl) rfl hS22 (fun wS hS => runs_index_array (1) Tryd.underlying44 ty38 rfl rfl (by omega) (by omega)) ?_
          refine d_take 5 76 rfl (by kernel_rfl) rfl hS22 (fun wS hS => runs_load1 ty38 rfl ((hb6.keep hS (by simp)).c1 (j := 1) rfl)) ?_
          refine d_take 6 77 rfl (by kernel_rfl) rfl hS22 (fun wS hS => runs_move rfl) ?_
          refine d_three 3 8 9 rfl rfl rfl (by kernel_rfl) ?_ ?_ ?_
          · refine s_callf (xs := [.tmp 72, .tmp 73]) rfl rfl Tryd.func17 rfl (by kernel_rfl) rfl (side0_calls B s0 as0 _ cs0 k _ ((hG.keep X7 (by simp; omega)).keep hS22 (by simp)) (by have := hS22.size; omega) hw0 (hR0.keep0 hS22) (by omega)) ?_
            rintro _ w223 ⟨rfl, X22_3⟩
            have zs22_3 := X22_3.size
            rw [← hr0]
            replace hS22 : Chg wd22 _ [] := hS22.trans X22_3
            refine s_nil ⟨.inr hS22, ?_⟩
            refine d_three 7 8 9 rfl rfl rfl (by kernel_rfl) ?_ ?_ ?_
            · refine s_callf (xs := [.tmp 76, .tmp 77]) rfl rfl Tryd.func17 rfl (by kernel_rfl) rfl (side0_calls B s1 as1 _ cs1 k _ ((hG.keep X7 (by simp; omega)).keep hS22 (by simp)) (by have := hS22.size; omega) hw1 (hR1.keep0 hS22) (by omega)) ?_
              rintro _ w227 ⟨rfl, X22_7⟩
              have zs22_7 := X22_7.size
              rw [← hr1]
              replace hS22 : Chg wd22 _ [] := hS22.trans X22_7
              refine s_nil ⟨.inr hS22, ?_⟩
              refine d_two 8 9 rfl rfl (by kernel_rfl) ?_ ?_
              · refine s_alloc ty25 rfl rfl ?_
                intro b11 w228 e22_8 z22_8 hb11 X22_8
                have hb11lo : wd22.heap.size ≤ b11 := by have := hS22.size; omega
                replace hS22 : Chg wd22 _ [] := hS22.trans X22_8
                refine s_nil ⟨.inr hS22, ?_⟩
                refine d_only 9 rfl (by kernel_rfl) ?_
                refine s_alloc ty25 rfl rfl ?_
                intro b12 w229 e22_9 z22_9 hb12 X22_9
                have s22_9_hb11 := hb11.lt
                replace hb11 := hb11.keep X22_9 (by simp)
                replace hS22 : Chg wd22 _ [] := hS22.trans X22_9
                refine s_nil ⟨.inr hS22, ?_⟩
                refine d_only 10 rfl (by kernel_rfl) ?_
                refine s_storeAll ty25 rfl rfl rfl hb11 (by rw [natsC_length, ok0.1]) rfl (natsC_one _ _) ?_
                intro w2210 z22_10 h22_10 X22_10
                replace hb12 := hb12.keep X22_10 (by simp; omega)
                replace hb11 := h22_10
                replace hS22 : Chg wd22 _ [] := (hS22.trans X22_10).mono (by intro k hk hlt; simp at hk; have := hb11lo; omega)
                refine s_nil ⟨.inr hS22, ?_⟩
                refine d_only 11 rfl (by kernel_rfl) ?_
                replace X7 : Chg w7 _ [b6] := (X7.trans hS22).mono (by intro k hk hlt; simp at hk ⊢ <;> first | omega | grind)
                replace hb6 := hb6.keep hS22 (by simp)
                replace hR0 := hR0.keep0 hS22
                replace hR1 := hR1.keep0 hS22
                refine s_storeAll ty25 rfl rfl rfl hb12 (by rw [natsC_length, ok1.1]) rfl (natsC_one _ _) ?_
                intro w2211 z22_11 h22_11 X22_11
                replace X7 : Chg w7 _ [b6] := (X7.trans X22_11).mono (by intro k hk hlt; simp at hk ⊢ <;> first | omega | grind)
                replace hb11 := hb11.keep X22_11 (by simp; omega)
                replace hb12 := h22_11
                refine s_nil ⟨.inl rfl, ?_⟩
                refine d_done (by kernel_rfl) ?_
                exact hJ112 b11 b12 _ ⟨X7, hb11, hb12⟩ _ ⟨rfl, rfl, rfl, rfl, trivial⟩
              · refine s_alloc ty25 rfl rfl ?_
                intro b12 w229 e22_9 z22_9 hb12 X22_9
                replace hS22 : Chg wd22 _ [] := hS22.trans X22_9
                refine s_nil ⟨.inr hS22, ?_⟩
                refine d_only 8 rfl (by kernel_rfl) ?_
                refine s_alloc ty25 rfl rfl ?_
                intro b11 w228 e22_8 z22_8 hb11 X22_8
                have s22_8_hb12 := hb12.lt
                replace hb12 := hb12.keep X22_8 (by simp)
                have hb11lo : wd22.heap.size ≤ b11 := by have := hS22.size; omega
                replace hS22 : Chg wd22 _ [] := hS22.trans X22_8
                refine s_nil ⟨.inr hS22, ?_⟩
                refine d_only 10 rfl (by kernel_rfl) ?_
                refine s_storeAll ty25 rfl rfl rfl hb11 (by rw [natsC_length, ok0.1]) rfl (natsC_one _ _) ?_
                intro w2210 z22_10 h22_10 X22_10
                replace hb12 := hb12.keep X22_10 (by simp; omega)
                replace hb11 := h22_10
                replace hS22 : Chg wd22 _ [] := (hS22.trans X22_10).mono (by intro k hk hlt; simp at hk; have := hb11lo; omega)
                refine s_nil ⟨.inr hS22, ?_⟩
                refine d_only 11 rfl (by kernel_rfl) ?_
                replace X7 : Chg w7 _ [b6] := (X7.trans hS22).mono (by intro k hk hlt; simp at hk ⊢ <;> first | omega | grind)
                replace hb6 := hb6.keep hS22 (by simp)
                replace hR0 := hR0.keep0 hS22
                replace hR1 := hR1.keep0 hS22
                refine s_storeAll ty25 rfl rfl rfl hb12 (by rw [natsC_length, ok1.1]) rfl (natsC_one _ _) ?_
                intro w2211 z22_11 h22_11 X22_11
                replace X7 : Chg w7 _ [b6] := (X7.trans X22_11).mono (by intro k hk hlt; simp at hk ⊢ <;> first | omega | grind)
                replace hb11 := hb11.keep X22_11 (by simp; omega)
                replace hb12 := h22_11
                refine s_nil ⟨.inl rfl, ?_⟩
                refine d_done (by kernel_rfl) ?_
                exact hJ112 b11 b12 _ ⟨X7, hb11, hb12⟩ _ ⟨rfl, rfl, rfl, rfl, trivial⟩
            · refine s_alloc ty25 rfl rfl ?_
              intro b11 w228 e22_8 z22_8 hb11 X22_8
              have hb11lo : wd22.heap.size ≤ b11 := by have := hS22.size; omega
              replace hS22 : Chg wd22 _ [] := hS22.trans X22_8
              refine s_nil ⟨.inr hS22, ?_⟩
              refine d_two 7 9 rfl rfl (by kernel_rfl) ?_ ?_
              · refine s_callf (xs := [.tmp 76, .tmp 77]) rfl rfl Tryd.func17 rfl (by kernel_rfl) rfl (side0_calls B s1 as1 _ cs1 k _ ((hG.keep X7 (by simp; omega)).keep hS22 (by simp)) (by have := hS22.size; omega) hw1 (hR1.keep0 hS22) (by omega)) ?_
                rintro _ w227 ⟨rfl, X22_7⟩
                replace hb11 := hb11.keep X22_7 (by simp)
                have zs22_7 := X22_7.size
                rw [← hr1]
                replace hS22 : Chg wd22 _ [] := hS22.trans X22_7
                refine s_nil ⟨.inr hS22, ?_⟩
                refine d_only 9 rfl (by kernel_rfl) ?_
                refine s_alloc ty25 rfl rfl ?_
                intro b12 w229 e22_9 z22_9 hb12 X22_9
                have s22_9_hb11 := hb11.lt
                replace hb11 := hb11.keep X22_9 (by simp)
                replace hS22 : Chg wd22 _ [] := hS22.trans X22_9
                refine s_nil ⟨.inr hS22, ?_⟩
                refine d_only 10 rfl (by kernel_rfl) ?_
                refine s_storeAll ty25 rfl rfl rfl hb11 (by rw [natsC_length, ok0.1]) rfl (natsC_one _ _) ?_
                intro w2210 z22_10 h22_10 X22_10
                replace hb12 := hb12.keep X22_10 (by simp; omega)
                replace hb11 := h22_10
                replace hS22 : Chg wd22 _ [] := (hS22.trans X22_10).mono (by intro k hk hlt; simp at hk; have := hb11lo; omega)
                refine s_nil ⟨.inr hS22, ?_⟩
                refine d_only 11 rfl (by kernel_rfl) ?_
                replace X7 : Chg w7 _ [b6] := (X7.trans hS22).mono (by intro k hk hlt; simp at hk ⊢ <;> first | omega | grind)
                replace hb6 := hb6.keep hS22 (by simp)
                replace hR0 := hR0.keep0 hS22
                replace hR1 := hR1.keep0 hS22
                refine s_storeAll ty25 rfl rfl rfl hb12 (by rw [natsC_length, ok1.1]) rfl (natsC_one _ _) ?_
                intro w2211 z22_11 h22_11 X22_11
                replace X7 : Chg w7 _ [b6] := (X7.trans X22_11).mono (by intro k hk hlt; simp at hk ⊢ <;> first | omega | grind)
                replace hb11 := hb11.keep X22_11 (by simp; omega)
                replace hb12 := h22_11
                refine s_nil ⟨.inl rfl, ?_⟩
                refine d_done (by kernel_rfl) ?_
                exact hJ112 b11 b12 _ ⟨X7, hb11, hb12⟩ _ ⟨rfl, rfl, rfl, rfl, trivial⟩
              · refine s_alloc ty25 rfl rfl ?_
                intro b12 w229 e22_9 z22_9 hb12 X22_9
                have s22_9_hb11 := hb11.lt
                replace hb11 := hb11.keep X22_9 (by simp)
                replace hS22 : Chg wd22 _ [] := hS22.trans X22_9
                refine s_nil ⟨.inr hS22, ?_⟩
                refine d_only 7 rfl (by kernel_rfl) ?_
                refine s_callf (xs := [.tmp 76, .tmp 77]) rfl rfl Tryd.func17 rfl (by kernel_rfl) rfl (side0_calls B s1 as1 _ cs1 k _ ((hG.keep X7 (by simp; omega)).keep hS22 (by simp)) (by have := hS22.size; omega) hw1 (hR1.keep0 hS22) (by omega)) ?_
                rintro _ w227 ⟨rfl, X22_7⟩
                replace hb11 := hb11.keep X22_7 (by simp)
                replace hb12 := hb12.keep X22_7 (by simp)
                have zs22_7 := X22_7.size
                rw [← hr1]
                replace hS22 : Chg wd22 _ [] := hS22.trans X22_7
                refine s_nil ⟨.inr hS22, ?_⟩
                refine d_only 10 rfl (by kernel_rfl) ?_
                refine s_storeAll ty25 rfl rfl rfl hb11 (by rw [natsC_length, ok0.1]) rfl (natsC_one _ _) ?_
                intro w2210 z22_10 h22_10 X22_10
                replace hb12 := hb12.keep X22_10 (by simp; omega)
                replace hb11 := h22_10
                replace hS22 : Chg wd22 _ [] := (hS22.trans X22_10).mono (by intro k hk hlt; simp at hk; have := hb11lo; omega)
                refine s_nil ⟨.inr hS22, ?_⟩
                refine d_only 11 rfl (by kernel_rfl) ?_
                replace X7 : Chg w7 _ [b6] := (X7.trans hS22).mono (by intro k hk hlt; simp at hk ⊢ <;> first | omega | grind)
                replace hb6 := hb6.keep hS22 (by simp)
                replace hR0 := hR0.keep0 hS22
                replace hR1 := hR1.keep0 hS22
                refine s_storeAll ty25 rfl rfl rfl hb12 (by rw [natsC_length, ok1.1]) rfl (natsC_one _ _) ?_
                intro w2211 z22_11 h22_11 X22_11
                replace X7 : Chg w7 _ [b6] := (X7.trans X22_11).mono (by intro k hk hlt; simp at hk ⊢ <;> first | omega | grind)
                replace hb11 := hb11.keep X22_11 (by simp; omega)
                replace hb12 := h22_11
                refine s_nil ⟨.inl rfl, ?_⟩
                refine d_done (by kernel_rfl) ?_
                exact hJ112 b11 b12 _ ⟨X7, hb11, hb12⟩ _ ⟨rfl, rfl, rfl, rfl, trivial⟩
            · refine s_alloc ty25 rfl rfl ?_
              intro b12 w229 e22_9 z22_9 hb12 X22_9
              replace hS22 : Chg wd22 _ [] := hS22.trans X22_9
              refine s_nil ⟨.inr hS22, ?_⟩
              refine d_two 7 8 rfl rfl (by kernel_rfl) ?_ ?_
              · refine s_callf (xs := [.tmp 76, .tmp 77]) rfl rfl Tryd.func17 rfl (by kernel_rfl) rfl (side0_calls B s1 as1 _ cs1 k _ ((hG.keep X7 (by simp; omega)).keep hS22 (by simp)) (by have := hS22.size; omega) hw1 (hR1.keep0 hS22) (by omega)) ?_
                rintro _ w227 ⟨rfl, X22_7⟩
                replace hb12 := hb12.keep X22_7 (by simp)
                have zs22_7 := X22_7.size
                rw [← hr1]
                replace hS22 : Chg wd22 _ [] := hS22.trans X22_7
                refine s_nil ⟨.inr hS22, ?_⟩
                refine d_only 8 rfl (by kernel_rfl) ?_
                refine s_alloc ty25 rfl rfl ?_
                intro b11 w228 e22_8 z22_8 hb11 X22_8
                have s22_8_hb12 := hb12.lt
                replace hb12 := hb12.keep X22_8 (by simp)
                have hb11lo : wd22.heap.size ≤ b11 := by have := hS22.size; omega
                replace hS22 : Chg wd22 _ [] := hS22.trans X22_8
                refine s_nil ⟨.inr hS22, ?_⟩
                refine d_only 10 rfl (by kernel_rfl) ?_
                refine s_storeAll ty25 rfl rfl rfl hb11 (by rw [natsC_length, ok0.1]) rfl (natsC_one _ _) ?_
                intro w2210 z22_10 h22_10 X22_10
                replace hb12 := hb12.keep X22_10 (by simp; omega)
                replace hb11 := h22_10
                replace hS22 : Chg wd22 _ [] := (hS22.trans X22_10).mono (by intro k hk hlt; simp at hk; have := hb11lo; omega)
                refine s_nil ⟨.inr hS22, ?_⟩
                refine d_only 11 rfl (by kernel_rfl) ?_
                replace X7 : Chg w7 _ [b6] := (X7.trans hS22).mono (by intro k hk hlt; simp at hk ⊢ <;> first | omega | grind)
                replace hb6 := hb6.keep hS22 (by simp)
                replace hR0 := hR0.keep0 hS22
                replace hR1 := hR1.keep0 hS22
                refine s_storeAll ty25 rfl rfl rfl hb12 (by rw [natsC_length, ok1.1]) rfl (natsC_one _ _) ?_
                intro w2211 z22_11 h22_11 X22_11
                replace X7 : Chg w7 _ [b6] := (X7.trans X22_11).mono (by intro k hk hlt; simp at hk ⊢ <;> first | omega | grind)
                replace hb11 := hb11.keep X22_11 (by simp; omega)
                replace hb12 := h22_11
                refine s_nil ⟨.inl rfl, ?_⟩
                refine d_done (by kernel_rfl) ?_
                exact hJ112 b11 b12 _ ⟨X7, hb11, hb12⟩ _ ⟨rfl, rfl, rfl, rfl, trivial⟩
              · refine s_alloc ty25 rfl rfl ?_
                intro b11 w228 e22_8 z22_8 hb11 X22_8
                have s22_8_hb12 := hb12.lt
                replace hb12 := hb12.keep X22_8 (by simp)
                have hb11lo : wd22.heap.size ≤ b11 := by have := hS22.size; omega
                replace hS22 : Chg wd22 _ [] := hS22.trans X22_8
                refine s_nil ⟨.inr hS22, ?_⟩
                refine d_only 7 rfl (by kernel_rfl) ?_
                refine s_callf (xs := [.tmp 76, .tmp 77]) rfl rfl Tryd.func17 rfl (by kernel_rfl) rfl (side0_calls B s1 as1 _ cs1 k _ ((hG.keep X7 (by simp; omega)).keep hS22 (by simp)) (by have := hS22.size; omega) hw1 (hR1.keep0 hS22) (by omega)) ?_
                rintro _ w227 ⟨rfl, X22_7⟩
                replace hb12 := hb12.keep X22_7 (by simp)
                replace hb11 := hb11.keep X22_7 (by simp)
                have zs22_7 := X22_7.size
                rw [← hr1]
                replace hS22 : Chg wd22 _ [] := hS22.trans X22_7
                refine s_nil ⟨.inr hS22, ?_⟩
                refine d_only 10 rfl (by kernel_rfl) ?_
                refine s_storeAll ty25 rfl rfl rfl hb11 (by rw [natsC_length, ok0.1]) rfl (natsC_one _ _) ?_
                intro w2210 z22_10 h22_10 X22_10
                replace hb12 := hb12.keep X22_10 (by simp; omega)
                replace hb11 := h22_10
                replace hS22 : Chg wd22 _ [] := (hS22.trans X22_10).mono (by intro k hk hlt; simp at hk; have := hb11lo; omega)
                refine s_nil ⟨.inr hS22, ?_⟩
                refine d_only 11 rfl (by kernel_rfl) ?_
                replace X7 : Chg w7 _ [b6] := (X7.trans hS22).mono (by intro k hk hlt; simp at hk ⊢ <;> first | omega | grind)
                replace hb6 := hb6.keep hS22 (by simp)
                replace hR0 := hR0.keep0 hS22
                replace hR1 := hR1.keep0 hS22
                refine s_storeAll ty25 rfl rfl rfl hb12 (by rw [natsC_length, ok1.1]) rfl (natsC_one _ _) ?_
                intro w2211 z22_11 h22_11 X22_11
                replace X7 : Chg w7 _ [b6] := (X7.trans X22_11).mono (by intro k hk hlt; simp at hk ⊢ <;> first | omega | grind)
                replace hb11 := hb11.keep X22_11 (by simp; omega)
                replace hb12 := h22_11
                refine s_nil ⟨.inl rfl, ?_⟩
                refine d_done (by kernel_rfl) ?_
                exact hJ112 b11 b12 _ ⟨X7, hb11, hb12⟩ _ ⟨rfl, rfl, rfl, rfl, trivial⟩
          · refine s_alloc ty25 rfl rfl ?_
            intro b11 w228 e22_8 z22_8 hb11 X22_8
            have hb11lo : wd22.heap.size ≤ b11 := by have := hS22.size; omega
            replace hS22 : Chg wd22 _ [] := hS22.trans X22_8
            refine s_nil ⟨.inr hS22, ?_⟩
            refine d_two 3 9 rfl rfl (by kernel_rfl) ?_ ?_
            · refine s_callf (xs := [.tmp 72, .tmp 73]) rfl rfl Tryd.func17 rfl (by kernel_rfl) rfl (side0_calls B s0 as0 _ cs0 k _ ((hG.keep X7 (by simp; omega)).keep hS22 (by simp)) (by have := hS22.size; omega) hw0 (hR0.keep0 hS22) (by omega)) ?_
              rintro _ w223 ⟨rfl, X22_3⟩
              replace hb11 := hb11.keep X22_3 (by simp)
              have zs22_3 := X22_3.size
              rw [← hr0]
              replace hS22 : Chg wd22 _ [] := hS22.trans X22_3
              refine s_nil ⟨.inr hS22, ?_⟩
              refine d_two 7 9 rfl rfl (by kernel_rfl) ?_ ?_
              · refine s_callf (xs := [.tmp 76, .tmp 77]) rfl rfl Tryd.func17 rfl (by kernel_rfl) rfl (side0_calls B s1 as1 _ cs1 k _ ((hG.keep X7 (by simp; omega)).keep hS22 (by simp)) (by have := hS22.size; omega) hw1 (hR1.keep0 hS22) (by omega)) ?_
                rintro _ w227 ⟨rfl, X22_7⟩
                replace hb11 := hb11.keep X22_7 (by simp)
                have zs22_7 := X22_7.size
                rw [← hr1]
                replace hS22 : Chg wd22 _ [] := hS22.trans X22_7
                refine s_nil ⟨.inr hS22, ?_⟩
                refine d_only 9 rfl (by kernel_rfl) ?_
                refine s_alloc ty25 rfl rfl ?_
                intro b12 w229 e22_9 z22_9 hb12 X22_9
                have s22_9_hb11 := hb11.lt
                replace hb11 := hb11.keep X22_9 (by simp)
                replace hS22 : Chg wd22 _ [] := hS22.trans X22_9
                refine s_nil ⟨.inr hS22, ?_⟩
                refine d_only 10 rfl (by kernel_rfl) ?_
                refine s_storeAll ty25 rfl rfl rfl hb11 (by rw [natsC_length, ok0.1]) rfl (natsC_one _ _) ?_
                intro w2210 z22_10 h22_10 X22_10
                replace hb12 := hb12.keep X22_10 (by simp; omega)
                replace hb11 := h22_10
                replace hS22 : Chg wd22 _ [] := (hS22.trans X22_10).mono (by intro k hk hlt; simp at hk; have := hb11lo; omega)
                refine s_nil ⟨.inr hS22, ?_⟩
                refine d_only 11 rfl (by kernel_rfl) ?_
                replace X7 : Chg w7 _ [b6] := (X7.trans hS22).mono (by intro k hk hlt; simp at hk ⊢ <;> first | omega | grind)
                replace hb6 := hb6.keep hS22 (by simp)
                replace hR0 := hR0.keep0 hS22
                replace hR1 := hR1.keep0 hS22
                refine s_storeAll ty25 rfl rfl rfl hb12 (by rw [natsC_length, ok1.1]) rfl (natsC_one _ _) ?_
                intro w2211 z22_11 h22_11 X22_11
                replace X7 : Chg w7 _ [b6] := (X7.trans X22_11).mono (by intro k hk hlt; simp at hk ⊢ <;> first | omega | grind)
                replace hb11 := hb11.keep X22_11 (by simp; omega)
                replace hb12 := h22_11
                refine s_nil ⟨.inl rfl, ?_⟩
                refine d_done (by kernel_rfl) ?_
                exact hJ112 b11 b12 _ ⟨X7, hb11, hb12⟩ _ ⟨rfl, rfl, rfl, rfl, trivial⟩
              · refine s_alloc ty25 rfl rfl ?_
                intro b12 w229 e22_9 z22_9 hb12 X22_9
                have s22_9_hb11 := hb11.lt
                replace hb11 := hb11.keep X22_9 (by simp)
                replace hS22 : Chg wd22 _ [] := hS22.trans X22_9
                refine s_nil ⟨.inr hS22, ?_⟩
                refine d_only 7 rfl (by kernel_rfl) ?_
                refine s_callf (xs := [.tmp 76, .tmp 77]) rfl rfl Tryd.func17 rfl (by kernel_rfl) rfl (side0_calls B s1 as1 _ cs1 k _ ((hG.keep X7 (by simp; omega)).keep hS22 (by simp)) (by have := hS22.size; omega) hw1 (hR1.keep0 hS22) (by omega)) ?_
                rintro _ w227 ⟨rfl, X22_7⟩
                replace hb11 := hb11.keep X22_7 (by simp)
                replace hb12 := hb12.keep X22_7 (by simp)
                have zs22_7 := X22_7.size
                rw [← hr1]
                replace hS22 : Chg wd22 _ [] := hS22.trans X22_7
                refine s_nil ⟨.inr hS22, ?_⟩
                refine d_only 10 rfl (by kernel_rfl) ?_
                refine s_storeAll ty25 rfl rfl rfl hb11 (by rw [natsC_length, ok0.1]) rfl (natsC_one _ _) ?_
                intro w2210 z22_10 h22_10 X22_10
                replace hb12 := hb12.keep X22_10 (by simp; omega)
                replace hb11 := h22_10
                replace hS22 : Chg wd22 _ [] := (hS22.trans X22_10).mono (by intro k hk hlt; simp at hk; have := hb11lo; omega)
                refine s_nil ⟨.inr hS22, ?_⟩
                refine d_only 11 rfl (by kernel_rfl) ?_
                replace X7 : Chg w7 _ [b6] := (X7.trans hS22).mono (by intro k hk hlt; simp at hk ⊢ <;> first | omega | grind)
                replace hb6 := hb6.keep hS22 (by simp)
                replace hR0 := hR0.keep0 hS22
                replace hR1 := hR1.keep0 hS22
                refine s_storeAll ty25 rfl rfl rfl hb12 (by rw [natsC_length, ok1.1]) rfl (natsC_one _ _) ?_
                intro w2211 z22_11 h22_11 X22_11
                replace X7 : Chg w7 _ [b6] := (X7.trans X22_11).mono (by intro k hk hlt; simp at hk ⊢ <;> first | omega | grind)
                replace hb11 := hb11.keep X22_11 (by simp; omega)
                replace hb12 := h22_11
                refine s_nil ⟨.inl rfl, ?_⟩
                refine d_done (by kernel_rfl) ?_
                exact hJ112 b11 b12 _ ⟨X7, hb11, hb12⟩ _ ⟨rfl, rfl, rfl, rfl, trivial⟩
            · refine s_alloc ty25 rfl rfl ?_
              intro b12 w229 e22_9 z22_9 hb12 X22_9
              have s22_9_hb11 := hb11.lt
              replace hb11 := hb11.keep X22_9 (by simp)
              replace hS22 : Chg wd22 _ [] := hS22.trans X22_9
              refine s_nil ⟨.inr hS22, ?_⟩
              refine d_only 3 rfl (by kernel_rfl) ?_
              refine s_callf (xs := [.tmp 72, .tmp 73]) rfl rfl Tryd.func17 rfl (by kernel_rfl) rfl (side0_calls B s0 as0 _ cs0 k _ ((hG.keep X7 (by simp; omega)).keep hS22 (by simp)) (by have := hS22.size; omega) hw0 (hR0.keep0 hS22) (by omega)) ?_
              rintro _ w223 ⟨rfl, X22_3⟩
              replace hb11 := hb11.keep X22_3 (by simp)
              replace hb12 := hb12.keep X22_3 (by simp)
              have zs22_3 := X22_3.size
              rw [← hr0]
              replace hS22 : Chg wd22 _ [] := hS22.trans X22_3
              refine s_nil ⟨.inr hS22, ?_⟩
              refine d_only 7 rfl (by kernel_rfl) ?_
              refine s_callf (xs := [.tmp 76, .tmp 77]) rfl rfl Tryd.func17 rfl (by kernel_rfl) rfl (side0_calls B s1 as1 _ cs1 k _ ((hG.keep X7 (by simp; omega)).keep hS22 (by simp)) (by have := hS22.size; omega) hw1 (hR1.keep0 hS22) (by omega)) ?_
              rintro _ w227 ⟨rfl, X22_7⟩
              replace hb11 := hb11.keep X22_7 (by simp)
              replace hb12 := hb12.keep X22_7 (by simp)
              have zs22_7 := X22_7.size
              rw [← hr1]
              replace hS22 : Chg wd22 _ [] := hS22.trans X22_7
              refine s_nil ⟨.inr hS22, ?_⟩
              refine d_only 10 rfl (by kernel_rfl) ?_
              refine s_storeAll ty25 rfl rfl rfl hb11 (by rw [natsC_length, ok0.1]) rfl (natsC_one _ _) ?_
              intro w2210 z22_10 h22_10 X22_10
              replace hb12 := hb12.keep X22_10 (by simp; omega)
              replace hb11 := h22_10
              replace hS22 : Chg wd22 _ [] := (hS22.trans X22_10).mono (by intro k hk hlt; simp at hk; have := hb11lo; omega)
              refine s_nil ⟨.inr hS22, ?_⟩
              refine d_only 11 rfl (by kernel_rfl) ?_
              replace X7 : Chg w7 _ [b6] := (X7.trans hS22).mono (by intro k hk hlt; simp at hk ⊢ <;> first | omega | grind)
              replace hb6 := hb6.keep hS22 (by simp)
              replace hR0 := hR0.keep0 hS22
              replace hR1 := hR1.keep0 hS22
              refine s_storeAll ty25 rfl rfl rfl hb12 (by rw [natsC_length, ok1.1]) rfl (natsC_one _ _) ?_
              intro w2211 z22_11 h22_11 X22_11
              replace X7 : Chg w7 _ [b6] := (X7.trans X22_11).mono (by intro k hk hlt; simp at hk ⊢ <;> first | omega | grind)
              replace hb11 := hb11.keep X22_11 (by simp; omega)
              replace hb12 := h22_11
              refine s_nil ⟨.inl rfl, ?_⟩
              refine d_done (by kernel_rfl) ?_
              exact hJ112 b11 b12 _ ⟨X7, hb11, hb12⟩ _ ⟨rfl, rfl, rfl, rfl, trivial⟩
          · refine s_alloc ty25 rfl rfl ?_
            intro b12 w229 e22_9 z22_9 hb12 X22_9
            replace hS22 : Chg wd22 _ [] := hS22.trans X22_9
            refine s_nil ⟨.inr hS22, ?_⟩
            refine d_two 3 8 rfl rfl (by kernel_rfl) ?_ ?_
            · refine s_callf (xs := [.tmp 72, .tmp 73]) rfl rfl Tryd.func17 rfl (by kernel_rfl) rfl (side0_calls B s0 as0 _ cs0 k _ ((hG.keep X7 (by simp; omega)).keep hS22 (by simp)) (by have := hS22.size; omega) hw0 (hR0.keep0 hS22) (by omega)) ?_
              rintro _ w223 ⟨rfl, X22_3⟩
              replace hb12 := hb12.keep X22_3 (by simp)
              have zs22_3 := X22_3.size
              rw [← hr0]
              replace hS22 : Chg wd22 _ [] := hS22.trans X22_3
              refine s_nil ⟨.inr hS22, ?_⟩
              refine d_two 7 8 rfl rfl (by kernel_rfl) ?_ ?_
              · refine s_callf (xs := [.tmp 76, .tmp 77]) rfl rfl Tryd.func17 rfl (by kernel_rfl) rfl (side0_calls B s1 as1 _ cs1 k _ ((hG.keep X7 (by simp; omega)).keep hS22 (by simp)) (by have := hS22.size; omega) hw1 (hR1.keep0 hS22) (by omega)) ?_
                rintro _ w227 ⟨rfl, X22_7⟩
                replace hb12 := hb12.keep X22_7 (by simp)
                have zs22_7 := X22_7.size
                rw [← hr1]
                replace hS22 : Chg wd22 _ [] := hS22.trans X22_7
                refine s_nil ⟨.inr hS22, ?_⟩
                refine d_only 8 rfl (by kernel_rfl) ?_
                refine s_alloc ty25 rfl rfl ?_
                intro b11 w228 e22_8 z22_8 hb11 X22_8
                have s22_8_hb12 := hb12.lt
                replace hb12 := hb12.keep X22_8 (by simp)
                have hb11lo : wd22.heap.size ≤ b11 := by have := hS22.size; omega
                replace hS22 : Chg wd22 _ [] := hS22.trans X22_8
                refine s_nil ⟨.inr hS22, ?_⟩
                refine d_only 10 rfl (by kernel_rfl) ?_
                refine s_storeAll ty25 rfl rfl rfl hb11 (by rw [natsC_length, ok0.1]) rfl (natsC_one _ _) ?_
                intro w2210 z22_10 h22_10 X22_10
                replace hb12 := hb12.keep X22_10 (by simp; omega)
                replace hb11 := h22_10
                replace hS22 : Chg wd22 _ [] := (hS22.trans X22_10).mono (by intro k hk hlt; simp at hk; have := hb11lo; omega)
                refine s_nil ⟨.inr hS22, ?_⟩
                refine d_only 11 rfl (by kernel_rfl) ?_
                replace X7 : Chg w7 _ [b6] := (X7.trans hS22).mono (by intro k hk hlt; simp at hk ⊢ <;> first | omega | grind)
                replace hb6 := hb6.keep hS22 (by simp)
                replace hR0 := hR0.keep0 hS22
                replace hR1 := hR1.keep0 hS22
                refine s_storeAll ty25 rfl rfl rfl hb12 (by rw [natsC_length, ok1.1]) rfl (natsC_one _ _) ?_
                intro w2211 z22_11 h22_11 X22_11
                replace X7 : Chg w7 _ [b6] := (X7.trans X22_11).mono (by intro k hk hlt; simp at hk ⊢ <;> first | omega | grind)
                replace hb11 := hb11.keep X22_11 (by simp; omega)
                replace hb12 := h22_11
                refine s_nil ⟨.inl rfl, ?_⟩
                refine d_done (by kernel_rfl) ?_
                exact hJ112 b11 b12 _ ⟨X7, hb11, hb12⟩ _ ⟨rfl, rfl, rfl, rfl, trivial⟩
              · refine s_alloc ty25 rfl rfl ?_
                intro b11 w228 e22_8 z22_8 hb11 X22_8
                have s22_8_hb12 := hb12.lt
                replace hb12 := hb12.keep X22_8 (by simp)
                have hb11lo : wd22.heap.size ≤ b11 := by have := hS22.size; omega
                replace hS22 : Chg wd22 _ [] := hS22.trans X22_8
                refine s_nil ⟨.inr hS22, ?_⟩
                refine d_only 7 rfl (by kernel_rfl) ?_
                refine s_callf (xs := [.tmp 76, .tmp 77]) rfl rfl Tryd.func17 rfl (by kernel_rfl) rfl (side0_calls B s1 as1 _ cs1 k _ ((hG.keep X7 (by simp; omega)).keep hS22 (by simp)) (by have := hS22.size; omega) hw1 (hR1.keep0 hS22) (by omega)) ?_
                rintro _ w227 ⟨rfl, X22_7⟩
                replace hb12 := hb12.keep X22_7 (by simp)
                replace hb11 := hb11.keep X22_7 (by simp)
                have zs22_7 := X22_7.size
                rw [← hr1]
                replace hS22 : Chg wd22 _ [] := hS22.trans X22_7
                refine s_nil ⟨.inr hS22, ?_⟩
                refine d_only 10 rfl (by kernel_rfl) ?_
                refine s_storeAll ty25 rfl rfl rfl hb11 (by rw [natsC_length, ok0.1]) rfl (natsC_one _ _) ?_
                intro w2210 z22_10 h22_10 X22_10
                replace hb12 := hb12.keep X22_10 (by simp; omega)
                replace hb11 := h22_10
                replace hS22 : Chg wd22 _ [] := (hS22.trans X22_10).mono (by intro k hk hlt; simp at hk; have := hb11lo; omega)
                refine s_nil ⟨.inr hS22, ?_⟩
                refine d_only 11 rfl (by kernel_rfl) ?_
                replace X7 : Chg w7 _ [b6] := (X7.trans hS22).mono (by intro k hk hlt; simp at hk ⊢ <;> first | omega | grind)
                replace hb6 := hb6.keep hS22 (by simp)
                replace hR0 := hR0.keep0 hS22
                replace hR1 := hR1.keep0 hS22
                refine s_storeAll ty25 rfl rfl rfl hb12 (by rw [natsC_length, ok1.1]) rfl (natsC_one _ _) ?_
                intro w2211 z22_11 h22_11 X22_11
                replace X7 : Chg w7 _ [b6] := (X7.trans X22_11).mono (by intro k hk hlt; simp at hk ⊢ <;> first | omega | grind)
                replace hb11 := hb11.keep X22_11 (by simp; omega)
                replace hb12 := h22_11
                refine s_nil ⟨.inl rfl, ?_⟩
                refine d_done (by kernel_rfl) ?_
                exact hJ112 b11 b12 _ ⟨X7, hb11, hb12⟩ _ ⟨rfl, rfl, rfl, rfl, trivial⟩
            · refine s_alloc ty25 rfl rfl ?_
              intro b11 w228 e22_8 z22_8 hb11 X22_8
              have s22_8_hb12 := hb12.lt
              replace hb12 := hb12.keep X22_8 (by simp)
              have hb11lo : wd22.heap.size ≤ b11 := by have := hS22.size; omega
              replace hS22 : Chg wd22 _ [] := hS22.trans X22_8
              refine s_nil ⟨.inr hS22, ?_⟩
              refine d_only 3 rfl (by kernel_rfl) ?_
              refine s_callf (xs := [.tmp 72, .tmp 73]) rfl rfl Tryd.func17 rfl (by kernel_rfl) rfl (side0_calls B s0 as0 _ cs0 k _ ((hG.keep X7 (by simp; omega)).keep hS22 (by simp)) (by have := hS22.size; omega) hw0 (hR0.keep0 hS22) (by omega)) ?_
              rintro _ w223 ⟨rfl, X22_3⟩
              replace hb12 := hb12.keep X22_3 (by simp)
              replace hb11 := hb11.keep X22_3 (by simp)
              have zs22_3 := X22_3.size
              rw [← hr0]
              replace hS22 : Chg wd22 _ [] := hS22.trans X22_3
              refine s_nil ⟨.inr hS22, ?_⟩
              refine d_only 7 rfl (by kernel_rfl) ?_
              refine s_callf (xs := [.tmp 76, .tmp 77]) rfl rfl Tryd.func17 rfl (by kernel_rfl) rfl (side0_calls B s1 as1 _ cs1 k _ ((hG.keep X7 (by simp; omega)).keep hS22 (by simp)) (by have := hS22.size; omega) hw1 (hR1.keep0 hS22) (by omega)) ?_
              rintro _ w227 ⟨rfl, X22_7⟩
              replace hb12 := hb12.keep X22_7 (by simp)
              replace hb11 := hb11.keep X22_7 (by simp)
              have zs22_7 := X22_7.size
              rw [← hr1]
              replace hS22 : Chg wd22 _ [] := hS22.trans X22_7
              refine s_nil ⟨.inr hS22, ?_⟩
              refine d_only 10 rfl (by kernel_rfl) ?_
              refine s_storeAll ty25 rfl rfl rfl hb11 (by rw [natsC_length, ok0.1]) rfl (natsC_one _ _) ?_
              intro w2210 z22_10 h22_10 X22_10
              replace hb12 := hb12.keep X22_10 (by simp; omega)
              replace hb11 := h22_10
              replace hS22 : Chg wd22 _ [] := (hS22.trans X22_10).mono (by intro k hk hlt; simp at hk; have := hb11lo; omega)
              refine s_nil ⟨.inr hS22, ?_⟩
              refine d_only 11 rfl (by kernel_rfl) ?_
              replace X7 : Chg w7 _ [b6] := (X7.trans hS22).mono (by intro k hk hlt; simp at hk ⊢ <;> first | omega | grind)
              replace hb6 := hb6.keep hS22 (by simp)
              replace hR0 := hR0.keep0 hS22
              replace hR1 := hR1.keep0 hS22
              refine s_storeAll ty25 rfl rfl rfl hb12 (by rw [natsC_length, ok1.1]) rfl (natsC_one _ _) ?_
              intro w2211 z22_11 h22_11 X22_11
              replace X7 : Chg w7 _ [b6] := (X7.trans X22_11).mono (by intro k hk hlt; simp at hk ⊢ <;> first | omega | grind)
              replace hb11 := hb11.keep X22_11 (by simp; omega)
              replace hb12 := h22_11
              refine s_nil ⟨.inl rfl, ?_⟩
              refine d_done (by kernel_rfl) ?_
              exact hJ112 b11 b12 _ ⟨X7, hb11, hb12⟩ _ ⟨rfl, rfl, rfl, rfl, trivial⟩
  · refine c_seqreg (fun K8 hK8 => ?_)
    refine s_val rfl rfl (runs_df (runs_move rfl) h20) ?_
    refine s_val rfl rfl (runs_not rfl) ?_
    refine s_val rfl rfl (runs_move rfl) ?_
    refine s_skip rfl rfl ?_
    refine s_skip rfl rfl ?_
    refine s_skip rfl rfl ?_
    refine s_val rfl rfl (runs_pickt rfl rfl) ?_
    refine s_nil ?_
    refine hK8 _ _ ?_
    refine c_true rfl ?_
    refine c_seqreg (fun K183 hK183 => ?_)
    refine s_val rfl rfl (runs_assign rfl) ?_
    refine s_nil ?_
    refine hK183 _ _ ?_
    refine c_ret ?_
    refine hret _ _ ?_
    exact ends1 (reads_tmp rfl) ⟨rfl, hX⟩
end Go.Proofs.YtmmijecookbajaaDoor
