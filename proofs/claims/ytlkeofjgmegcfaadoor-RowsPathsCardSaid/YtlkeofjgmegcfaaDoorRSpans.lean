/- Part RSpans of the proofs on this seat. Conditions: none beyond those in the theorems. By an AI agent. -/
import Derived.Test.YtlkeofjgmegcfaaDoorRow4
namespace Go.Proofs.YtlkeofjgmegcfaaDoor
open Go Go.RowKit

/-- How many of the first j rows have a time below fr. -/
def Sp.below (rs : List Rw) (fr : Int) (j : Nat) : Nat := ((rs.take j).filter fun r => decide (r.time < fr)).length
/-- .. and of the others, no later than to, no more than lim. -/
def Sp.within (rs : List Rw) (fr to lim : Int) : Nat → Nat
  | 0 => 0
  | j + 1 => match rs[j]? with
    | some r => if r.time < fr then within rs fr to lim j else if r.time ≤ to ∧ (within rs fr to lim j : Int) < lim then within rs fr to lim j + 1 else within rs fr to lim j
    | none => within rs fr to lim j
theorem below_succ (rs : List Rw) (fr : Int) {j : Nat} {r : Rw} (h : rs[j]? = some r) : Sp.below rs fr (j + 1) = Sp.below rs fr j + if r.time < fr then 1 else 0 := by
  simp only [Sp.below, List.take_add_one, h, Option.toList_some, List.filter_append, List.length_append]
  by_cases hr : r.time < fr <;> simp [hr]
theorem within_succ (rs : List Rw) (fr to lim : Int) {j : Nat} {r : Rw} (h : rs[j]? = some r) : Sp.within rs fr to lim (j + 1) = if r.time < fr then Sp.within rs fr to lim j else if r.time ≤ to ∧ (Sp.within rs fr to lim j : Int) < lim then Sp.within rs fr to lim j + 1 else Sp.within rs fr to lim j := by
  simp only [Sp.within, h]
theorem below_le (rs : List Rw) (fr : Int) (j : Nat) : Sp.below rs fr j ≤ j := by
  unfold Sp.below
  have := List.length_filter_le (fun r : Rw => decide (r.time < fr)) (rs.take j)
  rw [List.length_take] at this; omega
theorem within_le (rs : List Rw) (fr to lim : Int) (j : Nat) : Sp.within rs fr to lim j ≤ j := by
  induction j with
  | zero => simp [Sp.within]
  | succ j ih =>
    unfold Sp.within
    split
    · split
      · omega
      · split <;> omega
    · omega
/-- Times that rise. -/
def Rising (rs : List Rw) : Prop := ∀ (i j : Nat) (r s : Rw), i < j → rs[i]? = some r → rs[j]? = some s → r.time < s.time
theorem mkR_rising (ls : List Rw) : Rising (Sp.mkR ls) := by
  intro i j r s hij hr hs
  have hj : j < ls.length := by have := (List.getElem?_eq_some_iff.1 hs).1; rwa [mkR_len] at this
  rw [mkR_time ls hr, mkR_time ls hs]
  have := tAt_mono ls (j + 1) (i + 1) (by omega) (by omega)
  omega
theorem spans_law {rs : List Rw} {fr to lim : Int} {i k : Nat} (hr : Rising rs) (h : SpanIs rs fr to lim i k) : Sp.below rs fr rs.length = i ∧ Sp.within rs fr to lim rs.length = k := by
  have hb : ∀ j, j ≤ rs.length → Sp.below rs fr j = min j i := by
    intro j
    induction j with
    | zero => intro _; simp [Sp.below]
    | succ j ih =>
      intro hj
      have hg : rs[j]? = some rs[j] := List.getElem?_eq_getElem (by omega)
      rw [below_succ rs fr hg, ih (by omega)]
      by_cases hji : j < i
      · rw [if_pos (h.low j hji _ hg)]; omega
      · rw [if_neg, Nat.add_zero]
        · omega
        · have hgi : rs[i]? = some (rs[i]'(by omega)) := List.getElem?_eq_getElem (by omega)
          have h1 := h.at_ _ hgi
          by_cases e : i = j
          · subst e; exact h1
          · have := hr i j _ _ (by omega) hgi hg; omega
  have hw : ∀ j, j ≤ rs.length → Sp.within rs fr to lim j = min (j - i) k := by
    intro j
    induction j with
    | zero => intro _; simp [Sp.within]
    | succ j ih =>
      intro hj
      have hg : rs[j]? = some rs[j] := List.getElem?_eq_getElem (by omega)
      rw [within_succ rs fr to lim hg, ih (by omega)]
      by_cases hji : j < i
      · rw [if_pos (h.low j hji _ hg)]; omega
      · have hgi : rs[i]? = some (rs[i]'(by omega)) := List.getElem?_eq_getElem (by omega)
        have h1 := h.at_ _ hgi
        have h2 : ¬ (rs[j]).time < fr := by
          by_cases e : i = j
          · subst e; exact h1
          · have := hr i j _ _ (by omega) hgi hg; omega
        rw [if_neg h2]
        by_cases hjk : j - i < k
        · have h3 := h.in_ (j - i) hjk
          have h4 := h3.1 _ (by rw [show i + (j - i) = j by omega]; exact hg)
          rw [if_pos ⟨h4, by rw [Nat.min_eq_left (by omega)]; exact h3.2⟩]; omega
        · rw [if_neg]
          · omega
          · rintro ⟨h3, h4⟩
            rw [Nat.min_eq_right (by omega)] at h4
            by_cases e : i + k = j
            · have := h.end_ _ (by rw [e]; exact hg)
              exact this ⟨h3, h4⟩
            · have hgk : rs[i + k]? = some (rs[i + k]'(by omega)) := List.getElem?_eq_getElem (by omega)
              have h5 := h.end_ _ hgk
              have h6 := hr (i + k) j _ _ (by omega) hgk hg
              exact h5 ⟨by omega, h4⟩
  have hi := h.i_le
  have hk := h.k_le
  exact ⟨by rw [hb _ (Nat.le_refl _)]; omega, by rw [hw _ (Nat.le_refl _)]; omega⟩

set_option maxHeartbeats 2000000 in
theorem spans_calls (B : Nat) (ls : List Rw) (a : Option Addr) (n c : Nat) (zs : List Int) (lim : Int) (w : World) (hG0 : GH B w) (hBw : B ≤ w.heap.size) (hR : RowsR w a n c ls) (hzs : zs.length = 2) (hzw : ∀ z ∈ zs, -9223372036854775808 ≤ z ∧ z ≤ 9223372036854775807) :
    CallsR Tryd.prog 3 #[.slice a n c, .agg (intsC .i64 zs).toArray, .int .i64 lim] w fun v w' => v = .bool true ∧ Chg w w' [] := by
  obtain ⟨fr, to, rfl⟩ : ∃ z0 z1, zs = [z0, z1] := by
    match zs, hzs with
    | [z0, z1], _ => exact ⟨_, _, rfl⟩
  have hX : Chg w w [] := Chg.refl _ _
  have hG := hG0
  have hlen := hR.len
  refine f_enter (l := [.slice a n c, .agg (intsC .i64 [fr, to]).toArray, .int .i64 lim]) Tryd.func3 rfl rfl rfl rfl ?_
  intro Qf hnrm hret
  refine c_seqreg (fun K1 hK1 => ?_)
  refine s_box rfl rfl rfl ?_
  intro b4 w0 e0_0 z0_0 hb4 X0_0
  have s0_0_hX := hX.size
  replace hG := hG.keep X0_0 (by simp)
  replace hX : Chg w _ [] := (hX.trans X0_0).mono (by intro k hk hlt; simp at hk ⊢ <;> first | omega | grind)
  replace hb4 : Blk w0 b4 ([.int .i64 fr, .int .i64 to]) 23 := hb4
  have hl4 := hb4.lt
  refine s_val rfl rfl (runs_assign rfl) ?_
  refine s_nil ?_
  refine hK1 _ _ ?_
  refine c_seq (fun K3 hK3 => ?_)
  refine c_seqreg (fun K4 hK4 => ?_)
  refine s_callf (xs := []) rfl rfl Tryd.func9 rfl (by kernel_rfl) rfl (fitR_calls B _ hG (by omega)) ?_
  rintro _ w1 ⟨rfl, X1_0, hG'⟩
  replace hG := hG.keep X1_0 (by simp)
  replace hX : Chg w _ [] := (hX.trans X1_0).mono (by intro k hk hlt; simp at hk ⊢ <;> first | omega | grind)
  replace hb4 := hb4.keep X1_0 (by simp)
  have zs1_0 := X1_0.size
  refine s_val rfl rfl (runs_not rfl) ?_
  refine s_nil ?_
  refine hK4 _ _ ?_
  refine c_false rfl ?_
  refine c_skip ?_
  refine hK3 _ _ ?_
  refine c_seq (fun K6 hK6 => ?_)
  refine c_seqreg (fun K7 hK7 => ?_)
  refine s_val rfl rfl (runs_move rfl) ?_
  refine s_val rfl rfl (runs_len_slice Tryd.underlying22 rfl) ?_
  refine s_val rfl rfl (runs_gt rfl rfl) ?_
  refine s_nil ?_
  refine hK7 _ _ ?_
  refine c_dec rfl (fun h40 => ?_) (fun h40 => ?_)
  · refine c_seqreg (fun K8 hK8 => ?_)
    refine s_val rfl rfl (runs_assign rfl) ?_
    refine s_nil ?_
    refine hK8 _ _ ?_
    refine c_ret ?_
    refine hret _ _ ?_
    exact ends1 (reads_tmp rfl) ⟨rfl, hX⟩
  · refine c_skip ?_
    refine hK6 _ _ ?_
    refine c_seqreg (fun K9 hK9 => ?_)
    refine s_val rfl rfl (runs_move rfl) ?_
    refine s_callf (xs := [.tmp 19]) rfl rfl Tryd.func10 rfl (by kernel_rfl) rfl (list_calls B ls _ _ _ _ hG (by omega) (hR.grow hX) (by omega)) ?_
    rintro _ w5 ⟨bx, v1, v2, rfl, hL, X5_1, hG5⟩
    replace hG := hG.keep X5_1 (by simp)
    replace hX : Chg w _ [] := (hX.trans X5_1).mono (by intro k hk hlt; simp at hk ⊢ <;> first | omega | grind)
    replace hb4 := hb4.keep X5_1 (by simp)
    have zs5_1 := X5_1.size
    have hlsl : (Sp.mkR ls).length = n := by rw [mkR_len, hlen]
    have hris := mkR_rising ls
    obtain ⟨rs, hrs⟩ : ∃ rs, rs = Sp.mkR ls := ⟨_, rfl⟩
    rw [← hrs] at hL hlsl hris
    obtain ⟨hxh, hhx⟩ : ∃ k, k = w5.heap.size := ⟨_, rfl⟩
    rw [← hhx] at hL
    refine s_val rfl rfl (runs_assign rfl) ?_
    refine s_nil ?_
    refine hK9 _ _ ?_
    refine c_seqreg (fun K11 hK11 => ?_)
    refine s_val rfl rfl (runs_move rfl) ?_
    refine s_val rfl rfl (runs_index_array (0) Tryd.underlying23 ty3 rfl rfl (by omega) (by omega)) ?_
    refine s_val rfl rfl (runs_load1 ty3 rfl (hb4.c1 (j := 0) rfl)) ?_
    refine s_val rfl rfl (runs_index_array (1) Tryd.underlying23 ty3 rfl rfl (by omega) (by omega)) ?_
    refine s_val rfl rfl (runs_load1 ty3 rfl (hb4.c1 (j := 1) rfl)) ?_
    refine s_val rfl rfl (runs_move rfl) ?_
    refine s_callf (xs := [.tmp 22, .tmp 24, .tmp 26, .tmp 27]) rfl rfl Tryd.func11 rfl (by kernel_rfl) rfl (span_calls hL fr to lim (by omega)) ?_
    rintro _ w6 ⟨si, sk, rfl, hsp, rfl⟩
    obtain ⟨hbl, hwi⟩ := spans_law hris hsp
    refine s_val rfl rfl (runs_move rfl) ?_
    refine s_val rfl rfl (runs_extract rfl rfl) ?_
    refine s_val rfl rfl (runs_extract rfl rfl) ?_
    refine s_val rfl rfl (runs_assign rfl) ?_
    refine s_val rfl rfl (runs_assign rfl) ?_
    refine s_nil ?_
    refine hK11 _ _ ?_
    refine c_seqreg (fun K13 hK13 => ?_)
    refine s_val rfl rfl (runs_assign rfl) ?_
    refine s_val rfl rfl (runs_assign rfl) ?_
    refine s_nil ?_
    refine hK13 _ _ ?_
    refine c_seq (fun K14 hK14 => ?_)
    refine c_seqreg (fun K15 hK15 => ?_)
    refine s_val rfl rfl (runs_move rfl) ?_
    refine s_callf (xs := [.tmp 31]) rfl rfl Tryd.func12 rfl (by kernel_rfl) rfl (lsLen_calls hL) ?_
    rintro _ w8 ⟨rfl, X8_1⟩
    replace hG := hG.keep X8_1 (by simp)
    replace hX : Chg w _ [] := (hX.trans X8_1).mono (by intro k hk hlt; simp at hk ⊢ <;> first | omega | grind)
    replace hb4 := hb4.keep X8_1 (by simp)
    replace hL := hL.keep X8_1 (by simp)
    have zs8_1 := X8_1.size
    rw [hlsl]
    refine s_val rfl rfl (runs_move rfl) ?_
    refine s_nil ?_
    have hzX8 := hX.size
    refine hK15 _ _ ?_
    refine c_block ?_
    refine c_loop (σ := Nat) (fun j => [(33, .int .i64 (j : Int)), (32, .int .i64 (n : Int)), (7, .pointer (some ⟨bx, 0, none⟩)), (4, .pointer (some ⟨b4, 0, none⟩)), (2, .int .i64 lim), (10, .int .i64 (Sp.below rs fr j : Int)), (11, .int .i64 (Sp.within rs fr to lim j : Int)), (8, .int .i64 (si : Int)), (9, .int .i64 (sk : Int)), (0, .slice a n c)]) (fun j w' => j ≤ n ∧ LsV w' w1.heap.size hxh bx v1 v2 rs ∧ Blk w' b4 [.int .i64 fr, .int .i64 to] 23 ∧ Chg w w' []) (fun j => n - j) 0 ⟨rfl, rfl, rfl, rfl, rfl, rfl, rfl, rfl, rfl, rfl, trivial⟩ ⟨Nat.zero_le _, hL, hb4, hX⟩ ?_
    rintro j wj ⟨hj, hL, hb4, hX⟩
    have hzX := hX.size
    have hble := below_le rs fr j
    have hwle := within_le rs fr to lim j
    refine c_seqreg (fun K17 hK17 => ?_)
    refine s_val rfl rfl (runs_lt rfl rfl) ?_
    refine s_nil ?_
    refine hK17 _ _ ?_
    refine c_seq (fun K18 hK18 => ?_)
    refine c_dec rfl (fun hjn => ?_) (fun hjn => ?_)
    · obtain ⟨r, hr⟩ : ∃ r, rs[j]? = some r := ⟨_, List.getElem?_eq_getElem (by omega)⟩
      refine c_skip ?_
      refine hK18 _ _ ?_
      refine c_seq (fun K19 hK19 => ?_)
      refine c_block ?_
      refine c_seqreg (fun K20 hK20 => ?_)
      refine s_val rfl rfl (runs_move rfl) ?_
      refine s_val rfl rfl (runs_assign rfl) ?_
      refine s_nil ?_
      refine hK20 _ _ ?_
      refine c_seqreg (fun K21 hK21 => ?_)
      refine s_val rfl rfl (runs_move rfl) ?_
      refine s_val rfl rfl (runs_move rfl) ?_
      refine s_callf (xs := [.tmp 36, .tmp 37]) rfl rfl Tryd.func13 rfl (by kernel_rfl) rfl (lsAt_calls hL j r hr) ?_
      rintro _ w11 ⟨rfl, X11_2⟩
      replace hX : Chg w _ [] := (hX.trans X11_2).mono (by intro k hk hlt; simp at hk ⊢ <;> first | omega | grind)
      replace hL := hL.keep X11_2 (by simp)
      replace hb4 := hb4.keep X11_2 (by simp)
      have zs11_2 := X11_2.size
      refine s_val rfl rfl (runs_fieldv (v := .int .i64 r.time) rfl (by kernel_rfl)) ?_
      refine s_val rfl rfl (runs_assign rfl) ?_
      refine s_nil ?_
      refine hK21 _ _ ?_
      refine c_seqreg (fun K23 hK23 => ?_)
      refine s_val rfl rfl (runs_move rfl) ?_
      refine s_val rfl rfl (runs_index_array (0) Tryd.underlying23 ty3 rfl rfl (by omega) (by omega)) ?_
      refine s_val rfl rfl (runs_load1 ty3 rfl (hb4.c1 (j := 0) rfl)) ?_
      refine s_val rfl rfl (runs_lt rfl rfl) ?_
      refine s_nil ?_
      refine hK23 _ _ ?_
      refine c_dec rfl (fun ht => ?_) (fun ht => ?_)
      · have hB1 : Sp.below rs fr (j + 1) = Sp.below rs fr j + 1 := by rw [below_succ rs fr hr, if_pos ht]
        have hW1 : Sp.within rs fr to lim (j + 1) = Sp.within rs fr to lim j := by rw [within_succ rs fr to lim hr, if_pos ht]
        refine c_reg ?_
        refine s_val rfl rfl (runs_move rfl) ?_
        refine s_val rfl rfl (runs_add64 rfl rfl (by omega)) ?_
        refine s_val rfl rfl (runs_assign rfl) ?_
        refine s_nil ?_
        refine hK19 _ _ ?_
        refine c_reg ?_
        refine s_val rfl rfl (runs_add64 rfl rfl (by omega)) ?_
        refine s_val rfl rfl (runs_move rfl) ?_
        refine s_nil ?_
        dsimp only [Post.setN]
        refine ⟨j + 1, ⟨rfl, rfl, rfl, rfl, rfl, ?_, ?_, rfl, rfl, rfl, trivial⟩, ⟨by omega, hL, hb4, hX⟩, by omega⟩
        · rw [hB1]; rfl
        · rw [hW1]; rfl
      · have hB1 : Sp.below rs fr (j + 1) = Sp.below rs fr j := by rw [below_succ rs fr hr, if_neg ht]; rfl
        rcases (show (r.time ≤ to ∧ (Sp.within rs fr to lim j : Int) < lim) ∨ (r.time ≤ to ∧ ¬ (Sp.within rs fr to lim j : Int) < lim) ∨ ¬ r.time ≤ to by omega) with ⟨h1, h2⟩ | ⟨h1, h2⟩ | h1
        · refine c_seqreg (fun K24 hK24 => ?_)
          refine s_val rfl rfl (runs_move rfl) ?_
          refine s_val rfl rfl (runs_index_array (1) Tryd.underlying23 ty3 rfl rfl (by omega) (by omega)) ?_
          refine s_val rfl rfl (runs_load1 ty3 rfl (hb4.c1 (j := 1) rfl)) ?_
          refine s_val rfl rfl (runs_dt (runs_le rfl rfl) h1) ?_
          refine s_val rfl rfl (runs_move rfl) ?_
          refine s_val rfl rfl (runs_move rfl) ?_
          refine s_val rfl rfl (runs_move rfl) ?_
          refine s_val rfl rfl (runs_dt (runs_lt rfl rfl) h2) ?_
          refine s_val rfl rfl (runs_pickt rfl rfl) ?_
          refine s_nil ?_
          have hW1 : Sp.within rs fr to lim (j + 1) = Sp.within rs fr to lim j + 1 := by rw [within_succ rs fr to lim hr, if_neg ht, if_pos ⟨h1, h2⟩]
          refine hK24 _ _ ?_
          refine c_true rfl ?_
          refine c_reg ?_
          refine s_val rfl rfl (runs_move rfl) ?_
          refine s_val rfl rfl (runs_add64 rfl rfl (by omega)) ?_
          refine s_val rfl rfl (runs_assign rfl) ?_
          refine s_nil ?_
          refine hK19 _ _ ?_
          refine c_reg ?_
          refine s_val rfl rfl (runs_add64 rfl rfl (by omega)) ?_
          refine s_val rfl rfl (runs_move rfl) ?_
          refine s_nil ?_
          dsimp only [Post.setN]
          refine ⟨j + 1, ⟨rfl, rfl, rfl, rfl, rfl, ?_, ?_, rfl, rfl, rfl, trivial⟩, ⟨by omega, hL, hb4, hX⟩, by omega⟩
          · rw [hB1]; rfl
          · rw [hW1]; rfl
        · refine c_seqreg (fun K24 hK24 => ?_)
          refine s_val rfl rfl (runs_move rfl) ?_
          refine s_val rfl rfl (runs_index_array (1) Tryd.underlying23 ty3 rfl rfl (by omega) (by omega)) ?_
          refine s_val rfl rfl (runs_load1 ty3 rfl (hb4.c1 (j := 1) rfl)) ?_
          refine s_val rfl rfl (runs_dt (runs_le rfl rfl) h1) ?_
          refine s_val rfl rfl (runs_move rfl) ?_
          refine s_val rfl rfl (runs_move rfl) ?_
          refine s_val rfl rfl (runs_move rfl) ?_
          refine s_val rfl rfl (runs_df (runs_lt rfl rfl) h2) ?_
          refine s_val rfl rfl (runs_pickt rfl rfl) ?_
          refine s_nil ?_
          have hW1 : Sp.within rs fr to lim (j + 1) = Sp.within rs fr to lim j := by rw [within_succ rs fr to lim hr, if_neg ht, if_neg (fun h => h2 h.2)]
          refine hK24 _ _ ?_
          refine c_false rfl ?_
          refine c_skip ?_
          refine hK19 _ _ ?_
          refine c_reg ?_
          refine s_val rfl rfl (runs_add64 rfl rfl (by omega)) ?_
          refine s_val rfl rfl (runs_move rfl) ?_
          refine s_nil ?_
          dsimp only [Post.setN]
          refine ⟨j + 1, ⟨rfl, rfl, rfl, rfl, rfl, ?_, ?_, rfl, rfl, rfl, trivial⟩, ⟨by omega, hL, hb4, hX⟩, by omega⟩
          · rw [hB1]; rfl
          · rw [hW1]; rfl
        · refine c_seqreg (fun K24 hK24 => ?_)
          refine s_val rfl rfl (runs_move rfl) ?_
          refine s_val rfl rfl (runs_index_array (1) Tryd.underlying23 ty3 rfl rfl (by omega) (by omega)) ?_
          refine s_val rfl rfl (runs_load1 ty3 rfl (hb4.c1 (j := 1) rfl)) ?_
          refine s_val rfl rfl (runs_df (runs_le rfl rfl) h1) ?_
          refine s_val rfl rfl (runs_move rfl) ?_
          refine s_skip rfl rfl ?_
          refine s_skip rfl rfl ?_
          refine s_skip rfl rfl ?_
          refine s_val rfl rfl (runs_pickf rfl rfl) ?_
          refine s_nil ?_
          have hW1 : Sp.within rs fr to lim (j + 1) = Sp.within rs fr to lim j := by rw [within_succ rs fr to lim hr, if_neg ht, if_neg (fun h => h1 h.1)]
          refine hK24 _ _ ?_
          refine c_false rfl ?_
          refine c_skip ?_
          refine hK19 _ _ ?_
          refine c_reg ?_
          refine s_val rfl rfl (runs_add64 rfl rfl (by omega)) ?_
          refine s_val rfl rfl (runs_move rfl) ?_
          refine s_nil ?_
          dsimp only [Post.setN]
          refine ⟨j + 1, ⟨rfl, rfl, rfl, rfl, rfl, ?_, ?_, rfl, rfl, rfl, trivial⟩, ⟨by omega, hL, hb4, hX⟩, by omega⟩
          · rw [hB1]; rfl
          · rw [hW1]; rfl
    · refine c_exit ?_
      refine hK14 _ _ ?_
      refine c_seqreg (fun K25 hK25 => ?_)
      refine s_val rfl rfl (runs_move rfl) ?_
      refine s_val rfl rfl (runs_move rfl) ?_
      refine s_val rfl rfl (runs_dt (runs_eqd rfl rfl) (by rw [← hbl, hlsl, show n = j by omega])) ?_
      refine s_val rfl rfl (runs_move rfl) ?_
      refine s_val rfl rfl (runs_move rfl) ?_
      refine s_val rfl rfl (runs_move rfl) ?_
      refine s_val rfl rfl (runs_dt (runs_eqd rfl rfl) (by rw [← hwi, hlsl, show n = j by omega])) ?_
      refine s_val rfl rfl (runs_pickt rfl rfl) ?_
      refine s_val rfl rfl (runs_move rfl) ?_
      refine s_val rfl rfl (runs_move rfl) ?_
      refine s_callf (xs := [.tmp 67]) rfl rfl Tryd.func12 rfl (by kernel_rfl) rfl (lsLen_calls hL) ?_
      rintro _ w17 ⟨rfl, X17_10⟩
      replace hX : Chg w _ [] := (hX.trans X17_10).mono (by intro k hk hlt; simp at hk ⊢ <;> first | omega | grind)
      replace hL := hL.keep X17_10 (by simp)
      replace hb4 := hb4.keep X17_10 (by simp)
      have zs17_10 := X17_10.size
      rw [hlsl]
      refine s_val rfl rfl (runs_move rfl) ?_
      refine s_val rfl rfl (runs_len_slice Tryd.underlying22 rfl) ?_
      refine s_val rfl rfl (runs_dt (runs_eqd rfl rfl) rfl) ?_
      refine s_val rfl rfl (runs_pickt rfl rfl) ?_
      refine s_val rfl rfl (runs_assign rfl) ?_
      refine s_nil ?_
      refine hK25 _ _ ?_
      refine c_ret ?_
      refine hret _ _ ?_
      exact ends1 (reads_tmp rfl) ⟨rfl, hX⟩
end Go.Proofs.YtlkeofjgmegcfaaDoor
