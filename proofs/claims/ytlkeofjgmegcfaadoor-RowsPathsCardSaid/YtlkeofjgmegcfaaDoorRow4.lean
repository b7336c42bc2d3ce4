/- Part Row4 of the proofs on this seat. Conditions: none beyond those in the theorems. By an AI agent. -/
import Derived.Test.YtlkeofjgmegcfaaDoorRow3
namespace Go.Proofs.YtlkeofjgmegcfaaDoor
open Go Go.RowKit

def Sp.fitT (i : Nat) : Int := match i with | 0 => 2 | 1 => 5 | _ => 9
def Sp.fitR (i : Nat) : Rw := ⟨(0, 0), Sp.fitT i, 0, (0, i), (0, 0), (0, 0), (0, 0), (0, 0)⟩
def Sp.fitL : List Rw := [Sp.fitR 0, Sp.fitR 1, Sp.fitR 2]
theorem fitR_ok {i : Nat} (hi : i < 3) : (Sp.fitR i).Ok := by
  have z : NOk (0, 0) := by unfold NOk; simp
  have a : NOk (0, i) := by unfold NOk; simp; omega
  refine ⟨⟨z, a, z, z, z, z⟩, ?_, by simp [Sp.fitR]⟩
  match i, hi with
  | 0, _ => exact ⟨by decide, by decide⟩
  | 1, _ => exact ⟨by decide, by decide⟩
  | 2, _ => exact ⟨by decide, by decide⟩
theorem fitT_get {i : Nat} (hi : i < 3) : (flatC [.int .i64 2, .int .i64 5, .int .i64 9])[i]? = some (.int .i64 (Sp.fitT i)) := by
  match i, hi with
  | 0, _ => rfl
  | 1, _ => rfl
  | 2, _ => rfl
theorem fitL_get {i : Nat} (hi : i < 3) : Sp.fitL[i]? = some (Sp.fitR i) := by
  match i, hi with
  | 0, _ => rfl
  | 1, _ => rfl
  | 2, _ => rfl
theorem fit_span {i k : Nat} (h : SpanIs Sp.fitL 3 9 1 i k) : i = 1 ∧ k = 1 := by
  have h1 := h.i_le
  have h2 := h.k_le
  simp only [Sp.fitL, List.length_cons, List.length_nil] at h1 h2
  have hi : i = 1 := by
    rcases Nat.lt_or_ge i 1 with h3 | h3
    · obtain rfl : i = 0 := by omega
      exact absurd (show (2 : Int) < 3 by decide) (h.at_ (Sp.fitR 0) rfl)
    · rcases Nat.lt_or_ge 1 i with h4 | h4
      · have := h.low 1 h4 (Sp.fitR 1) rfl
        exact absurd this (by decide)
      · omega
  subst hi
  refine ⟨rfl, ?_⟩
  rcases Nat.lt_or_ge k 1 with h3 | h3
  · obtain rfl : k = 0 := by omega
    exact absurd ⟨by decide, by decide⟩ (h.end_ (Sp.fitR 1) rfl)
  · rcases Nat.lt_or_ge 1 k with h4 | h4
    · have := (h.in_ 1 h4).2; omega
    · omega
set_option maxHeartbeats 2000000 in
theorem fitR_calls (B : Nat) (w : World) (hG : GH B w) (hBw : B ≤ w.heap.size) : CallsR Tryd.prog 9 #[] w fun v w' => v = .bool true ∧ Chg w w' [] ∧ GH B w' := by
  have hX : Chg w w [] := Chg.refl _ _
  refine f_enter (l := []) Tryd.func9 rfl rfl rfl rfl ?_
  intro Qf hnrm hret
  refine c_seqreg (fun K1 hK1 => ?_)
  refine s_val rfl rfl (runs_assign rfl) ?_
  refine s_nil ?_
  refine hK1 _ _ ?_
  refine c_seqreg (fun K2 hK2 => ?_)
  refine s_alloc ty53 rfl rfl ?_
  intro bx w1 e1_0 z1_0 hbx X1_0
  have s1_0_hX := hX.size
  replace hG := hG.keep X1_0 (by simp)
  replace hX : Chg w _ [] := (hX.trans X1_0).mono (by intro k hk hlt; simp at hk ⊢ <;> first | omega | grind)
  have hlx := hbx.lt
  have hL := ls_new (lo := w.heap.size) hbx (by omega)
  refine s_nil ?_
  refine hK2 _ _ ?_
  refine c_seq (fun K4 hK4 => ?_)
  refine c_seqreg (fun K5 hK5 => ?_)
  refine s_lit (xs := [.const (.int .i64 2), .const (.int .i64 5), .const (.int .i64 9)]) Tryd.underlying60 ty3 rfl rfl rfl rfl rfl (by simp [Value.cells]) (by decide) (by decide) ?_
  intro b6 w2 e2_0 z2_0 hb6 X2_0
  have s2_0_hX := hX.size
  have s2_0_hbx := hbx.lt
  replace hG := hG.keep X2_0 (by simp)
  replace hX : Chg w _ [] := (hX.trans X2_0).mono (by intro k hk hlt; simp at hk ⊢ <;> first | omega | grind)
  replace hbx := hbx.keep X2_0 (by simp)
  replace hL := hL.keep X2_0 (by simp)
  have hl6 := hb6.lt
  have hbx6 : bx < b6 := by omega
  refine s_val rfl rfl (runs_len_slice Tryd.underlying60 rfl) ?_
  refine s_val rfl rfl (runs_move rfl) ?_
  refine s_nil ?_
  have hzX2 := hX.size
  refine hK5 _ _ ?_
  refine c_block ?_
  refine c_loop (σ := Nat) (fun i => [(8, .int .i64 (i : Int)), (7, .int .i64 3), (6, .slice (some ⟨b6, 0, none⟩) 3 3), (1, .pointer (some ⟨bx, 0, none⟩))]) (fun i w' => i ≤ 3 ∧ GH B w' ∧ Chg w w' [] ∧ Blk w' b6 (flatC [.int .i64 2, .int .i64 5, .int .i64 9]) 3 ∧ ∃ hi v1 v2, LsV w' w.heap.size hi bx v1 v2 (Sp.fitL.take i)) (fun i => 3 - i) 0 ⟨rfl, rfl, rfl, rfl, trivial⟩ ⟨Nat.zero_le _, hG, hX, hb6, _, _, _, hL⟩ ?_
  rintro i wi ⟨hi', hG, hX, hb6, hi, v1, v2, hL⟩
  have hzX := hX.size
  have htop := hL.top
  have hrg := hL.rng
  refine c_seqreg (fun K7 hK7 => ?_)
  refine s_val rfl rfl (runs_lt rfl rfl) ?_
  refine s_nil ?_
  refine hK7 _ _ ?_
  refine c_seq (fun K8 hK8 => ?_)
  refine c_dec rfl (fun hin => ?_) (fun hin => ?_)
  · have hin' : i < 3 := by omega
    have hti := fitT_get hin'
    refine c_skip ?_
    refine hK8 _ _ ?_
    refine c_seq (fun K9 hK9 => ?_)
    refine c_block ?_
    refine c_seqreg (fun K10 hK10 => ?_)
    refine s_val rfl rfl (runs_move rfl) ?_
    refine s_val rfl rfl (runs_index_slice (i) Tryd.underlying60 ty3 rfl rfl (by omega) (by omega)) ?_
    refine s_val rfl rfl (runs_load1 ty3 rfl (hb6.c1 hti)) ?_
    refine s_val rfl rfl (runs_assign rfl) ?_
    refine s_val rfl rfl (runs_assign rfl) ?_
    refine s_nil ?_
    refine hK10 _ _ ?_
    refine c_reg ?_
    refine s_val rfl rfl (runs_move rfl) ?_
    refine s_val rfl rfl (runs_move rfl) ?_
    refine s_val rfl rfl (runs_as (v' := .int .u64 (i : Int)) (runs_conv Tryd.underlying3 Tryd.underlying30 rfl) (congrArg (Value.int .u64) (wrap_u64 (by omega) (by omega)))) ?_
    refine s_callf (xs := [.tmp 15]) rfl rfl Tryd.func23 rfl (by kernel_rfl) rfl (u128Of_calls i _) ?_
    rintro _ w53 ⟨rfl, X5_3⟩
    replace hG := hG.keep X5_3 (by simp)
    replace hX : Chg w _ [] := (hX.trans X5_3).mono (by intro k hk hlt; simp at hk ⊢ <;> first | omega | grind)
    replace hL := hL.keep X5_3 (by simp)
    replace hb6 := hb6.keep X5_3 (by simp)
    have zs5_3 := X5_3.size
    refine s_val rfl rfl (runs_buildv (v := rv (Sp.fitR i)) [(1, .int .i64 (Sp.fitT i)), (3, nv (0, i))] rfl (by kernel_rfl)) ?_
    refine s_callf (xs := [.tmp 1, .tmp 17]) rfl rfl Tryd.func18 rfl (by kernel_rfl) rfl (add_calls B w.heap.size hi bx v1 v2 _ (Sp.fitR i) _ hL hG hBw (fitR_ok hin') (by rw [List.length_take]; omega)) ?_
    rintro vz w5 ⟨u1, u2, hL', X5_5, hG'⟩
    replace hX : Chg w _ [] := (hX.trans X5_5).mono (by intro k hk hlt; have := hrg k (by simpa using hk); omega)
    replace hb6 := hb6.keep X5_5 (fun hm => lsB_ne hL hb6 (by decide) hm)
    have zs5_5 := X5_5.size
    have hL := hL'
    have hG := hG'
    refine s_nil ?_
    refine hK9 _ _ ?_
    refine c_reg ?_
    refine s_val rfl rfl (runs_add64 rfl rfl (by omega)) ?_
    refine s_val rfl rfl (runs_move rfl) ?_
    refine s_nil ?_
    dsimp only [Post.setN]
    exact ⟨i + 1, ⟨rfl, rfl, rfl, rfl, trivial⟩, ⟨by omega, hG, hX, hb6, _, u1, u2, by rw [List.take_add_one, fitL_get hin']; exact hL⟩, by omega⟩
  · refine c_exit ?_
    refine hK4 _ _ ?_
    refine c_seqreg (fun K13 hK13 => ?_)
    refine s_callf (xs := [.tmp 1, .const (.int .i64 3), .const (.int .i64 9), .const (.int .i64 1)]) rfl rfl Tryd.func11 rfl (by kernel_rfl) rfl (span_calls hL 3 9 1 (by rw [List.length_take]; omega)) ?_
    rintro _ w7 ⟨si, sk, rfl, hsp, rfl⟩
    obtain rfl : i = 3 := by omega
    rw [show Sp.fitL.take 3 = Sp.fitL from rfl] at hL hsp
    obtain ⟨rfl, rfl⟩ := fit_span hsp
    refine s_val rfl rfl (runs_move rfl) ?_
    refine s_val rfl rfl (runs_extract rfl rfl) ?_
    refine s_val rfl rfl (runs_extract rfl rfl) ?_
    refine s_val rfl rfl (runs_assign rfl) ?_
    refine s_val rfl rfl (runs_assign rfl) ?_
    refine s_nil ?_
    refine hK13 _ _ ?_
    refine c_seqreg (fun K15 hK15 => ?_)
    refine s_val rfl rfl (runs_move rfl) ?_
    refine s_val rfl rfl (runs_dt (runs_eqd rfl rfl) rfl) ?_
    refine s_val rfl rfl (runs_move rfl) ?_
    refine s_val rfl rfl (runs_move rfl) ?_
    refine s_val rfl rfl (runs_dt (runs_eqd rfl rfl) rfl) ?_
    refine s_val rfl rfl (runs_pickt rfl rfl) ?_
    refine s_val rfl rfl (runs_move rfl) ?_
    refine s_callf (xs := [.tmp 1]) rfl rfl Tryd.func12 rfl (by kernel_rfl) rfl (lsLen_calls hL) ?_
    rintro _ w87 ⟨rfl, X8_7⟩
    replace hG := hG.keep X8_7 (by simp)
    replace hX : Chg w _ [] := (hX.trans X8_7).mono (by intro k hk hlt; simp at hk ⊢ <;> first | omega | grind)
    replace hL := hL.keep X8_7 (by simp)
    replace hb6 := hb6.keep X8_7 (by simp)
    have zs8_7 := X8_7.size
    refine s_val rfl rfl (runs_dt (runs_eqd rfl rfl) rfl) ?_
    refine s_val rfl rfl (runs_pickt rfl rfl) ?_
    refine s_val rfl rfl (runs_move rfl) ?_
    refine s_callf (xs := [.tmp 1, .const (.int .i64 1)]) rfl rfl Tryd.func13 rfl (by kernel_rfl) rfl (lsAt_calls hL 1 (Sp.fitR 1) rfl) ?_
    rintro _ w811 ⟨rfl, X8_11⟩
    replace hG := hG.keep X8_11 (by simp)
    replace hX : Chg w _ [] := (hX.trans X8_11).mono (by intro k hk hlt; simp at hk ⊢ <;> first | omega | grind)
    replace hL := hL.keep X8_11 (by simp)
    replace hb6 := hb6.keep X8_11 (by simp)
    have zs8_11 := X8_11.size
    refine s_val rfl rfl (runs_fieldv (v := .int .i64 5) rfl (by kernel_rfl)) ?_
    refine s_val rfl rfl (runs_dt (runs_eqd rfl rfl) rfl) ?_
    refine s_val rfl rfl (runs_pickt rfl rfl) ?_
    refine s_val rfl rfl (runs_move rfl) ?_
    refine s_callf (xs := [.const (.pointer none), .const (.slice none 0 0)]) rfl rfl Tryd.func19 rfl (by kernel_rfl) rfl (root0 hG (by omega) (hs := []) ⟨SlR.nil_ _ _, rfl, by simp⟩ (by omega)) ?_
    rintro _ w816 ⟨rfl, X8_16⟩
    replace hG := hG.keep X8_16 (by simp)
    replace hX : Chg w _ [] := (hX.trans X8_16).mono (by intro k hk hlt; simp at hk ⊢ <;> first | omega | grind)
    replace hL := hL.keep X8_16 (by simp)
    replace hb6 := hb6.keep X8_16 (by simp)
    have zs8_16 := X8_16.size
    refine s_callf (xs := [.const (.pointer none), .const (.slice none 0 0)]) rfl rfl Tryd.func24 rfl (by kernel_rfl) rfl (of0 hG (by omega) (parts_nil _) (by simp)) ?_
    rintro _ w817 ⟨rfl, X8_17⟩
    replace hG := hG.keep X8_17 (by simp)
    replace hX : Chg w _ [] := (hX.trans X8_17).mono (by intro k hk hlt; simp at hk ⊢ <;> first | omega | grind)
    replace hL := hL.keep X8_17 (by simp)
    replace hb6 := hb6.keep X8_17 (by simp)
    have zs8_17 := X8_17.size
    refine s_val rfl rfl (runs_dt (runs_hv_eq rfl rfl (root_ok _ _ (Nat.le_refl _) (by simp)) (sha_ok _)) (by rw [Sp.root_nil]; rfl)) ?_
    refine s_val rfl rfl (runs_pickt rfl rfl) ?_
    refine s_val rfl rfl (runs_assign rfl) ?_
    refine s_nil ?_
    refine hK15 _ _ ?_
    refine c_ret ?_
    refine hret _ _ ?_
    exact ends1 (reads_tmp rfl) ⟨rfl, hX, hG⟩
end Go.Proofs.YtlkeofjgmegcfaaDoor
