/- The law HistoryLengths returns true, whatever it is given, once the listed variables are laid. Conditions: none beyond those in the theorems. By an AI agent. -/
import Derived.Test.YtecpedpfkdnfhaaDoorGrow
import Derived.Test.YtecpedpfkdnfhaaDoorNodes
namespace Go.Proofs.YtecpedpfkdnfhaaDoor
open Go Go.RowKit

theorem grown_steps (s m : Nat) (l : List (List Nat)) (h : l.length ≤ 2 ^ s) (hm : m < l.length) : (Sp.grown m l).length ≤ 2 * s := by
  unfold Sp.grown
  split
  · simp
  · have h1 := Sp.growth_steps s true m l h (by omega) (by omega)
    cases s with
    | zero => simp at h; omega
    | succ s => omega

set_option maxHeartbeats 2000000 in
theorem lengths_calls (B : Nat) (bss : List (List Nat)) (a : Option Addr) (n c : Nat) (k : Int) (w : World) (hG0 : GH B w) (hBw : B ≤ w.heap.size) (hP : Parts w a n c bss) :
    CallsR Tryd.prog 6 #[.slice a n c, .int .i64 k] w fun v w' => v = .bool true ∧ Chg w w' [] := by
  have hlen := hP.length
  have hX : Chg w w [] := Chg.refl _ _
  have hG := hG0
  refine f_enter (l := [.slice a n c, .int .i64 k]) Tryd.func6 rfl rfl rfl rfl ?_
  cases hL : Sp.light bss with
  | false =>
    intro Qf hnrm hret
    refine c_seqreg (fun K1 hK1 => ?_)
    refine s_val rfl rfl (runs_assign rfl) ?_
    refine s_nil ?_
    refine hK1 _ _ ?_
    refine c_seq (fun K2 hK2 => ?_)
    refine c_seqreg (fun K3 hK3 => ?_)
    refine s_callf (xs := []) rfl rfl Tryd.func12 rfl (by kernel_rfl) rfl (fit_calls B _ hG (by omega)) ?_
    rintro _ w1 ⟨rfl, X1_0⟩
    replace hG := hG.keep X1_0 (by simp)
    replace hX : Chg w _ [] := (hX.trans X1_0).mono (by intro k hk hlt; simp at hk ⊢ <;> first | omega | grind)
    have hz1 := X1_0.size
    refine s_val rfl rfl (runs_not rfl) ?_
    refine s_nil ?_
    refine hK3 _ _ ?_
    refine c_false rfl ?_
    refine c_skip ?_
    refine hK2 _ _ ?_
    refine c_seq (fun K5 hK5 => ?_)
    refine c_seqreg (fun K6 hK6 => ?_)
    refine s_val rfl rfl (runs_move rfl) ?_
    refine s_callf (xs := [.tmp 14]) rfl rfl Tryd.func13 rfl (by kernel_rfl) rfl (light_calls bss _ _ _ _ (hP.grow hX)) ?_
    rintro _ w3 ⟨rfl, X3_1⟩
    replace hG := hG.keep X3_1 (by simp)
    replace hX : Chg w _ [] := (hX.trans X3_1).mono (by intro k hk hlt; simp at hk ⊢ <;> first | omega | grind)
    have hz3 := X3_1.size
    rw [hL]
    refine s_val rfl rfl (runs_not rfl) ?_
    refine s_val rfl rfl (runs_move rfl) ?_
    refine s_skip rfl rfl ?_
    refine s_skip rfl rfl ?_
    refine s_skip rfl rfl ?_
    refine s_val rfl rfl (runs_pickt rfl rfl) ?_
    refine s_nil ?_
    refine hK6 _ _ ?_
    refine c_true rfl ?_
    refine c_seqreg (fun K8 hK8 => ?_)
    refine s_val rfl rfl (runs_assign rfl) ?_
    refine s_nil ?_
    refine hK8 _ _ ?_
    refine c_ret ?_
    refine hret _ _ ?_
    exact ends1 (reads_tmp rfl) ⟨rfl, hX⟩
  | true =>
    have hl1 := Sp.light_len hL
    by_cases hn1 : n ≤ 1
    · skip
      intro Qf hnrm hret
      refine c_seqreg (fun K1 hK1 => ?_)
      refine s_val rfl rfl (runs_assign rfl) ?_
      refine s_nil ?_
      refine hK1 _ _ ?_
      refine c_seq (fun K2 hK2 => ?_)
      refine c_seqreg (fun K3 hK3 => ?_)
      refine s_callf (xs := []) rfl rfl Tryd.func12 rfl (by kernel_rfl) rfl (fit_calls B _ hG (by omega)) ?_
      rintro _ w1 ⟨rfl, X1_0⟩
      replace hG := hG.keep X1_0 (by simp)
      replace hX : Chg w _ [] := (hX.trans X1_0).mono (by intro k hk hlt; simp at hk ⊢ <;> first | omega | grind)
      have hz1 := X1_0.size
      refine s_val rfl rfl (runs_not rfl) ?_
      refine s_nil ?_
      refine hK3 _ _ ?_
      refine c_false rfl ?_
      refine c_skip ?_
      refine hK2 _ _ ?_
      refine c_seq (fun K5 hK5 => ?_)
      refine c_seqreg (fun K6 hK6 => ?_)
      refine s_val rfl rfl (runs_move rfl) ?_
      refine s_callf (xs := [.tmp 14]) rfl rfl Tryd.func13 rfl (by kernel_rfl) rfl (light_calls bss _ _ _ _ (hP.grow hX)) ?_
      rintro _ w3 ⟨rfl, X3_1⟩
      replace hG := hG.keep X3_1 (by simp)
      replace hX : Chg w _ [] := (hX.trans X3_1).mono (by intro k hk hlt; simp at hk ⊢ <;> first | omega | grind)
      have hz3 := X3_1.size
      rw [hL]
      refine s_val rfl rfl (runs_not rfl) ?_
      refine s_val rfl rfl (runs_move rfl) ?_
      refine s_val rfl rfl (runs_move rfl) ?_
      refine s_val rfl rfl (runs_len_slice Tryd.underlying22 rfl) ?_
      refine s_val rfl rfl (runs_eqd rfl rfl) ?_
      refine s_val rfl rfl (runs_pickf rfl rfl) ?_
      refine s_nil ?_
      refine hK6 _ _ ?_
      refine c_dec rfl (fun h0 => ?_) (fun h0 => ?_)
      · refine c_seqreg (fun K8 hK8 => ?_)
        refine s_val rfl rfl (runs_assign rfl) ?_
        refine s_nil ?_
        refine hK8 _ _ ?_
        refine c_ret ?_
        refine hret _ _ ?_
        exact ends1 (reads_tmp rfl) ⟨rfl, hX⟩
      · refine c_skip ?_
        refine hK5 _ _ ?_
        refine c_seqreg (fun K9 hK9 => ?_)
        refine s_val rfl rfl (runs_move rfl) ?_
        refine s_callf (xs := [.tmp 22]) rfl rfl Tryd.func14 rfl (by kernel_rfl) rfl (leaves_calls B bss _ _ _ _ hG (by omega) (hP.grow hX) hL) ?_
        rintro vh w5 ⟨hown, X5_1⟩
        replace hG := hG.keep X5_1 (by simp)
        replace hX : Chg w _ [] := (hX.trans X5_1).mono (by intro k hk hlt; simp at hk ⊢ <;> first | omega | grind)
        have hz5 := X5_1.size
        obtain ⟨hs, hhs⟩ : ∃ hs, hs = bss.map Sp.leaf := ⟨_, rfl⟩
        rw [← hhs] at hown
        obtain ⟨ah, ch, rfl, hH, hob⟩ := own_hs hown (by rw [hhs]; simpa using fun x _ => leaf_ok x) (by rw [hhs, List.length_map, hlen])
        have hsl : hs.length = n := hH.len
        refine s_val rfl rfl (runs_assign rfl) ?_
        refine s_nil ?_
        refine hK9 _ _ ?_
        refine c_seqreg (fun K11 hK11 => ?_)
        refine s_val rfl rfl (runs_assign rfl) ?_
        refine s_nil ?_
        refine hK11 _ _ ?_
        refine c_seq (fun K12 hK12 => ?_)
        refine c_block ?_
        refine c_loop (σ := Nat) (fun s => [(6, .int .i64 (s : Int)), (5, .slice ah n ch)]) (fun s w' => (s = 0 ∨ 2 ^ (s - 1) < n) ∧ w' = w5) (fun s => n - s) 0 ⟨rfl, rfl, trivial⟩ ⟨.inl rfl, rfl⟩ ?_
        rintro s wi ⟨hs0, rfl⟩
        have hs6 : s ≤ 6 := by
          rcases Nat.lt_or_ge 6 s with h | h
          · have : 2 ^ 6 ≤ 2 ^ (s - 1) := Nat.pow_le_pow_right (by decide) (by omega)
            omega
          · exact h
        have hss : s < 2 ^ s := Nat.lt_two_pow_self
        refine c_seq (fun K13 hK13 => ?_)
        refine c_seqreg (fun K14 hK14 => ?_)
        refine s_val rfl rfl (runs_move rfl) ?_
        refine s_val rfl rfl (runs_shl1 rfl rfl (by omega)) ?_
        refine s_val rfl rfl (runs_move rfl) ?_
        refine s_val rfl rfl (runs_len_slice Tryd.underlying25 rfl) ?_
        refine s_val rfl rfl (runs_lt rfl rfl) ?_
        refine s_nil ?_
        refine hK14 _ _ ?_
        refine c_dec rfl (fun h2s => ?_) (fun h2s => ?_)
        · refine c_skip ?_
          refine hK13 _ _ ?_
          refine c_block ?_
          refine c_reg ?_
          refine s_val rfl rfl (runs_move rfl) ?_
          refine s_val rfl rfl (runs_add64 rfl rfl (by omega)) ?_
          refine s_val rfl rfl (runs_assign rfl) ?_
          refine s_nil ?_
          dsimp only [Post.setN]
          exact ⟨s + 1, ⟨rfl, rfl, trivial⟩, ⟨.inr (by simp; omega), rfl⟩, by omega⟩
        · have hns : n ≤ 2 ^ s := by omega
          refine c_exit ?_
          refine hK12 _ _ ?_
          refine c_seq (fun K15 hK15 => ?_)
          refine c_seqreg (fun K16 hK16 => ?_)
          refine s_val rfl rfl (runs_move rfl) ?_
          refine s_val rfl rfl (runs_len_slice Tryd.underlying25 rfl) ?_
          refine s_val rfl rfl (runs_move rfl) ?_
          refine s_nil ?_
          refine hK16 _ _ ?_
          refine c_block ?_
          refine c_loop (σ := Nat) (fun i => [(33, .int .i64 (i : Int)), (32, .int .i64 (n : Int)), (6, .int .i64 (s : Int)), (5, .slice ah n ch)]) (fun i w' => i ≤ n ∧ GH B w' ∧ HsR w' ah n ch hs ∧ Chg w w' []) (fun i => n - i) 0 ⟨rfl, rfl, rfl, rfl, trivial⟩ ⟨Nat.zero_le _, hG, hH, hX⟩ ?_
          rintro i wi ⟨hi, hG, hH, hX⟩
          have hzX := hX.size
          refine c_seqreg (fun K17 hK17 => ?_)
          refine s_val rfl rfl (runs_lt rfl rfl) ?_
          refine s_nil ?_
          refine hK17 _ _ ?_
          refine c_seq (fun K18 hK18 => ?_)
          refine c_dec rfl (fun hin => ?_) (fun hin => ?_)
          · have hp1 := Sp.path_steps s hs i (by omega)
            have hg1 := grown_steps s i hs (by omega) (by omega)
            refine c_skip ?_
            refine hK18 _ _ ?_
            refine c_seq (fun K19 hK19 => ?_)
            refine c_block ?_
            refine c_seqreg (fun K20 hK20 => ?_)
            refine s_val rfl rfl (runs_move rfl) ?_
            refine s_val rfl rfl (runs_assign rfl) ?_
            refine s_nil ?_
            refine hK20 _ _ ?_
            refine c_seqreg (fun K21 hK21 => ?_)
            refine s_val rfl rfl (runs_move rfl) ?_
            refine s_val rfl rfl (runs_move rfl) ?_
            refine s_callf (xs := [.const (.pointer none), .tmp 37, .tmp 38]) rfl rfl Tryd.func22 rfl (by kernel_rfl) rfl (path_calls _ hs (Nat.le_refl _) B i _ _ _ _ hG (by omega) hH (by omega) (by omega)) ?_
            rintro _ w12 ⟨vp, rfl, hown2, X12_2⟩
            replace hG := hG.keep X12_2 (by simp)
            replace hH := hH.keep0 X12_2
            replace hX : Chg w _ [] := (hX.trans X12_2).mono (by intro k hk hlt; simp at hk ⊢ <;> first | omega | grind)
            have hz12 := X12_2.size
            obtain ⟨ap, cp, rfl, _, _⟩ := own_reads hown2
            refine s_val rfl rfl (runs_move rfl) ?_
            refine s_val rfl rfl (runs_extract rfl rfl) ?_
            refine s_val rfl rfl (runs_extract rfl rfl) ?_
            refine s_val rfl rfl (runs_assign rfl) ?_
            refine s_val rfl rfl (runs_assign rfl) ?_
            refine s_nil ?_
            refine hK21 _ _ ?_
            refine c_seqreg (fun K23 hK23 => ?_)
            refine s_val rfl rfl (runs_move rfl) ?_
            refine s_val rfl rfl (runs_move rfl) ?_
            refine s_callf (xs := [.const (.pointer none), .tmp 43, .tmp 44]) rfl rfl Tryd.func24 rfl (by kernel_rfl) rfl (grows_calls B i hs _ _ _ _ hG (by omega) hH (by omega) (by omega)) ?_
            rintro _ w13 ⟨vg, rfl, hown3, X13_2⟩
            replace hG := hG.keep X13_2 (by simp)
            replace hH := hH.keep0 X13_2
            replace hX : Chg w _ [] := (hX.trans X13_2).mono (by intro k hk hlt; simp at hk ⊢ <;> first | omega | grind)
            have hz13 := X13_2.size
            obtain ⟨ag, cg, rfl, _, _⟩ := own_reads hown3
            refine s_val rfl rfl (runs_move rfl) ?_
            refine s_val rfl rfl (runs_extract rfl rfl) ?_
            refine s_val rfl rfl (runs_extract rfl rfl) ?_
            refine s_val rfl rfl (runs_assign rfl) ?_
            refine s_val rfl rfl (runs_assign rfl) ?_
            refine s_nil ?_
            refine hK23 _ _ ?_
            refine c_seqreg (fun K25 hK25 => ?_)
            refine s_val rfl rfl (runs_move rfl) ?_
            refine s_val rfl rfl (runs_len_slice Tryd.underlying25 rfl) ?_
            refine s_val rfl rfl (runs_move rfl) ?_
            refine s_val rfl rfl (runs_df (runs_gt rfl rfl) (by omega)) ?_
            refine s_val rfl rfl (runs_move rfl) ?_
            refine s_val rfl rfl (runs_move rfl) ?_
            refine s_val rfl rfl (runs_len_slice Tryd.underlying25 rfl) ?_
            refine s_val rfl rfl (runs_move rfl) ?_
            refine s_val rfl rfl (runs_mul64 rfl rfl (by omega)) ?_
            refine s_val rfl rfl (runs_df (runs_gt rfl rfl) (by omega)) ?_
            refine s_val rfl rfl (runs_pickf rfl rfl) ?_
            refine s_val rfl rfl (runs_move rfl) ?_
            refine s_val rfl rfl (runs_move rfl) ?_
            refine s_val rfl rfl (runs_len_slice Tryd.underlying25 rfl) ?_
            refine s_val rfl rfl (runs_df (runs_gt rfl rfl) (by omega)) ?_
            refine s_val rfl rfl (runs_move rfl) ?_
            refine s_skip rfl rfl ?_
            refine s_skip rfl rfl ?_
            refine s_skip rfl rfl ?_
            refine s_val rfl rfl (runs_pickf rfl rfl) ?_
            refine s_val rfl rfl (runs_pickf rfl rfl) ?_
            refine s_nil ?_
            refine hK25 _ _ ?_
            refine c_false rfl ?_
            refine c_skip ?_
            refine hK19 _ _ ?_
            refine c_reg ?_
            refine s_val rfl rfl (runs_add64 rfl rfl (by omega)) ?_
            refine s_val rfl rfl (runs_move rfl) ?_
            refine s_nil ?_
            dsimp only [Post.setN]
            exact ⟨i + 1, ⟨rfl, rfl, rfl, rfl, trivial⟩, ⟨by omega, hG, hH, hX⟩, by omega⟩
          · refine c_exit ?_
            refine hK15 _ _ ?_
            refine c_seqreg (fun K26 hK26 => ?_)
            refine s_val rfl rfl (runs_assign rfl) ?_
            refine s_nil ?_
            refine hK26 _ _ ?_
            refine c_ret ?_
            refine hret _ _ ?_
            exact ends1 (reads_tmp rfl) ⟨rfl, hX⟩
    · skip
      intro Qf hnrm hret
      refine c_seqreg (fun K1 hK1 => ?_)
      refine s_val rfl rfl (runs_assign rfl) ?_
      refine s_nil ?_
      refine hK1 _ _ ?_
      refine c_seq (fun K2 hK2 => ?_)
      refine c_seqreg (fun K3 hK3 => ?_)
      refine s_callf (xs := []) rfl rfl Tryd.func12 rfl (by kernel_rfl) rfl (fit_calls B _ hG (by omega)) ?_
      rintro _ w1 ⟨rfl, X1_0⟩
      replace hG := hG.keep X1_0 (by simp)
      replace hX : Chg w _ [] := (hX.trans X1_0).mono (by intro k hk hlt; simp at hk ⊢ <;> first | omega | grind)
      have hz1 := X1_0.size
      refine s_val rfl rfl (runs_not rfl) ?_
      refine s_nil ?_
      refine hK3 _ _ ?_
      refine c_false rfl ?_
      refine c_skip ?_
      refine hK2 _ _ ?_
      refine c_seq (fun K5 hK5 => ?_)
      refine c_seqreg (fun K6 hK6 => ?_)
      refine s_val rfl rfl (runs_move rfl) ?_
      refine s_callf (xs := [.tmp 14]) rfl rfl Tryd.func13 rfl (by kernel_rfl) rfl (light_calls bss _ _ _ _ (hP.grow hX)) ?_
      rintro _ w3 ⟨rfl, X3_1⟩
      replace hG := hG.keep X3_1 (by simp)
      replace hX : Chg w _ [] := (hX.trans X3_1).mono (by intro k hk hlt; simp at hk ⊢ <;> first | omega | grind)
      have hz3 := X3_1.size
      rw [hL]
      refine s_val rfl rfl (runs_not rfl) ?_
      refine s_val rfl rfl (runs_move rfl) ?_
      refine s_val rfl rfl (runs_move rfl) ?_
      refine s_val rfl rfl (runs_len_slice Tryd.underlying22 rfl) ?_
      refine s_val rfl rfl (runs_eqd rfl rfl) ?_
      refine s_val rfl rfl (runs_pickf rfl rfl) ?_
      refine s_nil ?_
      refine hK6 _ _ ?_
      refine c_dec rfl (fun h0 => ?_) (fun h0 => ?_)
      · refine c_seqreg (fun K8 hK8 => ?_)
        refine s_val rfl rfl (runs_assign rfl) ?_
        refine s_nil ?_
        refine hK8 _ _ ?_
        refine c_ret ?_
        refine hret _ _ ?_
        exact ends1 (reads_tmp rfl) ⟨rfl, hX⟩
      · refine c_skip ?_
        refine hK5 _ _ ?_
        refine c_seqreg (fun K9 hK9 => ?_)
        refine s_val rfl rfl (runs_move rfl) ?_
        refine s_callf (xs := [.tmp 22]) rfl rfl Tryd.func14 rfl (by kernel_rfl) rfl (leaves_calls B bss _ _ _ _ hG (by omega) (hP.grow hX) hL) ?_
        rintro vh w5 ⟨hown, X5_1⟩
        replace hG := hG.keep X5_1 (by simp)
        replace hX : Chg w _ [] := (hX.trans X5_1).mono (by intro k hk hlt; simp at hk ⊢ <;> first | omega | grind)
        have hz5 := X5_1.size
        obtain ⟨hs, hhs⟩ : ∃ hs, hs = bss.map Sp.leaf := ⟨_, rfl⟩
        rw [← hhs] at hown
        obtain ⟨ah, ch, rfl, hH, hob⟩ := own_hs hown (by rw [hhs]; simpa using fun x _ => leaf_ok x) (by rw [hhs, List.length_map, hlen])
        have hsl : hs.length = n := hH.len
        refine s_val rfl rfl (runs_assign rfl) ?_
        refine s_nil ?_
        refine hK9 _ _ ?_
        refine c_seqreg (fun K11 hK11 => ?_)
        refine s_val rfl rfl (runs_assign rfl) ?_
        refine s_nil ?_
        refine hK11 _ _ ?_
        refine c_seq (fun K12 hK12 => ?_)
        refine c_block ?_
        refine c_loop (σ := Nat) (fun s => [(6, .int .i64 (s : Int)), (5, .slice ah n ch)]) (fun s w' => (s = 0 ∨ 2 ^ (s - 1) < n) ∧ w' = w5) (fun s => n - s) 0 ⟨rfl, rfl, trivial⟩ ⟨.inl rfl, rfl⟩ ?_
        rintro s wi ⟨hs0, rfl⟩
        have hs6 : s ≤ 6 := by
          rcases Nat.lt_or_ge 6 s with h | h
          · have : 2 ^ 6 ≤ 2 ^ (s - 1) := Nat.pow_le_pow_right (by decide) (by omega)
            omega
          · exact h
        have hss : s < 2 ^ s := Nat.lt_two_pow_self
        refine c_seq (fun K13 hK13 => ?_)
        refine c_seqreg (fun K14 hK14 => ?_)
        refine s_val rfl rfl (runs_move rfl) ?_
        refine s_val rfl rfl (runs_shl1 rfl rfl (by omega)) ?_
        refine s_val rfl rfl (runs_move rfl) ?_
        refine s_val rfl rfl (runs_len_slice Tryd.underlying25 rfl) ?_
        refine s_val rfl rfl (runs_lt rfl rfl) ?_
        refine s_nil ?_
        refine hK14 _ _ ?_
        refine c_dec rfl (fun h2s => ?_) (fun h2s => ?_)
        · refine c_skip ?_
          refine hK13 _ _ ?_
          refine c_block ?_
          refine c_reg ?_
          refine s_val rfl rfl (runs_move rfl) ?_
          refine s_val rfl rfl (runs_add64 rfl rfl (by omega)) ?_
          refine s_val rfl rfl (runs_assign rfl) ?_
          refine s_nil ?_
          dsimp only [Post.setN]
          exact ⟨s + 1, ⟨rfl, rfl, trivial⟩, ⟨.inr (by simp; omega), rfl⟩, by omega⟩
        · have hns : n ≤ 2 ^ s := by omega
          refine c_exit ?_
          refine hK12 _ _ ?_
          refine c_seq (fun K15 hK15 => ?_)
          refine c_seqreg (fun K16 hK16 => ?_)
          refine s_val rfl rfl (runs_move rfl) ?_
          refine s_val rfl rfl (runs_len_slice Tryd.underlying25 rfl) ?_
          refine s_val rfl rfl (runs_move rfl) ?_
          refine s_nil ?_
          refine hK16 _ _ ?_
          refine c_block ?_
          refine c_loop (σ := Nat) (fun i => [(33, .int .i64 (i : Int)), (32, .int .i64 (n : Int)), (6, .int .i64 (s : Int)), (5, .slice ah n ch)]) (fun i w' => i ≤ n ∧ GH B w' ∧ HsR w' ah n ch hs ∧ Chg w w' []) (fun i => n - i) 0 ⟨rfl, rfl, rfl, rfl, trivial⟩ ⟨Nat.zero_le _, hG, hH, hX⟩ ?_
          rintro i wi ⟨hi, hG, hH, hX⟩
          have hzX := hX.size
          refine c_seqreg (fun K17 hK17 => ?_)
          refine s_val rfl rfl (runs_lt rfl rfl) ?_
          refine s_nil ?_
          refine hK17 _ _ ?_
          refine c_seq (fun K18 hK18 => ?_)
          refine c_dec rfl (fun hin => ?_) (fun hin => ?_)
          · have hp1 := Sp.path_steps s hs i (by omega)
            have hg1 := grown_steps s i hs (by omega) (by omega)
            have hp2 := Sp.path_some hs i (by omega) (by omega)
            refine c_skip ?_
            refine hK18 _ _ ?_
            refine c_seq (fun K19 hK19 => ?_)
            refine c_block ?_
            refine c_seqreg (fun K20 hK20 => ?_)
            refine s_val rfl rfl (runs_move rfl) ?_
            refine s_val rfl rfl (runs_assign rfl) ?_
            refine s_nil ?_
            refine hK20 _ _ ?_
            refine c_seqreg (fun K21 hK21 => ?_)
            refine s_val rfl rfl (runs_move rfl) ?_
            refine s_val rfl rfl (runs_move rfl) ?_
            refine s_callf (xs := [.const (.pointer none), .tmp 37, .tmp 38]) rfl rfl Tryd.func22 rfl (by kernel_rfl) rfl (path_calls _ hs (Nat.le_refl _) B i _ _ _ _ hG (by omega) hH (by omega) (by omega)) ?_
            rintro _ w12 ⟨vp, rfl, hown2, X12_2⟩
            replace hG := hG.keep X12_2 (by simp)
            replace hH := hH.keep0 X12_2
            replace hX : Chg w _ [] := (hX.trans X12_2).mono (by intro k hk hlt; simp at hk ⊢ <;> first | omega | grind)
            have hz12 := X12_2.size
            obtain ⟨ap, cp, rfl, _, _⟩ := own_reads hown2
            refine s_val rfl rfl (runs_move rfl) ?_
            refine s_val rfl rfl (runs_extract rfl rfl) ?_
            refine s_val rfl rfl (runs_extract rfl rfl) ?_
            refine s_val rfl rfl (runs_assign rfl) ?_
            refine s_val rfl rfl (runs_assign rfl) ?_
            refine s_nil ?_
            refine hK21 _ _ ?_
            refine c_seqreg (fun K23 hK23 => ?_)
            refine s_val rfl rfl (runs_move rfl) ?_
            refine s_val rfl rfl (runs_move rfl) ?_
            refine s_callf (xs := [.const (.pointer none), .tmp 43, .tmp 44]) rfl rfl Tryd.func24 rfl (by kernel_rfl) rfl (grows_calls B i hs _ _ _ _ hG (by omega) hH (by omega) (by omega)) ?_
            rintro _ w13 ⟨vg, rfl, hown3, X13_2⟩
            replace hG := hG.keep X13_2 (by simp)
            replace hH := hH.keep0 X13_2
            replace hX : Chg w _ [] := (hX.trans X13_2).mono (by intro k hk hlt; simp at hk ⊢ <;> first | omega | grind)
            have hz13 := X13_2.size
            obtain ⟨ag, cg, rfl, _, _⟩ := own_reads hown3
            refine s_val rfl rfl (runs_move rfl) ?_
            refine s_val rfl rfl (runs_extract rfl rfl) ?_
            refine s_val rfl rfl (runs_extract rfl rfl) ?_
            refine s_val rfl rfl (runs_assign rfl) ?_
            refine s_val rfl rfl (runs_assign rfl) ?_
            refine s_nil ?_
            refine hK23 _ _ ?_
            refine c_seqreg (fun K25 hK25 => ?_)
            refine s_val rfl rfl (runs_move rfl) ?_
            refine s_val rfl rfl (runs_len_slice Tryd.underlying25 rfl) ?_
            refine s_val rfl rfl (runs_move rfl) ?_
            refine s_val rfl rfl (runs_df (runs_gt rfl rfl) (by omega)) ?_
            refine s_val rfl rfl (runs_move rfl) ?_
            refine s_val rfl rfl (runs_move rfl) ?_
            refine s_val rfl rfl (runs_len_slice Tryd.underlying25 rfl) ?_
            refine s_val rfl rfl (runs_move rfl) ?_
            refine s_val rfl rfl (runs_mul64 rfl rfl (by omega)) ?_
            refine s_val rfl rfl (runs_df (runs_gt rfl rfl) (by omega)) ?_
            refine s_val rfl rfl (runs_pickf rfl rfl) ?_
            refine s_val rfl rfl (runs_move rfl) ?_
            refine s_val rfl rfl (runs_move rfl) ?_
            refine s_val rfl rfl (runs_len_slice Tryd.underlying25 rfl) ?_
            refine s_val rfl rfl (runs_dt (runs_gt rfl rfl) (by omega)) ?_
            refine s_val rfl rfl (runs_move rfl) ?_
            refine s_val rfl rfl (runs_move rfl) ?_
            refine s_val rfl rfl (runs_len_slice Tryd.underlying25 rfl) ?_
            refine s_val rfl rfl (runs_df (runs_eqd rfl rfl) (by omega)) ?_
            refine s_val rfl rfl (runs_pickt rfl rfl) ?_
            refine s_val rfl rfl (runs_pickf rfl rfl) ?_
            refine s_nil ?_
            refine hK25 _ _ ?_
            refine c_false rfl ?_
            refine c_skip ?_
            refine hK19 _ _ ?_
            refine c_reg ?_
            refine s_val rfl rfl (runs_add64 rfl rfl (by omega)) ?_
            refine s_val rfl rfl (runs_move rfl) ?_
            refine s_nil ?_
            dsimp only [Post.setN]
            exact ⟨i + 1, ⟨rfl, rfl, rfl, rfl, trivial⟩, ⟨by omega, hG, hH, hX⟩, by omega⟩
          · refine c_exit ?_
            refine hK15 _ _ ?_
            refine c_seqreg (fun K26 hK26 => ?_)
            refine s_val rfl rfl (runs_assign rfl) ?_
            refine s_nil ?_
            refine hK26 _ _ ?_
            refine c_ret ?_
            refine hret _ _ ?_
            exact ends1 (reads_tmp rfl) ⟨rfl, hX⟩
end Go.Proofs.YtecpedpfkdnfhaaDoor
