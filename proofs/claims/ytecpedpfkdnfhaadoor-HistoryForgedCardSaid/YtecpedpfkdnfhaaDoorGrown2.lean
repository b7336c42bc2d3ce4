/- Part Grown2 of the proofs on this seat. Conditions: none beyond those in the theorems. By an AI agent. -/
import Derived.Test.YtecpedpfkdnfhaaDoorGrown
namespace Go.Proofs.YtecpedpfkdnfhaaDoor
open Go Go.RowKit

set_option maxHeartbeats 4000000 in
theorem isgrown_calls (path : List (List Nat)) (B lo hi : Nat) (l : List Nat) (tv : Value) (ts : TS) (old young : List Nat) (m n : Nat) (a : Option Addr) (np cp : Nat) (w : World) (hT0 : TG w B lo hi l tv ts) (hG : GH B w) (hBw : B ≤ w.heap.size) (hlo : lo ≤ w.heap.size)
    (hl : ∀ x ∈ l, x < w.heap.size) (ho : HOk old) (hy : HOk young) (hH : HsR w a np cp path) (hlb : ∀ p, a = some p → 0 < np → p.block < w.heap.size) (hn : n ≤ 1048576) (hnp : np ≤ 1048576) (hmn : m ≤ n) (htl : ts.len + 2 * np ≤ 1073741824) :
    CallsR Tryd.prog 26 #[tv, .int .i64 (m : Int), .int .i64 (n : Int), hv old, hv young, .slice a np cp] w fun v w' =>
      v = .bool (Sp.isGrown m n old young path) ∧ ∃ ts', TP w w' B lo l tv ts ts' (Sp.isGrownN m n old path) := by
  have hlen := hH.len
  have hX : Chg w w (foot ts) := Chg.refl _ _
  have hT := hT0
  have htop := hT0.top
  have hft := hT0.foot
  have hpe : path.isEmpty = decide (np = 0) := by rw [← hlen]; cases path <;> simp
  refine f_enter (l := [tv, .int .i64 (m : Int), .int .i64 (n : Int), hv old, hv young, .slice a np cp]) Tryd.func26 rfl rfl rfl rfl ?_
  intro Qf hnrm hret
  refine c_seqreg (fun K1 hK1 => ?_)
  refine s_box rfl rfl rfl ?_
  intro b9 w01 e0_0 z0_0 hb9 X0_0
  have s0_0_hX := hX.size
  replace hG := hG.keep X0_0 (by simp)
  replace hT := hT.keep X0_0 (by simp)
  replace hH := hH.keep0 X0_0
  replace hX : Chg w _ (foot ts) := (hX.trans X0_0).mono (by intro k hk hlt; simp at hk ⊢ <;> first | omega | grind)
  replace hb9 : Blk w01 b9 (natsC .u8 old) 28 := hb9
  refine s_box rfl rfl rfl ?_
  intro b10 w02 e0_1 z0_1 hb10 X0_1
  have s0_1_hX := hX.size
  have s0_1_hb9 := hb9.lt
  replace hG := hG.keep X0_1 (by simp)
  replace hT := hT.keep X0_1 (by simp)
  replace hH := hH.keep0 X0_1
  replace hX : Chg w _ (foot ts) := (hX.trans X0_1).mono (by intro k hk hlt; simp at hk ⊢ <;> first | omega | grind)
  replace hb9 := hb9.keep X0_1 (by simp)
  replace hb10 : Blk w02 b10 (natsC .u8 young) 28 := hb10
  refine s_val rfl rfl (runs_assign rfl) ?_
  refine s_nil ?_
  have hl9 := hb9.lt
  have hl10 := hb10.lt
  have hzX0 := hX.size
  refine hK1 _ _ ?_
  refine c_seq (fun K4 hK4 => ?_)
  refine c_block ?_
  rcases (show (m = n ∧ np = 0) ∨ (m = n ∧ np ≠ 0) ∨ (m = 0 ∧ m ≠ n ∧ np = 0) ∨ (m = 0 ∧ m ≠ n ∧ np ≠ 0) ∨ (m ≠ 0 ∧ m ≠ n) by omega) with ⟨h1, h2⟩ | ⟨h1, h2⟩ | ⟨h1, h2, h3⟩ | ⟨h1, h2, h3⟩ | ⟨h1, h2⟩
  · refine c_seqreg (fun K5 hK5 => ?_)
    refine s_val rfl rfl (runs_move rfl) ?_
    refine s_val rfl rfl (runs_df (runs_lt rfl rfl) (by omega)) ?_
    refine s_val rfl rfl (runs_move rfl) ?_
    refine s_val rfl rfl (runs_move rfl) ?_
    refine s_val rfl rfl (runs_move rfl) ?_
    refine s_val rfl rfl (runs_df (runs_gt rfl rfl) (by omega)) ?_
    refine s_val rfl rfl (runs_pickf rfl rfl) ?_
    refine s_val rfl rfl (runs_assign rfl) ?_
    refine s_nil ?_
    refine hK5 _ _ ?_
    refine c_false rfl ?_
    refine c_seqreg (fun K6 hK6 => ?_)
    refine s_val rfl rfl (runs_move rfl) ?_
    refine s_val rfl rfl (runs_move rfl) ?_
    refine s_val rfl rfl (runs_dt (runs_eqd rfl rfl) (by omega)) ?_
    refine s_val rfl rfl (runs_assign rfl) ?_
    refine s_nil ?_
    refine hK6 _ _ ?_
    refine c_true rfl ?_
    refine c_seqreg (fun K7 hK7 => ?_)
    refine s_val rfl rfl (runs_move rfl) ?_
    refine s_val rfl rfl (runs_len_slice Tryd.underlying25 rfl) ?_
    refine s_val rfl rfl (runs_dt (runs_eqd rfl rfl) (by omega)) ?_
    refine s_val rfl rfl (runs_move rfl) ?_
    refine s_val rfl rfl (runs_loadAgg ty28 rfl hb9.at (by rw [natsC_length, ho.1])) ?_
    refine s_val rfl rfl (runs_loadAgg ty28 rfl hb10.at (by rw [natsC_length, hy.1])) ?_
    refine s_val rfl rfl (runs_hv_eq rfl rfl ho hy) ?_
    refine s_val rfl rfl (runs_pickt rfl rfl) ?_
    refine s_val rfl rfl (runs_assign rfl) ?_
    refine s_nil ?_
    refine hK7 _ _ ?_
    refine c_ret ?_
    refine hret _ _ ?_
    have hg : Sp.isGrown m n old young path = decide (old = young) := by unfold Sp.isGrown; rw [if_pos h1, hpe]; simp [h2]; rw [Bool.eq_iff_iff]; simp
    have hgn : Sp.isGrownN m n old path = [] := by unfold Sp.isGrownN; rw [if_pos h1]
    rw [hg, hgn]
    exact ends1 (reads_tmp rfl) ⟨rfl, ts, ⟨hT.set l (fun x hx => .inl hx), Notes.nil, hX, fun k hk => .inl hk⟩⟩
  · refine c_seqreg (fun K5 hK5 => ?_)
    refine s_val rfl rfl (runs_move rfl) ?_
    refine s_val rfl rfl (runs_df (runs_lt rfl rfl) (by omega)) ?_
    refine s_val rfl rfl (runs_move rfl) ?_
    refine s_val rfl rfl (runs_move rfl) ?_
    refine s_val rfl rfl (runs_move rfl) ?_
    refine s_val rfl rfl (runs_df (runs_gt rfl rfl) (by omega)) ?_
    refine s_val rfl rfl (runs_pickf rfl rfl) ?_
    refine s_val rfl rfl (runs_assign rfl) ?_
    refine s_nil ?_
    refine hK5 _ _ ?_
    refine c_false rfl ?_
    refine c_seqreg (fun K8 hK8 => ?_)
    refine s_val rfl rfl (runs_move rfl) ?_
    refine s_val rfl rfl (runs_move rfl) ?_
    refine s_val rfl rfl (runs_dt (runs_eqd rfl rfl) (by omega)) ?_
    refine s_val rfl rfl (runs_assign rfl) ?_
    refine s_nil ?_
    refine hK8 _ _ ?_
    refine c_true rfl ?_
    refine c_seqreg (fun K9 hK9 => ?_)
    refine s_val rfl rfl (runs_move rfl) ?_
    refine s_val rfl rfl (runs_len_slice Tryd.underlying25 rfl) ?_
    refine s_val rfl rfl (runs_df (runs_eqd rfl rfl) (by omega)) ?_
    refine s_val rfl rfl (runs_move rfl) ?_
    refine s_skip rfl rfl ?_
    refine s_skip rfl rfl ?_
    refine s_skip rfl rfl ?_
    refine s_val rfl rfl (runs_pickf rfl rfl) ?_
    refine s_val rfl rfl (runs_assign rfl) ?_
    refine s_nil ?_
    refine hK9 _ _ ?_
    refine c_ret ?_
    refine hret _ _ ?_
    have hg : Sp.isGrown m n old young path = false := by unfold Sp.isGrown; rw [if_pos h1, hpe]; simp [h2]
    have hgn : Sp.isGrownN m n old path = [] := by unfold Sp.isGrownN; rw [if_pos h1]
    rw [hg, hgn]
    exact ends1 (reads_tmp rfl) ⟨rfl, ts, ⟨hT.set l (fun x hx => .inl hx), Notes.nil, hX, fun k hk => .inl hk⟩⟩
  · refine c_seqreg (fun K5 hK5 => ?_)
    refine s_val rfl rfl (runs_move rfl) ?_
    refine s_val rfl rfl (runs_df (runs_lt rfl rfl) (by omega)) ?_
    refine s_val rfl rfl (runs_move rfl) ?_
    refine s_val rfl rfl (runs_move rfl) ?_
    refine s_val rfl rfl (runs_move rfl) ?_
    refine s_val rfl rfl (runs_df (runs_gt rfl rfl) (by omega)) ?_
    refine s_val rfl rfl (runs_pickf rfl rfl) ?_
    refine s_val rfl rfl (runs_assign rfl) ?_
    refine s_nil ?_
    refine hK5 _ _ ?_
    refine c_false rfl ?_
    refine c_seqreg (fun K10 hK10 => ?_)
    refine s_val rfl rfl (runs_move rfl) ?_
    refine s_val rfl rfl (runs_move rfl) ?_
    refine s_val rfl rfl (runs_df (runs_eqd rfl rfl) (by omega)) ?_
    refine s_val rfl rfl (runs_assign rfl) ?_
    refine s_nil ?_
    refine hK10 _ _ ?_
    refine c_false rfl ?_
    refine c_seqreg (fun K11 hK11 => ?_)
    refine s_val rfl rfl (runs_move rfl) ?_
    refine s_val rfl rfl (runs_dt (runs_eqd rfl rfl) (by omega)) ?_
    refine s_val rfl rfl (runs_assign rfl) ?_
    refine s_nil ?_
    refine hK11 _ _ ?_
    refine c_true rfl ?_
    refine c_seqdraw [] ((foot ts)) (by kernel_rfl) ?_
    intro K12 hK12 wd6 Xd6 hS6
    replace hG := hG.keep Xd6 (by simp)
    replace hT := hT.keep Xd6 (by simp)
    replace hH := hH.keep0 Xd6
    replace hX : Chg w _ (foot ts) := (hX.trans Xd6).mono (by intro k hk hlt; simp at hk ⊢ <;> first | omega | grind)
    replace hb9 := hb9.keep Xd6 (by simp)
    replace hb10 := hb10.keep Xd6 (by simp)
    have zd6 := Xd6.size
    refine d_take 0 39 rfl (by kernel_rfl) rfl hS6 (fun wS hS => runs_move rfl) ?_
    refine d_take 1 40 rfl (by kernel_rfl) rfl hS6 (fun wS hS => runs_len_slice Tryd.underlying25 rfl) ?_
    refine d_take 2 41 rfl (by kernel_rfl) rfl hS6 (fun wS hS => runs_dt (runs_eqd rfl rfl) (by omega)) ?_
    refine d_take 3 42 rfl (by kernel_rfl) rfl hS6 (fun wS hS => runs_move rfl) ?_
    refine d_take 4 43 rfl (by kernel_rfl) rfl hS6 (fun wS hS => runs_loadAgg ty28 rfl ((hb9.keep hS (fun hm => by have := (hft _ hm).2.1; omega)).at) (by rw [natsC_length, ho.1])) ?_
    refine d_take 5 44 rfl (by kernel_rfl) rfl hS6 (fun wS hS => runs_move rfl) ?_
    refine d_only 6 rfl (by kernel_rfl) ?_
    refine s_callf (xs := [.tmp 44, .const (.slice none 0 0)]) rfl rfl Tryd.func17 rfl (by kernel_rfl) rfl ((hT.set l (fun x hx => .inl hx)).of hG (by omega) (by omega) (fun x hx => by have := hl x hx; omega) (parts_nil _) (by simp) (by omega)) ?_
    rintro _ w6 ⟨rfl, ts1, hP⟩
    replace hG := hG.keep hP.chg (fun k hk => hT0.arg.foot_lo k hk)
    replace hX : Chg w _ (foot ts) := (hX.trans hP.chg).mono (by intro k hk _; simpa using hk)
    have zs6_6 := hP.chg.size
    have hT := hP.tg
    replace hS6 : Chg wd6 _ (foot ts) := (hS6.trans hP.chg).mono (by intro k hk _; simpa using hk)
    refine s_nil ⟨.inr hS6, ?_⟩
    refine d_take 7 46 rfl (by kernel_rfl) rfl hS6 (fun wS hS => runs_hv_eq rfl rfl ho (sha_ok _)) ?_
    refine d_take 8 47 rfl (by kernel_rfl) rfl hS6 (fun wS hS => runs_pickt rfl rfl) ?_
    refine d_take 9 12 rfl (by kernel_rfl) rfl hS6 (fun wS hS => runs_assign rfl) ?_
    refine d_done (by kernel_rfl) ?_
    refine hK12 _ _ ?_
    refine c_ret ?_
    refine hret _ _ ?_
    have hg : Sp.isGrown m n old young path = decide (old = Sp.sha ([] : List (List Nat)).flatten) := by unfold Sp.isGrown; rw [if_neg h2, if_pos h1, hpe]; simp [h3]; rw [Bool.eq_iff_iff]; simp
    have hgn : Sp.isGrownN m n old path = [[]] := by unfold Sp.isGrownN; rw [if_neg h2, if_pos h1, hpe]; simp [h3]
    rw [hg, hgn]
    exact ends1 (reads_tmp rfl) ⟨rfl, ts1, ⟨hT.set l (fun x hx => .inl hx), hP.notes, hX, fun k hk => (hP.foot k hk).imp id (fun h => by omega)⟩⟩
  · refine c_seqreg (fun K5 hK5 => ?_)
    refine s_val rfl rfl (runs_move rfl) ?_
    refine s_val rfl rfl (runs_df (runs_lt rfl rfl) (by omega)) ?_
    refine s_val rfl rfl (runs_move rfl) ?_
    refine s_val rfl rfl (runs_move rfl) ?_
    refine s_val rfl rfl (runs_move rfl) ?_
    refine s_val rfl rfl (runs_df (runs_gt rfl rfl) (by omega)) ?_
    refine s_val rfl rfl (runs_pickf rfl rfl) ?_
    refine s_val rfl rfl (runs_assign rfl) ?_
    refine s_nil ?_
    refine hK5 _ _ ?_
    refine c_false rfl ?_
    refine c_seqreg (fun K14 hK14 => ?_)
    refine s_val rfl rfl (runs_move rfl) ?_
    refine s_val rfl rfl (runs_move rfl) ?_
    refine s_val rfl rfl (runs_df (runs_eqd rfl rfl) (by omega)) ?_
    refine s_val rfl rfl (runs_assign rfl) ?_
    refine s_nil ?_
    refine hK14 _ _ ?_
    refine c_false rfl ?_
    refine c_seqreg (fun K15 hK15 => ?_)
    refine s_val rfl rfl (runs_move rfl) ?_
    refine s_val rfl rfl (runs_dt (runs_eqd rfl rfl) (by omega)) ?_
    refine s_val rfl rfl (runs_assign rfl) ?_
    refine s_nil ?_
    refine hK15 _ _ ?_
    refine c_true rfl ?_
    refine c_seqdraw [] ((foot ts)) (by kernel_rfl) ?_
    intro K16 hK16 wd6 Xd6 hS6
    replace hG := hG.keep Xd6 (by simp)
    replace hT := hT.keep Xd6 (by simp)
    replace hH := hH.keep0 Xd6
    replace hX : Chg w _ (foot ts) := (hX.trans Xd6).mono (by intro k hk hlt; simp at hk ⊢ <;> first | omega | grind)
    replace hb9 := hb9.keep Xd6 (by simp)
    replace hb10 := hb10.keep Xd6 (by simp)
    have zd6 := Xd6.size
    refine d_take 0 39 rfl (by kernel_rfl) rfl hS6 (fun wS hS => runs_move rfl) ?_
    refine d_take 1 40 rfl (by kernel_rfl) rfl hS6 (fun wS hS => runs_len_slice Tryd.underlying25 rfl) ?_
    refine d_take 2 41 rfl (by kernel_rfl) rfl hS6 (fun wS hS => runs_df (runs_eqd rfl rfl) (by omega)) ?_
    refine d_take 3 42 rfl (by kernel_rfl) rfl hS6 (fun wS hS => runs_move rfl) ?_
    refine d_takeskip 4 43 rfl (by kernel_rfl) rfl hS6 ?_
    refine d_takeskip 5 44 rfl (by kernel_rfl) rfl hS6 ?_
    refine d_takeskip 6 45 rfl (by kernel_rfl) rfl hS6 ?_
    refine d_takeskip 7 46 rfl (by kernel_rfl) rfl hS6 ?_
    refine d_take 8 47 rfl (by kernel_rfl) rfl hS6 (fun wS hS => runs_pickf rfl rfl) ?_
    refine d_take 9 12 rfl (by kernel_rfl) rfl hS6 (fun wS hS => runs_assign rfl) ?_
    refine d_done (by kernel_rfl) ?_
    refine hK16 _ _ ?_
    refine c_ret ?_
    refine hret _ _ ?_
    have hg : Sp.isGrown m n old young path = false := by unfold Sp.isGrown; rw [if_neg h2, if_pos h1, hpe]; simp [h3]
    have hgn : Sp.isGrownN m n old path = [] := by unfold Sp.isGrownN; rw [if_neg h2, if_pos h1, hpe]; simp [h3]
    rw [hg, hgn]
    exact ends1 (reads_tmp rfl) ⟨rfl, ts, ⟨hT.set l (fun x hx => .inl hx), Notes.nil, hX, fun k hk => .inl hk⟩⟩
  · refine c_seqreg (fun K5 hK5 => ?_)
    refine s_val rfl rfl (runs_move rfl) ?_
    refine s_val rfl rfl (runs_df (runs_lt rfl rfl) (by omega)) ?_
    refine s_val rfl rfl (runs_move rfl) ?_
    refine s_val rfl rfl (runs_move rfl) ?_
    refine s_val rfl rfl (runs_move rfl) ?_
    refine s_val rfl rfl (runs_df (runs_gt rfl rfl) (by omega)) ?_
    refine s_val rfl rfl (runs_pickf rfl rfl) ?_
    refine s_val rfl rfl (runs_assign rfl) ?_
    refine s_nil ?_
    refine hK5 _ _ ?_
    refine c_false rfl ?_
    refine c_seqreg (fun K17 hK17 => ?_)
    refine s_val rfl rfl (runs_move rfl) ?_
    refine s_val rfl rfl (runs_move rfl) ?_
    refine s_val rfl rfl (runs_df (runs_eqd rfl rfl) (by omega)) ?_
    refine s_val rfl rfl (runs_assign rfl) ?_
    refine s_nil ?_
    refine hK17 _ _ ?_
    refine c_false rfl ?_
    refine c_seqreg (fun K18 hK18 => ?_)
    refine s_val rfl rfl (runs_move rfl) ?_
    refine s_val rfl rfl (runs_df (runs_eqd rfl rfl) (by omega)) ?_
    refine s_val rfl rfl (runs_assign rfl) ?_
    refine s_nil ?_
    refine hK18 _ _ ?_
    refine c_false rfl ?_
    refine c_skip ?_
    refine hK4 _ _ ?_
    refine c_seqreg (fun K19 hK19 => ?_)
    refine s_val rfl rfl (runs_move rfl) ?_
    refine s_val rfl rfl (runs_move rfl) ?_
    refine s_val rfl rfl (runs_move rfl) ?_
    refine s_val rfl rfl (runs_loadAgg ty28 rfl hb9.at (by rw [natsC_length, ho.1])) ?_
    refine s_val rfl rfl (runs_move rfl) ?_
    refine s_callf (xs := [.tmp 49, .tmp 50, .tmp 51, .const (.bool true), .tmp 52, .tmp 53]) rfl rfl Tryd.func30 rfl (by kernel_rfl) rfl (both_calls _ path (Nat.lt_succ_self _) B lo _ (b9 :: b10 :: l) tv ts old m n true a np cp _ (hT.set _ (by intro x hx; simp only [List.mem_cons] at hx; rcases hx with rfl | rfl | hx; all_goals first | (right; omega) | (left; assumption))) hG (by omega) (by omega) (by intro x hx; have e1 := hb9.lt; have e2 := hb10.lt; simp only [List.mem_cons] at hx; rcases hx with rfl | rfl | hx; all_goals first | omega | (have := hl _ hx; omega)) ho hH (fun p hp h0 => by have := hlb p hp h0; omega) hn hnp (by omega) (by omega) (by omega)) ?_
    rintro _ w7 ⟨rfl, ts1, hP⟩
    replace hG := hG.keep hP.chg (fun k hk => hT0.arg.foot_lo k hk)
    replace hX : Chg w _ (foot ts) := (hX.trans hP.chg).mono (by intro k hk _; simpa using hk)
    replace hb9 := hb9.keep hP.chg (fun hm => by have := (hft _ hm).2.1; omega)
    replace hb10 := hb10.keep hP.chg (fun hm => by have := (hft _ hm).2.1; omega)
    have zs7_5 := hP.chg.size
    have hT := hP.tg
    have ob := both_ok old ho _ path m n true (Nat.le_refl _) hH.ok
    obtain ⟨ok, hok⟩ : ∃ ok, ok = (Sp.both old path m n true).2.2 := ⟨_, rfl⟩
    rw [← hok]
    refine s_val rfl rfl (runs_move rfl) ?_
    refine s_val rfl rfl (runs_extract rfl rfl) ?_
    refine s_val rfl rfl (runs_extract rfl rfl) ?_
    refine s_val rfl rfl (runs_extract rfl rfl) ?_
    refine s_alloc ty28 rfl rfl ?_
    intro b13 w710 e7_10 z7_10 hb13 X7_10
    have s7_10_hX := hX.size
    have s7_10_hb9 := hb9.lt
    have s7_10_hb10 := hb10.lt
    replace hG := hG.keep X7_10 (by simp)
    replace hX : Chg w _ (foot ts) := (hX.trans X7_10).mono (by intro k hk hlt; simp at hk ⊢ <;> first | omega | grind)
    replace hb9 := hb9.keep X7_10 (by simp)
    replace hb10 := hb10.keep X7_10 (by simp)
    replace hT := hT.keep X7_10 (by simp)
    refine s_alloc ty28 rfl rfl ?_
    intro b14 w711 e7_11 z7_11 hb14 X7_11
    have s7_11_hX := hX.size
    have s7_11_hb9 := hb9.lt
    have s7_11_hb10 := hb10.lt
    have s7_11_hb13 := hb13.lt
    replace hG := hG.keep X7_11 (by simp)
    replace hX : Chg w _ (foot ts) := (hX.trans X7_11).mono (by intro k hk hlt; simp at hk ⊢ <;> first | omega | grind)
    replace hb9 := hb9.keep X7_11 (by simp)
    replace hb10 := hb10.keep X7_11 (by simp)
    replace hT := hT.keep X7_11 (by simp)
    replace hb13 := hb13.keep X7_11 (by simp)
    refine s_storeAll ty28 rfl rfl rfl hb13 (by rw [natsC_length, ob.1.1]) rfl (natsC_one _ _) ?_
    intro w712 z7_12 h7_12 X7_12
    replace hG := hG.keep X7_12 (by simp; omega)
    replace hX : Chg w _ (foot ts) := (hX.trans X7_12).mono (by intro k hk hlt; simp at hk ⊢ <;> first | omega | grind)
    replace hb9 := hb9.keep X7_12 (by simp; omega)
    replace hb10 := hb10.keep X7_12 (by simp; omega)
    replace hT := hT.keep X7_12 (by simp [Rg] <;> omega)
    replace hb14 := hb14.keep X7_12 (by simp; omega)
    replace hb13 := h7_12
    refine s_storeAll ty28 rfl rfl rfl hb14 (by rw [natsC_length, ob.2.1]) rfl (natsC_one _ _) ?_
    intro w713 z7_13 h7_13 X7_13
    replace hG := hG.keep X7_13 (by simp; omega)
    replace hX : Chg w _ (foot ts) := (hX.trans X7_13).mono (by intro k hk hlt; simp at hk ⊢ <;> first | omega | grind)
    replace hb9 := hb9.keep X7_13 (by simp; omega)
    replace hb10 := hb10.keep X7_13 (by simp; omega)
    replace hT := hT.keep X7_13 (by simp [Rg] <;> omega)
    replace hb13 := hb13.keep X7_13 (by simp; omega)
    replace hb14 := h7_13
    refine s_val rfl rfl (runs_assign rfl) ?_
    refine s_nil ?_
    have hgn : Sp.isGrownN m n old path = Sp.bothN old path m n true := by unfold Sp.isGrownN; rw [if_neg h2, if_neg h1]
    have hzX7 := hX.size
    refine hK19 _ _ ?_
    rcases (show ok = false ∨ (ok = true ∧ (Sp.both old path m n true).1 ≠ old) ∨ (ok = true ∧ (Sp.both old path m n true).1 = old) by cases ok <;> simp; exact Decidable.em _ |>.symm) with rfl | ⟨rfl, hao⟩ | ⟨rfl, hao⟩
    · refine c_seqreg (fun K25 hK25 => ?_)
      refine s_val rfl rfl (runs_move rfl) ?_
      refine s_val rfl rfl (runs_move rfl) ?_
      refine s_skip rfl rfl ?_
      refine s_skip rfl rfl ?_
      refine s_skip rfl rfl ?_
      refine s_val rfl rfl (runs_pickf rfl rfl) ?_
      refine s_val rfl rfl (runs_move rfl) ?_
      refine s_skip rfl rfl ?_
      refine s_skip rfl rfl ?_
      refine s_skip rfl rfl ?_
      refine s_val rfl rfl (runs_pickf rfl rfl) ?_
      refine s_val rfl rfl (runs_assign rfl) ?_
      refine s_nil ?_
      refine hK25 _ _ ?_
      refine c_ret ?_
      refine hret _ _ ?_
      rw [hgn]
      refine ends1 (reads_tmp rfl) ⟨?_, ts1, ⟨hT.set l (fun x hx => .inl (by simp [hx])), hP.notes, hX, fun k hk => (hP.foot k hk).imp id (fun h => by omega)⟩⟩
      unfold Sp.isGrown
      rw [if_neg h2, if_neg h1, ← hok]
      simp
    · refine c_seqreg (fun K25 hK25 => ?_)
      refine s_val rfl rfl (runs_move rfl) ?_
      refine s_val rfl rfl (runs_move rfl) ?_
      refine s_val rfl rfl (runs_loadAgg ty28 rfl hb13.at (by rw [natsC_length, ob.1.1])) ?_
      refine s_val rfl rfl (runs_loadAgg ty28 rfl hb9.at (by rw [natsC_length, ho.1])) ?_
      refine s_val rfl rfl (runs_df (runs_hv_eq rfl rfl ob.1 ho) hao) ?_
      refine s_val rfl rfl (runs_pickt rfl rfl) ?_
      refine s_val rfl rfl (runs_move rfl) ?_
      refine s_skip rfl rfl ?_
      refine s_skip rfl rfl ?_
      refine s_skip rfl rfl ?_
      refine s_val rfl rfl (runs_pickf rfl rfl) ?_
      refine s_val rfl rfl (runs_assign rfl) ?_
      refine s_nil ?_
      refine hK25 _ _ ?_
      refine c_ret ?_
      refine hret _ _ ?_
      rw [hgn]
      refine ends1 (reads_tmp rfl) ⟨?_, ts1, ⟨hT.set l (fun x hx => .inl (by simp [hx])), hP.notes, hX, fun k hk => (hP.foot k hk).imp id (fun h => by omega)⟩⟩
      unfold Sp.isGrown
      rw [if_neg h2, if_neg h1, ← hok]
      simp [hao]
    · refine c_seqreg (fun K25 hK25 => ?_)
      refine s_val rfl rfl (runs_move rfl) ?_
      refine s_val rfl rfl (runs_move rfl) ?_
      refine s_val rfl rfl (runs_loadAgg ty28 rfl hb13.at (by rw [natsC_length, ob.1.1])) ?_
      refine s_val rfl rfl (runs_loadAgg ty28 rfl hb9.at (by rw [natsC_length, ho.1])) ?_
      refine s_val rfl rfl (runs_dt (runs_hv_eq rfl rfl ob.1 ho) hao) ?_
      refine s_val rfl rfl (runs_pickt rfl rfl) ?_
      refine s_val rfl rfl (runs_move rfl) ?_
      refine s_val rfl rfl (runs_loadAgg ty28 rfl hb14.at (by rw [natsC_length, ob.2.1])) ?_
      refine s_val rfl rfl (runs_loadAgg ty28 rfl hb10.at (by rw [natsC_length, hy.1])) ?_
      refine s_val rfl rfl (runs_hv_eq rfl rfl ob.2 hy) ?_
      refine s_val rfl rfl (runs_pickt rfl rfl) ?_
      refine s_val rfl rfl (runs_assign rfl) ?_
      refine s_nil ?_
      refine hK25 _ _ ?_
      refine c_ret ?_
      refine hret _ _ ?_
      rw [hgn]
      refine ends1 (reads_tmp rfl) ⟨?_, ts1, ⟨hT.set l (fun x hx => .inl (by simp [hx])), hP.notes, hX, fun k hk => (hP.foot k hk).imp id (fun h => by omega)⟩⟩
      unfold Sp.isGrown
      rw [if_neg h2, if_neg h1, ← hok, hao]
      simp only [beq_self_eq_true, Bool.true_and]
      congr 1; rw [Bool.eq_iff_iff]; simp
theorem grown_bad (tv : Value) (m n : Nat) (old young : List Nat) (a : Option Addr) (np cp : Nat) (w : World) (h : n < m) (hm : m ≤ 1048576) :
    CallsR Tryd.prog 26 #[tv, .int .i64 (m : Int), .int .i64 (n : Int), hv old, hv young, .slice a np cp] w fun v w' => v = .bool false ∧ Chg w w' [] := by
  have hX : Chg w w [] := Chg.refl _ _
  refine f_enter (l := [tv, .int .i64 (m : Int), .int .i64 (n : Int), hv old, hv young, .slice a np cp]) Tryd.func26 rfl rfl rfl rfl ?_
  intro Qf hnrm hret
  refine c_seqreg (fun K1 hK1 => ?_)
  refine s_box rfl rfl rfl ?_
  intro b9 w01 e0_0 z0_0 hb9 X0_0
  have s0_0_hX := hX.size
  replace hX : Chg w _ [] := (hX.trans X0_0).mono (by intro k hk hlt; simp at hk ⊢ <;> first | omega | grind)
  refine s_box rfl rfl rfl ?_
  intro b10 w02 e0_1 z0_1 hb10 X0_1
  have s0_1_hX := hX.size
  have s0_1_hb9 := hb9.lt
  replace hX : Chg w _ [] := (hX.trans X0_1).mono (by intro k hk hlt; simp at hk ⊢ <;> first | omega | grind)
  replace hb9 := hb9.keep X0_1 (by simp)
  refine s_val rfl rfl (runs_assign rfl) ?_
  refine s_nil ?_
  refine hK1 _ _ ?_
  refine c_seq (fun K4 hK4 => ?_)
  refine c_block ?_
  refine c_seqreg (fun K5 hK5 => ?_)
  refine s_val rfl rfl (runs_move rfl) ?_
  refine s_val rfl rfl (runs_df (runs_lt rfl rfl) (by omega)) ?_
  refine s_val rfl rfl (runs_move rfl) ?_
  refine s_val rfl rfl (runs_move rfl) ?_
  refine s_val rfl rfl (runs_move rfl) ?_
  refine s_val rfl rfl (runs_dt (runs_gt rfl rfl) (by omega)) ?_
  refine s_val rfl rfl (runs_pickf rfl rfl) ?_
  refine s_val rfl rfl (runs_assign rfl) ?_
  refine s_nil ?_
  refine hK5 _ _ ?_
  refine c_true rfl ?_
  refine c_seqreg (fun K6 hK6 => ?_)
  refine s_val rfl rfl (runs_assign rfl) ?_
  refine s_nil ?_
  refine hK6 _ _ ?_
  refine c_ret ?_
  refine hret _ _ ?_
  exact ends1 (reads_tmp rfl) ⟨rfl, hX⟩
section
variable {w : World} {B : Nat} {a : Option Addr} {m n np cp : Nat} {old young : List Nat} {path : List (List Nat)}
/-- .. without a tape. -/
theorem grown0 (hG : GH B w) (hB : B ≤ w.heap.size) (ho : HOk old) (hy : HOk young) (hH : HsR w a np cp path) (hlb : ∀ p, a = some p → 0 < np → p.block < w.heap.size) (hn : n ≤ 1048576) (hnp : np ≤ 1048576) (hmn : m ≤ n) :
    CallsR Tryd.prog 26 #[.pointer none, .int .i64 (m : Int), .int .i64 (n : Int), hv old, hv young, .slice a np cp] w fun v w' => v = .bool (Sp.isGrown m n old young path) ∧ Chg w w' [] :=
  (isgrown_calls path B w.heap.size _ [] _ none old young m n a np cp w (TG.none_ w B _ _) hG hB (Nat.le_refl _) (by simp) ho hy hH hlb hn hnp hmn (by simp [TS.len]; omega)).mono fun _ _ ⟨e, _, p⟩ => ⟨e, p.chg⟩
end
/-- .. with the law's own tape. -/
theorem TL.grown {w : World} {B lo hi : Nat} {l : List Nat} {bt : Nat} {vt : Value} {L : List (List Nat)} (h : TL w B lo hi l bt vt L) (ns : List Nat) (hns : ∀ x ∈ ns, hi ≤ x ∧ x < w.heap.size) (hG : GH B w) (hB : B ≤ w.heap.size)
    {a : Option Addr} {m n np cp : Nat} {old young : List Nat} {path : List (List Nat)} (ho : HOk old) (hy : HOk young) (hH : HsR w a np cp path) (hlb : ∀ p, a = some p → 0 < np → p.block < w.heap.size) (hn : n ≤ 1048576) (hnp : np ≤ 1048576) (hmn : m ≤ n) (htl : L.length + 2 * np ≤ 1073741824) :
    CallsR Tryd.prog 26 #[.pointer (some ⟨bt, 0, none⟩), .int .i64 (m : Int), .int .i64 (n : Int), hv old, hv young, .slice a np cp] w fun v w' => v = .bool (Sp.isGrown m n old young path) ∧ ∃ vt', TC w w' B lo (ns ++ l) bt vt vt' L (Sp.isGrownN m n old path) := by
  have h1 := h.add ns hns
  exact (isgrown_calls path B lo _ (ns ++ l) _ _ old young m n a np cp w h1.tg hG hB h1.base h1.lt ho hy hH hlb hn hnp hmn (by simpa [TS.len] using htl)).mono fun _ _ ⟨e, _, p⟩ => ⟨e, h1.after p⟩
end Go.Proofs.YtecpedpfkdnfhaaDoor
